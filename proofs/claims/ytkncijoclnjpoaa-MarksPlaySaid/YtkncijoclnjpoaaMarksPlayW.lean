/- MarksPlay: what the Go function does. -/
import Derived.Test.YtkncijoclnjpoaaMarkRef
import Derived.Test.YtkncijoclnjpoaaMarkCopy
import Derived.Test.YtkncijoclnjpoaaReg
set_option linter.unusedSimpArgs false
set_option linter.unusedVariables false
namespace Go.Proofs.Ytkncijoclnjpoaa.MK
open Go.RowKit
open PL (Cfg CC CV May)
attribute [local go_sem] Oper.semAt_some
abbrev refs (rb gr gw d : Nat) (f : Int → Bool × Bool) (L : List Obj) : List Obj := boxO rb #[sl gr d, sl gw d] RT :: boxO gr (rowB d (fun a => (f a).1)) BT :: boxO gw (rowB d (fun a => (f a).2)) BT :: L
theorem rows_read (d : Nat) (f : Int → Bool × Bool) (x : Int) : rowB d (fun j => if mayB d x ∧ j = x then true else (f j).1) = rowB d (fun a => (putF d f x true false a).1) ∧ rowB d (fun a => (f a).2) = rowB d (fun a => (putF d f x true false a).2) := by
  constructor
  · congr 1; funext j
    by_cases h : mayB d x = true
    · by_cases e : j = x
      · subst e; rw [if_pos ⟨h, rfl⟩, putF_same h, Bool.or_true]
      · rw [if_neg (fun h => e h.2), putF_other (fun e2 => e e2.symm)]
    · rw [if_neg (fun h2 => h h2.1), putF_no (by simpa using h)]
  · congr 1; funext j
    by_cases h : mayB d x = true
    · by_cases e : j = x
      · subst e; rw [putF_same h, Bool.or_false]
      · rw [putF_other (fun e2 => e e2.symm)]
    · rw [putF_no (by simpa using h)]
theorem rows_write (d : Nat) (f : Int → Bool × Bool) (x : Int) : rowB d (fun j => if mayB d x ∧ j = x then true else (f j).2) = rowB d (fun a => (putF d f x false true a).2) ∧ rowB d (fun a => (f a).1) = rowB d (fun a => (putF d f x false true a).1) := by
  constructor
  · congr 1; funext j
    by_cases h : mayB d x = true
    · by_cases e : j = x
      · subst e; rw [if_pos ⟨h, rfl⟩, putF_same h, Bool.or_true]
      · rw [if_neg (fun h => e h.2), putF_other (fun e2 => e e2.symm)]
    · rw [if_neg (fun h2 => h h2.1), putF_no (by simpa using h)]
  · congr 1; funext j
    by_cases h : mayB d x = true
    · by_cases e : j = x
      · subst e; rw [putF_same h, Bool.or_false]
      · rw [putF_other (fun e2 => e e2.symm)]
    · rw [putF_no (by simpa using h)]
theorem InData.may {data : Int} {f : Int → Bool × Bool} (h : InData data f) (x : Int) : (mayB data x && (f x).1) = (f x).1 ∧ (mayB data x && (f x).2) = (f x).2 := by
  cases hm : ((f x).1 || (f x).2)
  · simp only [Bool.or_eq_false_iff] at hm
    rw [hm.1, hm.2]; simp
  · have := h x hm
    have hb : mayB data x = true := by simp [mayB]; omega
    rw [hb]; simp
section
variable {w0 W W' : World} {kb mb n : Nat} {data : Int} {f : Int → Bool × Bool} {L L' : List Obj}
theorem KIs.oth (h : KIs w0 W kb mb n data f L) (hs : Sep NoF w0 W' (marksO kb mb data :: L')) (ho : KeepsOthers W W') : KIs w0 W' kb mb n data f L' := by
  refine ⟨hs, ?_, h.new⟩
  have h0 := h.map
  obtain ⟨D, ⟨es, clock, hb, _⟩, _⟩ := h.map
  exact h0.kept ((ho.same mb _ hb rfl).trans hb.symm)
end
theorem both_read {w0 W : World} {kb mb n rb gr gw d ob : Nat} {kk bb tt : Int} {f g : Int → Bool × Bool} {R : List Obj} (h : KIs w0 W kb mb n d g (opO ob kk bb tt :: refs rb gr gw d f R)) (hg : g = putF d f bb true false) :
    Calls Try.prog 21 #[ptr rb, .int .i64 bb] W fun e W' => e = .returned (.int .i64 (putE d bb)) ∧ KIs w0 W' kb mb n d g (opO ob kk bb tt :: refs rb gr gw d g R) := by
  refine (rread_any h.sep 2 rfl rfl bb).mono ?_
  rintro e W' ⟨he, hs, ho⟩
  have hs2 : Sep NoF w0 W' (marksO kb mb d :: opO ob kk bb tt :: boxO rb #[sl gr d, sl gw d] RT :: boxO gr (rowB d (fun j => if mayB d bb ∧ j = bb then true else (f j).1)) BT :: boxO gw (rowB d (fun a => (f a).2)) BT :: R) := hs
  rw [(rows_read d f bb).1, (rows_read d f bb).2, ← hg] at hs2
  exact ⟨he, h.oth hs2 ho⟩
theorem both_write {w0 W : World} {kb mb n rb gr gw d ob : Nat} {kk bb tt : Int} {f g : Int → Bool × Bool} {R : List Obj} (h : KIs w0 W kb mb n d g (opO ob kk bb tt :: refs rb gr gw d f R)) (hg : g = putF d f bb false true) :
    Calls Try.prog 22 #[ptr rb, .int .i64 bb] W fun e W' => e = .returned (.int .i64 (putE d bb)) ∧ KIs w0 W' kb mb n d g (opO ob kk bb tt :: refs rb gr gw d g R) := by
  refine (rwrite_any h.sep 2 rfl rfl bb).mono ?_
  rintro e W' ⟨he, hs, ho⟩
  have hs2 : Sep NoF w0 W' (marksO kb mb d :: opO ob kk bb tt :: boxO rb #[sl gr d, sl gw d] RT :: boxO gr (rowB d (fun a => (f a).1)) BT :: boxO gw (rowB d (fun j => if mayB d bb ∧ j = bb then true else (f j).2)) BT :: R) := hs
  rw [(rows_write d f bb).1, (rows_write d f bb).2, ← hg] at hs2
  exact ⟨he, h.oth hs2 ho⟩
theorem both_clear {w0 W : World} {kb mb n rb gr gw d ob : Nat} {kk bb tt : Int} {f : Int → Bool × Bool} {R : List Obj} (h : KIs w0 W kb mb n d none2 (opO ob kk bb tt :: refs rb gr gw d f R)) (hd : d ≤ 256) :
    Calls Try.prog 23 #[ptr rb] W fun e W' => e = .returned (.tuple #[]) ∧ ∃ g1 g2, KIs w0 W' kb mb n d none2 (opO ob kk bb tt :: refs rb g1 g2 d none2 R) := by
  refine (rclear_any h.sep hd).mono ?_
  rintro e W' ⟨he, ho, g1, g2, hs⟩
  exact ⟨he, g1, g2, h.oth hs ho⟩
theorem copy_clear {w0 W : World} {kb mb kb2 mb2 n m : Nat} {data : Int} {f : Int → Bool × Bool} {L : List Obj} (h : KIs w0 W kb2 mb2 n data f (marksO kb mb data :: L)) (hI : MM.Is W mb m f) (hne : mb2 ≠ mb) (hn : w0.heap.size ≤ mb) :
    Calls Try.prog 14 #[ptr kb] W fun e W' => e = .returned (.tuple #[]) ∧ KIs w0 W' kb2 mb2 n data f L := by
  have h1 : KIs w0 W kb mb m data f (marksO kb2 mb2 data :: L) := ⟨h.sep.swap, hI, hn⟩
  refine (clear_g h1).mono ?_
  rintro e W' ⟨he, hk, hg⟩
  refine ⟨he, hk.sep.swap.drop 1 (by simp), ?_, h.new⟩
  exact h.map.kept (hg.block mb2 h.map.lt (by simp; exact hne))
set_option maxRecDepth 100000 in
set_option maxHeartbeats 4000000 in
theorem play_any (c : Cfg) (a1 : Option Addr) (len1 cap1 : Nat) (V : Nat → Nat → Value) (K B T : Nat → Int) (w : World) (h1 : IsRowF w a1 len1 cap1 3 V) (hV : ∀ i, i < len1 → V i 0 = .int .i64 (K i) ∧ V i 1 = .int .i64 (B i) ∧ V i 2 = .int .u8 (T i))
    (hB : ∀ i, i < len1 → (-9223372036854775808 ≤ B i ∧ B i ≤ 9223372036854775807) ∧ True) :
    Calls Try.prog 7 #[CV c, .slice a1 len1 cap1] w fun e w' => e = .returned (.bool true) ∧ Below w.heap.size w w' := by
  have HC := Lib.hid (script_at h1 hV)
  have HB := Lib.hid hB
  obtain ⟨lc1, m1, _⟩ := h1
  clear hV hB
  unfold maxLen at m1
  obtain ⟨W0, hW0⟩ : ∃ W0, w.alloc (.cells (CC c) 23) = W0 := ⟨_, rfl⟩
  have HS0 : Hid (Sep NoF w W0 [cfgO w.heap.size c]) := Lib.hid (by rw [← hW0]; exact (Sep.zero NoF w).alloc _ _)
  have HW0 := Lib.hid hW0
  clear hW0
  by_cases g1 : 300 < len1
  · have hb1 : decide ((300 : Int) < (len1 : Int)) = true := by simp; omega
    go_enter Try.func7, Try.ntmps7
    go_wp2_with fail
    rw [HW0.out]
    refine (works_any _).mono ?_
    rintro e w9 ⟨rfl, hu⟩
    have HS9 := Lib.hid (HS0.out.upd0 hu)
    clear hu
    go_wp2
    go_ret
    exact ⟨rfl, HS9.out.below⟩
  · have hb1 : decide ((300 : Int) < (len1 : Int)) = false := by simp; omega
    have HRM := Lib.hid (PL.rMay_any c)
    by_cases hm : May c
    · rw [decide_eq_true hm] at HRM
      have HM := Lib.hid hm
      obtain ⟨d, hd⟩ : ∃ d : Nat, c.blocks - c.cores * c.logs = d := ⟨(c.blocks - c.cores * c.logs).toNat, (Int.toNat_of_nonneg (by have := hm.2.2.2.2.2.2.2.2; omega)).symm⟩
      have hdle := data_le hm
      rw [hd] at hdle
      have hd256 : d ≤ 256 := by omega
      have HD := Lib.hid hd
      clear hm hdle
      go_enter Try.func7, Try.ntmps7
      go_wp2_with fail
      rw [HW0.out]
      refine (new_yes HS0.out c HM.out).mono ?_
      rintro e w2 ⟨kb, mb, rfl, hk2⟩
      rw [hd] at hk2
      have HK2 := Lib.hid hk2
      clear hk2 hd
      obtain ⟨cb, hcb⟩ : ∃ cb, w.heap.size = cb := ⟨_, rfl⟩
      rw [hcb] at HK2 ⊢
      have e0 : w2.cell? ⟨cb, 0, none⟩ = some (.int .i64 c.cores) := (HK2.out.sep.box 1 rfl).cell 0
      have e1 : w2.cell? ⟨cb, 1, none⟩ = some (.int .i64 c.sets) := (HK2.out.sep.box 1 rfl).cell 1
      have e2 : w2.cell? ⟨cb, 2, none⟩ = some (.int .i64 c.ways) := (HK2.out.sep.box 1 rfl).cell 2
      have e3 : w2.cell? ⟨cb, 3, none⟩ = some (.int .i64 c.blocks) := (HK2.out.sep.box 1 rfl).cell 3
      have e4 : w2.cell? ⟨cb, 4, none⟩ = some (.int .i64 c.logs) := (HK2.out.sep.box 1 rfl).cell 4
      have e5 : w2.cell? ⟨cb, 5, none⟩ = some (.int .i64 c.backs) := (HK2.out.sep.box 1 rfl).cell 5
      have e6 : w2.cell? ⟨cb, 6, none⟩ = some (.int .i64 c.nest) := (HK2.out.sep.box 1 rfl).cell 6
      have e7 : w2.cell? ⟨cb, 7, none⟩ = some (.int .i64 c.tries) := (HK2.out.sep.box 1 rfl).cell 7
      go_wp2_with fail
      refine (HRM.out w2).mono ?_
      rintro e w3 ⟨rfl, hu⟩
      have HK3 := Lib.hid (HK2.out.upd0 hu)
      clear hu e0 e1 e2 e3 e4 e5 e6 e7
      have e0 : w3.cell? ⟨cb, 0, none⟩ = some (.int .i64 c.cores) := (HK3.out.sep.box 1 rfl).cell 0
      have e1 : w3.cell? ⟨cb, 1, none⟩ = some (.int .i64 c.sets) := (HK3.out.sep.box 1 rfl).cell 1
      have e2 : w3.cell? ⟨cb, 2, none⟩ = some (.int .i64 c.ways) := (HK3.out.sep.box 1 rfl).cell 2
      have e3 : w3.cell? ⟨cb, 3, none⟩ = some (.int .i64 c.blocks) := (HK3.out.sep.box 1 rfl).cell 3
      have e4 : w3.cell? ⟨cb, 4, none⟩ = some (.int .i64 c.logs) := (HK3.out.sep.box 1 rfl).cell 4
      have e5 : w3.cell? ⟨cb, 5, none⟩ = some (.int .i64 c.backs) := (HK3.out.sep.box 1 rfl).cell 5
      have e6 : w3.cell? ⟨cb, 6, none⟩ = some (.int .i64 c.nest) := (HK3.out.sep.box 1 rfl).cell 6
      have e7 : w3.cell? ⟨cb, 7, none⟩ = some (.int .i64 c.tries) := (HK3.out.sep.box 1 rfl).cell 7
      go_wp2_with fail
      refine (rnew_any HK3.out.sep c HM.out HD.out).mono ?_
      rintro e w4 ⟨rb, gr, gw, rfl, hs, hu⟩
      have HK4 : Hid (KIs w w4 kb mb 0 d none2 (refs rb gr gw d none2 [cfgO cb c])) := Lib.hid (HK3.out.oth (((hs.sink 3).sink 3).sink 3) hu.others)
      clear hs hu e0 e1 e2 e3 e4 e5 e6 e7 HK3 HK2
      go_wp2_with fail
      go_loopw [5, 43] (fun kv i wr => ∃ (k n : Nat) (f : Int → Bool × Bool) (kb mb gr gw : Nat), k ≤ len1 ∧ i = .int .i64 k ∧ kv = ptr kb ∧ n ≤ k ∧ Hid (InData d f ∧ KIs w wr kb mb n d f (refs rb gr gw d f [cfgO cb c]))) (fun _ i _ => len1 - (intOf i).toNat)
      case atStart => exact ⟨0, 0, none2, kb, mb, gr, gw, Nat.zero_le _, rfl, rfl, Nat.zero_le _, InData.none2 _, HK4.out⟩
      case round =>
        clear HK4 HS0 HW0
        obtain ⟨k, n, f, kb, mb, gr, gw, hk, rfl, rfl, hn, HI0⟩ := hrel
        have HID := Lib.hid HI0.out.1
        have HI := Lib.hid HI0.out.2
        clear HI0
        by_cases hlt : k < len1
        · skip
          obtain ⟨x, g, q, rfl, hxa, hgl, z0, z1, z2⟩ := HC.out k hlt
          have y0 := HI.out.sep.old z0
          have y1 := HI.out.sep.old z1
          have y2 := HI.out.sep.old z2
          have hbd := (HB.out k hlt).1
          clear z0 z1 z2
          generalize K k = kk at *
          generalize B k = bb at *
          generalize T k = tt at *
          have HI5 := Lib.hid (HI.out.box #[.int .i64 kk, .int .i64 bb, .int .u8 tt] 31)
          obtain ⟨w5, hw5⟩ : ∃ X, wr.alloc (.cells #[.int .i64 kk, .int .i64 bb, .int .u8 tt] 31) = X := ⟨_, rfl⟩
          rw [hw5] at HI5
          have p0 : w5.cell? ⟨wr.heap.size, 0, none⟩ = some (.int .i64 kk) := (HI5.out.sep.box 1 rfl).cell 0
          have HW5 := Lib.hid hw5
          clear hw5 HI
          go_upto_region 12 with fail
          rw [HW5.out]
          clear y0 y1 y2 HW5
          obtain ⟨ob, hob⟩ : ∃ b, wr.heap.size = b := ⟨_, rfl⟩
          rw [hob] at HI5 p0 ⊢
          clear hob
          have hz : putF d f bb true false = putF d f bb true false := rfl
          go_upto_block 2 with fail
          go_cut [5, 10, 11] from 49 to 83 (fun v5 v10 v11 wx => ∃ (n2 : Nat) (f2 : Int → Bool × Bool) (kb2 mb2 g1 g2 : Nat), v5 = ptr kb2 ∧ v10 = .bool true ∧ n2 ≤ n + 1 ∧ Hid (InData d f2 ∧ KIs w wx kb2 mb2 n2 d f2 (opO ob kk bb tt :: refs rb g1 g2 d f2 [cfgO cb c])))
          case first =>
            by_cases k0 : kk = 0
            · subst k0
              have HKd := Lib.hid (HI5.out.upd0 (Upd.drew NoF w5))
              have HST : Hid ((fun W => W.cell? ⟨ob, 1, none⟩ = some (.int .i64 bb)) w5.drew) := Lib.hid ((HKd.out.sep.box 1 rfl).cell 1)
              go_wp2_with fail
              refine wp_region_held_drew (S := (fun W => W.cell? ⟨ob, 1, none⟩ = some (.int .i64 bb))) (by kernel_rfl) (HST.out) (fun hHeld => ?_)
              refine reg_on (i := 0) (v := ?vr1_0) rfl (by kernel_rfl) (by kernel_rfl) (by kernel_rfl) (fun _ _ _ h => h) (by kernel_rfl) hHeld ?yr1_0 ?_
              case yr1_0 => (intro w hSw; (try dsimp only at hSw); skip; go_simp; first | done | with_reducible rfl)
              simp only [Act.put, List.setIfInBounds_toArray, List.set_cons_zero, List.set_cons_succ, List.getElem_toArray, List.getElem_cons_succ, List.getElem_cons_zero]
              refine reg_on (i := 1) (v := ?vr1_1) rfl (by kernel_rfl) (by kernel_rfl) (by kernel_rfl) (fun _ _ _ h => h) (by kernel_rfl) hHeld ?yr1_1 ?_
              case yr1_1 => (intro w hSw; (try dsimp only at hSw); skip; go_simp; first | done | with_reducible rfl)
              simp only [Act.put, List.setIfInBounds_toArray, List.set_cons_zero, List.set_cons_succ, List.getElem_toArray, List.getElem_cons_succ, List.getElem_cons_zero]
              refine reg_on (i := 2) (v := ?vr1_2) rfl (by kernel_rfl) (by kernel_rfl) (by kernel_rfl) (fun _ _ _ h => h) (by kernel_rfl) hHeld ?yr1_2 ?_
              case yr1_2 => (intro w hSw; (try dsimp only at hSw); skip; go_simp; first | done | with_reducible rfl)
              simp only [Act.put, List.setIfInBounds_toArray, List.set_cons_zero, List.set_cons_succ, List.getElem_toArray, List.getElem_cons_succ, List.getElem_cons_zero]
              refine reg_on (i := 4) (v := ?vr1_4) rfl (by kernel_rfl) (by kernel_rfl) (by kernel_rfl) (fun _ _ _ h => h) (by kernel_rfl) hHeld ?yr1_4 ?_
              case yr1_4 => (intro w hSw; (try dsimp only at hSw); skip; go_simp; first | done | with_reducible rfl)
              simp only [Act.put, List.setIfInBounds_toArray, List.set_cons_zero, List.set_cons_succ, List.getElem_toArray, List.getElem_cons_succ, List.getElem_cons_zero]
              refine reg_on (i := 5) (v := ?vr1_5) rfl (by kernel_rfl) (by kernel_rfl) (by kernel_rfl) (fun _ _ _ h => h) (by kernel_rfl) hHeld ?yr1_5 ?_
              case yr1_5 => (intro w hSw; (try dsimp only at hSw); skip; go_simp; first | done | with_reducible rfl)
              simp only [Act.put, List.setIfInBounds_toArray, List.set_cons_zero, List.set_cons_succ, List.getElem_toArray, List.getElem_cons_succ, List.getElem_cons_zero]
              refine reg_on (i := 6) (v := ?vr1_6) rfl (by kernel_rfl) (by kernel_rfl) (by kernel_rfl) (fun _ _ _ h => h) (by kernel_rfl) hHeld ?yr1_6 ?_
              case yr1_6 => (intro w hSw; (try dsimp only at hSw); skip; go_simp; first | done | with_reducible rfl)
              simp only [Act.put, List.setIfInBounds_toArray, List.set_cons_zero, List.set_cons_succ, List.getElem_toArray, List.getElem_cons_succ, List.getElem_cons_zero]
              refine reg_step (i := 3) (by kernel_rfl) rfl (by kernel_rfl) (fun K hK => ?_)
              go_simp
              refine (read_any HKd.out (by omega) bb (fit_small hbd)).mono ?_
              rintro e w7 ⟨rfl, hk7⟩
              have HK7 := Lib.hid hk7
              have HS : (fun W => W.cell? ⟨ob, 1, none⟩ = some (.int .i64 bb)) w7 := (hk7.sep.box 1 rfl).cell 1
              clear hk7
              go_wp2_with fail
              refine hK.out _ _ HS (fun hHeld2 => ?_)
              clear hK hHeld2 hHeld
              have hHeld := HS
              clear HS
              try simp only [Act.put, List.setIfInBounds_toArray, List.set_cons_zero, List.set_cons_succ, List.getElem_toArray, List.getElem_cons_succ, List.getElem_cons_zero]
              refine reg_step (i := 7) (by kernel_rfl) rfl (by kernel_rfl) (fun K hK => ?_)
              go_simp
              refine (both_read HK7.out rfl).mono ?_
              rintro e w8 ⟨rfl, hk8⟩
              have HK8 := Lib.hid hk8
              have HS : (fun W => W.cell? ⟨ob, 1, none⟩ = some (.int .i64 bb)) w8 := (hk8.sep.box 1 rfl).cell 1
              clear hk8
              go_wp2_with fail
              refine hK.out _ _ HS (fun hHeld2 => ?_)
              clear hK hHeld2 hHeld
              have hHeld := HS
              clear HS
              try simp only [Act.put, List.setIfInBounds_toArray, List.set_cons_zero, List.set_cons_succ, List.getElem_toArray, List.getElem_cons_succ, List.getElem_cons_zero]
              refine reg_on (i := 8) (v := .bool true) rfl (by kernel_rfl) (by kernel_rfl) (by kernel_rfl) (fun _ _ _ h => h) (by kernel_rfl) hHeld ?yr1_8 ?_
              case yr1_8 => (intro w hSw; (try dsimp only at hSw); skip; go_simp; first | done | with_reducible rfl)
              simp only [Act.put, List.setIfInBounds_toArray, List.set_cons_zero, List.set_cons_succ, List.getElem_toArray, List.getElem_cons_succ, List.getElem_cons_zero]
              refine reg_on (i := 9) (v := .bool true) rfl (by kernel_rfl) (by kernel_rfl) (by kernel_rfl) (fun _ _ _ h => h) (by kernel_rfl) hHeld ?yr1_9 ?_
              case yr1_9 => (intro w hSw; (try dsimp only at hSw); skip; go_simp; first | done | with_reducible rfl)
              simp only [Act.put, List.setIfInBounds_toArray, List.set_cons_zero, List.set_cons_succ, List.getElem_toArray, List.getElem_cons_succ, List.getElem_cons_zero]
              refine wpAnyH_done (by kernel_rfl) ?_ _
              clear hHeld
              go_wp2_with fail
              go_meet
              exact ⟨n + 1, _, kb, mb, gr, gw, rfl, rfl, Nat.le_refl _, HID.out.put bb true false, HK8.out⟩
            · have e0 : (kk == 0) = false := by simpa using k0
              by_cases k1 : kk = 1
              · subst k1
                have HKd := Lib.hid (HI5.out.upd0 (Upd.drew NoF w5))
                have HST : Hid ((fun W => W.cell? ⟨ob, 1, none⟩ = some (.int .i64 bb)) w5.drew) := Lib.hid ((HKd.out.sep.box 1 rfl).cell 1)
                go_wp2_with fail
                refine wp_region_held_drew (S := (fun W => W.cell? ⟨ob, 1, none⟩ = some (.int .i64 bb))) (by kernel_rfl) (HST.out) (fun hHeld => ?_)
                refine reg_on (i := 0) (v := ?vr2_0) rfl (by kernel_rfl) (by kernel_rfl) (by kernel_rfl) (fun _ _ _ h => h) (by kernel_rfl) hHeld ?yr2_0 ?_
                case yr2_0 => (intro w hSw; (try dsimp only at hSw); skip; go_simp; first | done | with_reducible rfl)
                simp only [Act.put, List.setIfInBounds_toArray, List.set_cons_zero, List.set_cons_succ, List.getElem_toArray, List.getElem_cons_succ, List.getElem_cons_zero]
                refine reg_on (i := 1) (v := ?vr2_1) rfl (by kernel_rfl) (by kernel_rfl) (by kernel_rfl) (fun _ _ _ h => h) (by kernel_rfl) hHeld ?yr2_1 ?_
                case yr2_1 => (intro w hSw; (try dsimp only at hSw); skip; go_simp; first | done | with_reducible rfl)
                simp only [Act.put, List.setIfInBounds_toArray, List.set_cons_zero, List.set_cons_succ, List.getElem_toArray, List.getElem_cons_succ, List.getElem_cons_zero]
                refine reg_on (i := 2) (v := ?vr2_2) rfl (by kernel_rfl) (by kernel_rfl) (by kernel_rfl) (fun _ _ _ h => h) (by kernel_rfl) hHeld ?yr2_2 ?_
                case yr2_2 => (intro w hSw; (try dsimp only at hSw); skip; go_simp; first | done | with_reducible rfl)
                simp only [Act.put, List.setIfInBounds_toArray, List.set_cons_zero, List.set_cons_succ, List.getElem_toArray, List.getElem_cons_succ, List.getElem_cons_zero]
                refine reg_on (i := 4) (v := ?vr2_4) rfl (by kernel_rfl) (by kernel_rfl) (by kernel_rfl) (fun _ _ _ h => h) (by kernel_rfl) hHeld ?yr2_4 ?_
                case yr2_4 => (intro w hSw; (try dsimp only at hSw); skip; go_simp; first | done | with_reducible rfl)
                simp only [Act.put, List.setIfInBounds_toArray, List.set_cons_zero, List.set_cons_succ, List.getElem_toArray, List.getElem_cons_succ, List.getElem_cons_zero]
                refine reg_on (i := 5) (v := ?vr2_5) rfl (by kernel_rfl) (by kernel_rfl) (by kernel_rfl) (fun _ _ _ h => h) (by kernel_rfl) hHeld ?yr2_5 ?_
                case yr2_5 => (intro w hSw; (try dsimp only at hSw); skip; go_simp; first | done | with_reducible rfl)
                simp only [Act.put, List.setIfInBounds_toArray, List.set_cons_zero, List.set_cons_succ, List.getElem_toArray, List.getElem_cons_succ, List.getElem_cons_zero]
                refine reg_on (i := 6) (v := ?vr2_6) rfl (by kernel_rfl) (by kernel_rfl) (by kernel_rfl) (fun _ _ _ h => h) (by kernel_rfl) hHeld ?yr2_6 ?_
                case yr2_6 => (intro w hSw; (try dsimp only at hSw); skip; go_simp; first | done | with_reducible rfl)
                simp only [Act.put, List.setIfInBounds_toArray, List.set_cons_zero, List.set_cons_succ, List.getElem_toArray, List.getElem_cons_succ, List.getElem_cons_zero]
                refine reg_step (i := 3) (by kernel_rfl) rfl (by kernel_rfl) (fun K hK => ?_)
                go_simp
                refine (write_any HKd.out (by omega) bb (fit_small hbd)).mono ?_
                rintro e w7 ⟨rfl, hk7⟩
                have HK7 := Lib.hid hk7
                have HS : (fun W => W.cell? ⟨ob, 1, none⟩ = some (.int .i64 bb)) w7 := (hk7.sep.box 1 rfl).cell 1
                clear hk7
                go_wp2_with fail
                refine hK.out _ _ HS (fun hHeld2 => ?_)
                clear hK hHeld2 hHeld
                have hHeld := HS
                clear HS
                try simp only [Act.put, List.setIfInBounds_toArray, List.set_cons_zero, List.set_cons_succ, List.getElem_toArray, List.getElem_cons_succ, List.getElem_cons_zero]
                refine reg_step (i := 7) (by kernel_rfl) rfl (by kernel_rfl) (fun K hK => ?_)
                go_simp
                refine (both_write HK7.out rfl).mono ?_
                rintro e w8 ⟨rfl, hk8⟩
                have HK8 := Lib.hid hk8
                have HS : (fun W => W.cell? ⟨ob, 1, none⟩ = some (.int .i64 bb)) w8 := (hk8.sep.box 1 rfl).cell 1
                clear hk8
                go_wp2_with fail
                refine hK.out _ _ HS (fun hHeld2 => ?_)
                clear hK hHeld2 hHeld
                have hHeld := HS
                clear HS
                try simp only [Act.put, List.setIfInBounds_toArray, List.set_cons_zero, List.set_cons_succ, List.getElem_toArray, List.getElem_cons_succ, List.getElem_cons_zero]
                refine reg_on (i := 8) (v := .bool true) rfl (by kernel_rfl) (by kernel_rfl) (by kernel_rfl) (fun _ _ _ h => h) (by kernel_rfl) hHeld ?yr2_8 ?_
                case yr2_8 => (intro w hSw; (try dsimp only at hSw); skip; go_simp; first | done | with_reducible rfl)
                simp only [Act.put, List.setIfInBounds_toArray, List.set_cons_zero, List.set_cons_succ, List.getElem_toArray, List.getElem_cons_succ, List.getElem_cons_zero]
                refine reg_on (i := 9) (v := .bool true) rfl (by kernel_rfl) (by kernel_rfl) (by kernel_rfl) (fun _ _ _ h => h) (by kernel_rfl) hHeld ?yr2_9 ?_
                case yr2_9 => (intro w hSw; (try dsimp only at hSw); skip; go_simp; first | done | with_reducible rfl)
                simp only [Act.put, List.setIfInBounds_toArray, List.set_cons_zero, List.set_cons_succ, List.getElem_toArray, List.getElem_cons_succ, List.getElem_cons_zero]
                refine wpAnyH_done (by kernel_rfl) ?_ _
                clear hHeld
                go_wp2_with fail
                go_meet
                exact ⟨n + 1, _, kb, mb, gr, gw, rfl, rfl, Nat.le_refl _, HID.out.put bb false true, HK8.out⟩
              · have e1 : (kk == 1) = false := by simpa using k1
                by_cases k2 : kk = 2
                · subst k2
                  go_wp2_with fail
                  refine (clear_any HI5.out).mono ?_
                  rintro e w6 ⟨rfl, hk6⟩
                  have HK6 := Lib.hid hk6
                  clear hk6
                  go_wp2_with fail
                  refine (both_clear HK6.out hd256).mono ?_
                  rintro e w7 ⟨rfl, g1, g2, hk7⟩
                  have HK7 := Lib.hid hk7
                  clear hk7
                  go_wp2_with fail
                  go_meet
                  exact ⟨0, none2, kb, mb, g1, g2, rfl, rfl, Nat.zero_le _, InData.none2 _, HK7.out⟩
                · have e2 : (kk == 2) = false := by simpa using k2
                  by_cases k3 : kk = 3
                  · subst k3
                    go_wp2_with fail
                    refine (copy_any HI5.out).mono ?_
                    rintro e w6 ⟨kb2, mb2, rfl, hne, hk6, hI6⟩
                    have HK6 := Lib.hid (And.intro hk6 hI6)
                    clear hk6 hI6
                    go_wp2_with fail
                    refine (copy_clear HK6.out.1 HK6.out.2 hne HI5.out.new).mono ?_
                    rintro e w7 ⟨rfl, hk7⟩
                    have HK7 := Lib.hid hk7
                    clear hk7
                    go_wp2_with fail
                    go_meet
                    exact ⟨n, f, kb2, mb2, gr, gw, rfl, rfl, Nat.le_succ n, HID.out, HK7.out⟩
                  · have e3 : (kk == 3) = false := by simpa using k3
                    go_wp2_with fail
                    go_meet
                    exact ⟨n, f, kb, mb, gr, gw, rfl, rfl, Nat.le_succ n, HID.out, HI5.out⟩
          case rest =>
            obtain ⟨n2, f2, kb2, mb2, g1, g2, rfl, rfl, hn2, HIK⟩ := hcut
            have HID2 := Lib.hid HIK.out.1
            have HK6 := Lib.hid HIK.out.2
            clear HIK HI5 HID p0
            have p1 : wc.cell? ⟨ob, 1, none⟩ = some (.int .i64 bb) := (HK6.out.sep.box 1 rfl).cell 1
            go_wp2_with fail
            refine (has_any HK6.out bb (fit_small hbd)).mono ?_
            rintro e w7 ⟨rfl, hu⟩
            have HK7 := Lib.hid (HK6.out.upd0 hu)
            clear hu HK6 p1
            have p1 : w7.cell? ⟨ob, 1, none⟩ = some (.int .i64 bb) := (HK7.out.sep.box 1 rfl).cell 1
            have hrh := rhas_any HK7.out.sep 2 rfl rfl rfl bb
            rw [(HID2.out.may bb).1, (HID2.out.may bb).2] at hrh
            have HRH := Lib.hid hrh
            clear hrh
            go_wp2_with fail
            refine HRH.out.mono ?_
            rintro e w8 ⟨rfl, hu⟩
            have HK8 := Lib.hid (HK7.out.upd0 hu)
            clear hu HK7 p1 HRH
            go_wp2_with fail
            have HKd := Lib.hid (HK8.out.upd0 (Upd.drew NoF w8))
            have HST : Hid ((fun W => W.cell? ⟨ob, 1, none⟩ = some (.int .i64 bb) ∧ W.cell? ⟨ob, 2, none⟩ = some (.int .u8 tt)) w8.drew) := Lib.hid ⟨(HKd.out.sep.box 1 rfl).cell 1, (HKd.out.sep.box 1 rfl).cell 2⟩
            have hn305 : n2 ≤ 65536 := by omega
            refine wp_region_held_drew (S := (fun W => W.cell? ⟨ob, 1, none⟩ = some (.int .i64 bb) ∧ W.cell? ⟨ob, 2, none⟩ = some (.int .u8 tt))) (by kernel_rfl) (HST.out) (fun hHeld => ?_)
            refine reg_on (i := 0) (v := .bool true) rfl (by kernel_rfl) (by kernel_rfl) (by kernel_rfl) (fun _ _ _ h => h) (by kernel_rfl) hHeld ?yr3_0 ?_
            case yr3_0 => (intro w hSw; (try dsimp only at hSw); obtain ⟨c1, c2⟩ := hSw; go_simp; first | done | with_reducible rfl)
            simp only [Act.put, List.setIfInBounds_toArray, List.set_cons_zero, List.set_cons_succ, List.getElem_toArray, List.getElem_cons_succ, List.getElem_cons_zero]
            refine reg_on (i := 1) (v := .bool false) rfl (by kernel_rfl) (by kernel_rfl) (by kernel_rfl) (fun _ _ _ h => h) (by kernel_rfl) hHeld ?yr3_1 ?_
            case yr3_1 => (intro w hSw; (try dsimp only at hSw); obtain ⟨c1, c2⟩ := hSw; go_simp; first | done | with_reducible rfl)
            simp only [Act.put, List.setIfInBounds_toArray, List.set_cons_zero, List.set_cons_succ, List.getElem_toArray, List.getElem_cons_succ, List.getElem_cons_zero]
            refine reg_on (i := 2) (v := .bool false) rfl (by kernel_rfl) (by kernel_rfl) (by kernel_rfl) (fun _ _ _ h => h) (by kernel_rfl) hHeld ?yr3_2 ?_
            case yr3_2 => (intro w hSw; (try dsimp only at hSw); obtain ⟨c1, c2⟩ := hSw; go_simp; first | done | with_reducible rfl)
            simp only [Act.put, List.setIfInBounds_toArray, List.set_cons_zero, List.set_cons_succ, List.getElem_toArray, List.getElem_cons_succ, List.getElem_cons_zero]
            refine reg_on (i := 3) (v := ?vr3_3) rfl (by kernel_rfl) (by kernel_rfl) (by kernel_rfl) (fun _ _ _ h => h) (by kernel_rfl) hHeld ?yr3_3 ?_
            case yr3_3 => (intro w hSw; (try dsimp only at hSw); obtain ⟨c1, c2⟩ := hSw; go_simp; first | done | with_reducible rfl)
            simp only [Act.put, List.setIfInBounds_toArray, List.set_cons_zero, List.set_cons_succ, List.getElem_toArray, List.getElem_cons_succ, List.getElem_cons_zero]
            refine reg_on (i := 4) (v := ?vr3_4) rfl (by kernel_rfl) (by kernel_rfl) (by kernel_rfl) (fun _ _ _ h => h) (by kernel_rfl) hHeld ?yr3_4 ?_
            case yr3_4 => (intro w hSw; (try dsimp only at hSw); obtain ⟨c1, c2⟩ := hSw; go_simp; first | done | with_reducible rfl)
            simp only [Act.put, List.setIfInBounds_toArray, List.set_cons_zero, List.set_cons_succ, List.getElem_toArray, List.getElem_cons_succ, List.getElem_cons_zero]
            refine reg_on (i := 5) (v := .bool false) rfl (by kernel_rfl) (by kernel_rfl) (by kernel_rfl) (fun _ _ _ h => h) (by kernel_rfl) hHeld ?yr3_5 ?_
            case yr3_5 => (intro w hSw; (try dsimp only at hSw); obtain ⟨c1, c2⟩ := hSw; go_simp; first | done | with_reducible rfl)
            simp only [Act.put, List.setIfInBounds_toArray, List.set_cons_zero, List.set_cons_succ, List.getElem_toArray, List.getElem_cons_succ, List.getElem_cons_zero]
            refine reg_on (i := 6) (v := .bool false) rfl (by kernel_rfl) (by kernel_rfl) (by kernel_rfl) (fun _ _ _ h => h) (by kernel_rfl) hHeld ?yr3_6 ?_
            case yr3_6 => (intro w hSw; (try dsimp only at hSw); obtain ⟨c1, c2⟩ := hSw; go_simp; first | done | with_reducible rfl)
            simp only [Act.put, List.setIfInBounds_toArray, List.set_cons_zero, List.set_cons_succ, List.getElem_toArray, List.getElem_cons_succ, List.getElem_cons_zero]
            refine reg_on (i := 7) (v := .bool false) rfl (by kernel_rfl) (by kernel_rfl) (by kernel_rfl) (fun _ _ _ h => h) (by kernel_rfl) hHeld ?yr3_7 ?_
            case yr3_7 => (intro w hSw; (try dsimp only at hSw); obtain ⟨c1, c2⟩ := hSw; go_simp; first | done | with_reducible rfl)
            simp only [Act.put, List.setIfInBounds_toArray, List.set_cons_zero, List.set_cons_succ, List.getElem_toArray, List.getElem_cons_succ, List.getElem_cons_zero]
            refine reg_on (i := 8) (v := ?vr3_8) rfl (by kernel_rfl) (by kernel_rfl) (by kernel_rfl) (fun _ _ _ h => h) (by kernel_rfl) hHeld ?yr3_8 ?_
            case yr3_8 => (intro w hSw; (try dsimp only at hSw); obtain ⟨c1, c2⟩ := hSw; go_simp; first | done | with_reducible rfl)
            simp only [Act.put, List.setIfInBounds_toArray, List.set_cons_zero, List.set_cons_succ, List.getElem_toArray, List.getElem_cons_succ, List.getElem_cons_zero]
            refine reg_on (i := 9) (v := ?vr3_9) rfl (by kernel_rfl) (by kernel_rfl) (by kernel_rfl) (fun _ _ _ h => h) (by kernel_rfl) hHeld ?yr3_9 ?_
            case yr3_9 => (intro w hSw; (try dsimp only at hSw); obtain ⟨c1, c2⟩ := hSw; go_simp; first | done | with_reducible rfl)
            simp only [Act.put, List.setIfInBounds_toArray, List.set_cons_zero, List.set_cons_succ, List.getElem_toArray, List.getElem_cons_succ, List.getElem_cons_zero]
            refine reg_on (i := 10) (v := .bool false) rfl (by kernel_rfl) (by kernel_rfl) (by kernel_rfl) (fun _ _ _ h => h) (by kernel_rfl) hHeld ?yr3_10 ?_
            case yr3_10 => (intro w hSw; (try dsimp only at hSw); obtain ⟨c1, c2⟩ := hSw; go_simp; first | done | with_reducible rfl)
            simp only [Act.put, List.setIfInBounds_toArray, List.set_cons_zero, List.set_cons_succ, List.getElem_toArray, List.getElem_cons_succ, List.getElem_cons_zero]
            refine reg_on (i := 11) (v := .bool false) rfl (by kernel_rfl) (by kernel_rfl) (by kernel_rfl) (fun _ _ _ h => h) (by kernel_rfl) hHeld ?yr3_11 ?_
            case yr3_11 => (intro w hSw; (try dsimp only at hSw); obtain ⟨c1, c2⟩ := hSw; go_simp; first | done | with_reducible rfl)
            simp only [Act.put, List.setIfInBounds_toArray, List.set_cons_zero, List.set_cons_succ, List.getElem_toArray, List.getElem_cons_succ, List.getElem_cons_zero]
            refine reg_on (i := 12) (v := .bool false) rfl (by kernel_rfl) (by kernel_rfl) (by kernel_rfl) (fun _ _ _ h => h) (by kernel_rfl) hHeld ?yr3_12 ?_
            case yr3_12 => (intro w hSw; (try dsimp only at hSw); obtain ⟨c1, c2⟩ := hSw; go_simp; first | done | with_reducible rfl)
            simp only [Act.put, List.setIfInBounds_toArray, List.set_cons_zero, List.set_cons_succ, List.getElem_toArray, List.getElem_cons_succ, List.getElem_cons_zero]
            refine reg_on (i := 13) (v := ?vr3_13) rfl (by kernel_rfl) (by kernel_rfl) (by kernel_rfl) (fun _ _ _ h => h) (by kernel_rfl) hHeld ?yr3_13 ?_
            case yr3_13 => (intro w hSw; (try dsimp only at hSw); obtain ⟨c1, c2⟩ := hSw; go_simp; first | done | with_reducible rfl)
            simp only [Act.put, List.setIfInBounds_toArray, List.set_cons_zero, List.set_cons_succ, List.getElem_toArray, List.getElem_cons_succ, List.getElem_cons_zero]
            refine reg_on (i := 14) (v := ?vr3_14) rfl (by kernel_rfl) (by kernel_rfl) (by kernel_rfl) (fun _ _ _ h => h) (by kernel_rfl) hHeld ?yr3_14 ?_
            case yr3_14 => (intro w hSw; (try dsimp only at hSw); obtain ⟨c1, c2⟩ := hSw; go_simp; first | done | with_reducible rfl)
            simp only [Act.put, List.setIfInBounds_toArray, List.set_cons_zero, List.set_cons_succ, List.getElem_toArray, List.getElem_cons_succ, List.getElem_cons_zero]
            refine reg_on (i := 15) (v := ?vr3_15) rfl (by kernel_rfl) (by kernel_rfl) (by kernel_rfl) (fun _ _ _ h => h) (by kernel_rfl) hHeld ?yr3_15 ?_
            case yr3_15 => (intro w hSw; (try dsimp only at hSw); obtain ⟨c1, c2⟩ := hSw; go_simp; first | done | with_reducible rfl)
            simp only [Act.put, List.setIfInBounds_toArray, List.set_cons_zero, List.set_cons_succ, List.getElem_toArray, List.getElem_cons_succ, List.getElem_cons_zero]
            refine reg_on (i := 16) (v := ?vr3_16) rfl (by kernel_rfl) (by kernel_rfl) (by kernel_rfl) (fun _ _ _ h => h) (by kernel_rfl) hHeld ?yr3_16 ?_
            case yr3_16 => (intro w hSw; (try dsimp only at hSw); obtain ⟨c1, c2⟩ := hSw; go_simp; first | done | with_reducible rfl)
            simp only [Act.put, List.setIfInBounds_toArray, List.set_cons_zero, List.set_cons_succ, List.getElem_toArray, List.getElem_cons_succ, List.getElem_cons_zero]
            refine reg_on (i := 17) (v := ?vr3_17) rfl (by kernel_rfl) (by kernel_rfl) (by kernel_rfl) (fun _ _ _ h => h) (by kernel_rfl) hHeld ?yr3_17 ?_
            case yr3_17 => (intro w hSw; (try dsimp only at hSw); obtain ⟨c1, c2⟩ := hSw; go_simp; first | done | with_reducible rfl)
            simp only [Act.put, List.setIfInBounds_toArray, List.set_cons_zero, List.set_cons_succ, List.getElem_toArray, List.getElem_cons_succ, List.getElem_cons_zero]
            refine reg_on (i := 19) (v := ?vr3_19) rfl (by kernel_rfl) (by kernel_rfl) (by kernel_rfl) (fun _ _ _ h => h) (by kernel_rfl) hHeld ?yr3_19 ?_
            case yr3_19 => (intro w hSw; (try dsimp only at hSw); obtain ⟨c1, c2⟩ := hSw; go_simp; first | done | with_reducible rfl)
            simp only [Act.put, List.setIfInBounds_toArray, List.set_cons_zero, List.set_cons_succ, List.getElem_toArray, List.getElem_cons_succ, List.getElem_cons_zero]
            refine reg_on (i := 20) (v := ?vr3_20) rfl (by kernel_rfl) (by kernel_rfl) (by kernel_rfl) (fun _ _ _ h => h) (by kernel_rfl) hHeld ?yr3_20 ?_
            case yr3_20 => (intro w hSw; (try dsimp only at hSw); obtain ⟨c1, c2⟩ := hSw; go_simp; first | done | with_reducible rfl)
            simp only [Act.put, List.setIfInBounds_toArray, List.set_cons_zero, List.set_cons_succ, List.getElem_toArray, List.getElem_cons_succ, List.getElem_cons_zero]
            refine reg_on (i := 21) (v := ?vr3_21) rfl (by kernel_rfl) (by kernel_rfl) (by kernel_rfl) (fun _ _ _ h => h) (by kernel_rfl) hHeld ?yr3_21 ?_
            case yr3_21 => (intro w hSw; (try dsimp only at hSw); obtain ⟨c1, c2⟩ := hSw; go_simp; first | done | with_reducible rfl)
            simp only [Act.put, List.setIfInBounds_toArray, List.set_cons_zero, List.set_cons_succ, List.getElem_toArray, List.getElem_cons_succ, List.getElem_cons_zero]
            refine reg_on (i := 22) (v := ?vr3_22) rfl (by kernel_rfl) (by kernel_rfl) (by kernel_rfl) (fun _ _ _ h => h) (by kernel_rfl) hHeld ?yr3_22 ?_
            case yr3_22 => (intro w hSw; (try dsimp only at hSw); obtain ⟨c1, c2⟩ := hSw; go_simp; first | done | with_reducible rfl)
            simp only [Act.put, List.setIfInBounds_toArray, List.set_cons_zero, List.set_cons_succ, List.getElem_toArray, List.getElem_cons_succ, List.getElem_cons_zero]
            refine reg_on (i := 23) (v := ?vr3_23) rfl (by kernel_rfl) (by kernel_rfl) (by kernel_rfl) (fun _ _ _ h => h) (by kernel_rfl) hHeld ?yr3_23 ?_
            case yr3_23 => (intro w hSw; (try dsimp only at hSw); obtain ⟨c1, c2⟩ := hSw; go_simp; first | done | with_reducible rfl)
            simp only [Act.put, List.setIfInBounds_toArray, List.set_cons_zero, List.set_cons_succ, List.getElem_toArray, List.getElem_cons_succ, List.getElem_cons_zero]
            refine reg_step (i := 18) (by kernel_rfl) rfl (by kernel_rfl) (fun K hK => ?_)
            go_simp
            refine (meets_any HKd.out tt bb (fit_small hbd)).mono ?_
            rintro e x1 ⟨rfl, hu⟩
            have HX1 := Lib.hid (HKd.out.upd0 hu)
            have HS : (fun W => W.cell? ⟨ob, 1, none⟩ = some (.int .i64 bb) ∧ W.cell? ⟨ob, 2, none⟩ = some (.int .u8 tt)) x1 := ⟨(HX1.out.sep.box 1 rfl).cell 1, (HX1.out.sep.box 1 rfl).cell 2⟩
            clear hu
            go_wp2_with fail
            refine hK.out _ _ HS (fun hHeld2 => ?_)
            clear hK hHeld2 hHeld
            have hHeld := HS
            clear HS
            try simp only [Act.put, List.setIfInBounds_toArray, List.set_cons_zero, List.set_cons_succ, List.getElem_toArray, List.getElem_cons_succ, List.getElem_cons_zero]
            refine reg_step (i := 24) (by kernel_rfl) rfl (by kernel_rfl) (fun K hK => ?_)
            go_simp
            have hrm := rmeets_any HX1.out.sep 2 rfl rfl rfl tt bb
            rw [(HID2.out.may bb).1, (HID2.out.may bb).2, show ((f2 bb).1, (f2 bb).2) = f2 bb from rfl] at hrm
            refine hrm.mono ?_
            rintro e x2 ⟨rfl, hu⟩
            have HX2 := Lib.hid (HX1.out.upd0 hu)
            have HS : (fun W => W.cell? ⟨ob, 1, none⟩ = some (.int .i64 bb) ∧ W.cell? ⟨ob, 2, none⟩ = some (.int .u8 tt)) x2 := ⟨(HX2.out.sep.box 1 rfl).cell 1, (HX2.out.sep.box 1 rfl).cell 2⟩
            clear hu hrm
            go_wp2_with fail
            refine hK.out _ _ HS (fun hHeld2 => ?_)
            clear hK hHeld2 hHeld
            have hHeld := HS
            clear HS
            try simp only [Act.put, List.setIfInBounds_toArray, List.set_cons_zero, List.set_cons_succ, List.getElem_toArray, List.getElem_cons_succ, List.getElem_cons_zero]
            refine reg_on (i := 25) (v := .bool false) rfl (by kernel_rfl) (by kernel_rfl) (by kernel_rfl) (fun _ _ _ h => h) (by kernel_rfl) hHeld ?yr3_25 ?_
            case yr3_25 => (intro w hSw; (try dsimp only at hSw); obtain ⟨c1, c2⟩ := hSw; go_simp; first | done | with_reducible rfl)
            simp only [Act.put, List.setIfInBounds_toArray, List.set_cons_zero, List.set_cons_succ, List.getElem_toArray, List.getElem_cons_succ, List.getElem_cons_zero]
            refine reg_on (i := 26) (v := .bool false) rfl (by kernel_rfl) (by kernel_rfl) (by kernel_rfl) (fun _ _ _ h => h) (by kernel_rfl) hHeld ?yr3_26 ?_
            case yr3_26 => (intro w hSw; (try dsimp only at hSw); obtain ⟨c1, c2⟩ := hSw; go_simp; first | done | with_reducible rfl)
            simp only [Act.put, List.setIfInBounds_toArray, List.set_cons_zero, List.set_cons_succ, List.getElem_toArray, List.getElem_cons_succ, List.getElem_cons_zero]
            refine reg_on (i := 27) (v := .bool false) rfl (by kernel_rfl) (by kernel_rfl) (by kernel_rfl) (fun _ _ _ h => h) (by kernel_rfl) hHeld ?yr3_27 ?_
            case yr3_27 => (intro w hSw; (try dsimp only at hSw); obtain ⟨c1, c2⟩ := hSw; go_simp; first | done | with_reducible rfl)
            simp only [Act.put, List.setIfInBounds_toArray, List.set_cons_zero, List.set_cons_succ, List.getElem_toArray, List.getElem_cons_succ, List.getElem_cons_zero]
            refine reg_on (i := 28) (v := ?vr3_28) rfl (by kernel_rfl) (by kernel_rfl) (by kernel_rfl) (fun _ _ _ h => h) (by kernel_rfl) hHeld ?yr3_28 ?_
            case yr3_28 => (intro w hSw; (try dsimp only at hSw); obtain ⟨c1, c2⟩ := hSw; go_simp; first | done | with_reducible rfl)
            simp only [Act.put, List.setIfInBounds_toArray, List.set_cons_zero, List.set_cons_succ, List.getElem_toArray, List.getElem_cons_succ, List.getElem_cons_zero]
            refine reg_on (i := 30) (v := ?vr3_30) rfl (by kernel_rfl) (by kernel_rfl) (by kernel_rfl) (fun _ _ _ h => h) (by kernel_rfl) hHeld ?yr3_30 ?_
            case yr3_30 => (intro w hSw; (try dsimp only at hSw); obtain ⟨c1, c2⟩ := hSw; go_simp; first | done | with_reducible rfl)
            simp only [Act.put, List.setIfInBounds_toArray, List.set_cons_zero, List.set_cons_succ, List.getElem_toArray, List.getElem_cons_succ, List.getElem_cons_zero]
            refine reg_step (i := 29) (by kernel_rfl) rfl (by kernel_rfl) (fun K hK => ?_)
            go_simp
            refine (all_any HX2.out (by omega)).mono ?_
            rintro e x3 ⟨v, ss, rfl, hpw, hmem, hsl, hk⟩
            have HX3 := Lib.hid hk
            have HPW := Lib.hid hpw; have HMEM := Lib.hid hmem
            have HS : (fun W => W.cell? ⟨ob, 1, none⟩ = some (.int .i64 bb) ∧ W.cell? ⟨ob, 2, none⟩ = some (.int .u8 tt)) x3 := ⟨(HX3.out.sep.box 2 rfl).cell 1, (HX3.out.sep.box 2 rfl).cell 2⟩
            clear hk hpw hmem
            go_wp2_with fail
            refine hK.out _ _ HS (fun hHeld2 => ?_)
            clear hK hHeld2 hHeld
            have hHeld := HS
            clear HS
            try simp only [Act.put, List.setIfInBounds_toArray, List.set_cons_zero, List.set_cons_succ, List.getElem_toArray, List.getElem_cons_succ, List.getElem_cons_zero]
            refine reg_step (i := 31) (by kernel_rfl) rfl (by kernel_rfl) (fun K hK => ?_)
            go_simp
            refine (rall_any HX3.out.sep 3 rfl rfl rfl hd256).mono ?_
            rintro e x4 ⟨v2, s2, rfl, hpw2, hmem2, hs4, hu⟩
            obtain rfl : s2 = ss := sorted_unique hpw2 HPW.out (fun a => (hmem2 a).trans ⟨fun h => (HMEM.out a).2 h.2, fun h => ⟨HID2.out a ((HMEM.out a).1 h), (HMEM.out a).1 h⟩⟩)
            have HX4 := Lib.hid (HX3.out.upd0 hu)
            have HRW := Lib.hid hs4
            have HS : (fun W => W.cell? ⟨ob, 1, none⟩ = some (.int .i64 bb) ∧ W.cell? ⟨ob, 2, none⟩ = some (.int .u8 tt)) x4 := ⟨(HX4.out.sep.box 2 rfl).cell 1, (HX4.out.sep.box 2 rfl).cell 2⟩
            clear hu hpw2 hmem2 hs4
            go_wp2_with fail
            refine hK.out _ _ HS (fun hHeld2 => ?_)
            clear hK hHeld2 hHeld
            have hHeld := HS
            clear HS
            try simp only [Act.put, List.setIfInBounds_toArray, List.set_cons_zero, List.set_cons_succ, List.getElem_toArray, List.getElem_cons_succ, List.getElem_cons_zero]
            refine reg_step (i := 32) (by kernel_rfl) rfl (by kernel_rfl) (fun K hK => ?_)
            go_simp
            refine (equal_same _ _ _ s2 (HX4.out.sep.row 1 rfl) (HRW.out.row 0 rfl)).mono ?_
            rintro e x5 ⟨rfl, hu⟩
            have HX5 := Lib.hid (HX4.out.upd0 hu)
            have HS : (fun W => W.cell? ⟨ob, 1, none⟩ = some (.int .i64 bb) ∧ W.cell? ⟨ob, 2, none⟩ = some (.int .u8 tt)) x5 := ⟨(HX5.out.sep.box 2 rfl).cell 1, (HX5.out.sep.box 2 rfl).cell 2⟩
            clear hu
            go_wp2_with fail
            refine hK.out _ _ HS (fun hHeld2 => ?_)
            clear hK hHeld2 hHeld
            have hHeld := HS
            clear HS
            try simp only [Act.put, List.setIfInBounds_toArray, List.set_cons_zero, List.set_cons_succ, List.getElem_toArray, List.getElem_cons_succ, List.getElem_cons_zero]
            refine reg_on (i := 33) (v := .bool false) rfl (by kernel_rfl) (by kernel_rfl) (by kernel_rfl) (fun _ _ _ h => h) (by kernel_rfl) hHeld ?yr3_33 ?_
            case yr3_33 => (intro w hSw; (try dsimp only at hSw); obtain ⟨c1, c2⟩ := hSw; go_simp; first | done | with_reducible rfl)
            simp only [Act.put, List.setIfInBounds_toArray, List.set_cons_zero, List.set_cons_succ, List.getElem_toArray, List.getElem_cons_succ, List.getElem_cons_zero]
            refine reg_on (i := 34) (v := .bool false) rfl (by kernel_rfl) (by kernel_rfl) (by kernel_rfl) (fun _ _ _ h => h) (by kernel_rfl) hHeld ?yr3_34 ?_
            case yr3_34 => (intro w hSw; (try dsimp only at hSw); obtain ⟨c1, c2⟩ := hSw; go_simp; first | done | with_reducible rfl)
            simp only [Act.put, List.setIfInBounds_toArray, List.set_cons_zero, List.set_cons_succ, List.getElem_toArray, List.getElem_cons_succ, List.getElem_cons_zero]
            refine wpAnyH_done (by kernel_rfl) ?_ _
            clear hHeld
            go_wp2_with fail
            exact ⟨⟨k + 1, n2, f2, kb2, mb2, g1, g2, by omega, by go_num, rfl, by omega, HID2.out, HX5.out.drop.drop⟩, by simp [intOf]; omega⟩
        · obtain rfl : len1 = k := by omega
          go_wp2_with fail
          refine (works_any _).mono ?_
          rintro e w9 ⟨rfl, hu⟩
          have HS9 := Lib.hid (HI.out.sep.upd0 hu)
          clear hu
          go_wp2
          go_ret
          exact ⟨rfl, HS9.out.below⟩
    · rw [decide_eq_false hm] at HRM
      have HN := Lib.hid (new_no c hm)
      clear hm
      obtain ⟨cb, hcb⟩ : ∃ cb, w.heap.size = cb := ⟨_, rfl⟩
      rw [hcb] at HS0
      go_enter Try.func7, Try.ntmps7
      go_wp2_with fail
      rw [HW0.out]
      refine (HN.out W0).mono ?_
      rintro e w2 ⟨rfl, hu⟩
      have HS2 := Lib.hid (HS0.out.upd0 hu)
      clear hu
      have e0 : w2.cell? ⟨cb, 0, none⟩ = some (.int .i64 c.cores) := (HS2.out.box 0 rfl).cell 0
      have e1 : w2.cell? ⟨cb, 1, none⟩ = some (.int .i64 c.sets) := (HS2.out.box 0 rfl).cell 1
      have e2 : w2.cell? ⟨cb, 2, none⟩ = some (.int .i64 c.ways) := (HS2.out.box 0 rfl).cell 2
      have e3 : w2.cell? ⟨cb, 3, none⟩ = some (.int .i64 c.blocks) := (HS2.out.box 0 rfl).cell 3
      have e4 : w2.cell? ⟨cb, 4, none⟩ = some (.int .i64 c.logs) := (HS2.out.box 0 rfl).cell 4
      have e5 : w2.cell? ⟨cb, 5, none⟩ = some (.int .i64 c.backs) := (HS2.out.box 0 rfl).cell 5
      have e6 : w2.cell? ⟨cb, 6, none⟩ = some (.int .i64 c.nest) := (HS2.out.box 0 rfl).cell 6
      have e7 : w2.cell? ⟨cb, 7, none⟩ = some (.int .i64 c.tries) := (HS2.out.box 0 rfl).cell 7
      go_wp2_with fail
      refine (HRM.out w2).mono ?_
      rintro e w3 ⟨rfl, hu⟩
      have HS3 := Lib.hid (HS2.out.upd0 hu)
      clear hu
      go_wp2_with fail
      refine (works_any _).mono ?_
      rintro e w9 ⟨rfl, hu⟩
      have HS9 := Lib.hid (HS3.out.upd0 hu)
      clear hu
      go_wp2
      go_ret
      exact ⟨rfl, HS9.out.below⟩
end Go.Proofs.Ytkncijoclnjpoaa.MK
