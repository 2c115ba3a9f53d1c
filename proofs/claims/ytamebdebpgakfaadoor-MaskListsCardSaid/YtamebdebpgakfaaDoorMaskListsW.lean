/- MaskLists: how many are in a set, the least one, all. -/
import Derived.Test.YtamebdebpgakfaaDoorMaskWorks
set_option linter.unusedSimpArgs false
set_option linter.unusedVariables false
namespace Go.Proofs.YtamebdebpgakfaaDoor.ML
open Go.RowKit
attribute [local go_sem] Oper.semAt_some

theorem least_of (m : Mk) (w : World) (hT : Tab w) : Calls Tryd.prog 19 #[VM m] w fun e w' => e = .returned (.int .i64 (match bitsL m with | [] => -1 | i :: _ => (i : Int))) ∧ w = w' := by
  by_cases hm : m = 0#32
  · subst hm
    rw [bitsL_zero]
    exact least_zero w
  · rw [bitsL_cons m hm]
    exact least_any m hm w hT

set_option maxRecDepth 100000 in
set_option maxHeartbeats 1000000 in
theorem lists_any (m : Mk) (early : Int) (he : -9223372036854775808 ≤ early ∧ early ≤ 9223372036854775807) (w : World) (hT : Tab w) : Calls Tryd.prog 7 #[VM m, .int .i64 early] w fun e w' => e = .returned (.bool true) ∧ Below w.heap.size w w' := by
  have hlt := hT.lt
  have HT := Lib.hid hT
  have hL := bitsL_length m
  clear hT
  refine calls_of_wp_marks Tryd.func7 rfl ?_
  simp only [Tryd.ntmps7, List.size_toArray, List.length_cons, List.length_nil, Nat.reduceAdd, Nat.reduceSub, Array.replicate_succ, Array.replicate_zero, List.push_toArray, List.append_toArray, List.nil_append, List.cons_append]
  go_wp2_with fail
  obtain ⟨w0, hw0⟩ : ∃ w0, w.alloc (.cells #[.int .i64 early] 3) = w0 := ⟨_, rfl⟩
  have hu0 : Upd NoF w w0 := by rw [← hw0]; exact Upd.alloc NoF w _
  have q0 : Blk w0 w.heap.size #[.int .i64 early] 3 := by rw [← hw0]; exact Blk.new w _ _
  have hs0 : w0.heap.size = w.heap.size + 1 := by rw [← hw0]; simp
  rw [hw0]
  refine (works_any w0 (HT.out.upd hu0 (fun h => h))).mono ?_
  rintro e w1 ⟨rfl, hu1⟩
  have HU1 := Lib.hid ((hu0.toFrom (B := w.heap.size)).from (hu1.mono (fun i _ h => by unfold From at *; omega)))
  have HT1 := Lib.hid (HT.out.from HU1.out (by omega))
  have Q1 := Lib.hid (q0.upd hu1 (by unfold From; omega))
  have hs1 := hu1.size
  clear hu1 hu0 q0 hw0
  go_wp2_with fail
  refine (rlist_any m w1).mono ?_
  rintro e w2 ⟨v, rfl, hr2, hv2, hu2⟩
  have HU2 := Lib.hid (HU1.out.from (hu2.mono (fun i _ h => by unfold From at *; omega)))
  have HT2 := Lib.hid (HT.out.from HU2.out (by omega))
  have Q2 := Lib.hid (Q1.out.upd hu2 (by unfold From; omega))
  have HR2 := Lib.hid hr2
  have hs2 := hu2.size
  obtain ⟨a, cap, rfl, _⟩ := hr2.slice
  clear hr2 hv2 hu2
  have hcount := fun W => count_any m W
  obtain ⟨lv, hleast, hlv⟩ : ∃ lv : Int, (∀ W, Tab W → Calls Tryd.prog 19 #[VM m] W fun e w' => e = .returned (.int .i64 lv) ∧ W = w') ∧ (((bitsL m).length = 0 ∧ lv = -1) ∨ (0 < (bitsL m).length ∧ (((bitsL m).getD 0 0 : Nat) : Int) = lv)) := by
    refine ⟨_, fun W hW => least_of m W hW, ?_⟩
    cases bitsL m with
    | nil => exact .inl ⟨rfl, rfl⟩
    | cons i l => exact .inr ⟨by simp, rfl⟩
  have hlist := fun W hW => list_any m W hW
  generalize hl : bitsL m = L at *
  have HC := Lib.hid hcount; have HL := Lib.hid hleast; have HLi := Lib.hid hlist; have Hl := Lib.hid hl
  clear hcount hleast hlist hl
  go_wp2_with fail
  refine (HC.out w2).mono ?_
  rintro e w3 ⟨rfl, hu3⟩
  have HU3 := Lib.hid (HU2.out.from hu3.toFrom)
  have HT3 := Lib.hid (HT.out.from HU3.out (by omega))
  have Q3 := Lib.hid (Q2.out.upd hu3 (fun h => h))
  have HR3 := Lib.hid (HR2.out.upd hu3 (fun _ _ h => h))
  have hs3 := hu3.size
  clear hu3
  go_wp2_with fail
  refine (HLi.out w3 HT3.out).mono ?_
  rintro e w4 ⟨v4, rfl, hr4, hv4, hu4⟩
  have HU4 := Lib.hid (HU3.out.from hu4.toFrom)
  have HT4 := Lib.hid (HT.out.from HU4.out (by omega))
  have Q4 := Lib.hid (Q3.out.upd hu4 (fun h => h))
  have HR4 := Lib.hid (HR3.out.upd hu4 (fun _ _ h => h))
  have HRR := Lib.hid hr4
  obtain ⟨a4, cap4, rfl, _⟩ := hr4.slice
  have hs4 := hu4.size
  clear hu4 hr4 hv4
  obtain ⟨i1, _, j1⟩ := row_is1 HRR.out
  obtain ⟨i2, _, j2⟩ := row_is1 HR4.out
  have I1 := Lib.hid i1; have I2 := Lib.hid i2; have J12 := Lib.hid (j1.trans j2.symm)
  clear i1 i2 j1 j2
  go_wp2_with fail
  refine (equal_any _ _ _ _ _ _ _ _ w4 I1.out I2.out).mono ?_
  rintro e w5 ⟨rfl, hu5⟩
  rw [show decide (upTo _ _ = upTo _ _) = true from by rw [decide_eq_true_eq]]
  have HU5 := Lib.hid (HU4.out.from hu5.toFrom)
  have HT5 := Lib.hid (HT.out.from HU5.out (by omega))
  have Q5 := Lib.hid (Q4.out.upd hu5 (fun h => h))
  have HR5 := Lib.hid (HR4.out.upd hu5 (fun _ _ h => h))
  have hs5 := hu5.size
  clear hu5
  rcases hlv with ⟨hz, rfl⟩ | ⟨hpos, hg⟩
  · have hnpos : ¬ 0 < L.length := by omega
    go_wp2_with (go_at_call 23; refine (mall_any _ _).mono ?_; rintro e w' ⟨rfl, rfl⟩)
    obtain ⟨W3, hW3⟩ : ∃ W3, (w5.alloc (.cells #[.int .i64 0] 3)).alloc (.cells #[VM m] 25) = W3 := ⟨_, rfl⟩
    have hu3 : Upd NoF w5 W3 := by rw [← hW3]; exact (Upd.alloc NoF w5 _).trans (Upd.alloc NoF _ _) (fun _ _ h => h)
    have qn : Blk W3 w5.heap.size #[.int .i64 ((0 : Nat) : Int)] 3 := by rw [← hW3]; exact (Blk.new w5 _ _).alloc _
    have qp : Blk W3 (w5.heap.size + 1) #[VM m] 25 := by
      rw [← hW3]; have := Blk.new (w5.alloc (.cells #[.int .i64 0] 3)) #[VM m] 25
      rwa [World.size_alloc] at this
    have hsz3 : W3.heap.size = w5.heap.size + 2 := by rw [← hW3]; simp
    have hU3 := HU5.out.from hu3.toFrom
    have hQ3 := Q5.out.upd hu3 (fun h => h)
    have hT3 := HT5.out.upd hu3 (fun h => h)
    rw [hW3]
    clear hW3 hu3
    have hseq := mall_seq (w5.heap.size + 1) m (fun k => k = w5.heap.size ∨ W3.heap.size ≤ k) (by omega) (by omega) (by omega) W3 qp hT3
    rw [Hl.out] at hseq
    refine wp_range (gf := 28) (lb := #[.pointer (some ⟨w5.heap.size + 1, 0, none⟩)]) rfl (enters_of Tryd.func28 (by kernel_rfl) rfl)
      hseq (fun _ => rfl) (fun k hk => by omega) (fun k hk => .inr hk)
      (fun k W => (k = 0 ∨ (k : Int) ≤ early) ∧ Blk W w5.heap.size #[.int .i64 (k : Int)] 3 ∧ Blk W w.heap.size #[.int .i64 early] 3 ∧ Upd (From w.heap.size) w W)
      (fun c k W => c = .exit 0 ∧ (k = 0 ∨ (k : Int) ≤ early) ∧ early < (k : Int) + 1 ∧ Blk W w5.heap.size #[.int .i64 ((k : Int) + 1)] 3 ∧ Blk W w.heap.size #[.int .i64 early] 3 ∧ Upd (From w.heap.size) w W)
      (fun k A B hs hb => ⟨hs.1, hs.2.1.bk hb (by omega), hs.2.2.1.bk hb (by omega), hs.2.2.2.bk hb (by omega) (fun _ h => by omega)⟩)
      (fun c k A B hs hb => ⟨hs.1, hs.2.1, hs.2.2.1, hs.2.2.2.1.bk hb (by omega), hs.2.2.2.2.1.bk hb (by omega), hs.2.2.2.2.2.bk hb (by omega) (fun _ h => by omega)⟩)
      ⟨.inl rfl, qn, hQ3, hU3⟩
      ?rnd ?dn ?stp
    case rnd =>
      intro l k x hx W9 K' hK'
      have := (List.getElem?_eq_some_iff.1 hx).1
      omega
    case dn =>
      rintro D W hD ⟨hk, n1, n2, hB⟩ hK
      have m1 : W.cell? ⟨w5.heap.size, 0, none⟩ = some (.int .i64 (L.length : Int)) := n1.cell 0
      have m2 : W.cell? ⟨w.heap.size, 0, none⟩ = some (.int .i64 early) := n2.cell 0
      have hTW := Lib.hid (HT.out.from hB (by omega))
      have hmin : min (max (min early 99 + 1) 1) (L.length : Int) = (L.length : Int) := by omega
      have hKD := Lib.hid hK; have HB := Lib.hid hB
      clear n1 n2 hB hK
      go_wp2_with fail
      refine (HL.out W hTW.out).mono ?_
      rintro e w7 ⟨rfl, rfl⟩
      go_wp2_with fail
      all_goals try (exfalso; omega)
      all_goals (
        refine (works_any W hTW.out).mono ?_
        rintro e w7 ⟨rfl, hu7⟩
        have hK7 := (hu7.heap hKD.out (by have := (Array.getElem?_eq_some_iff.1 hKD.out).1; unfold From; omega))
        have HU7 := Lib.hid (HB.out.from (hu7.mono (fun i _ h => by have := HB.out.size; unfold From at *; omega)))
        clear hu7
        go_wp2
        refine postM_ret1 hK7 (v := .bool true) (by simp [results, Tryd.f7, go_sem]) ⟨rfl, ?_⟩
        exact (HU7.out.bk (Bk.putObj (n := w.heap.size) (G := NoF) hK7 rfl (by omega) _) (Nat.le_refl _) (fun _ h => h.elim)).belowFrom (Nat.le_refl _))
    case stp =>
      rintro D c k W hD hkl _ hK
      omega
  · obtain ⟨i3, _, _⟩ := row_is1 HR5.out
    obtain ⟨x0, rfl, g0⟩ := i3.2.2 0 hpos
    have g0 : w5.cell? x0 = some (.int .i64 lv) := by rw [← hg, ← (show x0.add 0 = x0 from by cases x0; rfl)]; exact g0
    clear hg i3
    go_wp2_with (go_at_call 23; refine (mall_any _ _).mono ?_; rintro e w' ⟨rfl, rfl⟩)
    obtain ⟨W3, hW3⟩ : ∃ W3, (w5.alloc (.cells #[.int .i64 0] 3)).alloc (.cells #[VM m] 25) = W3 := ⟨_, rfl⟩
    have hu3 : Upd NoF w5 W3 := by rw [← hW3]; exact (Upd.alloc NoF w5 _).trans (Upd.alloc NoF _ _) (fun _ _ h => h)
    have qn : Blk W3 w5.heap.size #[.int .i64 ((0 : Nat) : Int)] 3 := by rw [← hW3]; exact (Blk.new w5 _ _).alloc _
    have qp : Blk W3 (w5.heap.size + 1) #[VM m] 25 := by
      rw [← hW3]; have := Blk.new (w5.alloc (.cells #[.int .i64 0] 3)) #[VM m] 25
      rwa [World.size_alloc] at this
    have hsz3 : W3.heap.size = w5.heap.size + 2 := by rw [← hW3]; simp
    have hU3 := HU5.out.from hu3.toFrom
    have hQ3 := Q5.out.upd hu3 (fun h => h)
    have hT3 := HT5.out.upd hu3 (fun h => h)
    rw [hW3]
    clear hW3 hu3
    have hseq := mall_seq (w5.heap.size + 1) m (fun k => k = w5.heap.size ∨ W3.heap.size ≤ k) (by omega) (by omega) (by omega) W3 qp hT3
    rw [Hl.out] at hseq
    refine wp_range (gf := 28) (lb := #[.pointer (some ⟨w5.heap.size + 1, 0, none⟩)]) rfl (enters_of Tryd.func28 (by kernel_rfl) rfl)
      hseq (fun _ => rfl) (fun k hk => by omega) (fun k hk => .inr hk)
      (fun k W => (k = 0 ∨ (k : Int) ≤ early) ∧ Blk W w5.heap.size #[.int .i64 (k : Int)] 3 ∧ Blk W w.heap.size #[.int .i64 early] 3 ∧ Upd (From w.heap.size) w W)
      (fun c k W => c = .exit 0 ∧ (k = 0 ∨ (k : Int) ≤ early) ∧ early < (k : Int) + 1 ∧ Blk W w5.heap.size #[.int .i64 ((k : Int) + 1)] 3 ∧ Blk W w.heap.size #[.int .i64 early] 3 ∧ Upd (From w.heap.size) w W)
      (fun k A B hs hb => ⟨hs.1, hs.2.1.bk hb (by omega), hs.2.2.1.bk hb (by omega), hs.2.2.2.bk hb (by omega) (fun _ h => by omega)⟩)
      (fun c k A B hs hb => ⟨hs.1, hs.2.1, hs.2.2.1, hs.2.2.2.1.bk hb (by omega), hs.2.2.2.2.1.bk hb (by omega), hs.2.2.2.2.2.bk hb (by omega) (fun _ h => by omega)⟩)
      ⟨.inl rfl, qn, hQ3, hU3⟩
      ?rnd ?dn ?stp
    case rnd =>
      intro l k x hx W9 K' hK'
      gi_wp2
      rintro W ⟨hk, n1, n2, hB⟩
      have hkL : k < L.length := (List.getElem?_eq_some_iff.1 hx).1
      have m1 : W.cell? ⟨w5.heap.size, 0, none⟩ = some (.int .i64 (k : Int)) := n1.cell 0
      have m1' := n1.frozen 0
      have m2 : W.cell? ⟨w.heap.size, 0, none⟩ = some (.int .i64 early) := n2.cell 0
      by_cases hlast : early < (k : Int) + 1
      · gi_wp2
        exact ⟨Upd.setCell _ (p := ⟨w5.heap.size, 0, none⟩) (.inl rfl) _, rfl, hk, hlast, n1.set 0 _, n2.other 0 _ (by omega),
          hB.from (Upd.setCell _ (p := ⟨w5.heap.size, 0, none⟩) (show w.heap.size ≤ w5.heap.size by omega) _)⟩
      · gi_wp2
        exact ⟨Upd.setCell _ (p := ⟨w5.heap.size, 0, none⟩) (.inl rfl) _, .inr (by omega), n1.set 0 _, n2.other 0 _ (by omega),
          hB.from (Upd.setCell _ (p := ⟨w5.heap.size, 0, none⟩) (show w.heap.size ≤ w5.heap.size by omega) _)⟩
    case dn =>
      rintro D W hD ⟨hk, n1, n2, hB⟩ hK
      have m1 : W.cell? ⟨w5.heap.size, 0, none⟩ = some (.int .i64 (L.length : Int)) := n1.cell 0
      have m2 : W.cell? ⟨w.heap.size, 0, none⟩ = some (.int .i64 early) := n2.cell 0
      have hTW := Lib.hid (HT.out.from hB (by omega))
      have hmin : min (max (min early 99 + 1) 1) (L.length : Int) = (L.length : Int) := by omega
      have hKD := Lib.hid hK; have HB := Lib.hid hB
      clear n1 n2 hB hK
      go_wp2_with fail
      refine (HL.out W hTW.out).mono ?_
      rintro e w7 ⟨rfl, rfl⟩
      go_wp2_with fail
      all_goals try (exfalso; omega)
      all_goals (
        refine (works_any W hTW.out).mono ?_
        rintro e w7 ⟨rfl, hu7⟩
        have hK7 := (hu7.heap hKD.out (by have := (Array.getElem?_eq_some_iff.1 hKD.out).1; unfold From; omega))
        have HU7 := Lib.hid (HB.out.from (hu7.mono (fun i _ h => by have := HB.out.size; unfold From at *; omega)))
        clear hu7
        go_wp2
        refine postM_ret1 hK7 (v := .bool true) (by simp [results, Tryd.f7, go_sem]) ⟨rfl, ?_⟩
        exact (HU7.out.bk (Bk.putObj (n := w.heap.size) (G := NoF) hK7 rfl (by omega) _) (Nat.le_refl _) (fun _ h => h.elim)).belowFrom (Nat.le_refl _))
    case stp =>
      rintro D c k W hD hkl ⟨rfl, hk, hbr, n1, n2, hB⟩ hK
      have m1 : W.cell? ⟨w5.heap.size, 0, none⟩ = some (.int .i64 ((k : Int) + 1)) := n1.cell 0
      have m2 : W.cell? ⟨w.heap.size, 0, none⟩ = some (.int .i64 early) := n2.cell 0
      have hTW := Lib.hid (HT.out.from hB (by omega))
      have hmin : min (max (min early 99 + 1) 1) (L.length : Int) = (k : Int) + 1 := by omega
      have hKD := Lib.hid hK; have HB := Lib.hid hB
      clear n1 n2 hB hK
      go_wp2_with fail
      refine (HL.out W hTW.out).mono ?_
      rintro e w7 ⟨rfl, rfl⟩
      go_wp2_with fail
      all_goals try (exfalso; omega)
      all_goals (
        refine (works_any W hTW.out).mono ?_
        rintro e w7 ⟨rfl, hu7⟩
        have hK7 := (hu7.heap hKD.out (by have := (Array.getElem?_eq_some_iff.1 hKD.out).1; unfold From; omega))
        have HU7 := Lib.hid (HB.out.from (hu7.mono (fun i _ h => by have := HB.out.size; unfold From at *; omega)))
        clear hu7
        go_wp2
        refine postM_ret1 hK7 (v := .bool true) (by simp [results, Tryd.f7, go_sem]) ⟨rfl, ?_⟩
        exact (HU7.out.bk (Bk.putObj (n := w.heap.size) (G := NoF) hK7 rfl (by omega) _) (Nat.le_refl _) (fun _ h => h.elim)).belowFrom (Nat.le_refl _))
theorem lists_int (a : Int) (h : 0 ≤ a ∧ a ≤ 4294967295) (early : Int) (he : -9223372036854775808 ≤ early ∧ early ≤ 9223372036854775807) (w : World) (hT : Tab w) : Calls Tryd.prog 7 #[.int .u32 a, .int .i64 early] w fun e w' => e = .returned (.bool true) ∧ Below w.heap.size w w' := by
  obtain ⟨m, rfl⟩ := mk_of h.1 h.2
  exact lists_any m early he w hT
end Go.Proofs.YtamebdebpgakfaaDoor.ML
