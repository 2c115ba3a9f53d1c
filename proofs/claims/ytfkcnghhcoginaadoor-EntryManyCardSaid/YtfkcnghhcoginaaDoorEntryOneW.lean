/- The walk of the statement EntryOne, and what the law's 'known' tells. -/
import Derived.Test.YtfkcnghhcoginaaDoorEntryAsksW
import Derived.Test.YtfkcnghhcoginaaDoorEntryOnePlain
set_option linter.unusedSimpArgs false
set_option linter.unusedVariables false
namespace Go.Proofs.YtfkcnghhcoginaaDoor.ET
open Go.RowKit
open ML
attribute [local go_sem] Oper.semAt_some run_eql_entry run_neq_entry

theorem known_e (o : Int) (s : Mk) (w : World) : Calls Tryd.prog 20 #[VE o s] w fun e w' => e = .returned (VM (knownE o s)) ∧ Upd NoF w w' := by
  have HU := Lib.hid (Upd.alloc NoF w (.cells #[.int .i64 o, VM s] 25))
  have a1 := fun W => with_any s o W
  generalize hm : knownE o s = m
  unfold knownE at hm
  rw [hm] at a1
  have HA := Lib.hid a1
  clear a1 hm
  go_enter Tryd.func20, Tryd.ntmps20
  go_wp2_with (go_at_call 22; refine (HA.out _).mono ?_; rintro e w' ⟨rfl, rfl⟩)
  go_ret
  exact ⟨rfl, HU.out⟩

/-- What is told behind an ask that may be. -/
theorem one_facts {o k x : Int} {s : Mk} (ha : askE o s k x = true) : ∃ (p : Int) (q : Mk) (st : Int), getsV o s k x = .tuple #[.agg #[.int .i64 p, VM q], .int .u8 st, .int .i64 0] ∧ askedV o s k x = .tuple #[VM (whoE o s k x), .int .u8 (k + 3), .int .i64 0] ∧
    mayE p q = true ∧ inM (whoE o s k x) x = false ∧ inM (knownE p q) x = true ∧ ((st = 1 ∧ p = -1 ∧ 2 ≤ (bitsL q).length) ∨ (p = x ∧ knownE p q = 0#32 ||| bitB x ∧ (st = 2 ∨ st = 3))) := by
  obtain ⟨⟨hm, hk⟩, hx⟩ : (mayE o s = true ∧ (k = 1 ∨ k = 2)) ∧ coreB x = true := by
    unfold askE at ha
    simpa using ha
  have hw : inM (whoE o s k x) x = false := by unfold whoE; exact inM_andNot _ _
  have h1 : askedV o s k x = .tuple #[VM (whoE o s k x), .int .u8 (k + 3), .int .i64 0] := by unfold askedV; rw [ha, if_pos rfl]
  by_cases h2 : k = 2
  · exact ⟨x, 0#32, 3, by unfold getsV; rw [ha, if_pos rfl, if_pos h2], h1, may_zero hx, hw, in_self hx, .inr ⟨rfl, rfl, .inr rfl⟩⟩
  · by_cases h3 : othersE o s x = 0#32
    · exact ⟨x, 0#32, 2, by unfold getsV; rw [ha, if_pos rfl, if_neg h2, if_pos h3], h1, may_zero hx, hw, in_self hx, .inr ⟨rfl, rfl, .inl rfl⟩⟩
    · exact ⟨-1, othersE o s x ||| bitB x, 1, by unfold getsV; rw [ha, if_pos rfl, if_neg h2, if_neg h3], h1, may_shared hm hx, hw, by rw [known_shared]; exact in_self hx, .inl ⟨rfl, rfl, count_shared hx h3⟩⟩

set_option maxRecDepth 100000 in
set_option maxHeartbeats 2000000 in
theorem one_law (o : Int) (s : Mk) (k x : Int) (w : World) (hT : Tab w) : Calls Tryd.prog 6 #[VE o s, .int .u8 k, .int .i64 x] w fun e w' => e = .returned (.bool true) ∧ Below w.heap.size w w' := by
  have HT := Lib.hid hT; clear hT
  have ha := fun W hW => asked_e o s k x W hW
  have hc := fun W hW => gets_e o s k x W hW
  cases hask : askE o s k x
  · rw [show askedV o s k x = .tuple #[.int .u32 0, .int .u8 0, .int .i64 2] from by unfold askedV; rw [hask]; rfl] at ha
    rw [show getsV o s k x = .tuple #[.agg #[.int .i64 0, .int .u32 0], .int .u8 0, .int .i64 2] from by unfold getsV; rw [hask]; rfl] at hc
    have HA := Lib.hid ha; have HC := Lib.hid hc
    clear ha hc hask
    go_enter Tryd.func6, Tryd.ntmps6
    go_wp2_with fail
    obtain ⟨w0, hw0⟩ : ∃ W, (w.alloc (.cells #[.int .i64 o, VM s] 25)) = W := ⟨_, rfl⟩
    have hu : Upd NoF w w0 := by rw [← hw0]; exact Upd.alloc NoF w _
    have HQ_e : Hid (Blk w0 w.heap.size #[.int .i64 o, VM s] 25) := by
      have hb := Blk.new w #[.int .i64 o, VM s] 25
      rw [← hw0]; exact hb
    rw [hw0]
    have HU0 := Lib.hid hu
    clear hw0 hu
    have c_e_0 : w0.cell? ⟨w.heap.size, 0, none⟩ = some (.int .i64 o) := HQ_e.out.cell 0
    have c_e_1 : w0.cell? ⟨w.heap.size, 1, none⟩ = some (VM s) := HQ_e.out.cell 1
    refine (HA.out w0 (HT.out.upd HU0.out (fun h => h))).mono ?_
    rintro e w1 ⟨rfl, hu⟩
    have HU1 := Lib.hid (HU0.out.trans hu (fun _ _ h => h))
    replace HQ_e := Lib.hid (HQ_e.out.upd hu (fun h => h))
    clear hu
    clear c_e_0 c_e_1
    have c_e_0 : w1.cell? ⟨w.heap.size, 0, none⟩ = some (.int .i64 o) := HQ_e.out.cell 0
    have c_e_1 : w1.cell? ⟨w.heap.size, 1, none⟩ = some (VM s) := HQ_e.out.cell 1
    go_wp2_with fail
    refine (HC.out w1 (HT.out.upd HU1.out (fun h => h))).mono ?_
    rintro e w2 ⟨rfl, hu⟩
    have HU2 := Lib.hid (HU1.out.trans hu (fun _ _ h => h))
    replace HQ_e := Lib.hid (HQ_e.out.upd hu (fun h => h))
    clear hu
    clear c_e_0 c_e_1
    have c_e_0 : w2.cell? ⟨w.heap.size, 0, none⟩ = some (.int .i64 o) := HQ_e.out.cell 0
    have c_e_1 : w2.cell? ⟨w.heap.size, 1, none⟩ = some (VM s) := HQ_e.out.cell 1
    have c_e_0_p0 : (w2.alloc (.cells #[.int .i64 0, .int .u32 0] 25)).cell? ⟨w.heap.size, 0, none⟩ = some (.int .i64 o) := (HQ_e.out.alloc _).cell 0
    have c_e_1_p0 : (w2.alloc (.cells #[.int .i64 0, .int .u32 0] 25)).cell? ⟨w.heap.size, 1, none⟩ = some (VM s) := (HQ_e.out.alloc _).cell 1
    go_wp2_with fail
    obtain ⟨w3, hw3⟩ : ∃ W, (w2.alloc (.cells #[.int .i64 0, .int .u32 0] 25)) = W := ⟨_, rfl⟩
    have hu : Upd NoF w2 w3 := by rw [← hw3]; exact Upd.alloc NoF w2 _
    replace HQ_e := Lib.hid (HQ_e.out.upd hu (fun h => h))
    have HQ_p : Hid (Blk w3 w2.heap.size #[.int .i64 0, .int .u32 0] 25) := by
      have hb := Blk.new w2 #[.int .i64 0, .int .u32 0] 25
      rw [← hw3]; exact hb
    rw [hw3]
    have HU3 := Lib.hid (HU2.out.trans hu (fun _ _ h => h))
    clear hw3 hu
    clear c_e_0 c_e_1 c_e_0_p0 c_e_1_p0
    have c_e_0 : w3.cell? ⟨w.heap.size, 0, none⟩ = some (.int .i64 o) := HQ_e.out.cell 0
    have c_e_1 : w3.cell? ⟨w.heap.size, 1, none⟩ = some (VM s) := HQ_e.out.cell 1
    refine (works_e w3 (HT.out.upd HU3.out (fun h => h))).mono ?_
    rintro e w4 ⟨rfl, hu⟩
    have HU4 := Lib.hid (HU3.out.trans hu (fun _ _ h => h))
    replace HQ_e := Lib.hid (HQ_e.out.upd hu (fun h => h))
    replace HQ_p := Lib.hid (HQ_p.out.upd hu (fun h => h))
    clear hu
    clear c_e_0 c_e_1
    have c_e_0 : w4.cell? ⟨w.heap.size, 0, none⟩ = some (.int .i64 o) := HQ_e.out.cell 0
    have c_e_1 : w4.cell? ⟨w.heap.size, 1, none⟩ = some (VM s) := HQ_e.out.cell 1
    go_wp2
    go_ret
    exact ⟨rfl, (HU4.out.toFrom (B := w.heap.size)).belowFrom (Nat.le_refl _)⟩
  · obtain ⟨p, q, st, hg, hv, hmay, hin, hkn, hst⟩ := one_facts hask
    rw [hv] at ha
    rw [hg] at hc
    generalize whoE o s k x = wh at *
    have hM := fun W hW => may_any p q W hW
    rw [hmay] at hM
    have hH := fun W => has_any wh x W
    rw [hin] at hH
    have hK := fun W => known_e p q W
    have hI := fun W => has_any (knownE p q) x W
    rw [hkn] at hI
    have hW := fun W => with_any 0#32 x W
    have hN := fun W => count_any q W
    have HA := Lib.hid ha; have HC := Lib.hid hc; have HM := Lib.hid hM; have HH := Lib.hid hH
    rcases hst with ⟨rfl, rfl, h2⟩ | ⟨hpx, hke, hst⟩
    · have h2' : decide ((1 : Int) < ((bitsL q).length : Int)) = true := by simp; omega
      generalize ((bitsL q).length : Int) = cn at *
      generalize knownE (-1) q = kn at *
      have HK := Lib.hid hK; have HI := Lib.hid hI; have HN := Lib.hid hN
      clear ha hc hM hH hK hI hN hask hg hv hmay hin hkn hW h2
      go_enter Tryd.func6, Tryd.ntmps6
      go_wp2_with fail
      obtain ⟨w0, hw0⟩ : ∃ W, (w.alloc (.cells #[.int .i64 o, VM s] 25)) = W := ⟨_, rfl⟩
      have hu : Upd NoF w w0 := by rw [← hw0]; exact Upd.alloc NoF w _
      have HQ_e : Hid (Blk w0 w.heap.size #[.int .i64 o, VM s] 25) := by
        have hb := Blk.new w #[.int .i64 o, VM s] 25
        rw [← hw0]; exact hb
      rw [hw0]
      have HU0 := Lib.hid hu
      clear hw0 hu
      have c_e_0 : w0.cell? ⟨w.heap.size, 0, none⟩ = some (.int .i64 o) := HQ_e.out.cell 0
      have c_e_1 : w0.cell? ⟨w.heap.size, 1, none⟩ = some (VM s) := HQ_e.out.cell 1
      refine (HA.out w0 (HT.out.upd HU0.out (fun h => h))).mono ?_
      rintro e w1 ⟨rfl, hu⟩
      have HU1 := Lib.hid (HU0.out.trans hu (fun _ _ h => h))
      replace HQ_e := Lib.hid (HQ_e.out.upd hu (fun h => h))
      clear hu
      clear c_e_0 c_e_1
      have c_e_0 : w1.cell? ⟨w.heap.size, 0, none⟩ = some (.int .i64 o) := HQ_e.out.cell 0
      have c_e_1 : w1.cell? ⟨w.heap.size, 1, none⟩ = some (VM s) := HQ_e.out.cell 1
      go_wp2_with fail
      refine (HC.out w1 (HT.out.upd HU1.out (fun h => h))).mono ?_
      rintro e w2 ⟨rfl, hu⟩
      have HU2 := Lib.hid (HU1.out.trans hu (fun _ _ h => h))
      replace HQ_e := Lib.hid (HQ_e.out.upd hu (fun h => h))
      clear hu
      clear c_e_0 c_e_1
      have c_e_0 : w2.cell? ⟨w.heap.size, 0, none⟩ = some (.int .i64 o) := HQ_e.out.cell 0
      have c_e_1 : w2.cell? ⟨w.heap.size, 1, none⟩ = some (VM s) := HQ_e.out.cell 1
      have c_e_0_p0 : (w2.alloc (.cells #[.int .i64 (-1), VM q] 25)).cell? ⟨w.heap.size, 0, none⟩ = some (.int .i64 o) := (HQ_e.out.alloc _).cell 0
      have c_e_1_p0 : (w2.alloc (.cells #[.int .i64 (-1), VM q] 25)).cell? ⟨w.heap.size, 1, none⟩ = some (VM s) := (HQ_e.out.alloc _).cell 1
      go_wp2_with fail
      obtain ⟨w3, hw3⟩ : ∃ W, (w2.alloc (.cells #[.int .i64 (-1), VM q] 25)) = W := ⟨_, rfl⟩
      have hu : Upd NoF w2 w3 := by rw [← hw3]; exact Upd.alloc NoF w2 _
      replace HQ_e := Lib.hid (HQ_e.out.upd hu (fun h => h))
      have HQ_p : Hid (Blk w3 w2.heap.size #[.int .i64 (-1), VM q] 25) := by
        have hb := Blk.new w2 #[.int .i64 (-1), VM q] 25
        rw [← hw3]; exact hb
      rw [hw3]
      have HU3 := Lib.hid (HU2.out.trans hu (fun _ _ h => h))
      clear hw3 hu
      clear c_e_0 c_e_1 c_e_0_p0 c_e_1_p0
      have c_e_0 : w3.cell? ⟨w.heap.size, 0, none⟩ = some (.int .i64 o) := HQ_e.out.cell 0
      have c_e_1 : w3.cell? ⟨w.heap.size, 1, none⟩ = some (VM s) := HQ_e.out.cell 1
      have c_p_0 : w3.cell? ⟨w2.heap.size, 0, none⟩ = some (.int .i64 (-1)) := HQ_p.out.cell 0
      have c_p_1 : w3.cell? ⟨w2.heap.size, 1, none⟩ = some (VM q) := HQ_p.out.cell 1
      refine (HM.out w3 (HT.out.upd HU3.out (fun h => h))).mono ?_
      rintro e w4 ⟨rfl, hu⟩
      have HU4 := Lib.hid (HU3.out.trans hu (fun _ _ h => h))
      replace HQ_e := Lib.hid (HQ_e.out.upd hu (fun h => h))
      replace HQ_p := Lib.hid (HQ_p.out.upd hu (fun h => h))
      clear hu
      clear c_e_0 c_e_1 c_p_0 c_p_1
      have c_e_0 : w4.cell? ⟨w.heap.size, 0, none⟩ = some (.int .i64 o) := HQ_e.out.cell 0
      have c_e_1 : w4.cell? ⟨w.heap.size, 1, none⟩ = some (VM s) := HQ_e.out.cell 1
      have c_p_0 : w4.cell? ⟨w2.heap.size, 0, none⟩ = some (.int .i64 (-1)) := HQ_p.out.cell 0
      have c_p_1 : w4.cell? ⟨w2.heap.size, 1, none⟩ = some (VM q) := HQ_p.out.cell 1
      go_wp2_with (first | (go_at_call_of 21 wh; refine (HH.out _).mono ?_; rintro e w' ⟨rfl, rfl⟩) | (go_at_call_of 21 kn; refine (HI.out _).mono ?_; rintro e w' ⟨rfl, rfl⟩))
      refine (HK.out w4).mono ?_
      rintro e w5 ⟨rfl, hu⟩
      have HU5 := Lib.hid (HU4.out.trans hu (fun _ _ h => h))
      replace HQ_e := Lib.hid (HQ_e.out.upd hu (fun h => h))
      replace HQ_p := Lib.hid (HQ_p.out.upd hu (fun h => h))
      clear hu
      clear c_e_0 c_e_1 c_p_0 c_p_1
      have c_e_0 : w5.cell? ⟨w.heap.size, 0, none⟩ = some (.int .i64 o) := HQ_e.out.cell 0
      have c_e_1 : w5.cell? ⟨w.heap.size, 1, none⟩ = some (VM s) := HQ_e.out.cell 1
      have c_p_0 : w5.cell? ⟨w2.heap.size, 0, none⟩ = some (.int .i64 (-1)) := HQ_p.out.cell 0
      have c_p_1 : w5.cell? ⟨w2.heap.size, 1, none⟩ = some (VM q) := HQ_p.out.cell 1
      go_wp2_with (first | (go_at_call_of 21 wh; refine (HH.out _).mono ?_; rintro e w' ⟨rfl, rfl⟩) | (go_at_call_of 21 kn; refine (HI.out _).mono ?_; rintro e w' ⟨rfl, rfl⟩))
      refine (HN.out w5).mono ?_
      rintro e w6 ⟨rfl, hu⟩
      have HU6 := Lib.hid (HU5.out.trans hu (fun _ _ h => h))
      replace HQ_e := Lib.hid (HQ_e.out.upd hu (fun h => h))
      replace HQ_p := Lib.hid (HQ_p.out.upd hu (fun h => h))
      clear hu
      clear c_e_0 c_e_1 c_p_0 c_p_1
      have c_e_0 : w6.cell? ⟨w.heap.size, 0, none⟩ = some (.int .i64 o) := HQ_e.out.cell 0
      have c_e_1 : w6.cell? ⟨w.heap.size, 1, none⟩ = some (VM s) := HQ_e.out.cell 1
      have c_p_0 : w6.cell? ⟨w2.heap.size, 0, none⟩ = some (.int .i64 (-1)) := HQ_p.out.cell 0
      have c_p_1 : w6.cell? ⟨w2.heap.size, 1, none⟩ = some (VM q) := HQ_p.out.cell 1
      go_wp2_with fail
      refine (works_e w6 (HT.out.upd HU6.out (fun h => h))).mono ?_
      rintro e w7 ⟨rfl, hu⟩
      have HU7 := Lib.hid (HU6.out.trans hu (fun _ _ h => h))
      replace HQ_e := Lib.hid (HQ_e.out.upd hu (fun h => h))
      replace HQ_p := Lib.hid (HQ_p.out.upd hu (fun h => h))
      clear hu
      clear c_e_0 c_e_1 c_p_0 c_p_1
      have c_e_0 : w7.cell? ⟨w.heap.size, 0, none⟩ = some (.int .i64 o) := HQ_e.out.cell 0
      have c_e_1 : w7.cell? ⟨w.heap.size, 1, none⟩ = some (VM s) := HQ_e.out.cell 1
      have c_p_0 : w7.cell? ⟨w2.heap.size, 0, none⟩ = some (.int .i64 (-1)) := HQ_p.out.cell 0
      have c_p_1 : w7.cell? ⟨w2.heap.size, 1, none⟩ = some (VM q) := HQ_p.out.cell 1
      go_wp2
      go_ret
      exact ⟨rfl, (HU7.out.toFrom (B := w.heap.size)).belowFrom (Nat.le_refl _)⟩
    · subst hpx
      rw [← hke] at hW
      generalize knownE p q = kn at *
      have HK := Lib.hid hK; have HI := Lib.hid hI; have HW := Lib.hid hW
      clear ha hc hM hH hK hI hN hask hg hv hmay hin hkn hW hke
      rcases hst with rfl | rfl
      all_goals
        go_enter Tryd.func6, Tryd.ntmps6
        go_wp2_with fail
        obtain ⟨w0, hw0⟩ : ∃ W, (w.alloc (.cells #[.int .i64 o, VM s] 25)) = W := ⟨_, rfl⟩
        have hu : Upd NoF w w0 := by rw [← hw0]; exact Upd.alloc NoF w _
        have HQ_e : Hid (Blk w0 w.heap.size #[.int .i64 o, VM s] 25) := by
          have hb := Blk.new w #[.int .i64 o, VM s] 25
          rw [← hw0]; exact hb
        rw [hw0]
        have HU0 := Lib.hid hu
        clear hw0 hu
        have c_e_0 : w0.cell? ⟨w.heap.size, 0, none⟩ = some (.int .i64 o) := HQ_e.out.cell 0
        have c_e_1 : w0.cell? ⟨w.heap.size, 1, none⟩ = some (VM s) := HQ_e.out.cell 1
        refine (HA.out w0 (HT.out.upd HU0.out (fun h => h))).mono ?_
        rintro e w1 ⟨rfl, hu⟩
        have HU1 := Lib.hid (HU0.out.trans hu (fun _ _ h => h))
        replace HQ_e := Lib.hid (HQ_e.out.upd hu (fun h => h))
        clear hu
        clear c_e_0 c_e_1
        have c_e_0 : w1.cell? ⟨w.heap.size, 0, none⟩ = some (.int .i64 o) := HQ_e.out.cell 0
        have c_e_1 : w1.cell? ⟨w.heap.size, 1, none⟩ = some (VM s) := HQ_e.out.cell 1
        go_wp2_with fail
        refine (HC.out w1 (HT.out.upd HU1.out (fun h => h))).mono ?_
        rintro e w2 ⟨rfl, hu⟩
        have HU2 := Lib.hid (HU1.out.trans hu (fun _ _ h => h))
        replace HQ_e := Lib.hid (HQ_e.out.upd hu (fun h => h))
        clear hu
        clear c_e_0 c_e_1
        have c_e_0 : w2.cell? ⟨w.heap.size, 0, none⟩ = some (.int .i64 o) := HQ_e.out.cell 0
        have c_e_1 : w2.cell? ⟨w.heap.size, 1, none⟩ = some (VM s) := HQ_e.out.cell 1
        have c_e_0_p0 : (w2.alloc (.cells #[.int .i64 p, VM q] 25)).cell? ⟨w.heap.size, 0, none⟩ = some (.int .i64 o) := (HQ_e.out.alloc _).cell 0
        have c_e_1_p0 : (w2.alloc (.cells #[.int .i64 p, VM q] 25)).cell? ⟨w.heap.size, 1, none⟩ = some (VM s) := (HQ_e.out.alloc _).cell 1
        go_wp2_with fail
        obtain ⟨w3, hw3⟩ : ∃ W, (w2.alloc (.cells #[.int .i64 p, VM q] 25)) = W := ⟨_, rfl⟩
        have hu : Upd NoF w2 w3 := by rw [← hw3]; exact Upd.alloc NoF w2 _
        replace HQ_e := Lib.hid (HQ_e.out.upd hu (fun h => h))
        have HQ_p : Hid (Blk w3 w2.heap.size #[.int .i64 p, VM q] 25) := by
          have hb := Blk.new w2 #[.int .i64 p, VM q] 25
          rw [← hw3]; exact hb
        rw [hw3]
        have HU3 := Lib.hid (HU2.out.trans hu (fun _ _ h => h))
        clear hw3 hu
        clear c_e_0 c_e_1 c_e_0_p0 c_e_1_p0
        have c_e_0 : w3.cell? ⟨w.heap.size, 0, none⟩ = some (.int .i64 o) := HQ_e.out.cell 0
        have c_e_1 : w3.cell? ⟨w.heap.size, 1, none⟩ = some (VM s) := HQ_e.out.cell 1
        have c_p_0 : w3.cell? ⟨w2.heap.size, 0, none⟩ = some (.int .i64 p) := HQ_p.out.cell 0
        have c_p_1 : w3.cell? ⟨w2.heap.size, 1, none⟩ = some (VM q) := HQ_p.out.cell 1
        refine (HM.out w3 (HT.out.upd HU3.out (fun h => h))).mono ?_
        rintro e w4 ⟨rfl, hu⟩
        have HU4 := Lib.hid (HU3.out.trans hu (fun _ _ h => h))
        replace HQ_e := Lib.hid (HQ_e.out.upd hu (fun h => h))
        replace HQ_p := Lib.hid (HQ_p.out.upd hu (fun h => h))
        clear hu
        clear c_e_0 c_e_1 c_p_0 c_p_1
        have c_e_0 : w4.cell? ⟨w.heap.size, 0, none⟩ = some (.int .i64 o) := HQ_e.out.cell 0
        have c_e_1 : w4.cell? ⟨w.heap.size, 1, none⟩ = some (VM s) := HQ_e.out.cell 1
        have c_p_0 : w4.cell? ⟨w2.heap.size, 0, none⟩ = some (.int .i64 p) := HQ_p.out.cell 0
        have c_p_1 : w4.cell? ⟨w2.heap.size, 1, none⟩ = some (VM q) := HQ_p.out.cell 1
        go_wp2_with (first | (go_at_call_of 21 wh; refine (HH.out _).mono ?_; rintro e w' ⟨rfl, rfl⟩) | (go_at_call_of 21 kn; refine (HI.out _).mono ?_; rintro e w' ⟨rfl, rfl⟩))
        refine (HK.out w4).mono ?_
        rintro e w5 ⟨rfl, hu⟩
        have HU5 := Lib.hid (HU4.out.trans hu (fun _ _ h => h))
        replace HQ_e := Lib.hid (HQ_e.out.upd hu (fun h => h))
        replace HQ_p := Lib.hid (HQ_p.out.upd hu (fun h => h))
        clear hu
        clear c_e_0 c_e_1 c_p_0 c_p_1
        have c_e_0 : w5.cell? ⟨w.heap.size, 0, none⟩ = some (.int .i64 o) := HQ_e.out.cell 0
        have c_e_1 : w5.cell? ⟨w.heap.size, 1, none⟩ = some (VM s) := HQ_e.out.cell 1
        have c_p_0 : w5.cell? ⟨w2.heap.size, 0, none⟩ = some (.int .i64 p) := HQ_p.out.cell 0
        have c_p_1 : w5.cell? ⟨w2.heap.size, 1, none⟩ = some (VM q) := HQ_p.out.cell 1
        go_wp2_with (first | (go_at_call_of 21 wh; refine (HH.out _).mono ?_; rintro e w' ⟨rfl, rfl⟩) | (go_at_call_of 21 kn; refine (HI.out _).mono ?_; rintro e w' ⟨rfl, rfl⟩))
        refine (HK.out w5).mono ?_
        rintro e w6 ⟨rfl, hu⟩
        have HU6 := Lib.hid (HU5.out.trans hu (fun _ _ h => h))
        replace HQ_e := Lib.hid (HQ_e.out.upd hu (fun h => h))
        replace HQ_p := Lib.hid (HQ_p.out.upd hu (fun h => h))
        clear hu
        clear c_e_0 c_e_1 c_p_0 c_p_1
        have c_e_0 : w6.cell? ⟨w.heap.size, 0, none⟩ = some (.int .i64 o) := HQ_e.out.cell 0
        have c_e_1 : w6.cell? ⟨w.heap.size, 1, none⟩ = some (VM s) := HQ_e.out.cell 1
        have c_p_0 : w6.cell? ⟨w2.heap.size, 0, none⟩ = some (.int .i64 p) := HQ_p.out.cell 0
        have c_p_1 : w6.cell? ⟨w2.heap.size, 1, none⟩ = some (VM q) := HQ_p.out.cell 1
        go_wp2_with (go_at_call 22; refine (HW.out _).mono ?_; rintro e w' ⟨rfl, rfl⟩)
        refine (works_e w6 (HT.out.upd HU6.out (fun h => h))).mono ?_
        rintro e w7 ⟨rfl, hu⟩
        have HU7 := Lib.hid (HU6.out.trans hu (fun _ _ h => h))
        replace HQ_e := Lib.hid (HQ_e.out.upd hu (fun h => h))
        replace HQ_p := Lib.hid (HQ_p.out.upd hu (fun h => h))
        clear hu
        clear c_e_0 c_e_1 c_p_0 c_p_1
        have c_e_0 : w7.cell? ⟨w.heap.size, 0, none⟩ = some (.int .i64 o) := HQ_e.out.cell 0
        have c_e_1 : w7.cell? ⟨w.heap.size, 1, none⟩ = some (VM s) := HQ_e.out.cell 1
        have c_p_0 : w7.cell? ⟨w2.heap.size, 0, none⟩ = some (.int .i64 p) := HQ_p.out.cell 0
        have c_p_1 : w7.cell? ⟨w2.heap.size, 1, none⟩ = some (VM q) := HQ_p.out.cell 1
        go_wp2
        go_ret
        exact ⟨rfl, (HU7.out.toFrom (B := w.heap.size)).belowFrom (Nat.le_refl _)⟩
theorem one_int (o a : Int) (h : 0 ≤ a ∧ a ≤ 4294967295) (k x : Int) (w : World) (hT : Tab w) : Calls Tryd.prog 6 #[.agg #[.int .i64 o, .int .u32 a], .int .u8 k, .int .i64 x] w fun e w' => e = .returned (.bool true) ∧ Below w.heap.size w w' := by
  obtain ⟨m, rfl⟩ := mk_of h.1 h.2
  exact one_law o m k x w hT
end Go.Proofs.YtfkcnghhcoginaaDoor.ET
