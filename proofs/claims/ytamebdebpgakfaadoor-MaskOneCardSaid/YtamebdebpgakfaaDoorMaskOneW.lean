/- MaskOne: with a number and without it. -/
import Derived.Test.YtamebdebpgakfaaDoorMaskWorks
set_option linter.unusedSimpArgs false
set_option linter.unusedVariables false
namespace Go.Proofs.YtamebdebpgakfaaDoor.ML
open Go.RowKit
attribute [local go_sem] Oper.semAt_some

theorem or_self (m : Mk) (n : Int) (h0 : 0 ≤ n) (h1 : n ≤ 31) : inM (m ||| bitB n) n = true := by
  unfold inM
  rw [bitB_in h0 h1]
  simp [h0, h1, BitVec.getLsbD_or, BitVec.getLsbD_twoPow, show n.toNat < 32 by omega]
theorem or_then (m : Mk) (n : Int) : (m ||| bitB n) &&& ~~~ bitB n = m &&& ~~~ bitB n := by
  apply ext_inM
  intro i hi
  simp only [BitVec.getLsbD_or, BitVec.getLsbD_and, BitVec.getLsbD_not, hi, decide_true, Bool.true_and]
  cases m.getLsbD i <;> cases (bitB n).getLsbD i <;> rfl
theorem out_then (m : Mk) (n : Int) : (m &&& ~~~ bitB n) ||| bitB n = m ||| bitB n := by
  apply ext_inM
  intro i hi
  simp only [BitVec.getLsbD_or, BitVec.getLsbD_and, BitVec.getLsbD_not, hi, decide_true, Bool.true_and]
  cases m.getLsbD i <;> cases (bitB n).getLsbD i <;> rfl
theorem bitB_other {n o : Int} (h : o ≠ n) (ho : 0 ≤ o) : (bitB n).getLsbD o.toNat = false := by
  by_cases hr : 0 ≤ n ∧ n ≤ 31
  · rw [bitB_in hr.1 hr.2, BitVec.getLsbD_twoPow]
    have : n.toNat ≠ o.toNat := by omega
    simp [this]
  · rw [bitB_out (by omega)]; simp
theorem or_other (m : Mk) (n o : Int) (h : o ≠ n) : inM (m ||| bitB n) o = inM m o := by
  unfold inM
  by_cases ho : 0 ≤ o
  · rw [BitVec.getLsbD_or, bitB_other h ho, Bool.or_false]
  · simp [ho]
theorem andNot_other (m : Mk) (n o : Int) (h : o ≠ n) : inM (m &&& ~~~ bitB n) o = inM m o := by
  unfold inM
  by_cases ho : 0 ≤ o
  · by_cases h1 : o ≤ 31
    · rw [BitVec.getLsbD_and, BitVec.getLsbD_not, bitB_other h ho]
      simp [show o.toNat < 32 by omega]
    · simp [h1]
  · simp [ho]
theorem countP_or {α : Type} (p q : α → Bool) (l : List α) (h : ∀ a ∈ l, p a = true → q a = false) : l.countP (fun a => p a || q a) = l.countP p + l.countP q := by
  induction l with
  | nil => rfl
  | cons a l ih =>
    have := ih (fun b hb => h b (by simp [hb]))
    have ha := h a (by simp)
    simp only [List.countP_cons, this]
    cases hp : p a <;> cases hq : q a <;> simp_all <;> omega
theorem one_at : ∀ k : Fin 32, (List.range 32).countP (fun i => decide (k.val = i)) = 1 := by decide +kernel
theorem one_more (m : Mk) (n : Int) (h0 : 0 ≤ n) (h1 : n ≤ 31) : (bitsL (m ||| bitB n)).length = (bitsL (m &&& ~~~ bitB n)).length + 1 := by
  have hk : n.toNat < 32 := by omega
  unfold bitsL
  rw [← List.countP_eq_length_filter, ← List.countP_eq_length_filter]
  have e := countP_or (fun i => (m &&& ~~~ bitB n).getLsbD i) (fun i => decide (n.toNat = i)) (List.range 32) (by
    intro a ha hp
    have ha : a < 32 := List.mem_range.1 ha
    rw [bitB_in h0 h1, BitVec.getLsbD_and, BitVec.getLsbD_not, BitVec.getLsbD_twoPow] at hp
    simp only [ha, decide_true, Bool.true_and, hk, Bool.and_eq_true, Bool.not_eq_true'] at hp
    exact hp.2)
  rw [one_at ⟨n.toNat, hk⟩] at e
  rw [← e]
  apply List.countP_congr
  intro i hi
  have hi : i < 32 := List.mem_range.1 hi
  rw [bitB_in h0 h1]
  simp only [BitVec.getLsbD_or, BitVec.getLsbD_and, BitVec.getLsbD_not, BitVec.getLsbD_twoPow, hi, decide_true, Bool.true_and, show n.toNat < 32 from hk]
  cases m.getLsbD i <;> cases decide (n.toNat = i) <;> simp

set_option maxRecDepth 100000 in
set_option maxHeartbeats 1000000 in
theorem one_any (m : Mk) (n other : Int) (w : World) (hT : Tab w) : Calls Tryd.prog 8 #[VM m, .int .i64 n, .int .i64 other] w fun e w' => e = .returned (.bool true) ∧ Below w.heap.size w w' := by
  have HT := Lib.hid hT
  clear hT
  by_cases hr : n < 0 ∨ 31 < n
  · have hb : bitB n = 0#32 := (bitB_zero_iff n).2 hr
    have a1 : ∀ W, Calls Tryd.prog 13 #[VM m, .int .i64 n] W fun e w' => e = .returned (VM m) ∧ W = w' := fun W => by have := with_any m n W; rwa [hb, BitVec.or_zero] at this
    have a2 : ∀ W, Calls Tryd.prog 15 #[VM m, .int .i64 n] W fun e w' => e = .returned (VM m) ∧ W = w' := fun W => by have := without_any m n W; rwa [andNot_out m n (by unfold inM; simp; omega)] at this
    have a3 : ∀ W, Calls Tryd.prog 17 #[VM m, .int .i64 n] W fun e w' => e = .returned (.bool false) ∧ W = w' := fun W => by have := has_any m n W; rwa [show inM m n = false from by unfold inM; simp; omega] at this
    have A1 := Lib.hid a1; have A2 := Lib.hid a2; have A3 := Lib.hid a3
    clear a1 a2 a3 hb
    by_cases h0 : n < 0
    · clear hr
      go_enter Tryd.func8, Tryd.ntmps8
      go_wp2_with (first | (go_at_call 13; refine (A1.out _).mono ?_; rintro e w' ⟨rfl, rfl⟩) | (go_at_call 15; refine (A2.out _).mono ?_; rintro e w' ⟨rfl, rfl⟩) | (go_at_call 17; refine (A3.out _).mono ?_; rintro e w' ⟨rfl, rfl⟩) | (go_at_call 9; refine (works_any _ HT.out).mono ?_; rintro e w' ⟨rfl, hu⟩; have HU := Lib.hid hu; clear hu))
      go_ret
      exact ⟨rfl, HU.out.belowFrom (Nat.le_refl _)⟩
    · have h1 : 31 < n := by omega
      clear hr
      go_enter Tryd.func8, Tryd.ntmps8
      go_wp2_with (first | (go_at_call 13; refine (A1.out _).mono ?_; rintro e w' ⟨rfl, rfl⟩) | (go_at_call 15; refine (A2.out _).mono ?_; rintro e w' ⟨rfl, rfl⟩) | (go_at_call 17; refine (A3.out _).mono ?_; rintro e w' ⟨rfl, rfl⟩) | (go_at_call 9; refine (works_any _ HT.out).mono ?_; rintro e w' ⟨rfl, hu⟩; have HU := Lib.hid hu; clear hu))
      go_ret
      exact ⟨rfl, HU.out.belowFrom (Nat.le_refl _)⟩
  · have h0 : ¬ n < 0 := by omega
    have h1 : ¬ 31 < n := by omega
    clear hr
    have b1 := fun W => with_any m n W
    have b2 := fun W => without_any m n W
    have b3 := fun W => has_any (m ||| bitB n) n W
    have b4 := fun W => has_any (m &&& ~~~ bitB n) n W
    have b5 := fun W => count_any (m ||| bitB n) W
    have b6 := fun W => count_any (m &&& ~~~ bitB n) W
    have b7 := fun W => without_any (m ||| bitB n) n W
    have b8 := fun W => with_any (m &&& ~~~ bitB n) n W
    have hc := bitsL_length (m &&& ~~~ bitB n)
    rw [one_more m n (by omega) (by omega)] at b5
    rw [or_self m n (by omega) (by omega)] at b3
    rw [inM_andNot] at b4
    rw [or_then] at b7
    rw [out_then] at b8
    by_cases ho : other = n
    · subst ho
      generalize hm1 : m ||| bitB other = m1 at *
      generalize hm0 : m &&& ~~~ bitB other = m0 at *
      generalize (bitsL m0).length = c at *
      have B1 := Lib.hid b1; have B2 := Lib.hid b2; have B3 := Lib.hid b3; have B4 := Lib.hid b4; have B5 := Lib.hid b5; have B6 := Lib.hid b6; have B7 := Lib.hid b7; have B8 := Lib.hid b8
      clear b1 b2 b3 b4 b5 b6 b7 b8 hm1 hm0
      go_enter Tryd.func8, Tryd.ntmps8
      go_wp2_with (first | (go_at_call_of 13 m0; refine (B8.out _).mono ?_; rintro e w' ⟨rfl, rfl⟩) | (go_at_call_of 13 m; refine (B1.out _).mono ?_; rintro e w' ⟨rfl, rfl⟩) | (go_at_call_of 15 m1; refine (B7.out _).mono ?_; rintro e w' ⟨rfl, rfl⟩) | (go_at_call_of 15 m; refine (B2.out _).mono ?_; rintro e w' ⟨rfl, rfl⟩) | (go_at_call_of 17 m1; refine (B3.out _).mono ?_; rintro e w' ⟨rfl, rfl⟩) | (go_at_call_of 17 m0; refine (B4.out _).mono ?_; rintro e w' ⟨rfl, rfl⟩))
      refine (B5.out w).mono ?_
      rintro e w1 ⟨rfl, hu1⟩
      have HU1 := Lib.hid hu1; have HT1 := Lib.hid (HT.out.upd hu1 (fun h => h))
      clear hu1
      go_wp2_with (first | (go_at_call_of 13 m0; refine (B8.out _).mono ?_; rintro e w' ⟨rfl, rfl⟩) | (go_at_call_of 13 m; refine (B1.out _).mono ?_; rintro e w' ⟨rfl, rfl⟩) | (go_at_call_of 15 m1; refine (B7.out _).mono ?_; rintro e w' ⟨rfl, rfl⟩) | (go_at_call_of 15 m; refine (B2.out _).mono ?_; rintro e w' ⟨rfl, rfl⟩) | (go_at_call_of 17 m1; refine (B3.out _).mono ?_; rintro e w' ⟨rfl, rfl⟩) | (go_at_call_of 17 m0; refine (B4.out _).mono ?_; rintro e w' ⟨rfl, rfl⟩))
      refine (B6.out w1).mono ?_
      rintro e w2 ⟨rfl, hu2⟩
      have HU2 := Lib.hid (HU1.out.trans hu2 (fun _ _ h => h)); have HT2 := Lib.hid (HT1.out.upd hu2 (fun h => h))
      have hs2 := HU2.out.size
      clear hu2
      go_wp2_with (first | (go_at_call_of 13 m0; refine (B8.out _).mono ?_; rintro e w' ⟨rfl, rfl⟩) | (go_at_call_of 13 m; refine (B1.out _).mono ?_; rintro e w' ⟨rfl, rfl⟩) | (go_at_call_of 15 m1; refine (B7.out _).mono ?_; rintro e w' ⟨rfl, rfl⟩) | (go_at_call_of 15 m; refine (B2.out _).mono ?_; rintro e w' ⟨rfl, rfl⟩) | (go_at_call 9; refine (works_any _ HT2.out).mono ?_; rintro e w' ⟨rfl, hu⟩; have HU := Lib.hid hu; clear hu))
      go_ret
      exact ⟨rfl, ((HU2.out.toFrom (B := w.heap.size)).from (HU.out.mono (fun i _ h => by unfold From at *; omega))).belowFrom (Nat.le_refl _)⟩
    · have c1 := fun W => has_any (m ||| bitB n) other W
      have c2 := fun W => has_any (m &&& ~~~ bitB n) other W
      have c3 := fun W => has_any m other W
      rw [or_other m n other ho] at c1
      rw [andNot_other m n other ho] at c2
      generalize hm1 : m ||| bitB n = m1 at *
      generalize hm0 : m &&& ~~~ bitB n = m0 at *
      generalize (bitsL m0).length = c at *
      generalize inM m other = b at *
      have B1 := Lib.hid b1; have B2 := Lib.hid b2; have B3 := Lib.hid b3; have B4 := Lib.hid b4; have B5 := Lib.hid b5; have B6 := Lib.hid b6; have B7 := Lib.hid b7; have B8 := Lib.hid b8
      have C1 := Lib.hid c1; have C2 := Lib.hid c2; have C3 := Lib.hid c3
      clear b1 b2 b3 b4 b5 b6 b7 b8 hm1 hm0 c1 c2 c3
      go_enter Tryd.func8, Tryd.ntmps8
      go_wp2_with (first | (go_at_call_of 13 m0; refine (B8.out _).mono ?_; rintro e w' ⟨rfl, rfl⟩) | (go_at_call_of 13 m; refine (B1.out _).mono ?_; rintro e w' ⟨rfl, rfl⟩) | (go_at_call_of 15 m1; refine (B7.out _).mono ?_; rintro e w' ⟨rfl, rfl⟩) | (go_at_call_of 15 m; refine (B2.out _).mono ?_; rintro e w' ⟨rfl, rfl⟩) | (go_at_call_of 17 m1; refine (B3.out _).mono ?_; rintro e w' ⟨rfl, rfl⟩) | (go_at_call_of 17 m0; refine (B4.out _).mono ?_; rintro e w' ⟨rfl, rfl⟩))
      refine (B5.out w).mono ?_
      rintro e w1 ⟨rfl, hu1⟩
      have HU1 := Lib.hid hu1; have HT1 := Lib.hid (HT.out.upd hu1 (fun h => h))
      clear hu1
      go_wp2_with (first | (go_at_call_of 13 m0; refine (B8.out _).mono ?_; rintro e w' ⟨rfl, rfl⟩) | (go_at_call_of 13 m; refine (B1.out _).mono ?_; rintro e w' ⟨rfl, rfl⟩) | (go_at_call_of 15 m1; refine (B7.out _).mono ?_; rintro e w' ⟨rfl, rfl⟩) | (go_at_call_of 15 m; refine (B2.out _).mono ?_; rintro e w' ⟨rfl, rfl⟩) | (go_at_call_of 17 m1; refine (B3.out _).mono ?_; rintro e w' ⟨rfl, rfl⟩) | (go_at_call_of 17 m0; refine (B4.out _).mono ?_; rintro e w' ⟨rfl, rfl⟩))
      refine (B6.out w1).mono ?_
      rintro e w2 ⟨rfl, hu2⟩
      have HU2 := Lib.hid (HU1.out.trans hu2 (fun _ _ h => h)); have HT2 := Lib.hid (HT1.out.upd hu2 (fun h => h))
      have hs2 := HU2.out.size
      clear hu2
      go_wp2_with (first | (go_at_call_of 13 m0; refine (B8.out _).mono ?_; rintro e w' ⟨rfl, rfl⟩) | (go_at_call_of 13 m; refine (B1.out _).mono ?_; rintro e w' ⟨rfl, rfl⟩) | (go_at_call_of 15 m1; refine (B7.out _).mono ?_; rintro e w' ⟨rfl, rfl⟩) | (go_at_call_of 15 m; refine (B2.out _).mono ?_; rintro e w' ⟨rfl, rfl⟩) | (go_at_call_of 17 m1; refine (C1.out _).mono ?_; rintro e w' ⟨rfl, rfl⟩) | (go_at_call_of 17 m0; refine (C2.out _).mono ?_; rintro e w' ⟨rfl, rfl⟩) | (go_at_call_of 17 m; refine (C3.out _).mono ?_; rintro e w' ⟨rfl, rfl⟩) | (go_at_call 9; refine (works_any _ HT2.out).mono ?_; rintro e w' ⟨rfl, hu⟩; have HU := Lib.hid hu; clear hu))
      go_ret
      exact ⟨rfl, ((HU2.out.toFrom (B := w.heap.size)).from (HU.out.mono (fun i _ h => by unfold From at *; omega))).belowFrom (Nat.le_refl _)⟩
end Go.Proofs.YtamebdebpgakfaaDoor.ML
