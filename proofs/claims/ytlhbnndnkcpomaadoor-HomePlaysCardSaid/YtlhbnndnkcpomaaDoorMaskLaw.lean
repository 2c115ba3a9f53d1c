/- The reference's functions of layer 2, and its statements. -/
import Derived.Test.YtlhbnndnkcpomaaDoorMask
set_option linter.unusedSimpArgs false
set_option linter.unusedVariables false
namespace Go.Proofs.YtlhbnndnkcpomaaDoor.ML
open Go.RowKit

/-- 2 to the power of n. -/
def pw (n : Nat) : Nat := 2 ^ n

set_option maxRecDepth 100000 in
theorem power_any (n : Nat) (hn : n ≤ 31) (w : World) : Calls Tryd.prog 86 #[.int .i64 (n : Int)] w fun e w' => e = .returned (.int .u32 ((pw n : Nat) : Int)) ∧ w = w' := by
  go_enter Tryd.func86, Tryd.ntmps86
  go_wp2
  go_loop [3, 4] (fun x i => ∃ (k p : Nat), k ≤ n ∧ Hid (p = pw k) ∧ i = .int .i64 k ∧ x = .int .u32 p) (fun _ i => n - (intOf i).toNat)
  case atStart => exact ⟨0, 1, Nat.zero_le _, rfl, rfl, rfl⟩
  case round =>
    obtain ⟨k, p, hk, hp, rfl, rfl⟩ := hrel
    by_cases hlt : k < n
    · have hp1 : 2 * p ≤ 2147483648 := by
        rw [hp.out]
        unfold pw
        have h1 : 2 * 2 ^ k = 2 ^ (k + 1) := by rw [Nat.pow_succ, Nat.mul_comm]
        have h2 : 2 ^ (k + 1) ≤ 2 ^ 31 := Nat.pow_le_pow_right (by decide) (by omega)
        have h3 : (2 : Nat) ^ 31 = 2147483648 := rfl
        omega
      have hm : (2 : Int) * (p : Int) % 4294967296 = ((2 * p : Nat) : Int) := by omega
      go_wp2
      go_round
      case rel => exact ⟨k + 1, 2 * p, by omega, by show 2 * p = pw (k + 1); rw [hp.out]; unfold pw; rw [Nat.pow_succ, Nat.mul_comm], by go_num, by first | rfl | (congr 1; omega)⟩
      case measure => simp [intOf]; omega
    · obtain rfl : n = k := by omega
      go_wp2
      go_ret
      exact ⟨by rw [← hp.out]; rfl, rfl⟩

theorem rhas_any (m : Mk) (n : Int) (w : World) : Calls Tryd.prog 66 #[VM m, .int .i64 n] w fun e w' => e = .returned (.bool (inM m n)) ∧ w = w' := by
  by_cases h : 0 ≤ n ∧ n ≤ 31
  · obtain ⟨h0, h1⟩ := h
    obtain ⟨k, rfl⟩ : ∃ k : Nat, n = k := ⟨n.toNat, by omega⟩
    have hk : k ≤ 31 := by omega
    have hpos : 0 < pw k := Nat.pow_pos (by decide)
    have hfin : ((((m.toNat / pw k : Nat) : Int) % 2) == 1) = inM m (k : Int) := by
      unfold inM
      rw [show (k : Int).toNat = k from by omega, BitVec.getLsbD, Nat.testBit_eq_decide_div_mod_eq]
      show ((((m.toNat / 2 ^ k : Nat) : Int) % 2) == 1) = _
      generalize m.toNat / 2 ^ k = q
      rw [Bool.eq_iff_iff]
      simp; omega
    have HF := Lib.hid hfin
    have hm : m.toNat < 4294967296 := m.isLt
    have hdiv : m.toNat / pw k ≤ m.toNat := Nat.div_le_self _ _
    have hq : (m.toNat : Int) / ((pw k : Nat) : Int) = ((m.toNat / pw k : Nat) : Int) := by rw [Int.natCast_ediv]
    clear hfin
    have hpw : ∀ W, Calls Tryd.prog 86 #[.int .i64 (k : Int)] W fun e w' => e = .returned (.int .u32 (pw k : Int)) ∧ W = w' := fun W => power_any k hk W
    generalize m.toNat / pw k = q at *
    generalize pw k = p at *
    have HPW := Lib.hid hpw
    clear hpw
    go_enter Tryd.func66, Tryd.ntmps66
    go_wp2_with (go_at_call 86; refine (HPW.out _).mono ?_; rintro e w' ⟨rfl, rfl⟩)
    go_ret
    exact ⟨congrArg (fun x => Ending.returned (Value.bool x)) HF.out, rfl⟩
  · have hf : inM m n = false := by unfold inM; simp only [Bool.and_eq_false_iff, decide_eq_false_iff_not]; left; omega
    have HF := Lib.hid hf
    clear hf
    by_cases h0 : 0 ≤ n
    · have h1 : ¬ n ≤ 31 := by omega
      go_enter Tryd.func66, Tryd.ntmps66
      go_wp2
      go_ret
      exact ⟨by rw [HF.out]; rfl, rfl⟩
    · go_enter Tryd.func66, Tryd.ntmps66
      go_wp2
      go_ret
      exact ⟨by rw [HF.out]; rfl, rfl⟩

theorem or_in (m : Mk) (n : Int) (h : inM m n = true) : m ||| bitB n = m := by
  unfold inM at h
  simp only [Bool.and_eq_true, decide_eq_true_eq] at h
  obtain ⟨⟨h0, h1⟩, hb⟩ := h
  rw [bitB_in h0 h1]
  apply ext_inM
  intro i hi
  simp only [BitVec.getLsbD_or, BitVec.getLsbD_twoPow]
  by_cases e : n.toNat = i
  · subst e; simp [hb]
  · simp [e]
theorem andNot_out (m : Mk) (n : Int) (h : inM m n = false) : m &&& ~~~ bitB n = m := by
  apply ext_inM
  intro i hi
  by_cases hr : 0 ≤ n ∧ n ≤ 31
  · rw [bitB_in hr.1 hr.2]
    unfold inM at h
    simp only [hr.1, hr.2, decide_true, Bool.true_and] at h
    simp only [BitVec.getLsbD_and, BitVec.getLsbD_not, BitVec.getLsbD_twoPow, hi, decide_true, Bool.true_and]
    by_cases e : n.toNat = i
    · subst e; simp [h]
    · simp [e]
  · rw [bitB_out (by omega)]
    simp only [BitVec.getLsbD_and, BitVec.getLsbD_not, BitVec.getLsbD_zero, hi, decide_true, Bool.true_and, Bool.not_false, Bool.and_true]
theorem or_andNot (m : Mk) (n : Int) (h : inM m n = true) : (m &&& ~~~ bitB n) ||| bitB n = m := by
  unfold inM at h
  simp only [Bool.and_eq_true, decide_eq_true_eq] at h
  obtain ⟨⟨h0, h1⟩, hb⟩ := h
  rw [bitB_in h0 h1]
  apply ext_inM
  intro i hi
  simp only [BitVec.getLsbD_or, BitVec.getLsbD_and, BitVec.getLsbD_not, BitVec.getLsbD_twoPow, hi, decide_true, Bool.true_and]
  by_cases e : n.toNat = i
  · subst e; simp [hb, hi]
  · simp [e]
theorem inM_andNot (m : Mk) (n : Int) : inM (m &&& ~~~ bitB n) n = false := by
  unfold inM
  by_cases hr : 0 ≤ n ∧ n ≤ 31
  · rw [bitB_in hr.1 hr.2]
    simp [BitVec.getLsbD_twoPow, show n.toNat < 32 by omega]
  · simp only [Bool.and_eq_false_iff, decide_eq_false_iff_not]; left; omega
theorem andNot_sub (m : Mk) (n : Int) (h : inM m n = true) (h0 : 0 ≤ n) (h1 : n ≤ 31) : (((m &&& ~~~ bitB n).toNat : Nat) : Int) = (m.toNat : Int) - 2 ^ n.toNat := by
  have e1 := or_add (m &&& ~~~ bitB n) n h0 h1 (inM_andNot m n)
  rw [or_andNot m n h] at e1
  omega

theorem rwith_any (m : Mk) (n : Int) (w : World) : Calls Tryd.prog 107 #[VM m, .int .i64 n] w fun e w' => e = .returned (VM (m ||| bitB n)) ∧ w = w' := by
  have hhas : ∀ W, Calls Tryd.prog 66 #[VM m, .int .i64 n] W fun e w' => e = .returned (.bool (inM m n)) ∧ W = w' := fun W => rhas_any m n W
  by_cases h : 0 ≤ n ∧ n ≤ 31
  · obtain ⟨h0, h1⟩ := h
    cases hin : inM m n
    · have hadd := or_add m n h0 h1 hin
      rw [hin] at hhas
      have HH := Lib.hid hhas
      clear hhas hin
      obtain ⟨k, rfl⟩ : ∃ k : Nat, n = k := ⟨n.toNat, by omega⟩
      rw [show (k : Int).toNat = k from by omega, show ((2 : Int) ^ k) = ((pw k : Nat) : Int) from by unfold pw; push_cast; rfl] at hadd
      have hlt : (m ||| bitB (k : Int)).toNat < 4294967296 := (m ||| bitB (k : Int)).isLt
      generalize m ||| bitB (k : Int) = m2 at *
      have hpw : ∀ W, Calls Tryd.prog 86 #[.int .i64 (k : Int)] W fun e w' => e = .returned (.int .u32 (pw k : Int)) ∧ W = w' := fun W => power_any k (by omega) W
      generalize pw k = p at *
      have HPW := Lib.hid hpw
      have HA := Lib.hid hadd
      have hs : (m.toNat : Int) + (p : Int) ≤ 4294967295 := by omega
      clear hpw hadd
      go_enter Tryd.func107, Tryd.ntmps107
      go_wp2_with (first | (go_at_call 66; refine (HH.out _).mono ?_; rintro e w' ⟨rfl, rfl⟩) | (go_at_call 86; refine (HPW.out _).mono ?_; rintro e w' ⟨rfl, rfl⟩))
      go_ret
      exact ⟨congrArg (fun x => Ending.returned (Value.int .u32 x)) (by rw [HA.out]), rfl⟩
    · have he := or_in m n hin
      rw [he]
      rw [hin] at hhas
      have HH := Lib.hid hhas
      clear hhas hin he
      go_enter Tryd.func107, Tryd.ntmps107
      go_wp2_with (go_at_call 66; refine (HH.out _).mono ?_; rintro e w' ⟨rfl, rfl⟩)
      go_ret
      exact ⟨rfl, rfl⟩
  · rw [bitB_out (by omega), BitVec.or_zero]
    clear hhas
    by_cases h0 : n < 0
    · go_enter Tryd.func107, Tryd.ntmps107
      go_wp2
      go_ret
      exact ⟨rfl, rfl⟩
    · have h1 : 31 < n := by omega
      go_enter Tryd.func107, Tryd.ntmps107
      go_wp2
      go_ret
      exact ⟨rfl, rfl⟩

theorem rwithout_any (m : Mk) (n : Int) (w : World) : Calls Tryd.prog 70 #[VM m, .int .i64 n] w fun e w' => e = .returned (VM (m &&& ~~~ bitB n)) ∧ w = w' := by
  have hhas : ∀ W, Calls Tryd.prog 66 #[VM m, .int .i64 n] W fun e w' => e = .returned (.bool (inM m n)) ∧ W = w' := fun W => rhas_any m n W
  cases hin : inM m n
  · rw [andNot_out m n hin]
    rw [hin] at hhas
    have HH := Lib.hid hhas
    clear hhas hin
    go_enter Tryd.func70, Tryd.ntmps70
    go_wp2_with (go_at_call 66; refine (HH.out _).mono ?_; rintro e w' ⟨rfl, rfl⟩)
    go_ret
    exact ⟨rfl, rfl⟩
  · have hr : 0 ≤ n ∧ n ≤ 31 := by
      unfold inM at hin
      simp only [Bool.and_eq_true, decide_eq_true_eq] at hin
      exact hin.1
    obtain ⟨h0, h1⟩ := hr
    have hsub := andNot_sub m n hin h0 h1
    rw [hin] at hhas
    have HH := Lib.hid hhas
    clear hhas hin
    obtain ⟨k, rfl⟩ : ∃ k : Nat, n = k := ⟨n.toNat, by omega⟩
    rw [show (k : Int).toNat = k from by omega, show ((2 : Int) ^ k) = ((pw k : Nat) : Int) from by unfold pw; push_cast; rfl] at hsub
    have hlt : m.toNat < 4294967296 := m.isLt
    generalize m &&& ~~~ bitB (k : Int) = m2 at *
    have hpw : ∀ W, Calls Tryd.prog 86 #[.int .i64 (k : Int)] W fun e w' => e = .returned (.int .u32 (pw k : Int)) ∧ W = w' := fun W => power_any k (by omega) W
    generalize pw k = p at *
    have HPW := Lib.hid hpw
    have HA := Lib.hid hsub
    have hs : 0 ≤ (m.toNat : Int) - (p : Int) := by omega
    have hs2 : (m.toNat : Int) - (p : Int) ≤ 4294967295 := by omega
    clear hpw hsub
    go_enter Tryd.func70, Tryd.ntmps70
    go_wp2_with (first | (go_at_call 66; refine (HH.out _).mono ?_; rintro e w' ⟨rfl, rfl⟩) | (go_at_call 86; refine (HPW.out _).mono ?_; rintro e w' ⟨rfl, rfl⟩))
    go_ret
    exact ⟨congrArg (fun x => Ending.returned (Value.int .u32 x)) (by rw [HA.out]), rfl⟩
end Go.Proofs.YtlhbnndnkcpomaaDoor.ML
