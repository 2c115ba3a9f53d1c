/- The reference undertowref08: toHome, stamped, Net. -/
import Derived.Test.YtmfhbobjambgaaaNoteD
import Derived.WalkLawsBesides
set_option linter.unusedSimpArgs false
set_option linter.unusedVariables false
namespace Go.Proofs.Ytmfhbobjambgaaa.NC
open Go.RowKit
open BU (IsU words)
attribute [local go_sem] Oper.semAt_some
theorem toHome_eq (k : Int) : toHome k = ((decide (1 ≤ k) && decide (k ≤ 3)) || (decide (9 ≤ k) && decide (k ≤ 11))) := by
  rw [Bool.eq_iff_iff]
  simp only [toHome, Bool.or_eq_true, Bool.and_eq_true, beq_iff_eq, decide_eq_true_eq]
  omega
theorem rtoHome_any (k : Int) (w : World) : Calls Try.prog 53 #[.int .u8 k] w fun e w' => e = .returned (.bool (toHome k)) ∧ w = w' := by
  rw [toHome_eq]
  cases h1 : decide (1 ≤ k) <;> cases h2 : decide (k ≤ 3) <;> cases h3 : decide (9 ≤ k) <;> cases h4 : decide (k ≤ 11)
  all_goals
    go_enter Try.func53, Try.ntmps53
    go_wp2
    go_ret
    exact ⟨rfl, rfl⟩
theorem rstamped_any (k : Int) (w : World) : Calls Try.prog 54 #[.int .u8 k] w fun e w' => e = .returned (.bool (stamped k)) ∧ w = w' := by
  unfold stamped
  cases h1 : (k == 1)
  · cases h2 : (k == 2)
    · cases h4 : (k == 4)
      · cases h5 : (k == 5)
        · cases h7 : (k == 7)
          · go_enter Try.func54, Try.ntmps54
            go_wp2
            go_ret
            exact ⟨by simp, rfl⟩
          · go_enter Try.func54, Try.ntmps54
            go_wp2
            go_ret
            exact ⟨by simp, rfl⟩
        · go_enter Try.func54, Try.ntmps54
          go_wp2
          go_ret
          exact ⟨by simp, rfl⟩
      · go_enter Try.func54, Try.ntmps54
        go_wp2
        go_ret
        exact ⟨by simp, rfl⟩
    · go_enter Try.func54, Try.ntmps54
      go_wp2
      go_ret
      exact ⟨by simp, rfl⟩
  · go_enter Try.func54, Try.ntmps54
    go_wp2
    go_ret
    exact ⟨by simp, rfl⟩
theorem run_index_arr {P : Program} {t e : TypeId} {n : Nat} (h : P.underlying t = some (.array n e)) (ha : ∀ w, (isAgg e).run P w = .ok false w) (hs : ∀ w, (sizeOf e).run P w = .ok 1 w) (w : World) (k : IntKind) (cs : Array Value) (i : Nat) (hi : i < n) (v : Value) (hv : cs[i]? = some v) :
    (Instr.index t (.agg cs) (.int k i)).run P w = .ok v w := by
  have hi' : (i : Int) < (n : Int) := by omega
  simp [Instr.index, run_underlying h, asIntOf, go_sem, hi', hs, part, ha, hv]
  intro h; omega
abbrev UN : Array Value := #[.int .i64 0, .int .i64 0, .int .i64 0, .int .i64 0, .int .i64 1, .int .i64 1, .int .i64 2, .int .i64 2, .int .i64 2, .int .i64 2, .int .i64 2, .int .i64 2]
set_option maxRecDepth 100000 in
theorem rNet_any (k : Int) (w : World) : Calls Try.prog 47 #[.int .u8 k] w fun e w' => e = .returned (.int .i64 (netN k)) ∧ w = w' := by
  by_cases h1 : k < 1
  · have e : netN k = -1 := by unfold netN kindB; rw [show decide (1 ≤ k) = false by simp; omega]; rfl
    have g1 : decide (k < 1) = true := by simp; omega
    rw [e]
    go_enter Try.func47, Try.ntmps47
    go_wp2
    go_ret
    exact ⟨rfl, rfl⟩
  · have g1 : decide (k < 1) = false := by simp; omega
    by_cases h2 : 11 < k
    · have e : netN k = -1 := by unfold netN kindB; rw [show decide (k ≤ 11) = false by simp; omega]; simp
      have g2 : decide (11 < k) = true := by simp; omega
      rw [e]
      go_enter Try.func47, Try.ntmps47
      go_wp2
      go_ret
      exact ⟨rfl, rfl⟩
    · have g2 : decide (11 < k) = false := by simp; omega
      obtain ⟨m, rfl⟩ : ∃ m : Nat, k = m := ⟨k.toNat, by omega⟩
      have hv : UN[m]? = some (.int .i64 (netN m)) := by
        have : m = 1 ∨ m = 2 ∨ m = 3 ∨ m = 4 ∨ m = 5 ∨ m = 6 ∨ m = 7 ∨ m = 8 ∨ m = 9 ∨ m = 10 ∨ m = 11 := by omega
        rcases this with rfl | rfl | rfl | rfl | rfl | rfl | rfl | rfl | rfl | rfl | rfl <;> rfl
      have ix := fun (w : World) => run_index_arr (P := Try.prog) Try.underlying99 Try.isAgg3 Try.sizeOf3 w .u8 UN m (by omega) (.int .i64 (netN m)) hv
      generalize netN (m : Int) = r at *
      clear hv
      go_enter Try.func47, Try.ntmps47
      go_wp2
      go_ret
      exact ⟨rfl, rfl⟩
end Go.Proofs.Ytmfhbobjambgaaa.NC
