/- Sorting numbers of 64 bits without sign: scans. -/
import Derived.Test.YtbhcdbnbiocimaaSortU
import Derived.Deep.CutBlock
set_option linter.unusedSimpArgs false
set_option linter.unusedVariables false
namespace Go.Proofs.Ytbhcdbnbiocimaa.SU
open Go.RowKit
open Go.Sort (swp size_swp ltInt PermIn SortedIn SWO scanUp scanDown partLoop partEqLoop partLoop_eq partEqLoop_eq)
section
variable {w0 W : World} {g off : Nat} {d : Array Int}
theorem up_go (p : Int → Bool) (D : Array Int) (j i : Nat) (h : i ≤ j) (hp : p D[i]! = true) : scanUp p D j i = scanUp p D j (i + 1) := by
  rw [scanUp, if_pos (by rw [hp, decide_eq_true h]; rfl)]
theorem up_stop (p : Int → Bool) (D : Array Int) (j i : Nat) (h : ¬ i ≤ j ∨ p D[i]! = false) : scanUp p D j i = i := by
  rw [scanUp, if_neg]
  rcases h with h | h
  · rw [decide_eq_false h]; simp
  · rw [h]; simp
theorem dn_go (p : Int → Bool) (D : Array Int) (i j : Nat) (h : i ≤ j) (h0 : 0 < j) (hp : p D[j]! = true) : scanDown p D i j = scanDown p D i (j - 1) := by
  cases j with
  | zero => omega
  | succ j => show (if (decide (i ≤ j + 1) && p D[j + 1]!) = true then scanDown p D i j else j + 1) = _; rw [if_pos (by rw [hp, decide_eq_true h]; rfl)]; rfl
theorem dn_stop (p : Int → Bool) (D : Array Int) (i j : Nat) (h : ¬ i ≤ j ∨ p D[j]! = false) : scanDown p D i j = j := by
  cases j with
  | zero => rfl
  | succ j =>
    show (if (decide (i ≤ j + 1) && p D[j + 1]!) = true then scanDown p D i j else j + 1) = _
    rw [if_neg]
    rcases h with h | h
    · rw [decide_eq_false h]; simp
    · rw [h]; simp
end
end Go.Proofs.Ytbhcdbnbiocimaa.SU
