/- OrderRing, plain: who gives way in a ring of transactions that wait for one another. -/
import Derived.Test.YtbhcdbnbiocimaaOrderTop
set_option linter.unusedSimpArgs false
set_option linter.unusedVariables false
namespace Go.Proofs.Ytbhcdbnbiocimaa.RI
open _root_.Go.Proofs.Ytbhcdbnbiocimaa.Ord (older)
/-- The flags behind i asks. -/
def up (Z : Nat → Int) (B : Nat → Bool) (n : Nat) : Nat → Nat → Bool
  | 0, k => B k
  | i + 1, k => if (i + 1) % n = k then up Z B n i k || older (Z i) (Z k) else up Z B n i k
theorem up_mono (Z : Nat → Int) (B : Nat → Bool) (n i k : Nat) (h : up Z B n i k = true) : up Z B n (i + 1) k = true := by
  show (if (i + 1) % n = k then up Z B n i k || older (Z i) (Z k) else up Z B n i k) = true
  split
  · rw [h]; rfl
  · exact h
theorem up_le (Z : Nat → Int) (B : Nat → Bool) (n k : Nat) {i j : Nat} (hij : i ≤ j) (h : up Z B n i k = true) : up Z B n j k = true := by
  induction hij with
  | refl => exact h
  | step _ ih => exact up_mono Z B n _ k ih
/-- Who was asked by an older one has its flag up. -/
theorem up_of (Z : Nat → Int) (B : Nat → Bool) (n i k : Nat) (hi : i < n) (hk : (i + 1) % n = k) (ho : older (Z i) (Z k) = true) : up Z B n n k = true := by
  refine up_le Z B n k (i := i + 1) (by omega) ?_
  show (if (i + 1) % n = k then up Z B n i k || older (Z i) (Z k) else up Z B n i k) = true
  rw [if_pos hk, ho, Bool.or_true]
/-- Some place has the greatest of n numbers. -/
theorem has_max (Z : Nat → Int) : ∀ n, 1 ≤ n → ∃ j, j < n ∧ ∀ i, i < n → Z i ≤ Z j
  | 0, h => by omega
  | 1, _ => ⟨0, by omega, fun i hi => by have : i = 0 := by omega
                                         subst this; exact Int.le_refl _⟩
  | n + 2, _ => by
    obtain ⟨j, hj, hm⟩ := has_max Z (n + 1) (by omega)
    by_cases h : Z j ≤ Z (n + 1)
    · exact ⟨n + 1, by omega, fun i hi => by
        by_cases e : i = n + 1
        · subst e; exact Int.le_refl _
        · exact Int.le_trans (hm i (by omega)) h⟩
    · exact ⟨j, by omega, fun i hi => by
        by_cases e : i = n + 1
        · subst e; omega
        · exact hm i (by omega)⟩
/-- The youngest one gives way. -/
theorem some_gives (Z : Nat → Int) (B : Nat → Bool) (n : Nat) (hn : 2 ≤ n) (hp : ∀ i, i < n → 0 < Z i) (hd : ∀ i j, i < n → j < n → Z i = Z j → i = j) :
    ∃ j, j < n ∧ (up Z B n n j && older (Z ((j + 1) % n)) (Z j)) = true := by
  obtain ⟨j, hj, hm⟩ := has_max Z n (by omega)
  have old : ∀ i, i < n → i ≠ j → older (Z i) (Z j) = true := fun i hi hne => by
    have h1 := hm i hi
    have h2 : Z i ≠ Z j := fun e => hne (hd i j hi hj e)
    have h3 := hp i hi
    unfold older
    simp only [Bool.and_eq_true, bne_iff_ne, ne_eq, decide_eq_true_eq]
    omega
  have hs : (j + 1) % n < n := Nat.mod_lt _ (by omega)
  have hsne : (j + 1) % n ≠ j := by
    by_cases e : j + 1 = n
    · rw [e, Nat.mod_self]; omega
    · rw [Nat.mod_eq_of_lt (by omega)]; omega
  refine ⟨j, hj, ?_⟩
  rw [old _ hs hsne, Bool.and_true]
  cases j with
  | zero =>
    refine up_of Z B n (n - 1) 0 (by omega) ?_ (old _ (by omega) (by omega))
    rw [show n - 1 + 1 = n by omega, Nat.mod_self]
  | succ i => exact up_of Z B n i (i + 1) (by omega) (Nat.mod_eq_of_lt hj) (old i (by omega) (by omega))
/-- The oldest one does not. -/
theorem oldest_stays (Z : Nat → Int) (n i : Nat) (m : Int) (hmin : ∀ j, j < n → m ≤ Z j) (hi : i < n) (he : Z i = m) (k : Nat) (hk : k < n) : older (Z k) (Z i) = false := by
  unfold older
  have := hmin k hk
  rw [Bool.and_eq_false_iff]
  exact .inr (decide_eq_false (by omega))
end Go.Proofs.Ytbhcdbnbiocimaa.RI
