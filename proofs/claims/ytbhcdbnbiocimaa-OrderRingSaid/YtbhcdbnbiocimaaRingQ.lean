/- OrderRing, plain: what a sorted copy without two alike tells of the row. -/
import Derived.Test.YtbhcdbnbiocimaaRingP
import Derived.Test.YtbhcdbnbiocimaaSortU
set_option linter.unusedSimpArgs false
set_option linter.unusedVariables false
namespace Go.Proofs.Ytbhcdbnbiocimaa.RI
open Go.Sort (ltInt PermIn SortedIn)
theorem rising {n : Nat} {R : Array Int} (hS : SortedIn ltInt 0 n R) (hne : ∀ t, 1 ≤ t → t < n → R[t]! ≠ R[t - 1]!) : ∀ i j, i < j → j < n → R[i]! < R[j]! := by
  intro i j hij hj
  have hle : ∀ i j, i < j → j < n → R[i]! ≤ R[j]! := fun i j h1 h2 => by
    have := hS i j (Nat.zero_le _) h1 h2
    unfold ltInt at this
    simp only [decide_eq_false_iff_not] at this
    omega
  have h1 := hne j (by omega) hj
  have h2 := hle (j - 1) j (by omega) hj
  by_cases e : i = j - 1
  · subst e; omega
  · have h3 := hle i (j - 1) (by omega) (by omega)
    omega
theorem order_facts {n : Nat} {Z : Nat → Int} {R : Array Int} (hP : PermIn 0 n ((List.range n).map Z).toArray R) (hS : SortedIn ltInt 0 n R) (h1 : 1 ≤ n) (hZ : ∀ i, i < n → 0 ≤ Z i) (h0 : R[0]! ≠ 0)
    (hne : ∀ t, 1 ≤ t → t < n → R[t]! ≠ R[t - 1]!) : (∀ i, i < n → 0 < Z i) ∧ (∀ i j, i < n → j < n → Z i = Z j → i = j) ∧ ∀ i, i < n → R[0]! ≤ Z i := by
  have hr := rising hS hne
  have hsz : R.size = n := by rw [hP.1]; simp
  have hp : R.toList.Perm ((List.range n).map Z) := by
    have := hP.2.2
    rw [Array.extract_eq_self_of_le (by omega), Array.extract_eq_self_of_le (by simp)] at this
    simpa using this
  have hget : ∀ t, t < n → R.toList[t]? = some R[t]! := fun t ht => by
    rw [Array.getElem?_toList, Array.getElem?_eq_getElem (by omega)]
    simp [hsz, ht]
  have hnd : R.toList.Nodup := by
    rw [List.nodup_iff_pairwise_ne, List.pairwise_iff_getElem]
    intro i j hi hj hij
    have h2 := hr i j hij (by simp at hj; omega)
    have e1 := hget i (by simp at hi; omega)
    have e2 := hget j (by simp at hj; omega)
    rw [List.getElem?_eq_getElem hi] at e1
    rw [List.getElem?_eq_getElem hj] at e2
    simp only [Option.some.injEq] at e1 e2
    rw [e1, e2]
    omega
  have hmin : ∀ i, i < n → R[0]! ≤ Z i := fun i hi => by
    have hm : Z i ∈ R.toList := hp.mem_iff.2 (List.mem_map.2 ⟨i, List.mem_range.2 hi, rfl⟩)
    obtain ⟨t, ht, he⟩ := List.getElem_of_mem hm
    have e1 := hget t (by simp at ht; omega)
    rw [List.getElem?_eq_getElem ht] at e1
    simp only [Option.some.injEq] at e1
    rw [← he, e1]
    by_cases e : t = 0
    · subst e; exact Int.le_refl _
    · have := hr 0 t (by omega) (by simp at ht; omega)
      omega
  have hpos : 0 < R[0]! := by
    have hm : R[0]! ∈ (List.range n).map Z := hp.mem_iff.1 (List.mem_of_getElem? (hget 0 (by omega)))
    obtain ⟨i, hi, he⟩ := List.mem_map.1 hm
    have := hZ i (List.mem_range.1 hi)
    omega
  refine ⟨fun i hi => by have := hmin i hi; omega, fun i j hi hj he => ?_, hmin⟩
  have hn2 : ((List.range n).map Z).Nodup := hp.nodup_iff.1 hnd
  exact (List.getElem_inj (i := i) (j := j) (h₀ := by simpa using hi) (h₁ := by simpa using hj) hn2).1 (by simpa using he)
end Go.Proofs.Ytbhcdbnbiocimaa.RI
