/- A plan that came in. -/
import Derived.Test.YtmfhbobjambgaaaPlan
import Derived.ChangeArms
import Derived.OpenShut
set_option linter.unusedSimpArgs false
set_option linter.unusedVariables false
namespace Go.Proofs.Ytmfhbobjambgaaa.PL
open Go.ChangeShapes Go.WideShapes Go.Deep Go.RowKit
section
variable {H : Type} {enc : TypeId × Value → H} {w : World}

set_option maxRecDepth 100000 in
theorem open_cfg {r : Reach} {b0 base : Nat} {spare : Nat → Bool} {held : Bool} {v : Value} {d : DataW H} {p : List MemPlace} (hv : Value.okWide Try.prog w r b0 23 v)
    (h : DataW.Trod enc Try.prog w base spare held 23 v d p) : ∃ c : Cfg, v = CV c := by
  obtain ⟨cs, rfl, hsz⟩ := okWide_struct Try.underlying23 hv
  have hsz8 : cs.size = 8 := hsz.trans (by kernel_rfl)
  obtain ⟨fuel, hf⟩ := h
  obtain ⟨xs, n, _, _, hl, hlen, hg⟩ := DataW.trod_struct Try.underlying23 hf
  have key : ∀ j, j < 8 → ∃ z : Int, cs[j]? = some (.int .i64 z) := fun j hj => by
    have hx : ∃ y, xs[j]? = some y := ⟨_, List.getElem?_eq_getElem (by rw [hlen]; exact hj)⟩
    obtain ⟨y, hy⟩ := hx
    have hc1 : Try.prog.cellsOf 3 = 1 := by kernel_rfl
    have : j = 0 ∨ j = 1 ∨ j = 2 ∨ j = 3 ∨ j = 4 ∨ j = 5 ∨ j = 6 ∨ j = 7 := by omega
    have ht : DataW.trod enc Try.prog w base spare held n 3 ((cs.toList.drop j).take 1) = some y := by
      rcases this with rfl | rfl | rfl | rfl | rfl | rfl | rfl | rfl <;> (have := (hg _ _ rfl).trans hy; simpa [Value.cells, hc1] using this)
    obtain ⟨z, hz, _⟩ := DataW.trod_int Try.underlying3 ht
    refine ⟨z, ?_⟩
    have hjs : j < cs.toList.length := by simp [hsz8]; exact hj
    rw [List.drop_eq_getElem_cons hjs] at hz
    simp at hz
    rw [Array.getElem?_eq_getElem (by omega), hz]
  obtain ⟨z0, h0⟩ := key 0 (by omega); obtain ⟨z1, h1⟩ := key 1 (by omega); obtain ⟨z2, h2⟩ := key 2 (by omega); obtain ⟨z3, h3⟩ := key 3 (by omega)
  obtain ⟨z4, h4⟩ := key 4 (by omega); obtain ⟨z5, h5⟩ := key 5 (by omega); obtain ⟨z6, h6⟩ := key 6 (by omega); obtain ⟨z7, h7⟩ := key 7 (by omega)
  refine ⟨⟨z0, z1, z2, z3, z4, z5, z6, z7⟩, ?_⟩
  congr 1
  apply Array.ext_getElem?
  intro j
  by_cases hj : j < 8
  · have : j = 0 ∨ j = 1 ∨ j = 2 ∨ j = 3 ∨ j = 4 ∨ j = 5 ∨ j = 6 ∨ j = 7 := by omega
    rcases this with rfl | rfl | rfl | rfl | rfl | rfl | rfl | rfl <;> (first | exact h0 | exact h1 | exact h2 | exact h3 | exact h4 | exact h5 | exact h6 | exact h7)
  · rw [Array.getElem?_eq_none (by omega), Array.getElem?_eq_none (by simp; omega)]
end
end Go.Proofs.Ytmfhbobjambgaaa.PL
