/- OrderRing: the row of flags: made, filled, written. -/
import Derived.Test.YtbhcdbnbiocimaaRingP
import Derived.Test.YtbhcdbnbiocimaaLong
import Derived.Laws.MakeOwn
import Derived.Laws.IdiomCopy
set_option linter.unusedSimpArgs false
set_option linter.unusedVariables false
namespace Go.Proofs.Ytbhcdbnbiocimaa.RI
open Go.RowKit
/-- A row of n flags in block g. -/
structure BA (W : World) (g n : Nat) (f : Nat → Bool) : Prop where
  cell : ∀ t, t < n → W.cell? ⟨g, 0 + t, none⟩ = some (.bool (f t))
  free : ∀ t, t < n → W.frozen? ⟨g, 0 + t, none⟩ = false
theorem BA.set {W : World} {g n : Nat} {f : Nat → Bool} (h : BA W g n f) {i : Nat} (hi : i < n) (b : Bool) : BA (W.setCell ⟨g, 0 + i, none⟩ (.bool b)) g n (fun t => if t = i then b else f t) := by
  refine ⟨fun t ht => ?_, fun t ht => by rw [World.frozen?_setCell]; exact h.free t ht⟩
  show _ = some (Value.bool (if t = i then b else f t))
  by_cases e : t = i
  · subst e
    rw [if_pos rfl]
    exact World.cell?_setCell_same W _ _ (u := .bool (f t)) (h.cell t ht)
  · rw [if_neg e]
    refine Eq.trans ?_ (h.cell t ht)
    apply World.cell?_setCell_other
    intro hh
    injection hh with _ h2
    omega
theorem BA.sets {g n : Nat} : ∀ (bs : List Bool) (o : Nat) (W : World) (f : Nat → Bool), BA W g n f → o + bs.length ≤ n → ∃ f', BA (W.setCells g o (bs.map .bool)) g n f'
  | [], o, W, f, h, _ => ⟨f, h⟩
  | b :: bs, o, W, f, h, hl => by
    have h1 := h.set (i := o) (by simp at hl; omega) b
    rw [Nat.zero_add] at h1
    exact BA.sets bs (o + 1) _ _ h1 (by simp at hl ⊢; omega)
/-- Whatever flags came in: there are flags behind it. -/
theorem copy_flags {w : World} {g n cap : Nat} {f : Nat → Bool} {a2 : Option Addr} {len2 cap2 : Nat} {B : Nat → Bool} (h : BA w g n f) (h2 : IsRow1 w a2 len2 cap2 (fun i => .bool (B i))) :
    ∃ (m : Nat) (w' : World) (f' : Nat → Bool), (∀ ty, (Builtin.copy_ #[23, 23] ty #[.slice (some ⟨g, 0, none⟩) n cap, .slice a2 len2 cap2]).run Try.prog w = .ok (goInt m) w') ∧ BA w' g n f' ∧ Upd (OnlyAt g) w w' := by
  obtain ⟨l2, m2, c2⟩ := h2
  have hs : (Try.prog.info? 4).map (·.size) = some 1 := by kernel_rfl
  by_cases h0 : Nat.min len2 n = 0
  · exact ⟨0, w, f, fun ty => run_copy_none w _ _ ty 4 _ _ _ _ _ _ Try.underlying23 hs h0, h, Upd.refl _ _⟩
  · have hm1 : Nat.min len2 n ≤ len2 := Nat.min_le_left _ _
    have hm2 : Nat.min len2 n ≤ n := Nat.min_le_right _ _
    obtain ⟨x, rfl, _⟩ := c2 0 (by omega)
    obtain ⟨f', hf'⟩ := BA.sets ((List.range (Nat.min len2 n)).map B) 0 w f h (by simpa using hm2)
    refine ⟨_, _, f', fun ty => run_copy_cells w _ _ ty 4 g 0 n cap x len2 cap2 (((List.range (Nat.min len2 n)).map B).map .bool) Try.underlying23 hs (by simp) (fun j v hv => ?_) (fun j hj => ?_) (fun j hj => ?_) (fun v hv => by obtain ⟨_, _, rfl⟩ := List.mem_map.1 hv; rfl), hf', upd_setCells _ _ _⟩
    · rw [List.getElem?_map, List.getElem?_map] at hv
      by_cases hj : j < Nat.min len2 n
      · rw [List.getElem?_range hj] at hv
        cases hv
        obtain ⟨y, hy, hc⟩ := c2 j (by omega)
        cases hy
        exact hc
      · rw [List.getElem?_eq_none (by simpa using hj)] at hv
        cases hv
    · have hj' : j < Nat.min len2 n := by simpa using hj
      rw [h.cell j (by omega)]; rfl
    · have hj' : j < Nat.min len2 n := by simpa using hj
      exact h.free j (by omega)
end Go.Proofs.Ytbhcdbnbiocimaa.RI
