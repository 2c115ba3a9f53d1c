/- Rows of things of k cells each, and what may lie behind them. -/
import Derived.Test.YtmfhbobjambgaaaAgg
import Derived.Laws.MakeOwn
set_option linter.unusedSimpArgs false
set_option linter.unusedVariables false
namespace Go.Proofs.Ytmfhbobjambgaaa
open Go.RowKit

/-- The cells of the things f 0 .. f (n - 1), of k cells each. -/
def rowG (k n : Nat) (f : Nat → Array Value) : Array Value := Array.ofFn (n := n * k) (fun j => (f (j.val / k)).getD (j.val % k) undef)
def updG {α : Type} (f : Nat → α) (i : Nat) (x : α) : Nat → α := fun j => if j = i then x else f j
theorem updG_same {α : Type} (f : Nat → α) (i : Nat) (x : α) : updG f i x i = x := if_pos rfl
theorem updG_other {α : Type} (f : Nat → α) {i j : Nat} (x : α) (h : j ≠ i) : updG f i x j = f j := if_neg h
theorem updG_self {α : Type} (f : Nat → α) {i : Nat} {x : α} (h : f i = x) : updG f i x = f := by
  funext j
  unfold updG
  split
  · rename_i e; rw [e, h]
  · rfl
theorem rowG_size (k n : Nat) (f : Nat → Array Value) : (rowG k n f).size = n * k := by simp [rowG]
theorem idx_div {k i r : Nat} (hr : r < k) : (i * k + r) / k = i := by
  rw [Nat.add_comm, Nat.add_mul_div_right r i (by omega), Nat.div_eq_of_lt hr, Nat.zero_add]
theorem idx_mod {k i r : Nat} (hr : r < k) : (i * k + r) % k = r := by
  rw [Nat.add_comm, Nat.add_mul_mod_self_right, Nat.mod_eq_of_lt hr]
theorem idx_lt {k i r n : Nat} (hi : i < n) (hr : r < k) : i * k + r < n * k := by
  have : (i + 1) * k ≤ n * k := Nat.mul_le_mul_right k hi
  rw [Nat.add_mul, Nat.one_mul] at this
  omega
theorem rowG_get {k n i r : Nat} {f : Nat → Array Value} (hf : (f i).size = k) (hi : i < n) (hr : r < k) : (rowG k n f)[i * k + r]? = (f i)[r]? := by
  rw [Array.getElem?_eq_getElem (by rw [rowG_size]; exact idx_lt hi hr)]
  simp only [rowG, Array.getElem_ofFn]
  rw [idx_div hr, idx_mod hr, Array.getElem?_eq_getElem (by omega), Array.getD_eq_getD_getElem?, Array.getElem?_eq_getElem (by omega)]
  rfl
theorem idx_split {k n j : Nat} (h : j < n * k) : ∃ q r, j = q * k + r ∧ r < k ∧ q < n := by
  have hk : 0 < k := by
    rcases Nat.eq_zero_or_pos k with e | e
    · subst e; simp at h
    · exact e
  refine ⟨j / k, j % k, ?_, Nat.mod_lt _ hk, ?_⟩
  · rw [Nat.mul_comm]; exact (Nat.div_add_mod j k).symm
  · rw [Nat.div_lt_iff_lt_mul hk]; exact h
theorem rowG_set {k n i : Nat} {f : Nat → Array Value} {x : Array Value} (hf : ∀ j, (f j).size = k) (hx : x.size = k) (hi : i < n) : setMany (rowG k n f) (i * k) x.toList = rowG k n (updG f i x) := by
  have hU : ∀ j, (updG f i x j).size = k := fun j => by unfold updG; split; exact hx; exact hf j
  apply Array.ext_getElem?
  intro j
  rw [get_setMany, rowG_size, Array.length_toList, hx]
  by_cases hj : j < n * k
  · obtain ⟨q, r, rfl, hr, hq⟩ := idx_split hj
    rw [rowG_get (hf q) hq hr, rowG_get (hU q) hq hr]
    by_cases e : q = i
    · subst e
      rw [updG_same, if_pos ⟨by omega, by omega, hj⟩, Array.getElem?_toList, show q * k + r - q * k = r by omega]
    · rw [updG_other _ _ e, if_neg]
      rintro ⟨h1, h2, -⟩
      have e1 := idx_div (i := q) hr
      have e2 := idx_div (k := k) (i := i) (r := q * k + r - i * k) (by omega)
      rw [show i * k + (q * k + r - i * k) = q * k + r by omega] at e2
      omega
  · rw [if_neg (by omega), Array.getElem?_eq_none (by rw [rowG_size]; omega), Array.getElem?_eq_none (by rw [rowG_size]; omega)]
theorem setMany_appG {X tl : Array Value} {o : Nat} {vs : List Value} (h : o + vs.length ≤ X.size) : setMany (X ++ tl) o vs = setMany X o vs ++ tl := by
  apply Array.ext_getElem?
  intro k
  rw [get_setMany]
  by_cases hk : k < X.size
  · rw [Array.getElem?_append_left hk, Array.getElem?_append_left (by rw [size_setMany]; exact hk), get_setMany, Array.size_append]
    by_cases e : o ≤ k ∧ k < o + vs.length
    · rw [if_pos ⟨e.1, e.2, by omega⟩, if_pos ⟨e.1, e.2, hk⟩]
    · rw [if_neg (by omega), if_neg (by omega)]
  · rw [if_neg (by omega), Array.getElem?_append_right (by omega), Array.getElem?_append_right (by rw [size_setMany]; omega), size_setMany]
theorem rowX_getG {k n i r : Nat} {f : Nat → Array Value} {tl : Array Value} (hf : (f i).size = k) (hi : i < n) (hr : r < k) : (rowG k n f ++ tl)[i * k + r]? = (f i)[r]? := by
  rw [Array.getElem?_append_left (by rw [rowG_size]; exact idx_lt hi hr), rowG_get hf hi hr]
theorem rowX_setG {k n i : Nat} {f : Nat → Array Value} {x tl : Array Value} (hf : ∀ j, (f j).size = k) (hx : x.size = k) (hi : i < n) : setMany (rowG k n f ++ tl) (i * k) x.toList = rowG k n (updG f i x) ++ tl := by
  have : (i + 1) * k ≤ n * k := Nat.mul_le_mul_right k hi
  rw [Nat.add_mul, Nat.one_mul] at this
  rw [setMany_appG (by rw [Array.length_toList, hx, rowG_size]; exact this), rowG_set hf hx hi]
theorem rowG_range {W : World} {g k n i : Nat} {f : Nat → Array Value} {tl : Array Value} {T : TypeId} (h : Blk W g (rowG k n f ++ tl) T) (hf : (f i).size = k) (hi : i < n) : W.rangeAt g (i * k) (f i).toList := by
  intro j v hv
  have hj : j < k := by
    have := (List.getElem?_eq_some_iff.1 hv).1
    rw [Array.length_toList, hf] at this
    exact this
  have := h.cell (i * k + j)
  rw [this, rowX_getG hf hi hj]
  simpa using hv
theorem rowG_made (Z : Array Value) (n : Nat) : madeCells Z (n * Z.size) = rowG Z.size n (fun _ => Z) := by
  apply Array.ext
  · simp [madeCells, rowG]
  · intro i h1 h2
    have hi : i < n * Z.size := by simpa [rowG] using h2
    have hz : 0 < Z.size := by
      rcases Nat.eq_zero_or_pos Z.size with e | e
      · rw [e] at hi; simp at hi
      · exact e
    have hm := Nat.mod_lt i hz
    simp only [madeCells, rowG, Array.getElem_map, Array.getElem_ofFn, Array.getElem_range]
    rw [Array.getD_eq_getD_getElem?, Array.getElem?_eq_getElem hm, getElem!_pos Z (i % Z.size) hm]
    rfl
theorem rowG_take {k n : Nat} {f : Nat → Array Value} {tl : Array Value} : (rowG k n f ++ tl).toList.take (n * k) = (rowG k n f).toList := by
  rw [Array.toList_append, List.take_append_of_le_length (by rw [Array.length_toList, rowG_size]; exact Nat.le_refl _), List.take_of_length_le (by rw [Array.length_toList, rowG_size]; exact Nat.le_refl _)]
theorem rowG_one {k n : Nat} {f : Nat → Array Value} (hf : ∀ i, IsN k (f i)) : ∀ u ∈ (rowG k n f).toList, u.oneCell' = true := fun u hu => by
  rw [Array.mem_toList_iff, Array.mem_iff_getElem?] at hu
  obtain ⟨j, hj⟩ := hu
  have hlt : j < n * k := by have := (Array.getElem?_eq_some_iff.1 hj).1; rwa [rowG_size] at this
  obtain ⟨q, r, rfl, hr, hq⟩ := idx_split hlt
  rw [rowG_get (hf q).1 hq hr] at hj
  exact (hf q).2 u (Array.mem_of_getElem? hj)
theorem split_takeG {cur X : Array Value} {k : Nat} (h : cur.toList.take k = X.toList) : ∃ tl, cur = X ++ tl := by
  refine ⟨(cur.toList.drop k).toArray, ?_⟩
  apply Array.toList_inj.1
  rw [Array.toList_append, ← h]
  simp
theorem rowG_ext {k n : Nat} {f g : Nat → Array Value} (h : ∀ i, i < n → f i = g i) : rowG k n f = rowG k n g := by
  unfold rowG
  congr 1
  funext j
  have hk : 0 < k := by
    rcases Nat.eq_zero_or_pos k with e | e
    · have := j.isLt; subst e; simp at this
    · exact e
  rw [h _ ((Nat.div_lt_iff_lt_mul hk).2 j.isLt)]
/-- Many cells of an object are written. -/
theorem Sep.setMG {G : Nat → Prop} {w0 W : World} {L : List Obj} (h : Sep G w0 W L) (i : Nat) {b : Nat} {cs : Array Value} {T : TypeId} (hi : L[i]? = some (boxO b cs T)) (o : Nat) (vs : List Value) :
    Sep G w0 (W.setCells b o vs) (L.set i (boxO b (setMany cs o vs) T)) := by
  obtain ⟨F, h2, h3⟩ := h.step i hi
  exact h3 _ _ ((upd_setCells vs o W).mono (fun k _ hk => by have e : k = b := hk; subst e; exact h2.2)) ⟨blk_setCells vs o W cs h2.1, .inl h2.2⟩
end Go.Proofs.Ytmfhbobjambgaaa
