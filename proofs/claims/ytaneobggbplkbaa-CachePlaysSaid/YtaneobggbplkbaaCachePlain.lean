/- Lines of a cache: their cells, rows of them; rows of bytes. -/
import Derived.Test.YtaneobggbplkbaaBlkU
import Derived.Test.YtaneobggbplkbaaAggLine
import Derived.Test.YtaneobggbplkbaaSep
import Derived.Laws.MakeOwn
set_option linter.unusedSimpArgs false
set_option linter.unusedVariables false
namespace Go.Proofs.Ytaneobggbplkbaa
open Go.RowKit
open BU (IsU words)

structure Ln where
  blk : Int
  st : Int
  D : Array Value
namespace Ln
def cells (n : Ln) : Array Value := #[.int .i64 n.blk, .int .u8 n.st] ++ n.D
structure Ok (n : Ln) : Prop where
  st : 0 ≤ n.st ∧ n.st ≤ 255
  isU : IsU n.D
theorem Ok.isN {n : Ln} (h : IsU n.D) : IsN 18 n.cells := by
  refine ⟨by simp [cells, h.1], fun u hu => ?_⟩
  unfold cells at hu
  rcases Array.mem_append.1 hu with hu | hu
  · simp only [List.mem_toArray, List.mem_cons, List.not_mem_nil, or_false] at hu
    rcases hu with rfl | rfl <;> rfl
  · obtain ⟨z, rfl⟩ := h.2 u hu; rfl
theorem get0 (n : Ln) : n.cells[0]? = some (.int .i64 n.blk) := by unfold cells; rw [Array.getElem?_append_left (by simp)]; rfl
theorem get1 (n : Ln) : n.cells[1]? = some (.int .u8 n.st) := by unfold cells; rw [Array.getElem?_append_left (by simp)]; rfl
theorem getD (n : Ln) (j : Nat) : n.cells[2 + j]? = n.D[j]? := by unfold cells; rw [Array.getElem?_append_right (by simp)]; simp
/-- A line that is free. -/
def nil : Ln := ⟨0, 0, TBlk.Z⟩
theorem nil_cells : nil.cells = TLin.Z := by kernel_rfl
theorem nil_ok : nil.Ok := ⟨by decide, BU.isU_Z⟩
end Ln
/-- A row of lines. -/
def lnRow (n : Nat) (A : Nat → Ln) : Array Value := Array.ofFn (n := n * 18) (fun j => (A (j.val / 18)).cells.getD (j.val % 18) undef)
def updL (A : Nat → Ln) (i : Nat) (x : Ln) : Nat → Ln := fun j => if j = i then x else A j
theorem lnRow_size (n : Nat) (A : Nat → Ln) : (lnRow n A).size = n * 18 := by simp [lnRow]
theorem lnRow_get {n i r : Nat} {A : Nat → Ln} (hA : IsU (A i).D) (hi : i < n) (hr : r < 18) : (lnRow n A)[i * 18 + r]? = (A i).cells[r]? := by
  have hlt : i * 18 + r < n * 18 := by omega
  have hs := (Ln.Ok.isN hA).1
  rw [Array.getElem?_eq_getElem (by rw [lnRow_size]; exact hlt)]
  simp only [lnRow, Array.getElem_ofFn]
  rw [show (i * 18 + r) / 18 = i by omega, show (i * 18 + r) % 18 = r by omega, Array.getElem?_eq_getElem (by omega), Array.getD_eq_getD_getElem?, Array.getElem?_eq_getElem (by omega)]
  rfl
theorem lnRow_set {n i : Nat} {A : Nat → Ln} {x : Ln} (hA : ∀ j, IsU (A j).D) (hx : IsU x.D) (hi : i < n) : setMany (lnRow n A) (i * 18) x.cells.toList = lnRow n (updL A i x) := by
  have hs := (Ln.Ok.isN hx).1
  have hU : ∀ j, IsU (updL A i x j).D := fun j => by unfold updL; split; exact hx; exact hA j
  apply Array.ext_getElem?
  intro k
  rw [get_setMany, lnRow_size, Array.length_toList, hs]
  by_cases hk : k < n * 18
  · obtain ⟨q, r, rfl, hr⟩ : ∃ q r, k = q * 18 + r ∧ r < 18 := ⟨k / 18, k % 18, by omega, by omega⟩
    have hq : q < n := by omega
    rw [lnRow_get (hA q) hq hr, lnRow_get (hU q) hq hr]
    unfold updL
    by_cases e : q = i
    · subst e
      rw [if_pos ⟨by omega, by omega, hk⟩, if_pos rfl, Array.getElem?_toList, show q * 18 + r - q * 18 = r by omega]
    · rw [if_neg (by omega), if_neg e]
  · rw [if_neg (by omega), Array.getElem?_eq_none (by rw [lnRow_size]; omega), Array.getElem?_eq_none (by rw [lnRow_size]; omega)]
theorem setMany_app {X tl : Array Value} {o : Nat} {vs : List Value} (h : o + vs.length ≤ X.size) : setMany (X ++ tl) o vs = setMany X o vs ++ tl := by
  apply Array.ext_getElem?
  intro k
  rw [get_setMany]
  by_cases hk : k < X.size
  · rw [Array.getElem?_append_left hk, Array.getElem?_append_left (by rw [size_setMany]; exact hk), get_setMany, Array.size_append]
    by_cases e : o ≤ k ∧ k < o + vs.length
    · rw [if_pos ⟨e.1, e.2, by omega⟩, if_pos ⟨e.1, e.2, hk⟩]
    · rw [if_neg (by omega), if_neg (by omega)]
  · rw [if_neg (by omega), Array.getElem?_append_right (by omega), Array.getElem?_append_right (by rw [size_setMany]; omega), size_setMany]
theorem set_app {X tl : Array Value} {o : Nat} {v : Value} (h : o < X.size) : (X ++ tl).setIfInBounds o v = X.setIfInBounds o v ++ tl := by
  apply Array.ext_getElem?
  intro k
  rw [Array.getElem?_setIfInBounds]
  by_cases hk : k < X.size
  · rw [Array.getElem?_append_left hk, Array.getElem?_append_left (by simpa using hk), Array.getElem?_setIfInBounds]
    rw [Array.size_append, if_pos h, if_pos (show o < X.size + tl.size by omega)]
  · rw [if_neg (by omega), Array.getElem?_append_right (by omega), Array.getElem?_append_right (by simpa using hk), Array.size_setIfInBounds]
/-- Rows of lines, and what lies behind them. -/
theorem lnX_get {n i r : Nat} {A : Nat → Ln} {tl : Array Value} (hA : IsU (A i).D) (hi : i < n) (hr : r < 18) : (lnRow n A ++ tl)[i * 18 + r]? = (A i).cells[r]? := by
  rw [Array.getElem?_append_left (by rw [lnRow_size]; omega), lnRow_get hA hi hr]
theorem lnX_set {n i : Nat} {A : Nat → Ln} {x : Ln} {tl : Array Value} (hA : ∀ j, IsU (A j).D) (hx : IsU x.D) (hi : i < n) : setMany (lnRow n A ++ tl) (i * 18) x.cells.toList = lnRow n (updL A i x) ++ tl := by
  rw [setMany_app (by rw [Array.length_toList, (Ln.Ok.isN hx).1, lnRow_size]; omega), lnRow_set hA hx hi]
theorem lnX_setc {n i r : Nat} {A : Nat → Ln} {x : Ln} {tl : Array Value} {v : Value} (hA : ∀ j, IsU (A j).D) (hx : IsU x.D) (hi : i < n) (hr : r < 18) (e : x.cells = (A i).cells.setIfInBounds r v) : (lnRow n A ++ tl).setIfInBounds (i * 18 + r) v = lnRow n (updL A i x) ++ tl := by
  rw [set_app (by rw [lnRow_size]; omega)]
  congr 1
  have hU : ∀ j, IsU (updL A i x j).D := fun j => by unfold updL; split; exact hx; exact hA j
  apply Array.ext_getElem?
  intro k
  rw [Array.getElem?_setIfInBounds, lnRow_size]
  by_cases hk : k < n * 18
  · obtain ⟨q, p, rfl, hp⟩ : ∃ q p, k = q * 18 + p ∧ p < 18 := ⟨k / 18, k % 18, by omega, by omega⟩
    have hq : q < n := by omega
    rw [lnRow_get (hA q) hq hp, lnRow_get (hU q) hq hp]
    unfold updL
    by_cases e2 : q = i
    · subst e2
      rw [if_pos rfl, e, Array.getElem?_setIfInBounds, (Ln.Ok.isN (hA q)).1]
      by_cases e3 : r = p
      · subst e3; rw [if_pos rfl, if_pos rfl, if_pos hk, if_pos hr]
      · rw [if_neg (by omega), if_neg e3]
    · rw [if_neg (by omega), if_neg e2]
  · rw [if_neg (by omega), Array.getElem?_eq_none (by rw [lnRow_size]; omega), Array.getElem?_eq_none (by rw [lnRow_size]; omega)]
theorem lnRow_range {W : World} {gl n i : Nat} {A : Nat → Ln} {tl : Array Value} {T : TypeId} (h : Blk W gl (lnRow n A ++ tl) T) (hA : IsU (A i).D) (hi : i < n) : W.rangeAt gl (i * 18) (A i).cells.toList := by
  intro j v hv
  have hj : j < 18 := by
    have := (List.getElem?_eq_some_iff.1 hv).1
    rw [Array.length_toList, (Ln.Ok.isN hA).1] at this
    exact this
  have := h.cell (i * 18 + j)
  rw [this, lnX_get hA hi hj]
  simpa using hv
theorem lnRow_made (n : Nat) : madeCells TLin.Z (n * 18) = lnRow n (fun _ => Ln.nil) := by
  apply Array.ext
  · simp [madeCells, lnRow]
  · intro i h1 h2
    simp only [madeCells, lnRow, Array.getElem_map, Array.getElem_ofFn, Array.getElem_range, Ln.nil_cells]
    have hz : TLin.Z.size = 18 := TLin.size_Z
    rw [hz, Array.getD_eq_getD_getElem?, Array.getElem?_eq_getElem (by omega), getElem!_pos TLin.Z (i % 18) (by omega)]
    rfl
/-- A row of bytes. -/
def rowU (s : Nat) (M : Nat → Int) : Array Value := Array.ofFn (n := s) (fun i => .int .u8 (M i.val))
theorem rowU_size (s : Nat) (M : Nat → Int) : (rowU s M).size = s := by simp [rowU]
theorem rowU_get {s i : Nat} (M : Nat → Int) (h : i < s) : (rowU s M)[i]? = some (.int .u8 (M i)) := by
  rw [Array.getElem?_eq_getElem (by rw [rowU_size]; exact h)]
  simp [rowU]
theorem rowU_set (s : Nat) (M : Nat → Int) (i : Nat) (x : Int) : (rowU s M).setIfInBounds i (.int .u8 x) = rowU s (fun j => if j = i then x else M j) := by
  apply Array.ext
  · simp [rowU]
  · intro j h1 h2
    rw [Array.getElem_setIfInBounds (by simpa [rowU] using h1)]
    by_cases e : i = j
    · subst e; simp [rowU]
    · rw [if_neg e]
      have : ¬ j = i := fun h => e h.symm
      simp [rowU, this]
theorem rowU_made (s : Nat) : madeCells #[.int .u8 0] (s * 1) = rowU s (fun _ => 0) := by
  apply Array.ext
  · simp [madeCells, rowU]
  · intro i h1 h2
    simp [madeCells, rowU, Nat.mod_one]
theorem rowX_get {s i : Nat} {M : Nat → Int} {tm : Array Value} (h : i < s) : (rowU s M ++ tm)[i]? = some (.int .u8 (M i)) := by
  rw [Array.getElem?_append_left (by rw [rowU_size]; exact h), rowU_get M h]
theorem rowX_set {s : Nat} {M : Nat → Int} {tm : Array Value} {i : Nat} (h : i < s) (x : Int) : (rowU s M ++ tm).setIfInBounds i (.int .u8 x) = rowU s (fun j => if j = i then x else M j) ++ tm := by
  rw [set_app (by rw [rowU_size]; exact h), rowU_set]
/-- Many cells of an object are written. -/
theorem Sep.setM {G : Nat → Prop} {w0 W : World} {L : List Obj} (h : Sep G w0 W L) (i : Nat) {b : Nat} {cs : Array Value} {T : TypeId} (hi : L[i]? = some (boxO b cs T)) (o : Nat) (vs : List Value) :
    Sep G w0 (W.setCells b o vs) (L.set i (boxO b (setMany cs o vs) T)) := by
  obtain ⟨F, h2, h3⟩ := h.step i hi
  exact h3 _ _ ((upd_setCells vs o W).mono (fun k _ hk => by have e : k = b := hk; subst e; exact h2.2)) ⟨blk_setCells vs o W cs h2.1, .inl h2.2⟩
/-- The first of k lines from lo on that is so; -1: none is. -/
def firstW (p : Ln → Bool) (A : Nat → Ln) (lo k : Nat) : Int := match (List.range k).find? (fun i => p (A (lo + i))) with | some i => (i : Int) | none => -1
theorem firstW_hit {p : Ln → Bool} {A : Nat → Ln} {lo k i : Nat} (h : ∀ j, j < i → p (A (lo + j)) = false) (hi : i < k) (hp : p (A (lo + i)) = true) : firstW p A lo k = i := by
  unfold firstW
  have : (List.range k).find? (fun i => p (A (lo + i))) = some i := by
    rw [List.find?_range_eq_some]
    exact ⟨hp, by simpa using hi, fun j hj => by rw [h j hj]; rfl⟩
  rw [this]
theorem firstW_none {p : Ln → Bool} {A : Nat → Ln} {lo k : Nat} (h : ∀ j, j < k → p (A (lo + j)) = false) : firstW p A lo k = -1 := by
  unfold firstW
  have : (List.range k).find? (fun i => p (A (lo + i))) = none := by
    rw [List.find?_eq_none]
    intro j hj
    simp only [List.mem_range] at hj
    rw [h j hj]; simp
  rw [this]
end Go.Proofs.Ytaneobggbplkbaa
