/- Slices of structs that came in: rows of cells, a struct of one-cell fields each. -/
import Derived.Test.YtmfhbobjambgaaaGen
import Derived.Deep.Slices
import Derived.Deep.Fields
import Derived.ChangeSame
set_option linter.unusedSimpArgs false
set_option linter.unusedVariables false
namespace Go.Proofs.Ytmfhbobjambgaaa
open Go.ChangeShapes Go.WideShapes Go.Deep Go.RowKit

def boolOf : Value → Bool
  | .bool b => b
  | _ => false

/-- A slice that came in, of structs of k cells: nil, or a row of cells; V i j: the cell j of the element i. -/
def IsRowF (w : World) (a : Option Addr) (len cap k : Nat) (V : Nat → Nat → Value) : Prop :=
  len ≤ cap ∧ cap ≤ maxLen ∧ ∀ i, i < len → ∃ x, a = some x ∧ ∀ j, j < k → w.cell? (x.add (i * k + j)) = some (V i j)

section
variable {H : Type} {enc : TypeId × Value → H} {P : Program} {w : World} {base : Nat} {spare : Nat → Bool} {held : Bool}
theorem open_slice_fields {t e : TypeId} {fs : Array Field} {fuel : Nat} {cs : List Value} {x : DataW H × List MemPlace} (ht : P.underlying t = some (.slice e)) (he : P.underlying e = some (.struct fs))
    (hone : oneCellFields P fs = true) (hC : P.cellsOf e = fs.size) (h : DataW.trod enc P w base spare held fuel t cs = some x) :
    (cs = [.slice none 0 0] ∧ x = (.nil, [])) ∨
    ∃ (a : Addr) (len cap m : Nat), cs = [.slice (some a) len cap] ∧ len ≤ cap ∧ cap ≤ maxLen ∧ m = (if spare a.block then cap else len) ∧
      ∀ i, i < m → ∃ (n : Nat), ∀ (j : Nat) (f : Field), fs[j]? = some f → ∃ (v : Value) (y : DataW H × List MemPlace), w.cell? (a.add (i * fs.size + j)) = some v ∧ DataW.trod enc P w base spare held n f.type [v] = some y := by
  rcases open_slice ht h with h0 | ⟨a, len, cap, m, n, D, Pl, hcs, hb, hl, hm, hmm, hx, hi⟩
  · exact .inl h0
  · refine .inr ⟨a, len, cap, m, hcs, hl, hm, hmm, fun i him => ?_⟩
    obtain ⟨cs', hc, ht'⟩ := hi i him
    rw [hC] at hc
    obtain ⟨ys, n', hn', hy, hlen, hyl, hf⟩ := DataW.trod_struct he ht'
    obtain ⟨_, hcl, hat⟩ := World.cells?_some hc
    refine ⟨n', fun j f hj => ?_⟩
    obtain ⟨ho, hk⟩ := hone_of hone j f hj
    have hjl : j < fs.size := (Array.getElem?_eq_some_iff.1 hj).1
    have hcell := hat j hjl
    have hv : cs'[j]? = some (cs'[j]'(by omega)) := List.getElem?_eq_getElem (by omega)
    have h1 := hf j f hj
    rw [ho, hk] at h1
    have hone' : (cs'.drop j).take 1 = [cs'[j]'(by omega)] := by
      rw [List.drop_eq_getElem_cons (by omega)]
      rfl
    rw [hone'] at h1
    have hys : ys[j]? = some (ys[j]'(by omega)) := List.getElem?_eq_getElem (by omega)
    refine ⟨_, _, ?_, h1.trans hys⟩
    rw [← Go.Deep.add_add, hcell, hv]

theorem rowFields {t e : TypeId} {fs : Array Field} {a : Option Addr} {len cap : Nat} {d : DataW H} {p : List MemPlace} (ht : P.underlying t = some (.slice e)) (he : P.underlying e = some (.struct fs))
    (hone : oneCellFields P fs = true) (hC : P.cellsOf e = fs.size) (h : DataW.Trod enc P w 0 (fun _ => true) true t (.slice a len cap) d p) :
    ∃ V : Nat → Nat → Value, IsRowF w a len cap fs.size V ∧ ∀ i, i < len → ∃ n : Nat, ∀ (j : Nat) (f : Field), fs[j]? = some f → ∃ y, DataW.trod enc P w 0 (fun _ => true) true n f.type [V i j] = some y := by
  obtain ⟨fuel, hf⟩ := h
  rcases open_slice_fields ht he hone hC hf with ⟨hcs, _⟩ | ⟨x, l, c, m, hcs, hl, hm, hmm, hi⟩
  · simp [Value.cells] at hcs
    obtain ⟨rfl, rfl, rfl⟩ := hcs
    exact ⟨fun _ _ => undef, ⟨Nat.le_refl _, by unfold maxLen; omega, fun i hi => absurd hi (Nat.not_lt_zero _)⟩, fun i hi => absurd hi (Nat.not_lt_zero _)⟩
  · simp [Value.cells] at hcs
    obtain ⟨rfl, rfl, rfl⟩ := hcs
    have hmm' : m = cap := by simpa using hmm
    have hfs : ∀ j, j < fs.size → fs[j]? = some (fs[j]!) := fun j hj => by simp [hj]
    refine ⟨fun i j => (w.cell? (x.add (i * fs.size + j))).getD undef, ⟨hl, hm, fun i him => ⟨x, rfl, fun j hj => ?_⟩⟩, fun i him => ?_⟩
    · obtain ⟨n, hn⟩ := hi i (by omega)
      obtain ⟨v, y, hv, _⟩ := hn j _ (hfs j hj)
      dsimp only
      rw [hv]; rfl
    · obtain ⟨n, hn⟩ := hi i (by omega)
      refine ⟨n, fun j f hj => ?_⟩
      obtain ⟨v, y, hv, hy⟩ := hn j f hj
      exact ⟨y, by dsimp only; rw [hv]; exact hy⟩
theorem field_int {t : TypeId} {k : IntKind} {n : Nat} {v : Value} {y : DataW H × List MemPlace} (ht : P.underlying t = some (.int k)) (h : DataW.trod enc P w 0 (fun _ => true) true n t [v] = some y) : v = .int k (intOf v) ∧ (Lit.int k (intOf v)).wf = true := by
  obtain ⟨s, e, _, c⟩ := DataW.trod_int ht h
  obtain rfl : v = .int k s := by simpa using e
  exact ⟨rfl, c⟩
theorem field_bool {t : TypeId} {n : Nat} {v : Value} {y : DataW H × List MemPlace} (ht : P.underlying t = some .bool) (h : DataW.trod enc P w 0 (fun _ => true) true n t [v] = some y) : v = .bool (boolOf v) := by
  obtain ⟨s, e, _⟩ := DataW.trod_bool ht h
  obtain rfl : v = .bool s := by simpa using e
  rfl
end
/-- The address of an element, and its cells. -/
theorem IsRowF.at {w : World} {a : Option Addr} {len cap k i : Nat} {V : Nat → Nat → Value} (h : IsRowF w a len cap k V) (hk : 0 < k) (hi : i < len) :
    ∃ x g q, a = some x ∧ x.add (i * k) = ⟨g, q, none⟩ ∧ g < w.heap.size ∧ ∀ j, j < k → w.cell? ⟨g, q + j, none⟩ = some (V i j) := by
  obtain ⟨_, _, hrow⟩ := h
  obtain ⟨x, hx, hc⟩ := hrow i hi
  have h0 := hc 0 hk
  have hlt := World.block_lt_of_cell? w _ h0
  have hsp : (x.add (i * k)).spot = none := by
    unfold World.cell? at h0
    rw [Nat.add_zero] at h0
    split at h0
    · cases hs : (x.add (i * k)).spot
      · rfl
      · rw [hs] at h0; simp at h0
    · cases h0
  refine ⟨x, (x.add (i * k)).block, (x.add (i * k)).off, hx, by rw [← hsp], hlt, fun j hj => ?_⟩
  have hcj := hc j hj
  have e : x.add (i * k + j) = ⟨(x.add (i * k)).block, (x.add (i * k)).off + j, none⟩ := by
    cases j with
    | zero =>
      have e0 : x.add (i * k + 0) = x.add (i * k) := rfl
      rw [e0]
      show x.add (i * k) = ⟨(x.add (i * k)).block, (x.add (i * k)).off, none⟩
      rw [← hsp]
    | succ m =>
      unfold Addr.add
      rw [if_neg (by omega)]
      split
      · rename_i h; simp [h]
      · simp; omega
  rw [← e]; exact hcj
end Go.Proofs.Ytmfhbobjambgaaa
