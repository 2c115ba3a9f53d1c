/- The calls of a script that came in: numbers, then a note. -/
import Derived.Test.YtmfhbobjambgaaaRowN
import Derived.Test.YtmfhbobjambgaaaAggOp09
set_option linter.unusedSimpArgs false
set_option linter.unusedVariables false
namespace Go.Proofs.Ytmfhbobjambgaaa
open Go.ChangeShapes Go.WideShapes Go.Deep Go.RowKit
open BU (IsU words)
/-- A slice that came in, of things of k cells. -/
def IsRowS (w : World) (a : Option Addr) (len cap k : Nat) (C : Nat → Array Value) : Prop :=
  len ≤ cap ∧ cap ≤ maxLen ∧ ∀ i, i < len → (C i).size = k ∧ ∃ x, a = some x ∧ ∀ j v, (C i)[j]? = some v → w.cell? (x.add (i * k + j)) = some v
theorem IsRowS.at {w : World} {a : Option Addr} {len cap k i : Nat} {C : Nat → Array Value} (h : IsRowS w a len cap k C) (hk : 0 < k) (hi : i < len) :
    ∃ x g q, a = some x ∧ x.add (i * k) = ⟨g, q, none⟩ ∧ g < w.heap.size ∧ w.rangeAt g q (C i).toList := by
  obtain ⟨_, _, hrow⟩ := h
  obtain ⟨hs, x, hx, hc⟩ := hrow i hi
  have h0 := hc 0 ((C i)[0]'(by omega)) (Array.getElem?_eq_getElem (by omega))
  have hlt := World.block_lt_of_cell? w _ h0
  have hsp : (x.add (i * k)).spot = none := by
    unfold World.cell? at h0
    rw [Nat.add_zero] at h0
    split at h0
    · cases hs : (x.add (i * k)).spot
      · rfl
      · rw [hs] at h0; simp at h0
    · cases h0
  refine ⟨x, (x.add (i * k)).block, (x.add (i * k)).off, hx, by rw [← hsp], hlt, fun j v hv => ?_⟩
  have hcj := hc j v (by simpa using hv)
  have e : x.add (i * k + j) = ⟨(x.add (i * k)).block, (x.add (i * k)).off + j, none⟩ := by
    cases j with
    | zero =>
      have e0 : x.add (i * k + 0) = x.add (i * k) := rfl
      rw [e0]
      show x.add (i * k) = ⟨(x.add (i * k)).block, (x.add (i * k)).off, none⟩
      rw [← hsp]
    | succ m =>
      unfold Addr.add
      rw [if_neg (by omega)]
      split
      · rename_i h; simp [h]
      · simp; omega
  rw [← e]; exact hcj
/-- A call. -/
structure OpN where
  kind : Int
  i : Int
  j : Int
  n : Nt
def OpN.cells (o : OpN) : Array Value := #[.int .i64 o.kind, .int .i64 o.i, .int .i64 o.j] ++ o.n.cells
structure OpN.Ok (o : OpN) : Prop where
  n : o.n.Ok
def OpN.nil : OpN := ⟨0, 0, 0, Nt.nil⟩
theorem OpN.isN {o : OpN} (h : o.Ok) : IsN 27 o.cells := by
  have h1 := Nt.Ok.isN h.n.isU
  refine ⟨by simp [OpN.cells, h1.1], fun u hu => ?_⟩
  rcases Array.mem_append.1 hu with hu | hu
  · simp at hu
    rcases hu with rfl | rfl | rfl <;> rfl
  · exact h1.2 u hu
theorem OpN.get0 (o : OpN) : o.cells[0]? = some (.int .i64 o.kind) := by unfold OpN.cells; rw [Array.getElem?_append_left (by simp)]; rfl
theorem OpN.get1 (o : OpN) : o.cells[1]? = some (.int .i64 o.i) := by unfold OpN.cells; rw [Array.getElem?_append_left (by simp)]; rfl
theorem OpN.get2 (o : OpN) : o.cells[2]? = some (.int .i64 o.j) := by unfold OpN.cells; rw [Array.getElem?_append_left (by simp)]; rfl
theorem OpN.getN (o : OpN) (j : Nat) : o.cells[3 + j]? = o.n.cells[j]? := by unfold OpN.cells; rw [Array.getElem?_append_right (by simp)]; simp
def opOf (cs : List Value) : OpN := ⟨intOf (cs.getD 0 undef), intOf (cs.getD 1 undef), intOf (cs.getD 2 undef), ntOf (cs.drop 3)⟩
section
variable {H : Type} {enc : TypeId × Value → H} {w : World}
set_option maxRecDepth 100000 in
theorem trod_op {fuel : Nat} {cs : List Value} {x : DataW H × List MemPlace} (h : DataW.trod enc Try.prog w 0 (fun _ => true) true fuel 65 cs = some x) :
    (opOf cs).Ok ∧ cs = (opOf cs).cells.toList := by
  obtain ⟨ys, n, hn, hy, hlen, hyl, hf⟩ := DataW.trod_struct Try.underlying65 h
  have hck : Try.prog.cellsOf 65 = 27 := by kernel_rfl
  rw [hck] at hlen
  match cs, hlen with
  | [c0, c1, c2, d0, d1, d2, d3, d4, d5, d6, d7, d8, d9, d10, d11, d12, d13, d14, d15, d16, d17, d18, d19, d20, d21, d22, d23], _ =>
    have hs : ∀ j, j < 4 → ∃ y, ys[j]? = some y := fun j hj => ⟨ys[j]'(by rw [hyl]; simpa using hj), List.getElem?_eq_getElem _⟩
    have k0 : Try.prog.cellsOf 3 = 1 := by kernel_rfl
    obtain ⟨y0, hy0⟩ := hs 0 (by omega)
    have h0 := hf 0 { name := "Kind", type := 3, offset := 0, embedded := false, tag := "", pkgPath := "", byteOffset := 0 } rfl
    rw [hy0] at h0
    dsimp only at h0
    rw [k0] at h0
    change DataW.trod enc Try.prog w 0 (fun _ => true) true n 3 [c0] = some y0 at h0
    obtain ⟨e0, w0⟩ := field_int Try.underlying3 h0
    have k1 : Try.prog.cellsOf 3 = 1 := by kernel_rfl
    obtain ⟨y1, hy1⟩ := hs 1 (by omega)
    have h1 := hf 1 { name := "I", type := 3, offset := 1, embedded := false, tag := "", pkgPath := "", byteOffset := 8 } rfl
    rw [hy1] at h1
    dsimp only at h1
    rw [k1] at h1
    change DataW.trod enc Try.prog w 0 (fun _ => true) true n 3 [c1] = some y1 at h1
    obtain ⟨e1, w1⟩ := field_int Try.underlying3 h1
    have k2 : Try.prog.cellsOf 3 = 1 := by kernel_rfl
    obtain ⟨y2, hy2⟩ := hs 2 (by omega)
    have h2 := hf 2 { name := "J", type := 3, offset := 2, embedded := false, tag := "", pkgPath := "", byteOffset := 16 } rfl
    rw [hy2] at h2
    dsimp only at h2
    rw [k2] at h2
    change DataW.trod enc Try.prog w 0 (fun _ => true) true n 3 [c2] = some y2 at h2
    obtain ⟨e2, w2⟩ := field_int Try.underlying3 h2
    have kn : Try.prog.cellsOf 37 = 24 := by kernel_rfl
    obtain ⟨yn, hyn⟩ := hs 3 (by omega)
    have hnn := hf 3 { name := "N", type := 37, offset := 3, embedded := false, tag := "", pkgPath := "", byteOffset := 24 } rfl
    rw [hyn] at hnn
    dsimp only at hnn
    rw [kn] at hnn
    change DataW.trod enc Try.prog w 0 (fun _ => true) true n 37 [d0, d1, d2, d3, d4, d5, d6, d7, d8, d9, d10, d11, d12, d13, d14, d15, d16, d17, d18, d19, d20, d21, d22, d23] = some yn at hnn
    obtain ⟨hok, hcs⟩ := trod_note hnn
    have hc : ([c0, c1, c2] : List Value) = [.int .i64 (intOf c0), .int .i64 (intOf c1), .int .i64 (intOf c2)] := by rw [← e0, ← e1, ← e2]
    have ho : opOf [c0, c1, c2, d0, d1, d2, d3, d4, d5, d6, d7, d8, d9, d10, d11, d12, d13, d14, d15, d16, d17, d18, d19, d20, d21, d22, d23] = ⟨intOf c0, intOf c1, intOf c2, ntOf [d0, d1, d2, d3, d4, d5, d6, d7, d8, d9, d10, d11, d12, d13, d14, d15, d16, d17, d18, d19, d20, d21, d22, d23]⟩ := by kernel_rfl
    rw [ho]
    obtain ⟨nn, hn2⟩ : ∃ x, ntOf [d0, d1, d2, d3, d4, d5, d6, d7, d8, d9, d10, d11, d12, d13, d14, d15, d16, d17, d18, d19, d20, d21, d22, d23] = x := ⟨_, rfl⟩
    rw [hn2] at hok hcs ⊢
    refine ⟨⟨hok⟩, ?_⟩
    unfold OpN.cells
    rw [Array.toList_append, ← hcs]
    exact congrArg (· ++ [d0, d1, d2, d3, d4, d5, d6, d7, d8, d9, d10, d11, d12, d13, d14, d15, d16, d17, d18, d19, d20, d21, d22, d23]) hc
set_option maxRecDepth 100000 in
theorem rowOps {a : Option Addr} {len cap : Nat} {d : DataW H} {p : List MemPlace} (h : DataW.Trod enc Try.prog w 0 (fun _ => true) true 60 (.slice a len cap) d p) : ∃ O : Nat → OpN, IsRowS w a len cap 27 (fun i => (O i).cells) ∧ ∀ i, i < len → (O i).Ok := by
  obtain ⟨fuel, hf⟩ := h
  have hck : Try.prog.cellsOf 65 = 27 := by kernel_rfl
  rcases open_slice Try.underlying60 hf with ⟨hcs, _⟩ | ⟨x, l, c, m, n, D, Pl, hcs, hb, hl, hm, hmm, hx, hi⟩
  · simp [Value.cells] at hcs
    obtain ⟨rfl, rfl, rfl⟩ := hcs
    exact ⟨fun _ => OpN.nil, ⟨Nat.le_refl _, by unfold maxLen; omega, fun i hi => absurd hi (Nat.not_lt_zero _)⟩, fun i hi => absurd hi (Nat.not_lt_zero _)⟩
  · simp [Value.cells] at hcs
    obtain ⟨rfl, rfl, rfl⟩ := hcs
    have hmm' : m = cap := by simpa using hmm
    have key : ∀ i, i < len → (opOf ((w.cells? 0 (x.add (i * 27)) 27).getD [])).Ok ∧ ∀ j v, (opOf ((w.cells? 0 (x.add (i * 27)) 27).getD [])).cells[j]? = some v → w.cell? (x.add (i * 27 + j)) = some v := fun i him => by
      obtain ⟨cs', hc, ht'⟩ := hi i (by omega)
      rw [hck] at hc
      rw [hc]
      obtain ⟨hok, hcs⟩ := trod_op ht'
      refine ⟨hok, fun j v hv => ?_⟩
      obtain ⟨_, hcl, hat⟩ := World.cells?_some hc
      have hv' : cs'[j]? = some v := by rw [hcs]; simpa using hv
      have hj : j < 27 := by have := (List.getElem?_eq_some_iff.1 hv').1; omega
      rw [← Go.Deep.add_add, hat j hj, hv']
    exact ⟨fun i => opOf ((w.cells? 0 (x.add (i * 27)) 27).getD []), ⟨hl, hm, fun i him => ⟨(OpN.isN (key i him).1).1, x, rfl, (key i him).2⟩⟩, fun i him => (key i him).1⟩
end
end Go.Proofs.Ytmfhbobjambgaaa
