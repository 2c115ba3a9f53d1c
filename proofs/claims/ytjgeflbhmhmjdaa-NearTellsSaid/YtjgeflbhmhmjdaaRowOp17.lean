/- The calls of a script that came in: numbers, then a note. -/
import Derived.Test.YtjgeflbhmhmjdaaCacheGd
import Derived.Test.YtjgeflbhmhmjdaaPlan
import Derived.ChangeArms
import Derived.OpenShut
set_option linter.unusedSimpArgs false
set_option linter.unusedVariables false
namespace Go.Proofs.Ytjgeflbhmhmjdaa
open Go.ChangeShapes Go.WideShapes Go.Deep Go.RowKit
open BU (IsU words)
/-- A slice that came in, of things of k cells. -/
def IsRowS (w : World) (a : Option Addr) (len cap k : Nat) (C : Nat → Array Value) : Prop :=
  len ≤ cap ∧ cap ≤ maxLen ∧ ∀ i, i < len → (C i).size = k ∧ ∃ x, a = some x ∧ ∀ j v, (C i)[j]? = some v → w.cell? (x.add (i * k + j)) = some v
theorem IsRowS.at {w : World} {a : Option Addr} {len cap k i : Nat} {C : Nat → Array Value} (h : IsRowS w a len cap k C) (hk : 0 < k) (hi : i < len) :
    ∃ x g q, a = some x ∧ x.add (i * k) = ⟨g, q, none⟩ ∧ g < w.heap.size ∧ w.rangeAt g q (C i).toList := by
  obtain ⟨_, _, hrow⟩ := h
  obtain ⟨hs, x, hx, hc⟩ := hrow i hi
  have h0 := hc 0 ((C i)[0]'(by omega)) (Array.getElem?_eq_getElem (by omega))
  have hlt := World.block_lt_of_cell? w _ h0
  have hsp : (x.add (i * k)).spot = none := by
    unfold World.cell? at h0
    rw [Nat.add_zero] at h0
    split at h0
    · cases hs : (x.add (i * k)).spot
      · rfl
      · rw [hs] at h0; simp at h0
    · cases h0
  refine ⟨x, (x.add (i * k)).block, (x.add (i * k)).off, hx, by rw [← hsp], hlt, fun j v hv => ?_⟩
  have hcj := hc j v (by simpa using hv)
  have e : x.add (i * k + j) = ⟨(x.add (i * k)).block, (x.add (i * k)).off + j, none⟩ := by
    cases j with
    | zero =>
      have e0 : x.add (i * k + 0) = x.add (i * k) := rfl
      rw [e0]
      show x.add (i * k) = ⟨(x.add (i * k)).block, (x.add (i * k)).off, none⟩
      rw [← hsp]
    | succ m =>
      unfold Addr.add
      rw [if_neg (by omega)]
      split
      · rename_i h; simp [h]
      · simp; omega
  rw [← e]; exact hcj
/-- A call. -/
structure OpN where
  kind : Int
  b : Int
  wd : Int
  yes : Bool
  x : Int
  n : Nt
def OpN.cells (o : OpN) : Array Value := #[.int .i64 o.kind, .int .i64 o.b, .int .i64 o.wd, .bool o.yes, .int .u32 o.x] ++ o.n.cells
structure OpN.Ok (o : OpN) : Prop where
  n : o.n.Ok
  x : 0 ≤ o.x ∧ o.x ≤ 4294967295
  b : (Lit.int .i64 o.b).wf = true
  wd : (Lit.int .i64 o.wd).wf = true
  nb : (Lit.int .i64 o.n.blk).wf = true
def OpN.nil : OpN := ⟨0, 0, 0, false, 0, Nt.nil⟩
theorem OpN.isN {o : OpN} (h : o.Ok) : IsN 29 o.cells := by
  have h1 := Nt.Ok.isN h.n.isU
  refine ⟨by simp [OpN.cells, h1.1], fun u hu => ?_⟩
  rcases Array.mem_append.1 hu with hu | hu
  · simp at hu
    rcases hu with rfl | rfl | rfl | rfl | rfl <;> rfl
  · exact h1.2 u hu
theorem OpN.get0 (o : OpN) : o.cells[0]? = some (.int .i64 o.kind) := by unfold OpN.cells; rw [Array.getElem?_append_left (by simp)]; rfl
theorem OpN.get1 (o : OpN) : o.cells[1]? = some (.int .i64 o.b) := by unfold OpN.cells; rw [Array.getElem?_append_left (by simp)]; rfl
theorem OpN.get2 (o : OpN) : o.cells[2]? = some (.int .i64 o.wd) := by unfold OpN.cells; rw [Array.getElem?_append_left (by simp)]; rfl
theorem OpN.get3 (o : OpN) : o.cells[3]? = some (.bool o.yes) := by unfold OpN.cells; rw [Array.getElem?_append_left (by simp)]; rfl
theorem OpN.get4 (o : OpN) : o.cells[4]? = some (.int .u32 o.x) := by unfold OpN.cells; rw [Array.getElem?_append_left (by simp)]; rfl
theorem OpN.getN (o : OpN) (j : Nat) : o.cells[5 + j]? = o.n.cells[j]? := by unfold OpN.cells; rw [Array.getElem?_append_right (by simp)]; simp
def opOf (cs : List Value) : OpN := ⟨Go.RowKit.intOf (cs.getD 0 undef), Go.RowKit.intOf (cs.getD 1 undef), Go.RowKit.intOf (cs.getD 2 undef), boolOf (cs.getD 3 undef), Go.RowKit.intOf (cs.getD 4 undef), ntOf (cs.drop 5)⟩
section
variable {H : Type} {enc : TypeId × Value → H} {w : World}
set_option maxRecDepth 100000 in
theorem trod_blk {fuel : Nat} {cs : List Value} {x : DataW H × List MemPlace} (h : DataW.trod enc Try.prog w 0 (fun _ => true) true fuel 37 cs = some x) :
    (Lit.int .i64 (ntOf cs).blk).wf = true := by
  obtain ⟨ys, n, hn, hy, hlen, hyl, hf⟩ := DataW.trod_struct Try.underlying37 h
  have hc24 : Try.prog.cellsOf 37 = 24 := by kernel_rfl
  rw [hc24] at hlen
  match cs, hlen with
  | [c0, c1, c2, c3, c4, c5, c6, c7, d0, d1, d2, d3, d4, d5, d6, d7, d8, d9, d10, d11, d12, d13, d14, d15], _ =>
    obtain ⟨y3, hy3⟩ : ∃ y, ys[3]? = some y := ⟨ys[3]'(by rw [hyl]; decide), List.getElem?_eq_getElem _⟩
    have k3 : Try.prog.cellsOf 3 = 1 := by kernel_rfl
    have h3 := hf 3 { name := "Block", type := 3, offset := 3, embedded := false, tag := "", pkgPath := "", byteOffset := 24 } rfl
    rw [hy3] at h3
    dsimp only at h3
    rw [k3] at h3
    change DataW.trod enc Try.prog w 0 (fun _ => true) true n 3 [c3] = some y3 at h3
    obtain ⟨e3, w3⟩ := field_int Try.underlying3 h3
    exact w3
set_option maxRecDepth 100000 in
theorem trod_op {fuel : Nat} {cs : List Value} {x : DataW H × List MemPlace} (h : DataW.trod enc Try.prog w 0 (fun _ => true) true fuel 39 cs = some x) :
    (opOf cs).Ok ∧ cs = (opOf cs).cells.toList := by
  obtain ⟨ys, n, hn, hy, hlen, hyl, hf⟩ := DataW.trod_struct Try.underlying39 h
  have hck : Try.prog.cellsOf 39 = 29 := by kernel_rfl
  rw [hck] at hlen
  match cs, hlen with
  | [c0, c1, c2, c3, c4, d0, d1, d2, d3, d4, d5, d6, d7, d8, d9, d10, d11, d12, d13, d14, d15, d16, d17, d18, d19, d20, d21, d22, d23], _ =>
    have hs : ∀ j, j < 6 → ∃ y, ys[j]? = some y := fun j hj => ⟨ys[j]'(by rw [hyl]; simpa using hj), List.getElem?_eq_getElem _⟩
    have k0 : Try.prog.cellsOf 3 = 1 := by kernel_rfl
    obtain ⟨y0, hy0⟩ := hs 0 (by omega)
    have h0 := hf 0 { name := "Kind", type := 3, offset := 0, embedded := false, tag := "", pkgPath := "", byteOffset := 0 } rfl
    rw [hy0] at h0
    dsimp only at h0
    rw [k0] at h0
    change DataW.trod enc Try.prog w 0 (fun _ => true) true n 3 [c0] = some y0 at h0
    obtain ⟨e0, w0⟩ := field_int Try.underlying3 h0
    have k1 : Try.prog.cellsOf 3 = 1 := by kernel_rfl
    obtain ⟨y1, hy1⟩ := hs 1 (by omega)
    have h1 := hf 1 { name := "B", type := 3, offset := 1, embedded := false, tag := "", pkgPath := "", byteOffset := 8 } rfl
    rw [hy1] at h1
    dsimp only at h1
    rw [k1] at h1
    change DataW.trod enc Try.prog w 0 (fun _ => true) true n 3 [c1] = some y1 at h1
    obtain ⟨e1, w1⟩ := field_int Try.underlying3 h1
    have k2 : Try.prog.cellsOf 3 = 1 := by kernel_rfl
    obtain ⟨y2, hy2⟩ := hs 2 (by omega)
    have h2 := hf 2 { name := "W", type := 3, offset := 2, embedded := false, tag := "", pkgPath := "", byteOffset := 16 } rfl
    rw [hy2] at h2
    dsimp only at h2
    rw [k2] at h2
    change DataW.trod enc Try.prog w 0 (fun _ => true) true n 3 [c2] = some y2 at h2
    obtain ⟨e2, w2⟩ := field_int Try.underlying3 h2
    have k3 : Try.prog.cellsOf 4 = 1 := by kernel_rfl
    obtain ⟨y3, hy3⟩ := hs 3 (by omega)
    have h3 := hf 3 { name := "Yes", type := 4, offset := 3, embedded := false, tag := "", pkgPath := "", byteOffset := 24 } rfl
    rw [hy3] at h3
    dsimp only at h3
    rw [k3] at h3
    change DataW.trod enc Try.prog w 0 (fun _ => true) true n 4 [c3] = some y3 at h3
    have e3 := field_bool Try.underlying4 h3
    have k4 : Try.prog.cellsOf 31 = 1 := by kernel_rfl
    obtain ⟨y4, hy4⟩ := hs 4 (by omega)
    have h4 := hf 4 { name := "X", type := 31, offset := 4, embedded := false, tag := "", pkgPath := "", byteOffset := 28 } rfl
    rw [hy4] at h4
    dsimp only at h4
    rw [k4] at h4
    change DataW.trod enc Try.prog w 0 (fun _ => true) true n 31 [c4] = some y4 at h4
    obtain ⟨e4, w4⟩ := field_int Try.underlying31 h4
    have kn : Try.prog.cellsOf 37 = 24 := by kernel_rfl
    obtain ⟨yn, hyn⟩ := hs 5 (by omega)
    have hnn := hf 5 { name := "N", type := 37, offset := 5, embedded := false, tag := "", pkgPath := "", byteOffset := 32 } rfl
    rw [hyn] at hnn
    dsimp only at hnn
    rw [kn] at hnn
    change DataW.trod enc Try.prog w 0 (fun _ => true) true n 37 [d0, d1, d2, d3, d4, d5, d6, d7, d8, d9, d10, d11, d12, d13, d14, d15, d16, d17, d18, d19, d20, d21, d22, d23] = some yn at hnn
    obtain ⟨hok, hcs⟩ := trod_note hnn
    have hnb := trod_blk hnn
    have hc : ([c0, c1, c2, c3, c4] : List Value) = [.int .i64 (Go.RowKit.intOf c0), .int .i64 (Go.RowKit.intOf c1), .int .i64 (Go.RowKit.intOf c2), .bool (boolOf c3), .int .u32 (Go.RowKit.intOf c4)] := by rw [← e0, ← e1, ← e2, ← e3, ← e4]
    have ho : opOf [c0, c1, c2, c3, c4, d0, d1, d2, d3, d4, d5, d6, d7, d8, d9, d10, d11, d12, d13, d14, d15, d16, d17, d18, d19, d20, d21, d22, d23] = ⟨Go.RowKit.intOf c0, Go.RowKit.intOf c1, Go.RowKit.intOf c2, boolOf c3, Go.RowKit.intOf c4, ntOf [d0, d1, d2, d3, d4, d5, d6, d7, d8, d9, d10, d11, d12, d13, d14, d15, d16, d17, d18, d19, d20, d21, d22, d23]⟩ := by kernel_rfl
    rw [ho]
    obtain ⟨nn, hn2⟩ : ∃ x, ntOf [d0, d1, d2, d3, d4, d5, d6, d7, d8, d9, d10, d11, d12, d13, d14, d15, d16, d17, d18, d19, d20, d21, d22, d23] = x := ⟨_, rfl⟩
    rw [hn2] at hok hcs hnb ⊢
    refine ⟨⟨hok, bounds_u32 w4, w1, w2, hnb⟩, ?_⟩
    unfold OpN.cells
    rw [Array.toList_append, ← hcs]
    exact congrArg (· ++ [d0, d1, d2, d3, d4, d5, d6, d7, d8, d9, d10, d11, d12, d13, d14, d15, d16, d17, d18, d19, d20, d21, d22, d23]) hc
set_option maxRecDepth 100000 in
theorem rowOps {a : Option Addr} {len cap : Nat} {d : DataW H} {p : List MemPlace} (h : DataW.Trod enc Try.prog w 0 (fun _ => true) true 24 (.slice a len cap) d p) : ∃ O : Nat → OpN, IsRowS w a len cap 29 (fun i => (O i).cells) ∧ ∀ i, i < len → (O i).Ok := by
  obtain ⟨fuel, hf⟩ := h
  have hck : Try.prog.cellsOf 39 = 29 := by kernel_rfl
  rcases open_slice Try.underlying24 hf with ⟨hcs, _⟩ | ⟨x, l, c, m, n, D, Pl, hcs, hb, hl, hm, hmm, hx, hi⟩
  · simp [Value.cells] at hcs
    obtain ⟨rfl, rfl, rfl⟩ := hcs
    exact ⟨fun _ => OpN.nil, ⟨Nat.le_refl _, by unfold maxLen; omega, fun i hi => absurd hi (Nat.not_lt_zero _)⟩, fun i hi => absurd hi (Nat.not_lt_zero _)⟩
  · simp [Value.cells] at hcs
    obtain ⟨rfl, rfl, rfl⟩ := hcs
    have hmm' : m = cap := by simpa using hmm
    have key : ∀ i, i < len → (opOf ((w.cells? 0 (x.add (i * 29)) 29).getD [])).Ok ∧ ∀ j v, (opOf ((w.cells? 0 (x.add (i * 29)) 29).getD [])).cells[j]? = some v → w.cell? (x.add (i * 29 + j)) = some v := fun i him => by
      obtain ⟨cs', hc, ht'⟩ := hi i (by omega)
      rw [hck] at hc
      rw [hc]
      obtain ⟨hok, hcs⟩ := trod_op ht'
      refine ⟨hok, fun j v hv => ?_⟩
      obtain ⟨_, hcl, hat⟩ := World.cells?_some hc
      have hv' : cs'[j]? = some v := by rw [hcs]; simpa using hv
      have hj : j < 29 := by have := (List.getElem?_eq_some_iff.1 hv').1; omega
      rw [← Go.Deep.add_add, hat j hj, hv']
    exact ⟨fun i => opOf ((w.cells? 0 (x.add (i * 29)) 29).getD []), ⟨hl, hm, fun i him => ⟨(OpN.isN (key i him).1).1, x, rfl, (key i him).2⟩⟩, fun i him => (key i him).1⟩
end
end Go.Proofs.Ytjgeflbhmhmjdaa
set_option linter.unusedSimpArgs false
set_option linter.unusedVariables false
namespace Go.Proofs.Ytjgeflbhmhmjdaa.PL
open Go.ChangeShapes Go.WideShapes Go.Deep Go.RowKit
section
variable {H : Type} {enc : TypeId × Value → H} {w : World}

set_option maxRecDepth 100000 in
theorem open_cfg {r : Reach} {b0 base : Nat} {spare : Nat → Bool} {held : Bool} {v : Value} {d : DataW H} {p : List MemPlace} (hv : Value.okWide Try.prog w r b0 23 v)
    (h : DataW.Trod enc Try.prog w base spare held 23 v d p) : ∃ c : Cfg, v = CV c := by
  obtain ⟨cs, rfl, hsz⟩ := okWide_struct Try.underlying23 hv
  have hsz8 : cs.size = 8 := hsz.trans (by kernel_rfl)
  obtain ⟨fuel, hf⟩ := h
  obtain ⟨xs, n, _, _, hl, hlen, hg⟩ := DataW.trod_struct Try.underlying23 hf
  have key : ∀ j, j < 8 → ∃ z : Int, cs[j]? = some (.int .i64 z) := fun j hj => by
    have hx : ∃ y, xs[j]? = some y := ⟨_, List.getElem?_eq_getElem (by rw [hlen]; exact hj)⟩
    obtain ⟨y, hy⟩ := hx
    have hc1 : Try.prog.cellsOf 3 = 1 := by kernel_rfl
    have : j = 0 ∨ j = 1 ∨ j = 2 ∨ j = 3 ∨ j = 4 ∨ j = 5 ∨ j = 6 ∨ j = 7 := by omega
    have ht : DataW.trod enc Try.prog w base spare held n 3 ((cs.toList.drop j).take 1) = some y := by
      rcases this with rfl | rfl | rfl | rfl | rfl | rfl | rfl | rfl <;> (have := (hg _ _ rfl).trans hy; simpa [Value.cells, hc1] using this)
    obtain ⟨z, hz, _⟩ := DataW.trod_int Try.underlying3 ht
    refine ⟨z, ?_⟩
    have hjs : j < cs.toList.length := by simp [hsz8]; exact hj
    rw [List.drop_eq_getElem_cons hjs] at hz
    simp at hz
    rw [Array.getElem?_eq_getElem (by omega), hz]
  obtain ⟨z0, h0⟩ := key 0 (by omega); obtain ⟨z1, h1⟩ := key 1 (by omega); obtain ⟨z2, h2⟩ := key 2 (by omega); obtain ⟨z3, h3⟩ := key 3 (by omega)
  obtain ⟨z4, h4⟩ := key 4 (by omega); obtain ⟨z5, h5⟩ := key 5 (by omega); obtain ⟨z6, h6⟩ := key 6 (by omega); obtain ⟨z7, h7⟩ := key 7 (by omega)
  refine ⟨⟨z0, z1, z2, z3, z4, z5, z6, z7⟩, ?_⟩
  congr 1
  apply Array.ext_getElem?
  intro j
  by_cases hj : j < 8
  · have : j = 0 ∨ j = 1 ∨ j = 2 ∨ j = 3 ∨ j = 4 ∨ j = 5 ∨ j = 6 ∨ j = 7 := by omega
    rcases this with rfl | rfl | rfl | rfl | rfl | rfl | rfl | rfl <;> (first | exact h0 | exact h1 | exact h2 | exact h3 | exact h4 | exact h5 | exact h6 | exact h7)
  · rw [Array.getElem?_eq_none (by omega), Array.getElem?_eq_none (by simp; omega)]
end
end Go.Proofs.Ytjgeflbhmhmjdaa.PL
