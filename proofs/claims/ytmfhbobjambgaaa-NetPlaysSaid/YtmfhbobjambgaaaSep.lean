/- Objects in memory, each with blocks of its own, side by side: what a step on one of them does to all. -/
import Derived.Test.YtmfhbobjambgaaaPoolDef
import Derived.Test.YtmfhbobjambgaaaRange
set_option linter.unusedSimpArgs false
set_option linter.unusedVariables false
namespace Go.Proofs.Ytmfhbobjambgaaa
open Go.RowKit

/-- The rows of cells and the maps of F lie as they lay. -/
structure Kept (F : Nat → Prop) (W W' : World) : Prop where
  size : W.heap.size ≤ W'.heap.size
  cells : ∀ (k : Nat) (o : Go.Obj), F k → W.heap[k]? = some o → dataO o = true → W'.heap[k]? = some o

theorem Upd.kept {F G : Nat → Prop} {W W' : World} (h : Upd G W W') (hd : ∀ k, k < W.heap.size → F k → ¬ G k) : Kept F W W' :=
  ⟨h.size, fun k o hk ho _ => h.heap ho (hd k (Array.getElem?_eq_some_iff.1 ho).1 hk)⟩
theorem Bk.kept {n : Nat} {F G : Nat → Prop} {W W' : World} (h : Bk n G W W') (hd : ∀ k, F k → ¬ G k) : Kept F W W' :=
  ⟨h.size, fun k o hk ho hc => (h.block k (Array.getElem?_eq_some_iff.1 ho).1 (hd k hk) (.inr (fun hn => by have := hn _ ho; rw [hc] at this; cases this))).trans ho⟩

/-- An object: where it lies, and that it lies there still, if its rows of cells do. -/
structure Obj where
  is : World → (Nat → Prop) → Prop
  keep : ∀ {W W' : World} {F : Nat → Prop}, is W F → Kept F W W' → is W' F
  mono : ∀ {W : World} {F G : Nat → Prop}, is W F → (∀ k, F k → G k) → is W G
  tight : ∀ {W : World} {F : Nat → Prop}, is W F → ∃ F', is W F' ∧ ∀ k, F' k → F k ∧ k < W.heap.size

/-- A block of cells. -/
def boxO (b : Nat) (cs : Array Value) (T : TypeId) : Obj where
  is W F := Blk W b cs T ∧ F b
  keep h k := ⟨k.cells b _ h.2 h.1 rfl, h.2⟩
  mono h k := ⟨h.1, k b h.2⟩
  tight {W F} h := ⟨fun k => k = b, ⟨h.1, rfl⟩, fun k hk => by subst hk; exact ⟨h.2, h.1.lt⟩⟩

theorem Row.kept {W W' : World} {e : TypeId} {c : Nat} {v : Value} {m : Nat} {xs : List Value} {F : Nat → Prop} (h : Row W e c v m xs) (hb : Kept F W W') (hF : ∀ k, v.ownBlock = some k → F k) : Row W' e c v m xs := by
  refine ⟨h.1, ?_⟩
  rcases h.2 with hn | ⟨g, cap, cur, rfl, hgg, rest⟩
  · exact .inl hn
  · exact .inr ⟨g, cap, cur, rfl, hb.cells g _ (hF g rfl) hgg rfl, rest⟩
/-- A row that a slice owns. -/
def rowO (e : TypeId) (c : Nat) (v : Value) (n : Nat) (xs : List Value) : Obj where
  is W F := Row W e c v n xs ∧ ∀ k, v.ownBlock = some k → F k
  keep h k := ⟨h.1.kept k h.2, h.2⟩
  mono h k := ⟨h.1, fun i hi => k i (h.2 i hi)⟩
  tight {W F} h := ⟨fun k => v.ownBlock = some k, ⟨h.1, fun k hk => hk⟩, fun k hk => ⟨h.2 k hk, h.1.lt k hk⟩⟩

/-- A pool. -/
def poolO (T e : TypeId) (c : Nat) (p : Value) (xs : List (List Value)) (room : Int) : Obj where
  is W F := PoolIs T e c W F p xs room
  keep h k := by
    obtain ⟨b, v, hp, h⟩ := h
    exact ⟨b, v, hp, k.cells b _ h.foot h.blk rfl, h.foot, h.len, h.row.kept k (fun i hi => (h.apart i hi).1), h.apart⟩
  mono h k := h.mono k
  tight h := h.tight

def starO (Φ Ψ : Obj) : Obj where
  is W F := ∃ F1 F2 : Nat → Prop, (∀ k, F1 k → F k) ∧ (∀ k, F2 k → F k) ∧ (∀ k, F1 k → ¬ F2 k) ∧ Φ.is W F1 ∧ Ψ.is W F2
  keep h k := by
    obtain ⟨F1, F2, h1, h2, h3, h4, h5⟩ := h
    exact ⟨F1, F2, h1, h2, h3, Φ.keep h4 ⟨k.size, fun i o hi => k.cells i o (h1 i hi)⟩, Ψ.keep h5 ⟨k.size, fun i o hi => k.cells i o (h2 i hi)⟩⟩
  mono h k := by
    obtain ⟨F1, F2, h1, h2, h3, h4, h5⟩ := h
    exact ⟨F1, F2, fun i hi => k i (h1 i hi), fun i hi => k i (h2 i hi), h3, h4, h5⟩
  tight {W F} h := by
    obtain ⟨F1, F2, h1, h2, h3, h4, h5⟩ := h
    obtain ⟨A, ha, hA⟩ := Φ.tight h4
    obtain ⟨B, hb, hB⟩ := Ψ.tight h5
    refine ⟨fun k => A k ∨ B k, ⟨A, B, fun i hi => .inl hi, fun i hi => .inr hi, fun i hi hj => h3 i (hA i hi).1 (hB i hj).1, ha, hb⟩, fun k hk => ?_⟩
    rcases hk with hk | hk
    · exact ⟨h1 k (hA k hk).1, (hA k hk).2⟩
    · exact ⟨h2 k (hB k hk).1, (hB k hk).2⟩
def exO {α : Type} (f : α → Obj) : Obj where
  is W F := ∃ a, (f a).is W F
  keep h k := by obtain ⟨a, h⟩ := h; exact ⟨a, (f a).keep h k⟩
  mono h k := by obtain ⟨a, h⟩ := h; exact ⟨a, (f a).mono h k⟩
  tight h := by obtain ⟨a, h⟩ := h; obtain ⟨F', h1, h2⟩ := (f a).tight h; exact ⟨F', ⟨a, h1⟩, h2⟩
def andO (p : Prop) (Φ : Obj) : Obj where
  is W F := p ∧ Φ.is W F
  keep h k := ⟨h.1, Φ.keep h.2 k⟩
  mono h k := ⟨h.1, Φ.mono h.2 k⟩
  tight h := by obtain ⟨F', h1, h2⟩ := Φ.tight h.2; exact ⟨F', ⟨h.1, h1⟩, h2⟩

/-- Objects side by side, within the blocks of M. -/
def Own (W : World) : List Obj → (Nat → Prop) → Prop
  | [], _ => True
  | Φ :: L, M => ∃ F : Nat → Prop, (∀ k, F k → M k ∧ k < W.heap.size) ∧ Φ.is W F ∧ Own W L (fun k => M k ∧ ¬ F k)

theorem Own.mono {W : World} : ∀ {L : List Obj} {M M' : Nat → Prop}, Own W L M → (∀ k, k < W.heap.size → M k → M' k) → Own W L M'
  | [], _, _, _, _ => trivial
  | Φ :: L, M, M', h0, h => by
    obtain ⟨F, hF, hi, ho⟩ := h0
    exact ⟨F, fun k hk => ⟨h k (hF k hk).2 (hF k hk).1, (hF k hk).2⟩, hi, ho.mono (fun k hk hm => ⟨h k hk hm.1, hm.2⟩)⟩
theorem Own.kept {W W' : World} : ∀ {L : List Obj} {M : Nat → Prop}, Own W L M → Kept M W W' → Own W' L M
  | [], _, _, _ => trivial
  | Φ :: L, M, h0, h => by
    obtain ⟨F, hF, hi, ho⟩ := h0
    exact ⟨F, fun k hk => ⟨(hF k hk).1, Nat.lt_of_lt_of_le (hF k hk).2 h.size⟩, Φ.keep hi ⟨h.size, fun k o hk => h.cells k o (hF k hk).1⟩, ho.kept ⟨h.size, fun k o hk => h.cells k o hk.1⟩⟩

theorem Own.at {W : World} : ∀ {L : List Obj} {M : Nat → Prop} (i : Nat) {Φ : Obj}, Own W L M → L[i]? = some Φ → (∀ k, W.heap.size ≤ k → M k) →
    ∃ F : Nat → Prop, (∀ k, F k → M k ∧ k < W.heap.size) ∧ Φ.is W F ∧ Own W (L.eraseIdx i) (fun k => M k ∧ ¬ F k) ∧
      ∀ (Φ' : Obj) (W' : World), Upd F W W' → Φ'.is W' (AndNew F W) → Own W' (L.set i Φ') M
  | [], _, i, _, _, h, _ => by simp at h
  | Φ0 :: L, M, 0, Φ, h0, h, hM => by
    obtain ⟨F, hF, hi, ho⟩ := h0
    simp only [List.getElem?_cons_zero, Option.some.injEq] at h
    subst h
    refine ⟨F, hF, hi, ho, fun Φ' W' hu hi' => ?_⟩
    obtain ⟨F', h1, h2⟩ := Φ'.tight hi'
    refine ⟨F', fun k hk => ⟨?_, (h2 k hk).2⟩, h1, ?_⟩
    · rcases (h2 k hk).1 with hf | hf
      · exact (hF k hf).1
      · exact hM k hf
    · have a1 : Own W L (fun k => (M k ∧ ¬ F k) ∧ k < W.heap.size) := ho.mono (fun k hk hm => ⟨hm, hk⟩)
      have a2 := a1.kept (W' := W') (hu.kept (fun k _ hk => hk.1.2))
      refine a2.mono (fun k _ hm => ⟨hm.1.1, fun hf => ?_⟩)
      rcases (h2 k hf).1 with hf | hf
      · exact hm.1.2 hf
      · have := hm.2; omega
  | Φ0 :: L, M, i + 1, Φ, h0, h, hM => by
    obtain ⟨F0, hF0, hi0, ho⟩ := h0
    simp only [List.getElem?_cons_succ] at h
    obtain ⟨F, hF, hi, hE, hS⟩ := Own.at i ho h (fun k hk => ⟨hM k hk, fun hf => by have := (hF0 k hf).2; omega⟩)
    refine ⟨F, fun k hk => ⟨(hF k hk).1.1, (hF k hk).2⟩, hi, ?_, fun Φ' W' hu hi' => ?_⟩
    · exact ⟨F0, fun k hk => ⟨⟨(hF0 k hk).1, fun hf => (hF k hf).1.2 hk⟩, (hF0 k hk).2⟩, hi0, hE.mono (fun k _ hm => ⟨⟨hm.1.1, hm.2⟩, hm.1.2⟩)⟩
    · exact ⟨F0, fun k hk => ⟨(hF0 k hk).1, Nat.lt_of_lt_of_le (hF0 k hk).2 hu.size⟩, Φ0.keep hi0 (hu.kept (fun k _ hk hf => (hF k hf).1.2 hk)), hS Φ' W' hu hi'⟩

/-- Since w0 only G, and what is new, was written; the objects L lie there, side by side. -/
structure Sep (G : Nat → Prop) (w0 W : World) (L : List Obj) : Prop where
  upd : Upd G w0 W
  own : Own W L (AndNew G w0)

section
variable {P : Program} {G : Nat → Prop} {w0 W W' : World} {L : List Obj} {Φ Φ' Ψ : Obj}
theorem Sep.newM (h : Sep G w0 W L) : ∀ k, W.heap.size ≤ k → AndNew G w0 k := fun k hk => .inr (Nat.le_trans h.upd.size hk)
theorem Sep.zero (G : Nat → Prop) (w : World) : Sep G w w [] := ⟨Upd.refl _ _, trivial⟩
theorem Sep.start {F : Nat → Prop} (h : Φ.is W F) : Sep F W W [Φ] := by
  obtain ⟨F', h1, h2⟩ := Φ.tight h
  exact ⟨Upd.refl _ _, F', fun k hk => ⟨.inl (h2 k hk).1, (h2 k hk).2⟩, h1, trivial⟩
theorem Sep.fin {F : Nat → Prop} (h : Sep F w0 W (Φ :: L)) : Upd F w0 W ∧ Φ.is W (AndNew F w0) := by
  obtain ⟨hu, F', h1, h2, _⟩ := h
  exact ⟨hu, Φ.mono h2 (fun k hk => (h1 k hk).1)⟩
theorem Sep.below (h : Sep NoF w0 W L) : Below w0.heap.size w0 W := h.upd.below (Nat.le_refl _) (fun _ _ h => h)
theorem Sep.size (h : Sep G w0 W L) : w0.heap.size ≤ W.heap.size := h.upd.size
/-- What was there before all of it lies there still. -/
theorem Sep.old (h : Sep NoF w0 W L) {a : Addr} {v : Value} (hc : w0.cell? a = some v) : W.cell? a = some v := h.upd.cell hc (fun h => h)
theorem AndNew.step {F G : Nat → Prop} {w0 : World} : ∀ k, AndNew (AndNew G w0) w0 k → AndNew G w0 k := fun k h => h.elim id .inr

/-- A step that writes nothing old. -/
theorem Sep.upd0 (h : Sep G w0 W L) (hu : Upd NoF W W') : Sep G w0 W' L :=
  ⟨h.upd.trans hu (fun _ _ h => h.elim), h.own.kept (hu.kept (fun _ _ _ h => h))⟩
theorem Sep.bk {n : Nat} (h : Sep G w0 W L) (hb : Bk n NoF W W') (hn : w0.heap.size ≤ n) : Sep G w0 W' L :=
  ⟨h.upd.bk hb hn (fun _ h => h.elim), h.own.kept (hb.kept (fun _ _ h => h))⟩
/-- The i-th object. -/
theorem Sep.get (h : Sep G w0 W L) (i : Nat) (hi : L[i]? = some Φ) : ∃ F : Nat → Prop, Φ.is W F ∧ (∀ k, F k → AndNew G w0 k ∧ k < W.heap.size) ∧ Own W (L.eraseIdx i) (fun k => AndNew G w0 k ∧ ¬ F k) := by
  obtain ⟨F, h1, h2, h3, _⟩ := h.own.at i hi h.newM
  exact ⟨F, h2, h1, h3⟩
theorem Sep.has (h : Sep G w0 W L) (i : Nat) (hi : L[i]? = some Φ) : ∃ F : Nat → Prop, Φ.is W F := by
  obtain ⟨F, h2, _⟩ := h.get i hi
  exact ⟨F, h2⟩
theorem Sep.box (h : Sep G w0 W L) (i : Nat) {b : Nat} {cs : Array Value} {T : TypeId} (hi : L[i]? = some (boxO b cs T)) : Blk W b cs T := by
  obtain ⟨F, h2, _⟩ := h.get i hi
  exact h2.1
theorem Sep.row (h : Sep G w0 W L) (i : Nat) {e : TypeId} {c n : Nat} {v : Value} {xs : List Value} (hi : L[i]? = some (rowO e c v n xs)) : Row W e c v n xs := by
  obtain ⟨F, h2, _⟩ := h.get i hi
  exact h2.1
theorem Own.box {W : World} : ∀ {L : List Obj} {M : Nat → Prop} (i : Nat) {b : Nat} {cs : Array Value} {T : TypeId}, Own W L M → L[i]? = some (boxO b cs T) → Blk W b cs T ∧ M b
  | [], _, i, _, _, _, _, h => by simp at h
  | Φ0 :: L, M, 0, b, cs, T, h0, h => by
    obtain ⟨F, hF, hi, ho⟩ := h0
    simp only [List.getElem?_cons_zero, Option.some.injEq] at h
    subst h
    exact ⟨hi.1, (hF b hi.2).1⟩
  | Φ0 :: L, M, i + 1, b, cs, T, h0, h => by
    obtain ⟨F0, hF0, hi0, ho⟩ := h0
    simp only [List.getElem?_cons_succ] at h
    obtain ⟨h1, h2⟩ := Own.box i ho h
    exact ⟨h1, h2.1⟩
/-- A step on the i-th object. -/
theorem Sep.step (h : Sep G w0 W L) (i : Nat) (hi : L[i]? = some Φ) : ∃ F : Nat → Prop, Φ.is W F ∧ ∀ (Φ' : Obj) (W' : World), Upd F W W' → Φ'.is W' (AndNew F W) → Sep G w0 W' (L.set i Φ') := by
  obtain ⟨F, h1, h2, _, h4⟩ := h.own.at i hi h.newM
  refine ⟨F, h2, fun Φ' W' hu hi' => ⟨h.upd.trans hu (fun k hk hf => ?_), h4 Φ' W' hu hi'⟩⟩
  rcases (h1 k hf).1 with hg | hg
  · exact hg
  · omega
theorem Sep.call (h : Sep G w0 W L) (i : Nat) (hi : L[i]? = some Φ) {f : FuncId} {args : Array Value} {E : Ending → Prop}
    (hc : ∀ F, Φ.is W F → Calls P f args W fun e W' => E e ∧ Upd F W W' ∧ Φ'.is W' (AndNew F W)) : Calls P f args W fun e W' => E e ∧ Sep G w0 W' (L.set i Φ') := by
  obtain ⟨F, h2, h3⟩ := h.step i hi
  exact (hc F h2).mono fun e W' ⟨he, hu, hi'⟩ => ⟨he, h3 _ _ hu hi'⟩
/-- A call that writes nothing old, on the i-th object. -/
theorem Sep.reads (h : Sep G w0 W L) (i : Nat) (hi : L[i]? = some Φ) {f : FuncId} {args : Array Value} {E : Ending → Prop}
    (hc : ∀ F, Φ.is W F → Calls P f args W fun e W' => E e ∧ Upd NoF W W') : Calls P f args W fun e W' => E e ∧ Sep G w0 W' L := by
  obtain ⟨F, h2, _⟩ := h.get i hi
  exact (hc F h2).mono fun e W' ⟨he, hu⟩ => ⟨he, h.upd0 hu⟩
/-- .. that leaves the world alone. -/
theorem Sep.looks (h : Sep G w0 W L) (i : Nat) (hi : L[i]? = some Φ) {f : FuncId} {args : Array Value} {E : Ending → Prop}
    (hc : ∀ F, Φ.is W F → Calls P f args W fun e W' => E e ∧ W = W') : Calls P f args W fun e W' => E e ∧ W = W' := by
  obtain ⟨F, h2, _⟩ := h.get i hi
  exact hc F h2
/-- A new object. -/
theorem Sep.push (h : Sep G w0 W L) (hu : Upd NoF W W') (hi : Φ.is W' (fun k => W.heap.size ≤ k)) : Sep G w0 W' (Φ :: L) := by
  obtain ⟨F', h1, h2⟩ := Φ.tight hi
  refine ⟨(h.upd0 hu).upd, F', fun k hk => ⟨h.newM k (h2 k hk).1, (h2 k hk).2⟩, h1, ?_⟩
  have a1 : Own W L (fun k => AndNew G w0 k ∧ k < W.heap.size) := h.own.mono (fun k hk hm => ⟨hm, hk⟩)
  exact (a1.kept (W' := W') (hu.kept (fun _ _ _ h => h))).mono (fun k _ hm => ⟨hm.1, fun hf => by have := (h2 k hf).1; have := hm.2; omega⟩)
theorem Sep.alloc (h : Sep G w0 W L) (cs : Array Value) (T : TypeId) : Sep G w0 (W.alloc (.cells cs T)) (boxO W.heap.size cs T :: L) :=
  h.push (Upd.alloc NoF W _) ⟨Blk.new W cs T, Nat.le_refl _⟩
/-- A cell of a block is written. -/
theorem Sep.set (h : Sep G w0 W L) (i : Nat) {b : Nat} {cs : Array Value} {T : TypeId} (hi : L[i]? = some (boxO b cs T)) (j : Nat) (v : Value) :
    Sep G w0 (W.setCell ⟨b, j, none⟩ v) (L.set i (boxO b (cs.setIfInBounds j v) T)) := by
  obtain ⟨F, h2, h3⟩ := h.step i hi
  exact h3 _ _ (Upd.setCell (F := F) W (p := ⟨b, j, none⟩) h2.2 v) ⟨h2.1.set j v, .inl h2.2⟩
theorem Sep.drop (h : Sep G w0 W L) (i : Nat) (hi : i < L.length) : Sep G w0 W (L.eraseIdx i) := by
  obtain ⟨F, h1, h2, h3, _⟩ := h.own.at i (List.getElem?_eq_getElem hi) h.newM
  exact ⟨h.upd, h3.mono (fun k _ hm => hm.1)⟩
theorem Sep.head (h : Sep G w0 W (Φ :: L)) {Φ' : Obj} (hf : ∀ F, Φ.is W F → Φ'.is W F) : Sep G w0 W (Φ' :: L) := by
  obtain ⟨hu, F, h1, h2, h3⟩ := h
  exact ⟨hu, F, h1, hf F h2, h3⟩
theorem Sep.ex {α : Type} {f : α → Obj} (h : Sep G w0 W (exO f :: L)) : ∃ a, Sep G w0 W (f a :: L) := by
  obtain ⟨hu, F, h1, ⟨a, h2⟩, h3⟩ := h
  exact ⟨a, hu, F, h1, h2, h3⟩
theorem Sep.unex {α : Type} {f : α → Obj} (a : α) (h : Sep G w0 W (f a :: L)) : Sep G w0 W (exO f :: L) := h.head (fun F hF => ⟨a, hF⟩)
theorem Sep.pure {p : Prop} (h : Sep G w0 W (andO p Φ :: L)) : p ∧ Sep G w0 W (Φ :: L) := by
  obtain ⟨hu, F, h1, ⟨hp, h2⟩, h3⟩ := h
  exact ⟨hp, hu, F, h1, h2, h3⟩
theorem Sep.unpure {p : Prop} (hp : p) (h : Sep G w0 W (Φ :: L)) : Sep G w0 W (andO p Φ :: L) := h.head (fun F hF => ⟨hp, hF⟩)
theorem Sep.star (h : Sep G w0 W (starO Φ Ψ :: L)) : Sep G w0 W (Φ :: Ψ :: L) := by
  obtain ⟨hu, F, h1, ⟨F1, F2, a1, a2, a3, a4, a5⟩, h3⟩ := h
  refine ⟨hu, F1, fun k hk => h1 k (a1 k hk), a4, F2, fun k hk => ⟨⟨(h1 k (a2 k hk)).1, fun hf => a3 k hf hk⟩, (h1 k (a2 k hk)).2⟩, a5, h3.mono (fun k _ hm => ⟨⟨hm.1, fun hf => hm.2 (a1 k hf)⟩, fun hf => hm.2 (a2 k hf)⟩)⟩
theorem Sep.unstar (h : Sep G w0 W (Φ :: Ψ :: L)) : Sep G w0 W (starO Φ Ψ :: L) := by
  obtain ⟨hu, F1, h1, a4, F2, h2, a5, h3⟩ := h
  exact ⟨hu, fun k => F1 k ∨ F2 k, fun k hk => hk.elim (h1 k) (fun hk => ⟨(h2 k hk).1.1, (h2 k hk).2⟩), ⟨F1, F2, fun k hk => .inl hk, fun k hk => .inr hk, fun k hk hf => (h2 k hf).1.2 hk, a4, a5⟩,
    h3.mono (fun k _ hm => ⟨hm.1.1, fun hf => hf.elim hm.1.2 hm.2⟩)⟩
theorem Sep.swap (h : Sep G w0 W (Φ :: Ψ :: L)) : Sep G w0 W (Ψ :: Φ :: L) := by
  obtain ⟨hu, F1, h1, a4, F2, h2, a5, h3⟩ := h
  exact ⟨hu, F2, fun k hk => ⟨(h2 k hk).1.1, (h2 k hk).2⟩, a5, F1, fun k hk => ⟨⟨(h1 k hk).1, fun hf => (h2 k hf).1.2 hk⟩, (h1 k hk).2⟩, a4, h3.mono (fun k _ hm => ⟨⟨hm.1.1, hm.2⟩, hm.1.2⟩)⟩
end
theorem Own.swap {W : World} {M : Nat → Prop} {Φ Ψ : Obj} {L : List Obj} (h : Own W (Φ :: Ψ :: L) M) : Own W (Ψ :: Φ :: L) M := by
  obtain ⟨F1, h1, a4, F2, h2, a5, h3⟩ := h
  exact ⟨F2, fun k hk => ⟨(h2 k hk).1.1, (h2 k hk).2⟩, a5, F1, fun k hk => ⟨⟨(h1 k hk).1, fun hf => (h2 k hf).1.2 hk⟩, (h1 k hk).2⟩, a4, h3.mono (fun k _ hm => ⟨⟨hm.1.1, hm.2⟩, hm.1.2⟩)⟩
theorem Own.sink {W : World} {Φ : Obj} : ∀ (n : Nat) {L : List Obj} {M : Nat → Prop}, Own W (Φ :: L) M → Own W (L.take n ++ Φ :: L.drop n) M
  | 0, L, M, h => by simpa using h
  | n + 1, [], M, h => by simpa using h
  | n + 1, Ψ :: L, M, h => by
    obtain ⟨F, h1, h2, h3⟩ := h.swap
    exact ⟨F, h1, h2, Own.sink n h3⟩
/-- The first object goes behind n others. -/
theorem Sep.sink {G : Nat → Prop} {w0 W : World} {Φ : Obj} {L : List Obj} (n : Nat) (h : Sep G w0 W (Φ :: L)) : Sep G w0 W (L.take n ++ Φ :: L.drop n) := ⟨h.upd, h.own.sink n⟩
end Go.Proofs.Ytmfhbobjambgaaa
