/- Objects in memory, each with blocks of its own, side by side: what a step on one of them does to all. -/
import Derived.Test.YtjgeflbhmhmjdaaGreatGen
import Derived.Deep.MidRow
import Derived.ChangeKeysEq
import Derived.Laws.MakeOwn
set_option linter.unusedSimpArgs false
set_option linter.unusedVariables false
namespace Go.Proofs.YtjgeflbhmhmjdaaGreat
open Go.RowKit

structure Kept (F : Nat → Prop) (W W' : World) : Prop where
  size : W.heap.size ≤ W'.heap.size
  cells : ∀ (k : Nat) (o : Go.Obj), F k → W.heap[k]? = some o → dataO o = true → W'.heap[k]? = some o

theorem Upd.kept {F G : Nat → Prop} {W W' : World} (h : Upd G W W') (hd : ∀ k, k < W.heap.size → F k → ¬ G k) : Kept F W W' :=
  ⟨h.size, fun k o hk ho _ => h.heap ho (hd k (Array.getElem?_eq_some_iff.1 ho).1 hk)⟩
structure Obj where
  is : World → (Nat → Prop) → Prop
  keep : ∀ {W W' : World} {F : Nat → Prop}, is W F → Kept F W W' → is W' F
  mono : ∀ {W : World} {F G : Nat → Prop}, is W F → (∀ k, F k → G k) → is W G
  tight : ∀ {W : World} {F : Nat → Prop}, is W F → ∃ F', is W F' ∧ ∀ k, F' k → F k ∧ k < W.heap.size

def boxO (b : Nat) (cs : Array Value) (T : TypeId) : Obj where
  is W F := Blk W b cs T ∧ F b
  keep h k := ⟨k.cells b _ h.2 h.1 rfl, h.2⟩
  mono h k := ⟨h.1, k b h.2⟩
  tight {W F} h := ⟨fun k => k = b, ⟨h.1, rfl⟩, fun k hk => by subst hk; exact ⟨h.2, h.1.lt⟩⟩

theorem Row.kept {W W' : World} {e : TypeId} {c : Nat} {v : Value} {m : Nat} {xs : List Value} {F : Nat → Prop} (h : Row W e c v m xs) (hb : Kept F W W') (hF : ∀ k, v.ownBlock = some k → F k) : Row W' e c v m xs := by
  refine ⟨h.1, ?_⟩
  rcases h.2 with hn | ⟨g, cap, cur, rfl, hgg, rest⟩
  · exact .inl hn
  · exact .inr ⟨g, cap, cur, rfl, hb.cells g _ (hF g rfl) hgg rfl, rest⟩
def rowO (e : TypeId) (c : Nat) (v : Value) (n : Nat) (xs : List Value) : Obj where
  is W F := Row W e c v n xs ∧ ∀ k, v.ownBlock = some k → F k
  keep h k := ⟨h.1.kept k h.2, h.2⟩
  mono h k := ⟨h.1, fun i hi => k i (h.2 i hi)⟩
  tight {W F} h := ⟨fun k => v.ownBlock = some k, ⟨h.1, fun k hk => hk⟩, fun k hk => ⟨h.2 k hk, h.1.lt k hk⟩⟩

def poolO (T e : TypeId) (c : Nat) (p : Value) (xs : List (List Value)) (room : Int) : Obj where
  is W F := PoolIs T e c W F p xs room
  keep h k := by
    obtain ⟨b, v, hp, h⟩ := h
    exact ⟨b, v, hp, k.cells b _ h.foot h.blk rfl, h.foot, h.len, h.row.kept k (fun i hi => (h.apart i hi).1), h.apart⟩
  mono h k := h.mono k
  tight h := h.tight

def starO (Φ Ψ : Obj) : Obj where
  is W F := ∃ F1 F2 : Nat → Prop, (∀ k, F1 k → F k) ∧ (∀ k, F2 k → F k) ∧ (∀ k, F1 k → ¬ F2 k) ∧ Φ.is W F1 ∧ Ψ.is W F2
  keep h k := by
    obtain ⟨F1, F2, h1, h2, h3, h4, h5⟩ := h
    exact ⟨F1, F2, h1, h2, h3, Φ.keep h4 ⟨k.size, fun i o hi => k.cells i o (h1 i hi)⟩, Ψ.keep h5 ⟨k.size, fun i o hi => k.cells i o (h2 i hi)⟩⟩
  mono h k := by
    obtain ⟨F1, F2, h1, h2, h3, h4, h5⟩ := h
    exact ⟨F1, F2, fun i hi => k i (h1 i hi), fun i hi => k i (h2 i hi), h3, h4, h5⟩
  tight {W F} h := by
    obtain ⟨F1, F2, h1, h2, h3, h4, h5⟩ := h
    obtain ⟨A, ha, hA⟩ := Φ.tight h4
    obtain ⟨B, hb, hB⟩ := Ψ.tight h5
    refine ⟨fun k => A k ∨ B k, ⟨A, B, fun i hi => .inl hi, fun i hi => .inr hi, fun i hi hj => h3 i (hA i hi).1 (hB i hj).1, ha, hb⟩, fun k hk => ?_⟩
    rcases hk with hk | hk
    · exact ⟨h1 k (hA k hk).1, (hA k hk).2⟩
    · exact ⟨h2 k (hB k hk).1, (hB k hk).2⟩
def exO {α : Type} (f : α → Obj) : Obj where
  is W F := ∃ a, (f a).is W F
  keep h k := by obtain ⟨a, h⟩ := h; exact ⟨a, (f a).keep h k⟩
  mono h k := by obtain ⟨a, h⟩ := h; exact ⟨a, (f a).mono h k⟩
  tight h := by obtain ⟨a, h⟩ := h; obtain ⟨F', h1, h2⟩ := (f a).tight h; exact ⟨F', ⟨a, h1⟩, h2⟩
def andO (p : Prop) (Φ : Obj) : Obj where
  is W F := p ∧ Φ.is W F
  keep h k := ⟨h.1, Φ.keep h.2 k⟩
  mono h k := ⟨h.1, Φ.mono h.2 k⟩
  tight h := by obtain ⟨F', h1, h2⟩ := Φ.tight h.2; exact ⟨F', ⟨h.1, h1⟩, h2⟩

def Own (W : World) : List Obj → (Nat → Prop) → Prop
  | [], _ => True
  | Φ :: L, M => ∃ F : Nat → Prop, (∀ k, F k → M k ∧ k < W.heap.size) ∧ Φ.is W F ∧ Own W L (fun k => M k ∧ ¬ F k)

theorem Own.mono {W : World} : ∀ {L : List Obj} {M M' : Nat → Prop}, Own W L M → (∀ k, k < W.heap.size → M k → M' k) → Own W L M'
  | [], _, _, _, _ => trivial
  | Φ :: L, M, M', h0, h => by
    obtain ⟨F, hF, hi, ho⟩ := h0
    exact ⟨F, fun k hk => ⟨h k (hF k hk).2 (hF k hk).1, (hF k hk).2⟩, hi, ho.mono (fun k hk hm => ⟨h k hk hm.1, hm.2⟩)⟩
theorem Own.kept {W W' : World} : ∀ {L : List Obj} {M : Nat → Prop}, Own W L M → Kept M W W' → Own W' L M
  | [], _, _, _ => trivial
  | Φ :: L, M, h0, h => by
    obtain ⟨F, hF, hi, ho⟩ := h0
    exact ⟨F, fun k hk => ⟨(hF k hk).1, Nat.lt_of_lt_of_le (hF k hk).2 h.size⟩, Φ.keep hi ⟨h.size, fun k o hk => h.cells k o (hF k hk).1⟩, ho.kept ⟨h.size, fun k o hk => h.cells k o hk.1⟩⟩

theorem Own.at {W : World} : ∀ {L : List Obj} {M : Nat → Prop} (i : Nat) {Φ : Obj}, Own W L M → L[i]? = some Φ → (∀ k, W.heap.size ≤ k → M k) →
    ∃ F : Nat → Prop, (∀ k, F k → M k ∧ k < W.heap.size) ∧ Φ.is W F ∧ Own W (L.eraseIdx i) (fun k => M k ∧ ¬ F k) ∧
      ∀ (Φ' : Obj) (W' : World), Upd F W W' → Φ'.is W' (AndNew F W) → Own W' (L.set i Φ') M
  | [], _, i, _, _, h, _ => by simp at h
  | Φ0 :: L, M, 0, Φ, h0, h, hM => by
    obtain ⟨F, hF, hi, ho⟩ := h0
    simp only [List.getElem?_cons_zero, Option.some.injEq] at h
    subst h
    refine ⟨F, hF, hi, ho, fun Φ' W' hu hi' => ?_⟩
    obtain ⟨F', h1, h2⟩ := Φ'.tight hi'
    refine ⟨F', fun k hk => ⟨?_, (h2 k hk).2⟩, h1, ?_⟩
    · rcases (h2 k hk).1 with hf | hf
      · exact (hF k hf).1
      · exact hM k hf
    · have a1 : Own W L (fun k => (M k ∧ ¬ F k) ∧ k < W.heap.size) := ho.mono (fun k hk hm => ⟨hm, hk⟩)
      have a2 := a1.kept (W' := W') (hu.kept (fun k _ hk => hk.1.2))
      refine a2.mono (fun k _ hm => ⟨hm.1.1, fun hf => ?_⟩)
      rcases (h2 k hf).1 with hf | hf
      · exact hm.1.2 hf
      · have := hm.2; omega
  | Φ0 :: L, M, i + 1, Φ, h0, h, hM => by
    obtain ⟨F0, hF0, hi0, ho⟩ := h0
    simp only [List.getElem?_cons_succ] at h
    obtain ⟨F, hF, hi, hE, hS⟩ := Own.at i ho h (fun k hk => ⟨hM k hk, fun hf => by have := (hF0 k hf).2; omega⟩)
    refine ⟨F, fun k hk => ⟨(hF k hk).1.1, (hF k hk).2⟩, hi, ?_, fun Φ' W' hu hi' => ?_⟩
    · exact ⟨F0, fun k hk => ⟨⟨(hF0 k hk).1, fun hf => (hF k hf).1.2 hk⟩, (hF0 k hk).2⟩, hi0, hE.mono (fun k _ hm => ⟨⟨hm.1.1, hm.2⟩, hm.1.2⟩)⟩
    · exact ⟨F0, fun k hk => ⟨(hF0 k hk).1, Nat.lt_of_lt_of_le (hF0 k hk).2 hu.size⟩, Φ0.keep hi0 (hu.kept (fun k _ hk hf => (hF k hf).1.2 hk)), hS Φ' W' hu hi'⟩

structure Sep (G : Nat → Prop) (w0 W : World) (L : List Obj) : Prop where
  upd : Upd G w0 W
  own : Own W L (AndNew G w0)

section
variable {P : Program} {G : Nat → Prop} {w0 W W' : World} {L : List Obj} {Φ Φ' Ψ : Obj}
theorem Sep.newM (h : Sep G w0 W L) : ∀ k, W.heap.size ≤ k → AndNew G w0 k := fun k hk => .inr (Nat.le_trans h.upd.size hk)
theorem Sep.zero (G : Nat → Prop) (w : World) : Sep G w w [] := ⟨Upd.refl _ _, trivial⟩
theorem Sep.below (h : Sep NoF w0 W L) : Below w0.heap.size w0 W := h.upd.below (Nat.le_refl _) (fun _ _ h => h)
theorem Sep.size (h : Sep G w0 W L) : w0.heap.size ≤ W.heap.size := h.upd.size
theorem Sep.old (h : Sep NoF w0 W L) {a : Addr} {v : Value} (hc : w0.cell? a = some v) : W.cell? a = some v := h.upd.cell hc (fun h => h)
theorem Sep.upd0 (h : Sep G w0 W L) (hu : Upd NoF W W') : Sep G w0 W' L :=
  ⟨h.upd.trans hu (fun _ _ h => h.elim), h.own.kept (hu.kept (fun _ _ _ h => h))⟩
theorem Sep.get (h : Sep G w0 W L) (i : Nat) (hi : L[i]? = some Φ) : ∃ F : Nat → Prop, Φ.is W F ∧ (∀ k, F k → AndNew G w0 k ∧ k < W.heap.size) ∧ Own W (L.eraseIdx i) (fun k => AndNew G w0 k ∧ ¬ F k) := by
  obtain ⟨F, h1, h2, h3, _⟩ := h.own.at i hi h.newM
  exact ⟨F, h2, h1, h3⟩
theorem Sep.has (h : Sep G w0 W L) (i : Nat) (hi : L[i]? = some Φ) : ∃ F : Nat → Prop, Φ.is W F := by
  obtain ⟨F, h2, _⟩ := h.get i hi
  exact ⟨F, h2⟩
theorem Sep.box (h : Sep G w0 W L) (i : Nat) {b : Nat} {cs : Array Value} {T : TypeId} (hi : L[i]? = some (boxO b cs T)) : Blk W b cs T := by
  obtain ⟨F, h2, _⟩ := h.get i hi
  exact h2.1
theorem Sep.row (h : Sep G w0 W L) (i : Nat) {e : TypeId} {c n : Nat} {v : Value} {xs : List Value} (hi : L[i]? = some (rowO e c v n xs)) : Row W e c v n xs := by
  obtain ⟨F, h2, _⟩ := h.get i hi
  exact h2.1
theorem Sep.step (h : Sep G w0 W L) (i : Nat) (hi : L[i]? = some Φ) : ∃ F : Nat → Prop, Φ.is W F ∧ ∀ (Φ' : Obj) (W' : World), Upd F W W' → Φ'.is W' (AndNew F W) → Sep G w0 W' (L.set i Φ') := by
  obtain ⟨F, h1, h2, _, h4⟩ := h.own.at i hi h.newM
  refine ⟨F, h2, fun Φ' W' hu hi' => ⟨h.upd.trans hu (fun k hk hf => ?_), h4 Φ' W' hu hi'⟩⟩
  rcases (h1 k hf).1 with hg | hg
  · exact hg
  · omega
theorem Sep.call (h : Sep G w0 W L) (i : Nat) (hi : L[i]? = some Φ) {f : FuncId} {args : Array Value} {E : Ending → Prop}
    (hc : ∀ F, Φ.is W F → Calls P f args W fun e W' => E e ∧ Upd F W W' ∧ Φ'.is W' (AndNew F W)) : Calls P f args W fun e W' => E e ∧ Sep G w0 W' (L.set i Φ') := by
  obtain ⟨F, h2, h3⟩ := h.step i hi
  exact (hc F h2).mono fun e W' ⟨he, hu, hi'⟩ => ⟨he, h3 _ _ hu hi'⟩
theorem Sep.reads (h : Sep G w0 W L) (i : Nat) (hi : L[i]? = some Φ) {f : FuncId} {args : Array Value} {E : Ending → Prop}
    (hc : ∀ F, Φ.is W F → Calls P f args W fun e W' => E e ∧ Upd NoF W W') : Calls P f args W fun e W' => E e ∧ Sep G w0 W' L := by
  obtain ⟨F, h2, _⟩ := h.get i hi
  exact (hc F h2).mono fun e W' ⟨he, hu⟩ => ⟨he, h.upd0 hu⟩
theorem Sep.push (h : Sep G w0 W L) (hu : Upd NoF W W') (hi : Φ.is W' (fun k => W.heap.size ≤ k)) : Sep G w0 W' (Φ :: L) := by
  obtain ⟨F', h1, h2⟩ := Φ.tight hi
  refine ⟨(h.upd0 hu).upd, F', fun k hk => ⟨h.newM k (h2 k hk).1, (h2 k hk).2⟩, h1, ?_⟩
  have a1 : Own W L (fun k => AndNew G w0 k ∧ k < W.heap.size) := h.own.mono (fun k hk hm => ⟨hm, hk⟩)
  exact (a1.kept (W' := W') (hu.kept (fun _ _ _ h => h))).mono (fun k _ hm => ⟨hm.1, fun hf => by have := (h2 k hf).1; have := hm.2; omega⟩)
theorem Sep.alloc (h : Sep G w0 W L) (cs : Array Value) (T : TypeId) : Sep G w0 (W.alloc (.cells cs T)) (boxO W.heap.size cs T :: L) :=
  h.push (Upd.alloc NoF W _) ⟨Blk.new W cs T, Nat.le_refl _⟩
theorem Sep.set (h : Sep G w0 W L) (i : Nat) {b : Nat} {cs : Array Value} {T : TypeId} (hi : L[i]? = some (boxO b cs T)) (j : Nat) (v : Value) :
    Sep G w0 (W.setCell ⟨b, j, none⟩ v) (L.set i (boxO b (cs.setIfInBounds j v) T)) := by
  obtain ⟨F, h2, h3⟩ := h.step i hi
  exact h3 _ _ (Upd.setCell (F := F) W (p := ⟨b, j, none⟩) h2.2 v) ⟨h2.1.set j v, .inl h2.2⟩
theorem Sep.drop (h : Sep G w0 W L) (i : Nat) (hi : i < L.length) : Sep G w0 W (L.eraseIdx i) := by
  obtain ⟨F, h1, h2, h3, _⟩ := h.own.at i (List.getElem?_eq_getElem hi) h.newM
  exact ⟨h.upd, h3.mono (fun k _ hm => hm.1)⟩
theorem Sep.head (h : Sep G w0 W (Φ :: L)) {Φ' : Obj} (hf : ∀ F, Φ.is W F → Φ'.is W F) : Sep G w0 W (Φ' :: L) := by
  obtain ⟨hu, F, h1, h2, h3⟩ := h
  exact ⟨hu, F, h1, hf F h2, h3⟩
theorem Sep.swap (h : Sep G w0 W (Φ :: Ψ :: L)) : Sep G w0 W (Ψ :: Φ :: L) := by
  obtain ⟨hu, F1, h1, a4, F2, h2, a5, h3⟩ := h
  exact ⟨hu, F2, fun k hk => ⟨(h2 k hk).1.1, (h2 k hk).2⟩, a5, F1, fun k hk => ⟨⟨(h1 k hk).1, fun hf => (h2 k hf).1.2 hk⟩, (h1 k hk).2⟩, a4, h3.mono (fun k _ hm => ⟨⟨hm.1.1, hm.2⟩, hm.1.2⟩)⟩
end
theorem Own.swap {W : World} {M : Nat → Prop} {Φ Ψ : Obj} {L : List Obj} (h : Own W (Φ :: Ψ :: L) M) : Own W (Ψ :: Φ :: L) M := by
  obtain ⟨F1, h1, a4, F2, h2, a5, h3⟩ := h
  exact ⟨F2, fun k hk => ⟨(h2 k hk).1.1, (h2 k hk).2⟩, a5, F1, fun k hk => ⟨⟨(h1 k hk).1, fun hf => (h2 k hf).1.2 hk⟩, (h1 k hk).2⟩, a4, h3.mono (fun k _ hm => ⟨⟨hm.1.1, hm.2⟩, hm.1.2⟩)⟩
theorem Own.sink {W : World} {Φ : Obj} : ∀ (n : Nat) {L : List Obj} {M : Nat → Prop}, Own W (Φ :: L) M → Own W (L.take n ++ Φ :: L.drop n) M
  | 0, L, M, h => by simpa using h
  | n + 1, [], M, h => by simpa using h
  | n + 1, Ψ :: L, M, h => by
    obtain ⟨F, h1, h2, h3⟩ := h.swap
    exact ⟨F, h1, h2, Own.sink n h3⟩
theorem Sep.sink {G : Nat → Prop} {w0 W : World} {Φ : Obj} {L : List Obj} (n : Nat) (h : Sep G w0 W (Φ :: L)) : Sep G w0 W (L.take n ++ Φ :: L.drop n) := ⟨h.upd, h.own.sink n⟩
end Go.Proofs.YtjgeflbhmhmjdaaGreat
namespace Go.Proofs.YtjgeflbhmhmjdaaGreat
open Go.RowKit

abbrev OnlyAt (b : Nat) : Nat → Prop := fun k => k = b
theorem set_only {w : World} {b : Nat} (i : Nat) (v : Value) : Upd (OnlyAt b) w (w.setCell ⟨b, i, none⟩ v) := Upd.setCell (F := OnlyAt b) w (p := ⟨b, i, none⟩) rfl v
theorem only_trans {b : Nat} {u v w : World} (h : Upd (OnlyAt b) u v) (k : Upd (OnlyAt b) v w) : Upd (OnlyAt b) u w := h.trans k (fun _ _ h => h)
theorem upd_setCells {b : Nat} : ∀ (vs : List Value) (o : Nat) (w : World), Upd (OnlyAt b) w (w.setCells b o vs)
  | [], _, w => Upd.refl _ w
  | v :: vs, o, w => only_trans (set_only o v) (upd_setCells vs (o + 1) _)
theorem there_of {w : World} {b o n : Nat} {cs : Array Value} {T : TypeId} (hb : Blk w b cs T) (h : o + n ≤ cs.size) : w.there b o n := fun j hj => by
  refine ⟨?_, hb.frozen _⟩
  rw [hb.cell (o + j), Array.getElem?_eq_getElem (by omega)]
  rfl
def setMany : Array Value → Nat → List Value → Array Value
  | cs, _, [] => cs
  | cs, o, v :: vs => setMany (cs.setIfInBounds o v) (o + 1) vs
theorem blk_setCells {b : Nat} {T : TypeId} : ∀ (vs : List Value) (o : Nat) (w : World) (cs : Array Value), Blk w b cs T → Blk (w.setCells b o vs) b (setMany cs o vs) T
  | [], _, _, _, h => h
  | v :: vs, o, w, cs, h => blk_setCells vs (o + 1) _ _ (h.set o v)
theorem new_store (w : World) (Z : Array Value) (T : TypeId) (C : List Value) :
    Upd NoF w ((w.alloc (.cells Z T)).setCells w.heap.size 0 C) ∧ Blk ((w.alloc (.cells Z T)).setCells w.heap.size 0 C) w.heap.size (setMany Z 0 C) T :=
  ⟨(Upd.alloc NoF w (.cells Z T)).trans (upd_setCells C 0 _) (fun i hi h => by have : i = w.heap.size := h; omega), blk_setCells C 0 _ _ (Blk.new w Z T)⟩
end Go.Proofs.YtjgeflbhmhmjdaaGreat
namespace Go.Proofs.YtjgeflbhmhmjdaaGreat
open Go.RowKit

def IsN (n : Nat) (x : Array Value) : Prop := x.size = n ∧ ∀ u ∈ x, u.oneCell' = true
theorem IsN.all {n : Nat} {x : Array Value} (h : IsN n x) : x.all (·.oneCell') = true := Array.all_eq_true_iff_forall_mem.2 h.2

theorem setCell_alloc (w : World) (Z : Array Value) (T : TypeId) (i : Nat) (v : Value) : (w.alloc (.cells Z T)).setCell ⟨w.heap.size, i, none⟩ v = w.alloc (.cells (Z.setIfInBounds i v) T) := by
  unfold World.setCell World.alloc
  congr 1
  apply Array.ext
  · simp
  · intro j h1 h2
    simp only [Array.getElem_modify]
    simp at h1 h2
    split
    · rename_i e
      subst e
      simp
    · rename_i e
      rw [Array.getElem_push_lt (by omega), Array.getElem_push_lt (by omega)]
theorem setCells_alloc (w : World) (T : TypeId) : ∀ (vs : List Value) (i : Nat) (Z : Array Value), (w.alloc (.cells Z T)).setCells w.heap.size i vs = w.alloc (.cells (setMany Z i vs) T)
  | [], _, _ => rfl
  | v :: vs, i, Z => by
    show ((w.alloc (.cells Z T)).setCell ⟨w.heap.size, i, none⟩ v).setCells w.heap.size (i + 1) vs = _
    rw [setCell_alloc, setCells_alloc w T vs (i + 1)]
    rfl
theorem size_setMany : ∀ (vs : List Value) (i : Nat) (Z : Array Value), (setMany Z i vs).size = Z.size
  | [], _, _ => rfl
  | v :: vs, i, Z => by show (setMany (Z.setIfInBounds i v) (i + 1) vs).size = _; rw [size_setMany]; simp
theorem get_setMany : ∀ (vs : List Value) (i : Nat) (Z : Array Value) (j : Nat), (setMany Z i vs)[j]? = if i ≤ j ∧ j < i + vs.length ∧ j < Z.size then vs[j - i]? else Z[j]?
  | [], i, Z, j => by
    show Z[j]? = _
    rw [if_neg (by simp only [List.length_nil]; omega)]
  | v :: vs, i, Z, j => by
    show (setMany (Z.setIfInBounds i v) (i + 1) vs)[j]? = _
    rw [get_setMany vs (i + 1)]
    simp only [Array.size_setIfInBounds, List.length_cons]
    by_cases h1 : j = i
    · subst h1
      rw [if_neg (by omega)]
      by_cases h2 : j < Z.size
      · rw [if_pos (by omega)]
        simp [h2]
      · rw [if_neg (by omega)]
        rw [Array.getElem?_eq_none (by simp; omega), Array.getElem?_eq_none (by omega)]
    · by_cases h2 : i + 1 ≤ j ∧ j < i + 1 + vs.length ∧ j < Z.size
      · rw [if_pos h2, if_pos (by omega)]
        obtain ⟨m, rfl⟩ : ∃ m, j = i + 1 + m := ⟨j - (i + 1), by omega⟩
        rw [show i + 1 + m - (i + 1) = m from by omega, show i + 1 + m - i = m + 1 from by omega]
        simp
      · rw [if_neg h2, if_neg (by omega)]
        rw [Array.getElem?_setIfInBounds_ne (by omega)]
theorem setMany_all (Z x : Array Value) (h : x.size = Z.size) : setMany Z 0 x.toList = x := by
  apply Array.ext_getElem?
  intro j
  rw [get_setMany]
  by_cases hj : j < Z.size
  · rw [if_pos ⟨Nat.zero_le _, by simpa [h] using hj, hj⟩]
    simp
  · rw [if_neg (by omega), Array.getElem?_eq_none (by omega), Array.getElem?_eq_none (by omega)]

theorem Blk.range {w : World} {b : Nat} {cs : Array Value} {T : TypeId} (h : Blk w b cs T) (o : Nat) (x : List Value) (hx : ∀ j v, x[j]? = some v → cs[o + j]? = some v) : w.rangeAt b o x := fun j v hv => by
  rw [h.cell]; exact hx j v hv
theorem Blk.whole {w : World} {b : Nat} {cs : Array Value} {T : TypeId} (h : Blk w b cs T) : w.rangeAt b 0 cs.toList := h.range 0 _ (fun j v hv => by simpa using hv)

def rowsOf (zs : List (Array Value)) : List (List Value) := zs.map Array.toList
theorem rowsOf_length (zs : List (Array Value)) : (rowsOf zs).length = zs.length := by simp [rowsOf]
theorem flat_take {c : Nat} : ∀ (zs : List (Array Value)) (k : Nat), (∀ x ∈ zs, IsN c x) → (rowsOf zs).flatten.take (k * c) = (rowsOf (zs.take k)).flatten
  | [], k, _ => by simp [rowsOf]
  | z :: zs, 0, _ => by simp [rowsOf]
  | z :: zs, k + 1, h => by
    have hz := (h z (by simp)).1
    have ih := flat_take zs k (fun x hx => h x (by simp [hx]))
    show (z.toList ++ (rowsOf zs).flatten).take ((k + 1) * c) = z.toList ++ (rowsOf (zs.take k)).flatten
    rw [← ih, List.take_append, List.take_of_length_le (by simp [hz, Nat.succ_mul]), Array.length_toList, hz, show (k + 1) * c - c = k * c from by rw [Nat.succ_mul]; omega]
theorem flat_drop {c : Nat} : ∀ (zs : List (Array Value)) (k : Nat), (∀ x ∈ zs, IsN c x) → (rowsOf zs).flatten.drop (k * c) = (rowsOf (zs.drop k)).flatten
  | [], k, _ => by simp [rowsOf]
  | z :: zs, 0, _ => by simp [rowsOf]
  | z :: zs, k + 1, h => by
    have hz := (h z (by simp)).1
    have ih := flat_drop zs k (fun x hx => h x (by simp [hx]))
    show (z.toList ++ (rowsOf zs).flatten).drop ((k + 1) * c) = (rowsOf (zs.drop k)).flatten
    rw [← ih, List.drop_append, List.drop_of_length_le (by simp [hz, Nat.succ_mul]), Array.length_toList, hz, show (k + 1) * c - c = k * c from by rw [Nat.succ_mul]; omega, List.nil_append]
theorem flat_get {c : Nat} {zs : List (Array Value)} {k : Nat} {z : Array Value} (h : ∀ x ∈ zs, IsN c x) (hz : zs[k]? = some z) (j : Nat) (v : Value) (hv : z.toList[j]? = some v) : (rowsOf zs).flatten[k * c + j]? = some v := by
  obtain ⟨hk, rfl⟩ := List.getElem?_eq_some_iff.1 hz
  rw [← List.getElem?_drop, flat_drop zs k h, List.drop_eq_getElem_cons hk]
  show (zs[k].toList ++ _)[j]? = some v
  rw [List.getElem?_append_left (List.getElem?_eq_some_iff.1 hv).1]
  exact hv
theorem flat_one {c : Nat} {zs : List (Array Value)} (h : ∀ x ∈ zs, IsN c x) : ∀ u ∈ (rowsOf zs).flatten, u.oneCell' = true := fun u hu => by
  obtain ⟨l, hl, hul⟩ := List.mem_flatten.1 hu
  obtain ⟨x, hx, rfl⟩ := List.mem_map.1 hl
  exact (h x hx).2 u (by simpa using hul)
theorem flat_len {c : Nat} : ∀ {zs : List (Array Value)}, (∀ x ∈ zs, IsN c x) → (rowsOf zs).flatten.length = zs.length * c
  | [], _ => by simp [rowsOf]
  | z :: zs, h => by
    show (z.toList ++ (rowsOf zs).flatten).length = _
    rw [List.length_append, flat_len (fun x hx => h x (by simp [hx])), Array.length_toList, (h z (by simp)).1, List.length_cons, Nat.succ_mul]
    omega
theorem rows_len {c : Nat} {zs : List (Array Value)} (h : ∀ x ∈ zs, IsN c x) : ∀ y ∈ rowsOf zs, y.length = c := fun y hy => by
  obtain ⟨x, hx, rfl⟩ := List.mem_map.1 hy
  simpa using (h x hx).1

section
variable {P : Program} {T : TypeId} {Z : Array Value} {d : TypeDesc}
theorem agg_alloc (hz : ∀ w, (zeroValue T).run P w = .ok (.agg Z) w) (w : World) :
    (Instr.alloc T true (.tuple #[])).run P w = .ok (.pointer (some ⟨w.heap.size, 0, none⟩)) (w.alloc (.cells Z T)) := by
  simp [Instr.alloc, hz, newVar, newRow, run_newObj_alloc, Value.cells]
theorem agg_box (x : Array Value) (w : World) :
    (Instr.box T (.agg x)).run P w = .ok (.pointer (some ⟨w.heap.size, 0, none⟩)) (w.alloc (.cells x T)) := by
  simp [Instr.box, newVar, newRow, run_newObj_alloc, Value.cells]
theorem agg_st_new (hi : (P.info? T).map (·.size) = some Z.size) {n : Nat} (hn : Z.size = n) {x : Array Value} (hx : IsN n x) (w : World) :
    (Instr.storeAt T (.pointer (some ⟨w.heap.size, 0, none⟩)) (.agg x)).run P (w.alloc (.cells Z T)) = .ok () (w.alloc (.cells x T)) := by
  have h := run_storeAt_mid (P := P) (w.alloc (.cells Z T)) w.heap.size 0 T x (there_of (Blk.new w Z T) (by rw [hx.1, hn]; omega)) (by rw [hi, hx.1, hn]) hx.all
  rw [h, setCells_alloc, setMany_all Z x (by rw [hx.1, hn])]
theorem agg_ld (hu : P.underlying T = some d) (hd : d.isRow = true) {n : Nat} (hi : (P.info? T).map (·.size) = some n) {x : Array Value} (hx : IsN n x) {w : World} {b o : Nat} (h : w.rangeAt b o x.toList) :
    (Instr.loadAt T (.pointer (some ⟨b, o, none⟩))).run P w = .ok (.agg x) w := by
  have := run_loadAt_mid w b o T x.toList d h hu hd (by rw [hi]; simp [hx.1])
  simpa using this
theorem agg_ldV (hu : P.underlying T = some d) (hd : d.isRow = true) {n : Nat} (hi : (P.info? T).map (·.size) = some n) {x : Array Value} (hx : IsN n x) {w : World} {b o : Nat} (h : w.rangeAt b o x.toList) :
    (loadVar T ⟨b, o, none⟩).run P w = .ok (.agg x) w := by
  have := run_loadVar_mid (P := P) w b o T x.toList d h hu hd (by rw [hi]; simp [hx.1])
  simpa using this
theorem agg_zero {n : Nat} (h : (P.info? T).map (fun i => (i.zero, i.size)) = some (some (.agg Z), n)) (w : World) : (zeroValue T).run P w = .ok (.agg Z) w := by
  cases hq : P.info? T with
  | none => simp [hq] at h
  | some i =>
    simp [hq] at h
    simp [zeroValue, typeInfo, hq, h.1]
theorem fold_zip (off : Nat) : ∀ (vs : List Value) (k : Nat) (Z : Array Value), (vs.zipIdx k).foldl (fun cs (p : Value × Nat) => cs.setIfInBounds (off + p.2) p.1) Z = setMany Z (off + k) vs
  | [], _, _ => rfl
  | v :: vs, k, Z => by
    simp only [List.zipIdx_cons, List.foldl_cons]
    rw [fold_zip off vs (k + 1)]
    rfl
theorem fold_all (Z x : Array Value) (h : x.size = Z.size) : Array.foldl (fun cs (p : Value × Nat) => cs.setIfInBounds p.snd p.fst) Z x.zipIdx 0 Z.size = x := by
  have e : (x.zipIdx.foldl (fun cs (p : Value × Nat) => cs.setIfInBounds (0 + p.2) p.1) Z) = x := by
    rw [← Array.foldl_toList, Array.toList_zipIdx]
    rw [fold_zip 0 x.toList 0 Z]
    exact setMany_all Z x h
  simp only [Nat.zero_add] at e
  have hs : Z.size = x.zipIdx.size := by simp [h]
  rw [hs]
  exact e
theorem fill_one (Z x : Array Value) (h : x.size = Z.size) : Instr.fill (fun i => some (i * Z.size, Z.size)) Z [(0, .agg x)] = some x := by
  have e := fold_all Z x h
  simp [Instr.fill, Value.cells, h]
  exact e
theorem range_map_get (Z : Array Value) : ((Array.range Z.size).map fun i => Z[i % Z.size]!) = Z := by
  apply Array.ext
  · simp
  · intro i h1 h2
    simp [Nat.mod_eq_of_lt h2, h2]
theorem run_append_all (w : World) (t ty e : TypeId) (i : TypeInfo) (z : Value) (size bytes : Nat) (ht : P.underlying t = some (.slice e)) (hi : P.info? e = some i) (hz : i.zero = some z)
    (hsize : i.size = size) (hby : i.bytes = bytes) (hzs : z.cells.size = size) (hsz : 0 < size)
    (v : Value) (n : Nat) (xs : List Value) (hown : Row w e size v n xs) (u : Value) (m : Nat) (news : List Value) (hu : Row w e size u m news) (h1 : ∀ x ∈ news, x.oneCell' = true)
    (h63 : n + m ≤ maxLen) (hbytes : (n + m) * bytes ≤ 140737488355328) :
    ∃ v' w', (Builtin.append_ #[t, t] ty #[v, u]).run P w = .ok v' w' ∧ Row w' e size v' (n + m) (xs ++ news) ∧ w.grownBy w' v.ownBlock ∧
      (v'.ownBlock = v.ownBlock ∨ ∃ g, v'.ownBlock = some g ∧ w.heap.size ≤ g) := by
  rcases hu.2 with ⟨rfl, rfl⟩ | ⟨g, cap, cur, rfl, hgg, hnc, hcm, hcs, htake⟩
  · have hnil : news = [] := List.eq_nil_of_length_eq_zero (by simpa using hu.1)
    subst hnil
    obtain ⟨b, cv, rfl, hn, _, _⟩ := hown.slice
    exact ⟨_, w, run_append_zero w t ty e i ht hi b n cv hn none 0, by simpa using hown, ⟨rfl, rfl, rfl, Nat.le_refl _, fun _ _ _ => rfl⟩, .inl rfl⟩
  · exact run_append_row w t ty e i z size bytes ht hi hz hsize hby hzs hsz v n xs hown ⟨g, 0, none⟩ m cap news hu.1 (fun j x hx => by
      have := (hu.cells).2 j x hx
      rw [Addr.add_lit]; simpa using this) h1 h63 hbytes
theorem agg_bs {TS : TypeId} (ht : P.underlying TS = some (.slice T)) {n : Nat} (h : (P.info? T).map (fun i => (i.zero, i.size)) = some (some (.agg Z), n)) (hn : Z.size = n) (h0 : 0 < n) (h1 : n ≤ 16777216) {x : Array Value} (hx : x.size = n) (w : World) :
    (Instr.buildSlice TS 1 #[(0, .agg x)]).run P w = .ok (.slice (some ⟨w.heap.size, 0, none⟩) 1 1) (w.alloc (.cells x T)) := by
  have hz := agg_zero h w
  cases hq : P.info? T with
  | none => simp [hq] at h
  | some i =>
    simp [hq] at h
    subst hn
    have hs : (sizeOf T).run P w = .ok Z.size w := by simp [sizeOf, typeInfo, hq, h.2]
    have hf := fill_one Z x hx
    have hr := range_map_get Z
    have h2 : ¬ (16777216 < Z.size) := by omega
    have h3 : Z.size ≠ 0 := by omega
    simp [Instr.buildSlice, run_underlying ht, hs, hz, h2, h3, newRow, run_newObj_alloc, hr, hf, Value.cells]
end
end Go.Proofs.YtjgeflbhmhmjdaaGreat
namespace Go.Proofs.YtjgeflbhmhmjdaaGreat.TBlk
open Go.RowKit
def Z : Array Value := #[.int .u32 0, .int .u32 0, .int .u32 0, .int .u32 0, .int .u32 0, .int .u32 0, .int .u32 0, .int .u32 0, .int .u32 0, .int .u32 0, .int .u32 0, .int .u32 0, .int .u32 0, .int .u32 0, .int .u32 0, .int .u32 0]
theorem size_Z : Z.size = 16 := by kernel_rfl
theorem isZ : IsN 16 Z := ⟨size_Z, Array.all_eq_true_iff_forall_mem.1 (by kernel_rfl)⟩
theorem infoZ : (Tryz.prog.info? 35).map (fun i => (i.zero, i.size)) = some (some (.agg Z), 16) := by kernel_rfl
theorem infoS : (Tryz.prog.info? 35).map (·.size) = some 16 := by kernel_rfl
theorem infoSZ : (Tryz.prog.info? 35).map (·.size) = some Z.size := by kernel_rfl
def ld (v : Value) : Sem Value := Instr.loadAt 35 v
def st (p v : Value) : Sem Unit := Instr.storeAt 35 p v
def bx (v : Value) : Sem Value := Instr.box 35 v
def al : Sem Value := Instr.alloc 35 true (.tuple #[])
theorem ld_eq (v : Value) : Instr.loadAt 35 v = ld v := rfl
theorem st_eq (p v : Value) : Instr.storeAt 35 p v = st p v := rfl
theorem bx_eq (v : Value) : Instr.box 35 v = bx v := rfl
theorem al_eq : Instr.alloc 35 true (.tuple #[]) = al := rfl
theorem al_run (w : World) : al.run Tryz.prog w = .ok (.pointer (some ⟨w.heap.size, 0, none⟩)) (w.alloc (.cells Z 35)) := agg_alloc (agg_zero infoZ) w
theorem bx_run (x : Array Value) (w : World) : (bx (.agg x)).run Tryz.prog w = .ok (.pointer (some ⟨w.heap.size, 0, none⟩)) (w.alloc (.cells x 35)) := agg_box x w
theorem st_new {x : Array Value} (hx : IsN 16 x) (w : World) : (st (.pointer (some ⟨w.heap.size, 0, none⟩)) (.agg x)).run Tryz.prog (w.alloc (.cells Z 35)) = .ok () (w.alloc (.cells x 35)) := agg_st_new infoSZ size_Z hx w
theorem ld_at {x : Array Value} (hx : IsN 16 x) {w : World} {b o : Nat} (h : w.rangeAt b o x.toList) : (ld (.pointer (some ⟨b, o, none⟩))).run Tryz.prog w = .ok (.agg x) w := agg_ld Tryz.underlying35 rfl infoS hx h
theorem st_at {x y : Array Value} (hx : IsN 16 x) (hy : IsN 16 y) {w : World} {b : Nat} {T : TypeId} (h : Blk w b x T) : (st (.pointer (some ⟨b, 0, none⟩)) (.agg y)).run Tryz.prog w = .ok () (w.setCells b 0 y.toList) ∧ Blk (w.setCells b 0 y.toList) b y T := by
  refine ⟨run_storeAt_mid w b 0 35 y (there_of h (by rw [hx.1, hy.1]; exact Nat.le_refl _)) (by rw [infoS, hy.1]) hy.all, ?_⟩
  have h' := blk_setCells y.toList 0 w _ h
  rwa [setMany_all x y (by rw [hx.1, hy.1])] at h'
theorem ldV_at {x : Array Value} (hx : IsN 16 x) {w : World} {b o : Nat} (h : w.rangeAt b o x.toList) : (loadVar 35 ⟨b, o, none⟩).run Tryz.prog w = .ok (.agg x) w := agg_ldV Tryz.underlying35 rfl infoS hx h
end Go.Proofs.YtjgeflbhmhmjdaaGreat.TBlk
namespace Go.Proofs.YtjgeflbhmhmjdaaGreat.BU
open Go.RowKit

theorem split16 {D : Array Value} (h : D.size = 16) : ∃ d0 d1 d2 d3 d4 d5 d6 d7 d8 d9 d10 d11 d12 d13 d14 d15, D = #[d0, d1, d2, d3, d4, d5, d6, d7, d8, d9, d10, d11, d12, d13, d14, d15] := by
  obtain ⟨l⟩ := D
  simp only [List.size_toArray] at h
  match l, h with
  | [d0, d1, d2, d3, d4, d5, d6, d7, d8, d9, d10, d11, d12, d13, d14, d15], _ => exact ⟨d0, d1, d2, d3, d4, d5, d6, d7, d8, d9, d10, d11, d12, d13, d14, d15, rfl⟩
def IsU (D : Array Value) : Prop := D.size = 16 ∧ ∀ u ∈ D, ∃ n : Int, u = .int .u32 n
theorem IsU.isN {D : Array Value} (h : IsU D) : IsN 16 D := ⟨h.1, fun u hu => by obtain ⟨n, rfl⟩ := h.2 u hu; rfl⟩
theorem isU_Z : IsU TBlk.Z := ⟨TBlk.size_Z, fun u hu => by
  simp only [TBlk.Z, List.mem_toArray, List.mem_cons, List.not_mem_nil, or_false, or_self] at hu
  exact ⟨0, hu⟩⟩
def words (D : Array Value) : List Int := D.toList.map intOf
theorem items_run {P : Program} {e : TypeId} (w : World) (d : Nat) (hu : P.underlying e = some (.int .u32)) (hg : (isAgg e).run P w = .ok false w) (xs ys : Array Value) : ∀ (is : List Nat),
    (∀ i ∈ is, ∃ a b : Int, xs[i]? = some (.int .u32 a) ∧ ys[i]? = some (.int .u32 b)) → (Op.eqItems (d + 1) e 1 xs ys is).run P w = .ok (is.all fun i => (xs[i]?.map intOf) == (ys[i]?.map intOf)) w
  | [], _ => rfl
  | i :: is, h => by
    obtain ⟨a, b, ha, hb⟩ := h i (by simp)
    have ih := items_run w d hu hg xs ys is (fun j hj => h j (by simp [hj]))
    have p1 : (part e xs (i * 1)).run P w = .ok (.int .u32 a) w := by simp [part, hg, ha]
    have p2 : (part e ys (i * 1)).run P w = .ok (.int .u32 b) w := by simp [part, hg, hb]
    simp only [Op.eqItems, Sem.run_bind, p1, p2, Result.andThen_ok, run_equalIn_int w d e .u32 .u32 a b hu, List.all_cons, ha, hb, Option.map_some]
    show (if (!(a == b)) = true then (pure false : Sem Bool) else Op.eqItems (d + 1) e 1 xs ys is).run P w = _
    have e1 : (some (intOf (Value.int .u32 a)) == some (intOf (Value.int .u32 b))) = (a == b) := by simp [intOf]
    rw [e1]
    cases hab : (a == b)
    · simp [Sem.run_pure]
    · simpa using ih

set_option maxRecDepth 100000 in
theorem eq_run {D E : Array Value} (hD : IsU D) (hE : IsU E) (d : Nat) (w : World) : (Op.equalIn (d + 2) 35 (.agg D) (.agg E)).run Tryz.prog w = .ok (words D == words E) w := by
  have hi : (Tryz.prog.info? 33).isSome = true := by kernel_rfl
  obtain ⟨i, hi⟩ := Option.isSome_iff_exists.1 hi
  have hc : Tryz.prog.cellsOf 33 = 1 := by kernel_rfl
  rw [run_equalIn_array (P := Tryz.prog) (w := w) (d + 1) D E Tryz.underlying35 hi, hc]
  rw [items_run w d Tryz.underlying33 (Tryz.isAgg33 w) D E _ (fun j hj => by
    rw [List.mem_range] at hj
    have hj1 : j < D.size := by have := hD.1; omega
    have hj2 : j < E.size := by have := hE.1; omega
    obtain ⟨a, ha⟩ := hD.2 D[j] (Array.getElem_mem hj1)
    obtain ⟨b, hb⟩ := hE.2 E[j] (Array.getElem_mem hj2)
    exact ⟨a, b, by rw [Array.getElem?_eq_getElem hj1, ha], by rw [Array.getElem?_eq_getElem hj2, hb]⟩)]
  congr 1
  rw [Bool.eq_iff_iff, List.all_eq_true]
  constructor
  · intro h
    refine beq_iff_eq.2 (List.ext_getElem? fun j => ?_)
    unfold words
    rw [List.getElem?_map, List.getElem?_map]
    by_cases hj : j < 16
    · have := h j (List.mem_range.2 hj)
      simpa using this
    · rw [List.getElem?_eq_none (by have := hD.1; simp; omega), List.getElem?_eq_none (by have := hE.1; simp; omega)]
  · intro h j hj
    have h := beq_iff_eq.1 h
    have := congrArg (fun l => l[j]?) h
    unfold words at this
    simp only [List.getElem?_map] at this
    simpa using this
end Go.Proofs.YtjgeflbhmhmjdaaGreat.BU
namespace Go.Proofs.YtjgeflbhmhmjdaaGreat.TLin
open Go.RowKit
def Z : Array Value := #[.int .i64 0, .int .u8 0, .int .u32 0, .int .u32 0, .int .u32 0, .int .u32 0, .int .u32 0, .int .u32 0, .int .u32 0, .int .u32 0, .int .u32 0, .int .u32 0, .int .u32 0, .int .u32 0, .int .u32 0, .int .u32 0, .int .u32 0, .int .u32 0]
theorem size_Z : Z.size = 18 := by kernel_rfl
theorem isZ : IsN 18 Z := ⟨size_Z, Array.all_eq_true_iff_forall_mem.1 (by kernel_rfl)⟩
theorem infoZ : (Tryz.prog.info? 50).map (fun i => (i.zero, i.size)) = some (some (.agg Z), 18) := by kernel_rfl
theorem infoS : (Tryz.prog.info? 50).map (·.size) = some 18 := by kernel_rfl
theorem infoSZ : (Tryz.prog.info? 50).map (·.size) = some Z.size := by kernel_rfl
def ld (v : Value) : Sem Value := Instr.loadAt 50 v
def st (p v : Value) : Sem Unit := Instr.storeAt 50 p v
def bx (v : Value) : Sem Value := Instr.box 50 v
def al : Sem Value := Instr.alloc 50 true (.tuple #[])
theorem ld_eq (v : Value) : Instr.loadAt 50 v = ld v := rfl
theorem st_eq (p v : Value) : Instr.storeAt 50 p v = st p v := rfl
theorem bx_eq (v : Value) : Instr.box 50 v = bx v := rfl
theorem al_eq : Instr.alloc 50 true (.tuple #[]) = al := rfl
theorem al_run (w : World) : al.run Tryz.prog w = .ok (.pointer (some ⟨w.heap.size, 0, none⟩)) (w.alloc (.cells Z 50)) := agg_alloc (agg_zero infoZ) w
theorem bx_run (x : Array Value) (w : World) : (bx (.agg x)).run Tryz.prog w = .ok (.pointer (some ⟨w.heap.size, 0, none⟩)) (w.alloc (.cells x 50)) := agg_box x w
theorem st_new {x : Array Value} (hx : IsN 18 x) (w : World) : (st (.pointer (some ⟨w.heap.size, 0, none⟩)) (.agg x)).run Tryz.prog (w.alloc (.cells Z 50)) = .ok () (w.alloc (.cells x 50)) := agg_st_new infoSZ size_Z hx w
theorem ld_at {x : Array Value} (hx : IsN 18 x) {w : World} {b o : Nat} (h : w.rangeAt b o x.toList) : (ld (.pointer (some ⟨b, o, none⟩))).run Tryz.prog w = .ok (.agg x) w := agg_ld Tryz.underlying50 rfl infoS hx h
theorem st_at {x y : Array Value} (hx : IsN 18 x) (hy : IsN 18 y) {w : World} {b : Nat} {T : TypeId} (h : Blk w b x T) : (st (.pointer (some ⟨b, 0, none⟩)) (.agg y)).run Tryz.prog w = .ok () (w.setCells b 0 y.toList) ∧ Blk (w.setCells b 0 y.toList) b y T := by
  refine ⟨run_storeAt_mid w b 0 50 y (there_of h (by rw [hx.1, hy.1]; exact Nat.le_refl _)) (by rw [infoS, hy.1]) hy.all, ?_⟩
  have h' := blk_setCells y.toList 0 w _ h
  rwa [setMany_all x y (by rw [hx.1, hy.1])] at h'
theorem ldV_at {x : Array Value} (hx : IsN 18 x) {w : World} {b o : Nat} (h : w.rangeAt b o x.toList) : (loadVar 50 ⟨b, o, none⟩).run Tryz.prog w = .ok (.agg x) w := agg_ldV Tryz.underlying50 rfl infoS hx h
end Go.Proofs.YtjgeflbhmhmjdaaGreat.TLin
namespace Go.Proofs.YtjgeflbhmhmjdaaGreat
open Go.RowKit
open BU (IsU words)

structure Ln where
  blk : Int
  st : Int
  D : Array Value
namespace Ln
def cells (n : Ln) : Array Value := #[.int .i64 n.blk, .int .u8 n.st] ++ n.D
structure Ok (n : Ln) : Prop where
  st : 0 ≤ n.st ∧ n.st ≤ 255
  isU : IsU n.D
theorem Ok.isN {n : Ln} (h : IsU n.D) : IsN 18 n.cells := by
  refine ⟨by simp [cells, h.1], fun u hu => ?_⟩
  unfold cells at hu
  rcases Array.mem_append.1 hu with hu | hu
  · simp only [List.mem_toArray, List.mem_cons, List.not_mem_nil, or_false] at hu
    rcases hu with rfl | rfl <;> rfl
  · obtain ⟨z, rfl⟩ := h.2 u hu; rfl
theorem get0 (n : Ln) : n.cells[0]? = some (.int .i64 n.blk) := by unfold cells; rw [Array.getElem?_append_left (by simp)]; rfl
theorem get1 (n : Ln) : n.cells[1]? = some (.int .u8 n.st) := by unfold cells; rw [Array.getElem?_append_left (by simp)]; rfl
theorem getD (n : Ln) (j : Nat) : n.cells[2 + j]? = n.D[j]? := by unfold cells; rw [Array.getElem?_append_right (by simp)]; simp
def nil : Ln := ⟨0, 0, TBlk.Z⟩
theorem nil_cells : nil.cells = TLin.Z := by kernel_rfl
theorem nil_ok : nil.Ok := ⟨by decide, BU.isU_Z⟩
end Ln
def lnRow (n : Nat) (A : Nat → Ln) : Array Value := Array.ofFn (n := n * 18) (fun j => (A (j.val / 18)).cells.getD (j.val % 18) undef)
def updL (A : Nat → Ln) (i : Nat) (x : Ln) : Nat → Ln := fun j => if j = i then x else A j
theorem lnRow_size (n : Nat) (A : Nat → Ln) : (lnRow n A).size = n * 18 := by simp [lnRow]
theorem lnRow_get {n i r : Nat} {A : Nat → Ln} (hA : IsU (A i).D) (hi : i < n) (hr : r < 18) : (lnRow n A)[i * 18 + r]? = (A i).cells[r]? := by
  have hlt : i * 18 + r < n * 18 := by omega
  have hs := (Ln.Ok.isN hA).1
  rw [Array.getElem?_eq_getElem (by rw [lnRow_size]; exact hlt)]
  simp only [lnRow, Array.getElem_ofFn]
  rw [show (i * 18 + r) / 18 = i by omega, show (i * 18 + r) % 18 = r by omega, Array.getElem?_eq_getElem (by omega), Array.getD_eq_getD_getElem?, Array.getElem?_eq_getElem (by omega)]
  rfl
theorem lnRow_set {n i : Nat} {A : Nat → Ln} {x : Ln} (hA : ∀ j, IsU (A j).D) (hx : IsU x.D) (hi : i < n) : setMany (lnRow n A) (i * 18) x.cells.toList = lnRow n (updL A i x) := by
  have hs := (Ln.Ok.isN hx).1
  have hU : ∀ j, IsU (updL A i x j).D := fun j => by unfold updL; split; exact hx; exact hA j
  apply Array.ext_getElem?
  intro k
  rw [get_setMany, lnRow_size, Array.length_toList, hs]
  by_cases hk : k < n * 18
  · obtain ⟨q, r, rfl, hr⟩ : ∃ q r, k = q * 18 + r ∧ r < 18 := ⟨k / 18, k % 18, by omega, by omega⟩
    have hq : q < n := by omega
    rw [lnRow_get (hA q) hq hr, lnRow_get (hU q) hq hr]
    unfold updL
    by_cases e : q = i
    · subst e
      rw [if_pos ⟨by omega, by omega, hk⟩, if_pos rfl, Array.getElem?_toList, show q * 18 + r - q * 18 = r by omega]
    · rw [if_neg (by omega), if_neg e]
  · rw [if_neg (by omega), Array.getElem?_eq_none (by rw [lnRow_size]; omega), Array.getElem?_eq_none (by rw [lnRow_size]; omega)]
theorem setMany_app {X tl : Array Value} {o : Nat} {vs : List Value} (h : o + vs.length ≤ X.size) : setMany (X ++ tl) o vs = setMany X o vs ++ tl := by
  apply Array.ext_getElem?
  intro k
  rw [get_setMany]
  by_cases hk : k < X.size
  · rw [Array.getElem?_append_left hk, Array.getElem?_append_left (by rw [size_setMany]; exact hk), get_setMany, Array.size_append]
    by_cases e : o ≤ k ∧ k < o + vs.length
    · rw [if_pos ⟨e.1, e.2, by omega⟩, if_pos ⟨e.1, e.2, hk⟩]
    · rw [if_neg (by omega), if_neg (by omega)]
  · rw [if_neg (by omega), Array.getElem?_append_right (by omega), Array.getElem?_append_right (by rw [size_setMany]; omega), size_setMany]
theorem set_app {X tl : Array Value} {o : Nat} {v : Value} (h : o < X.size) : (X ++ tl).setIfInBounds o v = X.setIfInBounds o v ++ tl := by
  apply Array.ext_getElem?
  intro k
  rw [Array.getElem?_setIfInBounds]
  by_cases hk : k < X.size
  · rw [Array.getElem?_append_left hk, Array.getElem?_append_left (by simpa using hk), Array.getElem?_setIfInBounds]
    rw [Array.size_append, if_pos h, if_pos (show o < X.size + tl.size by omega)]
  · rw [if_neg (by omega), Array.getElem?_append_right (by omega), Array.getElem?_append_right (by simpa using hk), Array.size_setIfInBounds]
theorem lnX_get {n i r : Nat} {A : Nat → Ln} {tl : Array Value} (hA : IsU (A i).D) (hi : i < n) (hr : r < 18) : (lnRow n A ++ tl)[i * 18 + r]? = (A i).cells[r]? := by
  rw [Array.getElem?_append_left (by rw [lnRow_size]; omega), lnRow_get hA hi hr]
theorem lnX_set {n i : Nat} {A : Nat → Ln} {x : Ln} {tl : Array Value} (hA : ∀ j, IsU (A j).D) (hx : IsU x.D) (hi : i < n) : setMany (lnRow n A ++ tl) (i * 18) x.cells.toList = lnRow n (updL A i x) ++ tl := by
  rw [setMany_app (by rw [Array.length_toList, (Ln.Ok.isN hx).1, lnRow_size]; omega), lnRow_set hA hx hi]
theorem lnX_setc {n i r : Nat} {A : Nat → Ln} {x : Ln} {tl : Array Value} {v : Value} (hA : ∀ j, IsU (A j).D) (hx : IsU x.D) (hi : i < n) (hr : r < 18) (e : x.cells = (A i).cells.setIfInBounds r v) : (lnRow n A ++ tl).setIfInBounds (i * 18 + r) v = lnRow n (updL A i x) ++ tl := by
  rw [set_app (by rw [lnRow_size]; omega)]
  congr 1
  have hU : ∀ j, IsU (updL A i x j).D := fun j => by unfold updL; split; exact hx; exact hA j
  apply Array.ext_getElem?
  intro k
  rw [Array.getElem?_setIfInBounds, lnRow_size]
  by_cases hk : k < n * 18
  · obtain ⟨q, p, rfl, hp⟩ : ∃ q p, k = q * 18 + p ∧ p < 18 := ⟨k / 18, k % 18, by omega, by omega⟩
    have hq : q < n := by omega
    rw [lnRow_get (hA q) hq hp, lnRow_get (hU q) hq hp]
    unfold updL
    by_cases e2 : q = i
    · subst e2
      rw [if_pos rfl, e, Array.getElem?_setIfInBounds, (Ln.Ok.isN (hA q)).1]
      by_cases e3 : r = p
      · subst e3; rw [if_pos rfl, if_pos rfl, if_pos hk, if_pos hr]
      · rw [if_neg (by omega), if_neg e3]
    · rw [if_neg (by omega), if_neg e2]
  · rw [if_neg (by omega), Array.getElem?_eq_none (by rw [lnRow_size]; omega), Array.getElem?_eq_none (by rw [lnRow_size]; omega)]
theorem lnRow_range {W : World} {gl n i : Nat} {A : Nat → Ln} {tl : Array Value} {T : TypeId} (h : Blk W gl (lnRow n A ++ tl) T) (hA : IsU (A i).D) (hi : i < n) : W.rangeAt gl (i * 18) (A i).cells.toList := by
  intro j v hv
  have hj : j < 18 := by
    have := (List.getElem?_eq_some_iff.1 hv).1
    rw [Array.length_toList, (Ln.Ok.isN hA).1] at this
    exact this
  have := h.cell (i * 18 + j)
  rw [this, lnX_get hA hi hj]
  simpa using hv
theorem lnRow_made (n : Nat) : madeCells TLin.Z (n * 18) = lnRow n (fun _ => Ln.nil) := by
  apply Array.ext
  · simp [madeCells, lnRow]
  · intro i h1 h2
    simp only [madeCells, lnRow, Array.getElem_map, Array.getElem_ofFn, Array.getElem_range, Ln.nil_cells]
    have hz : TLin.Z.size = 18 := TLin.size_Z
    rw [hz, Array.getD_eq_getD_getElem?, Array.getElem?_eq_getElem (by omega), getElem!_pos TLin.Z (i % 18) (by omega)]
    rfl
def rowU (s : Nat) (M : Nat → Int) : Array Value := Array.ofFn (n := s) (fun i => .int .u8 (M i.val))
theorem rowU_size (s : Nat) (M : Nat → Int) : (rowU s M).size = s := by simp [rowU]
theorem rowU_get {s i : Nat} (M : Nat → Int) (h : i < s) : (rowU s M)[i]? = some (.int .u8 (M i)) := by
  rw [Array.getElem?_eq_getElem (by rw [rowU_size]; exact h)]
  simp [rowU]
theorem rowU_set (s : Nat) (M : Nat → Int) (i : Nat) (x : Int) : (rowU s M).setIfInBounds i (.int .u8 x) = rowU s (fun j => if j = i then x else M j) := by
  apply Array.ext
  · simp [rowU]
  · intro j h1 h2
    rw [Array.getElem_setIfInBounds (by simpa [rowU] using h1)]
    by_cases e : i = j
    · subst e; simp [rowU]
    · rw [if_neg e]
      have : ¬ j = i := fun h => e h.symm
      simp [rowU, this]
theorem rowU_made (s : Nat) : madeCells #[.int .u8 0] (s * 1) = rowU s (fun _ => 0) := by
  apply Array.ext
  · simp [madeCells, rowU]
  · intro i h1 h2
    simp [madeCells, rowU, Nat.mod_one]
theorem rowX_get {s i : Nat} {M : Nat → Int} {tm : Array Value} (h : i < s) : (rowU s M ++ tm)[i]? = some (.int .u8 (M i)) := by
  rw [Array.getElem?_append_left (by rw [rowU_size]; exact h), rowU_get M h]
theorem rowX_set {s : Nat} {M : Nat → Int} {tm : Array Value} {i : Nat} (h : i < s) (x : Int) : (rowU s M ++ tm).setIfInBounds i (.int .u8 x) = rowU s (fun j => if j = i then x else M j) ++ tm := by
  rw [set_app (by rw [rowU_size]; exact h), rowU_set]
theorem Sep.setM {G : Nat → Prop} {w0 W : World} {L : List Obj} (h : Sep G w0 W L) (i : Nat) {b : Nat} {cs : Array Value} {T : TypeId} (hi : L[i]? = some (boxO b cs T)) (o : Nat) (vs : List Value) :
    Sep G w0 (W.setCells b o vs) (L.set i (boxO b (setMany cs o vs) T)) := by
  obtain ⟨F, h2, h3⟩ := h.step i hi
  exact h3 _ _ ((upd_setCells vs o W).mono (fun k _ hk => by have e : k = b := hk; subst e; exact h2.2)) ⟨blk_setCells vs o W cs h2.1, .inl h2.2⟩
def firstW (p : Ln → Bool) (A : Nat → Ln) (lo k : Nat) : Int := match (List.range k).find? (fun i => p (A (lo + i))) with | some i => (i : Int) | none => -1
theorem firstW_hit {p : Ln → Bool} {A : Nat → Ln} {lo k i : Nat} (h : ∀ j, j < i → p (A (lo + j)) = false) (hi : i < k) (hp : p (A (lo + i)) = true) : firstW p A lo k = i := by
  unfold firstW
  have : (List.range k).find? (fun i => p (A (lo + i))) = some i := by
    rw [List.find?_range_eq_some]
    exact ⟨hp, by simpa using hi, fun j hj => by rw [h j hj]; rfl⟩
  rw [this]
theorem firstW_none {p : Ln → Bool} {A : Nat → Ln} {lo k : Nat} (h : ∀ j, j < k → p (A (lo + j)) = false) : firstW p A lo k = -1 := by
  unfold firstW
  have : (List.range k).find? (fun i => p (A (lo + i))) = none := by
    rw [List.find?_eq_none]
    intro j hj
    simp only [List.mem_range] at hj
    rw [h j hj]; simp
  rw [this]
end Go.Proofs.YtjgeflbhmhmjdaaGreat
