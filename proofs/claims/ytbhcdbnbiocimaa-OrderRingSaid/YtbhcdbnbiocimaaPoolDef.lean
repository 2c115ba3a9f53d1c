import Derived.Test.YtbhcdbnbiocimaaWorld
set_option linter.unusedSimpArgs false
set_option linter.unusedVariables false
namespace Go.Proofs.Ytbhcdbnbiocimaa
open Go.RowKit

/-- A pool in block b, its row v; F: all blocks that it has. -/
structure PoolAt (T e : TypeId) (c : Nat) (w : World) (F : Nat → Prop) (b : Nat) (v : Value) (xs : List (List Value)) (room : Int) : Prop where
  blk : w.heap[b]? = some (.cells #[v, .int .i64 room] T (0, 0))
  foot : F b
  len : ∀ x ∈ xs, x.length = c
  row : Row w e c v xs.length xs.flatten
  apart : ∀ k, v.ownBlock = some k → F k ∧ k ≠ b

def PoolIs (T e : TypeId) (c : Nat) (w : World) (F : Nat → Prop) (p : Value) (xs : List (List Value)) (room : Int) : Prop :=
  ∃ b v, p = .pointer (some ⟨b, 0, none⟩) ∧ PoolAt T e c w F b v xs room

section
variable {T e : TypeId} {c : Nat} {w w' : World} {F G : Nat → Prop} {p : Value} {b : Nat} {v : Value} {xs : List (List Value)} {room : Int}
theorem PoolAt.upd (h : PoolAt T e c w F b v xs room) (hu : Upd G w w') (hd : ∀ k, F k → ¬ G k) : PoolAt T e c w' F b v xs room :=
  ⟨hu.heap h.blk (hd _ h.foot), h.foot, h.len, h.row.upd hu (fun k hk => hd _ (h.apart k hk).1), h.apart⟩
theorem PoolIs.upd (h : PoolIs T e c w F p xs room) (hu : Upd G w w') (hd : ∀ k, F k → ¬ G k) : PoolIs T e c w' F p xs room := by
  obtain ⟨b, v, hp, h⟩ := h
  exact ⟨b, v, hp, h.upd hu hd⟩
theorem PoolAt.mono (h : PoolAt T e c w F b v xs room) (hF : ∀ k, F k → G k) : PoolAt T e c w G b v xs room :=
  ⟨h.blk, hF _ h.foot, h.len, h.row, fun k hk => ⟨hF _ (h.apart k hk).1, (h.apart k hk).2⟩⟩
theorem PoolIs.mono (h : PoolIs T e c w F p xs room) (hF : ∀ k, F k → G k) : PoolIs T e c w G p xs room := by
  obtain ⟨b, v, hp, h⟩ := h
  exact ⟨b, v, hp, h.mono hF⟩
/-- The blocks that a pool has, and no other. -/
theorem PoolIs.tight (h : PoolIs T e c w F p xs room) : ∃ F', PoolIs T e c w F' p xs room ∧ ∀ k, F' k → F k ∧ k < w.heap.size := by
  obtain ⟨b, v, hp, h⟩ := h
  refine ⟨fun k => k = b ∨ v.ownBlock = some k, ⟨b, v, hp, h.blk, .inl rfl, h.len, h.row, fun k hk => ⟨.inr hk, (h.apart k hk).2⟩⟩, fun k hk => ?_⟩
  rcases hk with rfl | hk
  · exact ⟨h.foot, (Array.getElem?_eq_some_iff.1 h.blk).1⟩
  · exact ⟨(h.apart k hk).1, h.row.lt k hk⟩
theorem PoolAt.facts (h : PoolAt T e c w F b v xs room) : w.cell? ⟨b, 0, none⟩ = some v ∧ w.cell? ⟨b, 1, none⟩ = some (.int .i64 room) ∧ w.frozen? ⟨b, 0, none⟩ = false ∧ b < w.heap.size ∧
    ∃ a cap, v = .slice a xs.length cap ∧ xs.length ≤ cap ∧ cap ≤ maxLen ∧ (a = none → xs.length = 0 ∧ cap = 0) := by
  obtain ⟨c1, f1⟩ := cells_of_block h.blk
  exact ⟨c1 0, c1 1, f1 0, (Array.getElem?_eq_some_iff.1 h.blk).1, h.row.slice⟩

/-- The row of a pool in block b is another one from now on. -/
theorem PoolAt.stored0 {w1 : World} {v' : Value} {ys : List (List Value)} (h : PoolAt T e c w F b v xs room) (hg : w.grownBy w1 v.ownBlock) (hl : ∀ x ∈ ys, x.length = c)
    (hr : Row w1 e c v' ys.length ys.flatten) (hf : v'.ownBlock = v.ownBlock ∨ ∃ g, v'.ownBlock = some g ∧ w.heap.size ≤ g) :
    w1.cell? ⟨b, 0, none⟩ = some v ∧ w1.frozen? ⟨b, 0, none⟩ = false ∧ Upd F w (w1.setCell ⟨b, 0, none⟩ v') ∧ PoolAt T e c (w1.setCell ⟨b, 0, none⟩ v') (AndNew F w) b v' ys room := by
  have hlt : b < w.heap.size := (Array.getElem?_eq_some_iff.1 h.blk).1
  have hne : some b ≠ v.ownBlock := fun e => (h.apart b e.symm).2 rfl
  have hb1 : w1.heap[b]? = some (.cells #[v, .int .i64 room] T (0, 0)) := by
    rw [hg.block b hlt hne]; exact h.blk
  obtain ⟨c1, f1⟩ := cells_of_block hb1
  have hne' : ∀ k, v'.ownBlock = some k → k ≠ b ∧ AndNew F w k := by
    intro k hk
    rcases hf with e | ⟨g, e, hge⟩
    · exact ⟨(h.apart k (e ▸ hk)).2, .inl (h.apart k (e ▸ hk)).1⟩
    · rw [e] at hk; cases hk
      exact ⟨by omega, .inr hge⟩
  have hu1 : Upd F w w1 := Upd.grown (F := F) hg (fun k hk _ => ⟨(h.apart k hk).1, h.row.isCells k hk⟩)
  have hu : Upd F w (w1.setCell ⟨b, 0, none⟩ v') := hu1.trans (Upd.setCell w1 (p := ⟨b, 0, none⟩) h.foot v') (fun _ _ h => h)
  refine ⟨c1 0, f1 0, hu, ?_, .inl h.foot, hl, hr.upd (Upd.setCell (F := fun k => k = b) w1 (p := ⟨b, 0, none⟩) rfl v') (fun k hk => (hne' k hk).1), fun k hk => ⟨(hne' k hk).2, (hne' k hk).1⟩⟩
  have hlt1 : b < w1.heap.size := (Array.getElem?_eq_some_iff.1 hb1).1
  simp only [World.setCell, Array.getElem?_modify, hb1]
  simp

/-- .. behind a new block. -/
theorem PoolAt.stored {w1 : World} {v' : Value} {ys : List (List Value)} (h : PoolAt T e c w F b v xs room) (o : Obj) (hg : (w.alloc o).grownBy w1 v.ownBlock) (hl : ∀ x ∈ ys, x.length = c)
    (hr : Row w1 e c v' ys.length ys.flatten) (hf : v'.ownBlock = v.ownBlock ∨ ∃ g, v'.ownBlock = some g ∧ (w.alloc o).heap.size ≤ g) :
    w1.cell? ⟨b, 0, none⟩ = some v ∧ w1.frozen? ⟨b, 0, none⟩ = false ∧ Upd F w (w1.setCell ⟨b, 0, none⟩ v') ∧ PoolAt T e c (w1.setCell ⟨b, 0, none⟩ v') (AndNew F w) b v' ys room := by
  have hu := Upd.alloc F w o
  obtain ⟨h1, h2, h3, h4⟩ := (h.upd (Upd.alloc NoF w o) (fun _ _ h => h)).stored0 hg hl hr hf
  exact ⟨h1, h2, hu.trans h3 (fun _ _ h => h), h4.mono (AndNew.le hu.size)⟩
end
def onesOf {α : Type} (V : α → Value) (zs : List α) : List (List Value) := zs.map fun z => [V z]
theorem onesOf_length {α : Type} (V : α → Value) (zs : List α) : (onesOf V zs).length = zs.length := by simp [onesOf]
theorem onesOf_flatten {α : Type} (V : α → Value) (zs : List α) : (onesOf V zs).flatten = zs.map V := by
  induction zs with
  | nil => rfl
  | cons a l ih => simp only [onesOf, List.map_cons, List.flatten_cons] at ih ⊢; rw [ih]; rfl

end Go.Proofs.Ytbhcdbnbiocimaa
