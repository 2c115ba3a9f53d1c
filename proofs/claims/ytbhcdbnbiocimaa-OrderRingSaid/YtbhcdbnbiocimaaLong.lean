/- Long rows of cells: a block that is written at one stroke ('setCells'), a new block that is written at once. -/
import Derived.Test.YtbhcdbnbiocimaaWorld
import Derived.Deep.MidRow
set_option linter.unusedSimpArgs false
set_option linter.unusedVariables false
namespace Go.Proofs.Ytbhcdbnbiocimaa
open Go.RowKit

abbrev OnlyAt (b : Nat) : Nat → Prop := fun k => k = b
theorem set_only {w : World} {b : Nat} (i : Nat) (v : Value) : Upd (OnlyAt b) w (w.setCell ⟨b, i, none⟩ v) := Upd.setCell (F := OnlyAt b) w (p := ⟨b, i, none⟩) rfl v
theorem only_trans {b : Nat} {u v w : World} (h : Upd (OnlyAt b) u v) (k : Upd (OnlyAt b) v w) : Upd (OnlyAt b) u w := h.trans k (fun _ _ h => h)
theorem upd_setCells {b : Nat} : ∀ (vs : List Value) (o : Nat) (w : World), Upd (OnlyAt b) w (w.setCells b o vs)
  | [], _, w => Upd.refl _ w
  | v :: vs, o, w => only_trans (set_only o v) (upd_setCells vs (o + 1) _)
theorem there_of {w : World} {b o n : Nat} {cs : Array Value} {T : TypeId} (hb : Blk w b cs T) (h : o + n ≤ cs.size) : w.there b o n := fun j hj => by
  refine ⟨?_, hb.frozen _⟩
  rw [hb.cell (o + j), Array.getElem?_eq_getElem (by omega)]
  rfl
def setMany : Array Value → Nat → List Value → Array Value
  | cs, _, [] => cs
  | cs, o, v :: vs => setMany (cs.setIfInBounds o v) (o + 1) vs
theorem blk_setCells {b : Nat} {T : TypeId} : ∀ (vs : List Value) (o : Nat) (w : World) (cs : Array Value), Blk w b cs T → Blk (w.setCells b o vs) b (setMany cs o vs) T
  | [], _, _, _, h => h
  | v :: vs, o, w, cs, h => blk_setCells vs (o + 1) _ _ (h.set o v)
/-- A block is made and written at once. -/
theorem new_store (w : World) (Z : Array Value) (T : TypeId) (C : List Value) :
    Upd NoF w ((w.alloc (.cells Z T)).setCells w.heap.size 0 C) ∧ Blk ((w.alloc (.cells Z T)).setCells w.heap.size 0 C) w.heap.size (setMany Z 0 C) T :=
  ⟨(Upd.alloc NoF w (.cells Z T)).trans (upd_setCells C 0 _) (fun i hi h => by have : i = w.heap.size := h; omega), blk_setCells C 0 _ _ (Blk.new w Z T)⟩
theorem size_setCells {b : Nat} : ∀ (vs : List Value) (o : Nat) (w : World), (w.setCells b o vs).heap.size = w.heap.size
  | [], _, _ => rfl
  | v :: vs, o, w => (size_setCells vs (o + 1) _).trans (World.size_setCell _ _ _)
end Go.Proofs.Ytbhcdbnbiocimaa
