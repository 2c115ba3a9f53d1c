/- Layer 13's statements: what they have alike: scripts that came in, marks behind a call. -/
import Derived.Test.YtkncijoclnjpoaaMarkWorks
import Derived.Test.YtkncijoclnjpoaaRowF
set_option linter.unusedSimpArgs false
set_option linter.unusedVariables false
namespace Go.Proofs.Ytkncijoclnjpoaa.MK
open Go.RowKit
open PL (Cfg CC CV May)
abbrev cfgO (b : Nat) (c : Cfg) : Obj := boxO b (CC c) 23
abbrev opO (b : Nat) (k x t : Int) : Obj := boxO b #[.int .i64 k, .int .i64 x, .int .u8 t] 31
theorem KIs.box {w0 W : World} {kb mb n : Nat} {data : Int} {f : Int → Bool × Bool} {L : List Obj} (h : KIs w0 W kb mb n data f L) (cs : Array Value) (T : TypeId) : KIs w0 (W.alloc (.cells cs T)) kb mb n data f (boxO W.heap.size cs T :: L) :=
  ⟨(h.sep.alloc cs T).swap, h.map.upd (Upd.alloc NoF W _), h.new⟩
theorem KIs.drop {w0 W : World} {kb mb n : Nat} {data : Int} {f : Int → Bool × Bool} {L : List Obj} {Φ : Obj} (h : KIs w0 W kb mb n data f (Φ :: L)) : KIs w0 W kb mb n data f L :=
  ⟨h.sep.drop 1 (by simp), h.map, h.new⟩
theorem putF_same {data : Int} {x : Int} (h : mayB data x = true) (f : Int → Bool × Bool) (r q : Bool) : putF data f x r q x = ((f x).1 || r, (f x).2 || q) := by
  unfold putF MM.put; rw [if_pos h, if_pos rfl]
theorem putF_other {data : Int} {x y : Int} (h : x ≠ y) (f : Int → Bool × Bool) (r q : Bool) : putF data f x r q y = f y := by
  unfold putF MM.put
  split
  · show (if y = x then _ else f y) = f y
    rw [if_neg (fun e : y = x => h e.symm)]
  · rfl
theorem putF_no {data : Int} {x : Int} (h : mayB data x = false) (f : Int → Bool × Bool) (r q : Bool) : putF data f x r q = f := by
  unfold putF; rw [h]; rfl
theorem putE_yes {data x : Int} (h : mayB data x = true) : putE data x = 0 := by unfold putE; rw [if_pos h]
theorem putE_no {data x : Int} (h : mayB data x = false) : putE data x = 2 := by unfold putE; rw [h]; rfl
/-- A script that came in. -/
theorem script_at {w : World} {a : Option Addr} {len cap : Nat} {V : Nat → Nat → Value} {K B T : Nat → Int} (h : IsRowF w a len cap 3 V) (hV : ∀ i, i < len → V i 0 = .int .i64 (K i) ∧ V i 1 = .int .i64 (B i) ∧ V i 2 = .int .u8 (T i)) :
    ∀ i, i < len → ∃ x g q, a = some x ∧ x.add (i * 3) = ⟨g, q, none⟩ ∧ g < w.heap.size ∧ w.cell? ⟨g, q, none⟩ = some (.int .i64 (K i)) ∧ w.cell? ⟨g, q + 1, none⟩ = some (.int .i64 (B i)) ∧ w.cell? ⟨g, q + 2, none⟩ = some (.int .u8 (T i)) := fun i hi => by
  obtain ⟨x, g, q, hx, hxa, hg, hc⟩ := h.at (by decide) hi
  obtain ⟨h0, h1, h2⟩ := hV i hi
  exact ⟨x, g, q, hx, hxa, hg, by rw [← h0]; exact hc 0 (by decide), by rw [← h1]; exact hc 1 (by decide), by rw [← h2]; exact hc 2 (by decide)⟩
end Go.Proofs.Ytkncijoclnjpoaa.MK
