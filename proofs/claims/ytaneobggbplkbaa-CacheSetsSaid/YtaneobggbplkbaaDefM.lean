/- Ranges over functions within a loop: each leaves a mark among the deferred calls; what becomes of the marks. -/
import Derived.Test.YtaneobggbplkbaaRangeA
import Derived.Test.YtaneobggbplkbaaSep
set_option linter.unusedSimpArgs false
set_option linter.unusedVariables false
namespace Go.Proofs.Ytaneobggbplkbaa
open Go.RowKit

abbrev markD (D : Nat) : Deferred := { target := .collected D, args := #[] }
/-- Marks, each with a block of its own from n on. -/
def MarksAt (n : Nat) (W : World) (Ds : List Nat) : Prop := Ds.Nodup ∧ ∀ D ∈ Ds, n ≤ D ∧ W.heap[D]? = some (.deferred (some []))
theorem MarksAt.nil (n : Nat) (W : World) : MarksAt n W [] := ⟨List.nodup_nil, fun _ h => by cases h⟩
theorem MarksAt.upd {n : Nat} {W W' : World} {Ds : List Nat} {F : Nat → Prop} (h : MarksAt n W Ds) (hu : Upd F W W') : MarksAt n W' Ds :=
  ⟨h.1, fun D hD => ⟨(h.2 D hD).1, hu.others.same D _ (h.2 D hD).2 rfl⟩⟩
theorem MarksAt.rec {n : Nat} {W W' : World} {Ds : List Nat} (h : MarksAt n W Ds) (hu : KeepsRec W W') : MarksAt n W' Ds :=
  ⟨h.1, fun D hD => ⟨(h.2 D hD).1, hu.same D _ (h.2 D hD).2 rfl⟩⟩
theorem MarksAt.lt {n : Nat} {W : World} {Ds : List Nat} (h : MarksAt n W Ds) {D : Nat} (hD : D ∈ Ds) : D < W.heap.size := (Array.getElem?_eq_some_iff.1 (h.2 D hD).2).1
theorem MarksAt.bk {n m : Nat} {W W' : World} {Ds : List Nat} {G : Nat → Prop} (h : MarksAt n W Ds) (hb : Bk m G W W') (hm : ∀ D ∈ Ds, D < m ∧ ¬ G D) : MarksAt n W' Ds :=
  ⟨h.1, fun D hD => ⟨(h.2 D hD).1, (hb.block D (h.lt hD) (hm D hD).2 (.inl (hm D hD).1)).trans (h.2 D hD).2⟩⟩
theorem MarksAt.cons {n : Nat} {W : World} {Ds : List Nat} (h : MarksAt n W Ds) {D : Nat} (hn : n ≤ D) (hD : W.heap[D]? = some (.deferred (some []))) (hne : ∀ E ∈ Ds, E < D) : MarksAt n W (D :: Ds) :=
  ⟨List.nodup_cons.2 ⟨fun h => by have := hne D h; omega, h.1⟩, fun E hE => by
    rcases List.mem_cons.1 hE with rfl | hE
    · exact ⟨hn, hD⟩
    · exact h.2 E hE⟩
/-- How a function with marks is left. -/
theorem postM_marks {P : Program} {fn : Func} {R : Ending → World → Prop} {tmps : Array Value} {n : Nat} : ∀ {Ds : List Nat} {w : World}, MarksAt n w Ds →
    (∀ w', Bk n NoF w w' → ∃ v, (results fn tmps).run P w' = .ok v w' ∧ R (.returned v) w') →
    bodyPostM Fence.wide 10 P fn R .ret { tmps := tmps, defers := Ds.map markD } w
  | [], w, _, hf => hf w ⟨rfl, rfl, rfl, Nat.le_refl _, fun _ _ _ _ => rfl⟩
  | D :: Ds, w, h, hf => by
    obtain ⟨hn, hD⟩ := h.2 D (by simp)
    refine ⟨by simp, .inl ⟨_, _, rfl, run_takeDeferred hD, ?_⟩⟩
    have hb : Bk n NoF w (w.putObj D (.deferred none)) := Bk.putObj hD rfl hn _
    have h' : MarksAt n (w.putObj D (.deferred none)) Ds := ⟨(List.nodup_cons.1 h.1).2, fun E hE => ⟨(h.2 E (by simp [hE])).1, by
      have hne : E ≠ D := fun e => (List.nodup_cons.1 h.1).1 (e ▸ hE)
      exact (World.putObj_heap_other hne).trans (h.2 E (by simp [hE])).2⟩⟩
    exact postM_marks h' (fun w' hb' => hf w' (hb.trans hb'))
end Go.Proofs.Ytaneobggbplkbaa
