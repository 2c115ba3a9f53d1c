/- The law of a range over a function, where a round's variables may be made anew in memory. -/
import Derived.Test.YtjgeflbhmhmjdaaGreatGen
set_option linter.unusedSimpArgs false
set_option linter.unusedVariables false
namespace Go.Proofs.YtjgeflbhmhmjdaaGreat
open Go.RowKit

theorem wp_rangeC {α : Type} {P : Program} {g : Operand} {ps : Array Tmp} {assign body : Code} {Q : Exit → Act → World → Prop} {a : Act} {w : World}
    {gf : Nat} {lb : Array Value} (hg : a.eval g = .func (.func gf) #[] lb) (eg : ∀ args w, (callFunc gf args).run P w = .ok (.enter gf args) w)
    {encs : α → Array Value} {xs : List α} {G K : Nat → Prop} (hseq : SeqL P gf lb encs xs G K w) (hps : ∀ x, (encs x).size = ps.size) (hG : ∀ k, G k → k < w.heap.size) (hK : ∀ k, w.heap.size ≤ k → K k)
    (I : Nat → World → Prop) (Ix : Code → Nat → World → Prop) (hI : ∀ k W W', I k W → Bk w.heap.size G W W' → I k W') (hIx : ∀ c k W W', Ix c k W → Bk w.heap.size G W W' → Ix c k W') (h0 : I 0 w)
    (hround : ∀ (l k : Nat) (x : α), xs[k]? = some x → ∀ (W : World) (K' : Act → World → Prop), I k W → (∀ (a' : Act) (W1 : World), Upd NoF W W1 → (∀ W', I k W' → Bk w.heap.size G W1 W' → body.wpIn (Fence.wide.inRound l) 8 P (postL K I Ix k W') a' W') → K' a' W1) →
      assign.wpIn (Fence.wide.inRound l) 8 P (Exit.then K' (fun _ _ _ => False)) { tmps := (ps.zip (encs x)).foldl (fun t (p, v) => t.setIfInBounds p v) a.tmps, defers := [] } W)
    (hdone : ∀ (D : Nat) (W : World), w.heap.size ≤ D → I xs.length W → W.heap[D]? = some (.deferred (some [])) → Q .normal { a with defers := { target := .collected D, args := #[] } :: a.defers } W)
    (hstop : ∀ (D : Nat) (c : Code) (k : Nat) (W : World), w.heap.size ≤ D → k < xs.length → Ix c k W → W.heap[D]? = some (.deferred (some [])) → c.wp P Q { a with defers := { target := .collected D, args := #[] } :: a.defers } W) :
    (Code.rangeFunc g ps assign body).wp P Q a w := by
  refine (wpIn_wide (n := 10)).1 ?_
  refine wpIn_rangeFunc ?_
  intro fn hfn
  obtain ⟨rec, hrec⟩ : ∃ rec : LoopState → Option Code → Loop, rec = fun st pe => { state := st, pending := pe, fn, tmps := a.tmps, params := ps, assign, body, defers := w.heap.size } := ⟨_, rfl⟩
  obtain ⟨W1, hW1⟩ : ∃ W1, (w.alloc (.deferred (some []))).alloc (.loop (rec .ready none)) = W1 := ⟨_, rfl⟩
  have hL1 : W1.heap[w.heap.size + 1]? = some (.loop (rec .ready none)) := by
    rw [← hW1]; have := World.alloc_heap_new (w.alloc (.deferred (some []))) (.loop (rec .ready none)); rwa [World.size_alloc] at this
  have hK1 : W1.heap[w.heap.size]? = some (.deferred (some [])) := by
    rw [← hW1]; exact (Below.heap_alloc _ _ _ (by simp)).trans (World.alloc_heap_new w _)
  have hI1 : I 0 W1 := by rw [← hW1]; exact hI 0 _ _ (hI 0 _ _ h0 (Bk.alloc _ _ _ _)) (Bk.alloc _ _ _ _)
  have hb1 : Upd NoF w W1 := by
    rw [← hW1]; exact (Upd.alloc NoF w _).trans (Upd.alloc NoF _ _) (fun _ _ h => h)
  refine ⟨w.heap.size + 1, [{ target := .collected w.heap.size, args := #[] }], W1, { target := .fn (.func gf) lb, args := #[.func (.yield (w.heap.size + 1)) #[] #[]] }, W1, gf,
    #[.func (.yield (w.heap.size + 1)) #[] #[]] ++ lb, W1, ?_, ?_, ?_, ?_, fun _ => by omega, ?_⟩
  · rw [← hW1, hrec]; exact run_enterLoop_outer _ _ _ _ _
  · simp only [resolve, hg]
    simp [go_sem]
  · intro f' _; trivial
  · simp [invoke, go_sem, eg]
  · have keep : ∀ {A B : World} {k : Nat} {o : Obj}, Upd G A B → w.heap.size ≤ k → A.heap[k]? = some o → B.heap[k]? = some o :=
      fun hu hk ho => hu.heap ho (fun hg => by have := hG _ hg; omega)
    refine (hseq (w.heap.size + 1)
      (fun k W => I k W ∧ W.heap[w.heap.size + 1]? = some (.loop (rec .ready none)) ∧ W.heap[w.heap.size]? = some (.deferred (some [])))
      (fun k W => ∃ c, Ix c k W ∧ W.heap[w.heap.size + 1]? = some (.loop (rec .done (some c))) ∧ W.heap[w.heap.size]? = some (.deferred (some [])))
      W1 hb1
      (fun k A B hs hu => ⟨hI k A B hs.1 (Bk.of_upd hu), keep hu (by omega) hs.2.1, keep hu (Nat.le_refl _) hs.2.2⟩)
      (fun k A B hs hu => by
        obtain ⟨c, hc, hl, hk⟩ := hs
        exact ⟨c, hIx c k A B hc (Bk.of_upd hu), keep hu (by omega) hl, keep hu (Nat.le_refl _) hk⟩)
      ?_ ⟨hI1, hL1, hK1⟩).mono ?_
    · rintro k x W ⟨hi, hl, hk⟩ hx
      have hlt : w.heap.size + 1 < W.heap.size := (Array.getElem?_eq_some_iff.1 hl).1
      have hy := run_yield (P := P) (args := encs x) hl (by rw [hrec]; exact hps x)
      rw [hrec] at hy
      refine ⟨fn, _, assign, body, hy, roundIn_of_wpIn hfn (hround _ k x hx W _ hi (fun a' V hV hbody => ?_))⟩
      have hlV : V.heap[w.heap.size + 1]? = some (.loop (rec .ready none)) := hV.heap hl (fun h => h)
      have hkV : V.heap[w.heap.size]? = some (.deferred (some [])) := hV.heap hk (fun h => h)
      have hltV : w.heap.size + 1 < V.heap.size := (Array.getElem?_eq_some_iff.1 hlV).1
      refine ⟨_, run_beginRound hlV (by rw [hrec]), ?_⟩
      have hl2 : (V.putObj (w.heap.size + 1) (.loop { rec .ready none with state := .busy })).heap[w.heap.size + 1]? = some (.loop { rec .ready none with state := .busy }) := World.putObj_heap_same hltV
      have hk2 : (V.putObj (w.heap.size + 1) (.loop { rec .ready none with state := .busy })).heap[w.heap.size]? = some (.deferred (some [])) := (World.putObj_heap_other (by omega)).trans hkV
      have bk2 : Bk w.heap.size G V (V.putObj (w.heap.size + 1) (.loop { rec .ready none with state := .busy })) := Bk.putObj hlV rfl (by omega) _
      have bk0 : Bk w.heap.size G W V := Bk.of_upd (hV.mono (fun _ _ h => h.elim))
      refine wpIn_mono (hbody _ (hI k _ _ hi (bk0.trans bk2)) bk2) ?_
      have fin : ∀ (jump : Option Code) (W3 : World), KeepsRec (V.putObj (w.heap.size + 1) (.loop { rec .ready none with state := .busy })) W3 →
          (Instr.endRound (w.heap.size + 1) jump).run P W3 = .ok (.bool jump.isNone) (W3.putObj (w.heap.size + 1) (.loop (rec (if jump.isNone then .ready else .done) jump))) ∧
          W3.heap[w.heap.size + 1]? = some (.loop { rec .ready none with state := .busy }) ∧
          (W3.putObj (w.heap.size + 1) (.loop (rec (if jump.isNone then .ready else .done) jump))).heap[w.heap.size + 1]? = some (.loop (rec (if jump.isNone then .ready else .done) jump)) ∧
          (W3.putObj (w.heap.size + 1) (.loop (rec (if jump.isNone then .ready else .done) jump))).heap[w.heap.size]? = some (.deferred (some [])) := fun jump W3 hk3 => by
        have hl3 := hk3.same _ _ hl2 rfl
        have := run_endRound (P := P) jump hl3
        rw [hrec] at this ⊢
        exact ⟨this, by rw [hrec] at hl3; exact hl3, World.putObj_heap_same (Array.getElem?_eq_some_iff.1 hl3).1, (World.putObj_heap_other (by omega)).trans (hk3.same _ _ hk2 rfl)⟩
      rintro e a3 W3 hp
      cases e with
      | normal =>
        obtain ⟨hk3, hi3⟩ := hp
        obtain ⟨hr, hl3, hl4, hk4⟩ := fin none W3 hk3.others
        refine ⟨_, _, hr, .inl ⟨rfl, ⟨hI _ _ _ hi3 (Bk.putObj hl3 rfl (by omega) _), hl4, hk4⟩, ?_⟩⟩
        -- what the iterator reads was kept: the record alone was turned beside
        refine Upd.trans (F := K) (G := K) (hV.mono (fun _ _ h => h.elim)) (b := V) ⟨hk3.os, hk3.tape, hk3.output, ?_, fun i hi hF => ?_⟩ (fun _ _ h => h)
        · have h3 := hk3.size
          rw [World.putObj_size] at h3
          rw [World.putObj_size]
          exact h3
        · by_cases hil : i = w.heap.size + 1
          · subst hil
            have e1 := World.putObj_heap_same (w := W3) (o := .loop (rec .ready none)) (Array.getElem?_eq_some_iff.1 hl3).1
            exact e1.trans hlV.symm
          · refine (World.putObj_heap_other hil).trans ?_
            have h3 := hk3.block i (by rw [World.putObj_size]; exact hi) (hF.imp id (fun hn o ho => hn o (by rw [World.putObj_heap_other hil] at ho; exact ho)))
            rw [World.putObj_heap_other hil] at h3
            exact h3
      | ret =>
        obtain ⟨hk3, hi3⟩ := hp
        obtain ⟨hr, hl3, hl4, hk4⟩ := fin (some .ret) W3 hk3.others
        exact ⟨_, _, hr, .inr ⟨rfl, .ret, hIx _ _ _ _ hi3 (Bk.putObj hl3 rfl (by omega) _), hl4, hk4⟩⟩
      | exit id =>
        obtain ⟨hk3, hi3⟩ := hp
        obtain ⟨hr, hl3, hl4, hk4⟩ := fin (some (.exit id)) W3 hk3.others
        exact ⟨_, _, hr, .inr ⟨rfl, .exit id, hIx _ _ _ _ hi3 (Bk.putObj hl3 rfl (by omega) _), hl4, hk4⟩⟩
      | goto t =>
        obtain ⟨hk3, hi3⟩ := hp
        obtain ⟨hr, hl3, hl4, hk4⟩ := fin (some (.goto t)) W3 hk3.others
        exact ⟨_, _, hr, .inr ⟨rfl, .goto t, hIx _ _ _ _ hi3 (Bk.putObj hl3 rfl (by omega) _), hl4, hk4⟩⟩
      | panic ch => exact hp.elim
      | outgrown => exact hp.elim
    · rintro e W2 ⟨⟨v, rfl⟩, (⟨hi, hl, hk⟩ | ⟨k, hkl, c, hi, hl, hk⟩)⟩
      · exact ⟨none, _, by have := run_endLoop (P := P) hl (by rw [hrec]; simp); rw [hrec] at this; exact this, hdone _ _ (Nat.le_refl _) (hI _ _ _ hi (Bk.putObj hl rfl (by omega) _)) ((World.putObj_heap_other (by omega)).trans hk)⟩
      · exact ⟨some c, _, by have := run_endLoop (P := P) hl (by rw [hrec]; simp); rw [hrec] at this; exact this, wpIn_wide.2 (hstop _ c k _ (Nat.le_refl _) hkl (hIx _ _ _ _ hi (Bk.putObj hl rfl (by omega) _)) ((World.putObj_heap_other (by omega)).trans hk))⟩

theorem wp_rangeA {α : Type} {P : Program} {g : Operand} {ps : Array Tmp} {assign body : Code} {Q : Exit → Act → World → Prop} {a : Act} {w : World}
    {gf : Nat} {lb : Array Value} (hg : a.eval g = .func (.func gf) #[] lb) (eg : ∀ args w, (callFunc gf args).run P w = .ok (.enter gf args) w)
    {encs : α → Array Value} {xs : List α} {G K : Nat → Prop} (hseq : SeqL P gf lb encs xs G K w) (hps : ∀ x, (encs x).size = ps.size) (hG : ∀ k, G k → k < w.heap.size) (hK : ∀ k, w.heap.size ≤ k → K k)
    (I : Nat → World → Prop) (Ix : Code → Nat → World → Prop) (hI : ∀ k W W', I k W → Bk w.heap.size G W W' → I k W') (hIx : ∀ c k W W', Ix c k W → Bk w.heap.size G W W' → Ix c k W') (h0 : I 0 w)
    (hround : ∀ (l k : Nat) (x : α), xs[k]? = some x → ∀ (W : World) (K' : Act → World → Prop), (∀ (a' : Act) (W1 : World), Upd NoF W W1 → (∀ W', I k W' → Bk w.heap.size G W1 W' → body.wpIn (Fence.wide.inRound l) 8 P (postL K I Ix k W') a' W') → K' a' W1) →
      assign.wpIn (Fence.wide.inRound l) 8 P (Exit.then K' (fun _ _ _ => False)) { tmps := (ps.zip (encs x)).foldl (fun t (p, v) => t.setIfInBounds p v) a.tmps, defers := [] } W)
    (hdone : ∀ (D : Nat) (W : World), w.heap.size ≤ D → I xs.length W → W.heap[D]? = some (.deferred (some [])) → Q .normal { a with defers := { target := .collected D, args := #[] } :: a.defers } W)
    (hstop : ∀ (D : Nat) (c : Code) (k : Nat) (W : World), w.heap.size ≤ D → k < xs.length → Ix c k W → W.heap[D]? = some (.deferred (some [])) → c.wp P Q { a with defers := { target := .collected D, args := #[] } :: a.defers } W) :
    (Code.rangeFunc g ps assign body).wp P Q a w :=
  wp_rangeC hg eg hseq hps hG hK I Ix hI hIx h0 (fun l k x hx W K' _ h => hround l k x hx W K' h) hdone hstop

end Go.Proofs.YtjgeflbhmhmjdaaGreat
