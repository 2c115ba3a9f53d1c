/- A range over a function whose things are known: the iterator hands out xs in order ('SeqL'); the law of the statement ('wp_range'). -/
import Derived.Test.YtmfhbobjambgaaaWorld
set_option linter.unusedSimpArgs false
set_option linter.unusedVariables false
namespace Go.Proofs.Ytmfhbobjambgaaa
open Go.RowKit

/-- A step of book-keeping: rows of cells beside G's lie as they lay; so do all blocks below n beside G's. -/
structure Bk (n : Nat) (G : Nat → Prop) (W W' : World) : Prop where
  os : W'.os = W.os
  tape : W'.tape = W.tape
  output : W'.output = W.output
  size : W.heap.size ≤ W'.heap.size
  block : ∀ k, k < W.heap.size → ¬ G k → (k < n ∨ ¬ NoCells W k) → W'.heap[k]? = W.heap[k]?

theorem Bk.alloc (n : Nat) (G : Nat → Prop) (W : World) (o : Obj) : Bk n G W (W.alloc o) := ⟨rfl, rfl, rfl, by simp, fun k hk _ _ => Below.heap_alloc _ _ _ hk⟩
theorem Bk.trans {n : Nat} {G : Nat → Prop} {A B C : World} (h : Bk n G A B) (k : Bk n G B C) : Bk n G A C :=
  ⟨k.os.trans h.os, k.tape.trans h.tape, k.output.trans h.output, Nat.le_trans h.size k.size, fun i hi hG hn => by
    have h1 := h.block i hi hG hn
    refine (k.block i (Nat.lt_of_lt_of_le hi h.size) hG ?_).trans h1
    exact hn.imp id (fun hn hc => hn (fun o ho => hc o (h1 ▸ ho)))⟩
theorem Bk.putObj {n : Nat} {G : Nat → Prop} {W : World} {l : Nat} {o : Obj} (hl : W.heap[l]? = some o) (ho : dataO o = false) (hn : n ≤ l) (o' : Obj) : Bk n G W (W.putObj l o') :=
  ⟨rfl, rfl, rfl, by simp, fun k hk _ h => World.putObj_heap_other (fun e => by
    subst e
    rcases h with h | h
    · omega
    · exact h (fun o2 h2 => by rw [hl] at h2; cases h2; exact ho))⟩
theorem Bk.of_upd {n : Nat} {G : Nat → Prop} {W W' : World} (h : Upd G W W') : Bk n G W W' := ⟨h.os, h.tape, h.output, h.size, fun k hk hG _ => h.block k hk (.inl hG)⟩

theorem Blk.bk {n : Nat} {G : Nat → Prop} {W W' : World} {b : Nat} {cs : Array Value} {T : TypeId} (h : Blk W b cs T) (hb : Bk n G W W') (hG : ¬ G b) : Blk W' b cs T :=
  (hb.block b h.lt hG (.inr (fun hn => by have := hn _ h; cases this))).trans h
theorem Upd.bk {n : Nat} {F G : Nat → Prop} {w W W' : World} (h : Upd F w W) (hb : Bk n G W W') (hn : w.heap.size ≤ n) (hG : ∀ k, G k → w.heap.size ≤ k) : Upd F w W' :=
  ⟨hb.os.trans h.os, hb.tape.trans h.tape, hb.output.trans h.output, Nat.le_trans h.size hb.size, fun k hk hF =>
    (hb.block k (Nat.lt_of_lt_of_le hk h.size) (fun hg => by have := hG k hg; omega) (.inl (by omega))).trans (h.block k hk hF)⟩
theorem Row.bk {n : Nat} {G : Nat → Prop} {W W' : World} {e : TypeId} {c : Nat} {v : Value} {m : Nat} {xs : List Value} (h : Row W e c v m xs) (hb : Bk n G W W') (hG : ∀ k, v.ownBlock = some k → ¬ G k) : Row W' e c v m xs := by
  refine ⟨h.1, ?_⟩
  rcases h.2 with hn | ⟨g, cap, cur, rfl, hgg, rest⟩
  · exact .inl hn
  · exact .inr ⟨g, cap, cur, rfl, Blk.bk (T := e) hgg hb (hG g rfl), rest⟩

/-- An iterator that hands out xs, in order: G: the blocks that it may write itself; K: those that the rounds may. -/
def SeqL {α : Type} (P : Program) (g : Nat) (lb : Array Value) (encs : α → Array Value) (xs : List α) (G K : Nat → Prop) (w : World) : Prop :=
  ∀ (l : Nat) (J Jx : Nat → World → Prop) (W : World), Upd NoF w W → (∀ k A B, J k A → Upd G A B → J k B) → (∀ k A B, Jx k A → Upd G A B → Jx k B) →
    (∀ k x W1, J k W1 → xs[k]? = some x → YieldAt Fence.wide 8 P l (encs x) W1 fun e W' =>
      (e = .returned (.bool true) ∧ J (k + 1) W' ∧ Upd K W1 W') ∨ (e = .returned (.bool false) ∧ Jx k W')) →
    J 0 W → CallsIn Fence.wide 9 P g (#[.func (.yield l) #[] #[]] ++ lb) W fun e W' => (∃ v, e = .returned v) ∧ (J xs.length W' ∨ ∃ k, k < xs.length ∧ Jx k W')

/-- How the body of a round may be left. -/
def postL (K : Nat → Prop) (I : Nat → World → Prop) (Ix : Code → Nat → World → Prop) (k : Nat) (W : World) : Exit → Act → World → Prop
  | .normal, _, W' => Upd K W W' ∧ I (k + 1) W'
  | .ret, _, W' => Upd K W W' ∧ Ix .ret k W'
  | .exit id, _, W' => Upd K W W' ∧ Ix (.exit id) k W'
  | .goto t, _, W' => Upd K W W' ∧ Ix (.goto t) k W'
  | .panic _, _, _ => False
  | .outgrown, _, _ => False

theorem wp_range {α : Type} {P : Program} {g : Operand} {ps : Array Tmp} {assign body : Code} {Q : Exit → Act → World → Prop} {a : Act} {w : World}
    {gf : Nat} {lb : Array Value} (hg : a.eval g = .func (.func gf) #[] lb) (eg : ∀ args w, (callFunc gf args).run P w = .ok (.enter gf args) w)
    {encs : α → Array Value} {xs : List α} {G K : Nat → Prop} (hseq : SeqL P gf lb encs xs G K w) (hps : ∀ x, (encs x).size = ps.size) (hG : ∀ k, G k → k < w.heap.size) (hK : ∀ k, w.heap.size ≤ k → K k)
    (I : Nat → World → Prop) (Ix : Code → Nat → World → Prop) (hI : ∀ k W W', I k W → Bk w.heap.size G W W' → I k W') (hIx : ∀ c k W W', Ix c k W → Bk w.heap.size G W W' → Ix c k W') (h0 : I 0 w)
    (hround : ∀ (l k : Nat) (x : α), xs[k]? = some x → ∀ (W : World) (K' : Act → World → Prop), (∀ a' : Act, (∀ W', I k W' → body.wpIn (Fence.wide.inRound l) 8 P (postL K I Ix k W') a' W') → K' a' W) →
      assign.wpIn (Fence.wide.inRound l) 8 P (Exit.then K' (fun _ _ _ => False)) { tmps := (ps.zip (encs x)).foldl (fun t (p, v) => t.setIfInBounds p v) a.tmps, defers := [] } W)
    (hdone : ∀ (D : Nat) (W : World), w.heap.size ≤ D → I xs.length W → W.heap[D]? = some (.deferred (some [])) → Q .normal { a with defers := { target := .collected D, args := #[] } :: a.defers } W)
    (hstop : ∀ (D : Nat) (c : Code) (k : Nat) (W : World), w.heap.size ≤ D → k < xs.length → Ix c k W → W.heap[D]? = some (.deferred (some [])) → c.wp P Q { a with defers := { target := .collected D, args := #[] } :: a.defers } W) :
    (Code.rangeFunc g ps assign body).wp P Q a w := by
  refine (wpIn_wide (n := 10)).1 ?_
  refine wpIn_rangeFunc ?_
  intro fn hfn
  obtain ⟨rec, hrec⟩ : ∃ rec : LoopState → Option Code → Loop, rec = fun st pe => { state := st, pending := pe, fn, tmps := a.tmps, params := ps, assign, body, defers := w.heap.size } := ⟨_, rfl⟩
  obtain ⟨W1, hW1⟩ : ∃ W1, (w.alloc (.deferred (some []))).alloc (.loop (rec .ready none)) = W1 := ⟨_, rfl⟩
  have hL1 : W1.heap[w.heap.size + 1]? = some (.loop (rec .ready none)) := by
    rw [← hW1]; have := World.alloc_heap_new (w.alloc (.deferred (some []))) (.loop (rec .ready none)); rwa [World.size_alloc] at this
  have hK1 : W1.heap[w.heap.size]? = some (.deferred (some [])) := by
    rw [← hW1]; exact (Below.heap_alloc _ _ _ (by simp)).trans (World.alloc_heap_new w _)
  have hI1 : I 0 W1 := by rw [← hW1]; exact hI 0 _ _ (hI 0 _ _ h0 (Bk.alloc _ _ _ _)) (Bk.alloc _ _ _ _)
  have hb1 : Upd NoF w W1 := by
    rw [← hW1]; exact (Upd.alloc NoF w _).trans (Upd.alloc NoF _ _) (fun _ _ h => h)
  refine ⟨w.heap.size + 1, [{ target := .collected w.heap.size, args := #[] }], W1, { target := .fn (.func gf) lb, args := #[.func (.yield (w.heap.size + 1)) #[] #[]] }, W1, gf,
    #[.func (.yield (w.heap.size + 1)) #[] #[]] ++ lb, W1, ?_, ?_, ?_, ?_, fun _ => by omega, ?_⟩
  · rw [← hW1, hrec]; exact run_enterLoop_outer _ _ _ _ _
  · simp only [resolve, hg]
    simp [go_sem]
  · intro f' _; trivial
  · simp [invoke, go_sem, eg]
  · have keep : ∀ {A B : World} {k : Nat} {o : Obj}, Upd G A B → w.heap.size ≤ k → A.heap[k]? = some o → B.heap[k]? = some o :=
      fun hu hk ho => hu.heap ho (fun hg => by have := hG _ hg; omega)
    refine (hseq (w.heap.size + 1)
      (fun k W => I k W ∧ W.heap[w.heap.size + 1]? = some (.loop (rec .ready none)) ∧ W.heap[w.heap.size]? = some (.deferred (some [])))
      (fun k W => ∃ c, Ix c k W ∧ W.heap[w.heap.size + 1]? = some (.loop (rec .done (some c))) ∧ W.heap[w.heap.size]? = some (.deferred (some [])))
      W1 hb1
      (fun k A B hs hu => ⟨hI k A B hs.1 (Bk.of_upd hu), keep hu (by omega) hs.2.1, keep hu (Nat.le_refl _) hs.2.2⟩)
      (fun k A B hs hu => by
        obtain ⟨c, hc, hl, hk⟩ := hs
        exact ⟨c, hIx c k A B hc (Bk.of_upd hu), keep hu (by omega) hl, keep hu (Nat.le_refl _) hk⟩)
      ?_ ⟨hI1, hL1, hK1⟩).mono ?_
    · rintro k x W ⟨hi, hl, hk⟩ hx
      have hlt : w.heap.size + 1 < W.heap.size := (Array.getElem?_eq_some_iff.1 hl).1
      have hy := run_yield (P := P) (args := encs x) hl (by rw [hrec]; exact hps x)
      rw [hrec] at hy
      refine ⟨fn, _, assign, body, hy, roundIn_of_wpIn hfn (hround _ k x hx W _ (fun a' hbody => ⟨_, run_beginRound hl (by rw [hrec]), ?_⟩))⟩
      have hl2 : (W.putObj (w.heap.size + 1) (.loop { rec .ready none with state := .busy })).heap[w.heap.size + 1]? = some (.loop { rec .ready none with state := .busy }) := World.putObj_heap_same hlt
      have hk2 : (W.putObj (w.heap.size + 1) (.loop { rec .ready none with state := .busy })).heap[w.heap.size]? = some (.deferred (some [])) := (World.putObj_heap_other (by omega)).trans hk
      have bk2 : Bk w.heap.size G W (W.putObj (w.heap.size + 1) (.loop { rec .ready none with state := .busy })) := Bk.putObj hl rfl (by omega) _
      have up2 : ∀ (A : World) (o : Obj), w.heap.size + 1 < A.heap.size → Upd K A (A.putObj (w.heap.size + 1) o) ∨ True := fun _ _ _ => .inr trivial
      refine wpIn_mono (hbody _ (hI k _ _ hi bk2)) ?_
      have fin : ∀ (jump : Option Code) (W3 : World), KeepsRec (W.putObj (w.heap.size + 1) (.loop { rec .ready none with state := .busy })) W3 →
          (Instr.endRound (w.heap.size + 1) jump).run P W3 = .ok (.bool jump.isNone) (W3.putObj (w.heap.size + 1) (.loop (rec (if jump.isNone then .ready else .done) jump))) ∧
          W3.heap[w.heap.size + 1]? = some (.loop { rec .ready none with state := .busy }) ∧
          (W3.putObj (w.heap.size + 1) (.loop (rec (if jump.isNone then .ready else .done) jump))).heap[w.heap.size + 1]? = some (.loop (rec (if jump.isNone then .ready else .done) jump)) ∧
          (W3.putObj (w.heap.size + 1) (.loop (rec (if jump.isNone then .ready else .done) jump))).heap[w.heap.size]? = some (.deferred (some [])) := fun jump W3 hk3 => by
        have hl3 := hk3.same _ _ hl2 rfl
        have := run_endRound (P := P) jump hl3
        rw [hrec] at this ⊢
        exact ⟨this, by rw [hrec] at hl3; exact hl3, World.putObj_heap_same (Array.getElem?_eq_some_iff.1 hl3).1, (World.putObj_heap_other (by omega)).trans (hk3.same _ _ hk2 rfl)⟩
      rintro e a3 W3 hp
      cases e with
      | normal =>
        obtain ⟨hk3, hi3⟩ := hp
        obtain ⟨hr, hl3, hl4, hk4⟩ := fin none W3 hk3.others
        refine ⟨_, _, hr, .inl ⟨rfl, ⟨hI _ _ _ hi3 (Bk.putObj hl3 rfl (by omega) _), hl4, hk4⟩, ?_⟩⟩
        -- what the iterator reads was kept: the record alone was turned beside
        refine ⟨hk3.os, hk3.tape, hk3.output, ?_, fun i hi hF => ?_⟩
        · have h3 := hk3.size
          rw [World.putObj_size] at h3
          rw [World.putObj_size]
          exact h3
        · by_cases hil : i = w.heap.size + 1
          · subst hil
            have e1 := World.putObj_heap_same (w := W3) (o := .loop (rec .ready none)) (Array.getElem?_eq_some_iff.1 hl3).1
            exact e1.trans hl.symm
          · refine (World.putObj_heap_other hil).trans ?_
            have h3 := hk3.block i (by rw [World.putObj_size]; exact hi) (hF.imp id (fun hn o ho => hn o (by rw [World.putObj_heap_other hil] at ho; exact ho)))
            rw [World.putObj_heap_other hil] at h3
            exact h3
      | ret =>
        obtain ⟨hk3, hi3⟩ := hp
        obtain ⟨hr, hl3, hl4, hk4⟩ := fin (some .ret) W3 hk3.others
        exact ⟨_, _, hr, .inr ⟨rfl, .ret, hIx _ _ _ _ hi3 (Bk.putObj hl3 rfl (by omega) _), hl4, hk4⟩⟩
      | exit id =>
        obtain ⟨hk3, hi3⟩ := hp
        obtain ⟨hr, hl3, hl4, hk4⟩ := fin (some (.exit id)) W3 hk3.others
        exact ⟨_, _, hr, .inr ⟨rfl, .exit id, hIx _ _ _ _ hi3 (Bk.putObj hl3 rfl (by omega) _), hl4, hk4⟩⟩
      | goto t =>
        obtain ⟨hk3, hi3⟩ := hp
        obtain ⟨hr, hl3, hl4, hk4⟩ := fin (some (.goto t)) W3 hk3.others
        exact ⟨_, _, hr, .inr ⟨rfl, .goto t, hIx _ _ _ _ hi3 (Bk.putObj hl3 rfl (by omega) _), hl4, hk4⟩⟩
      | panic ch => exact hp.elim
      | outgrown => exact hp.elim
    · rintro e W2 ⟨⟨v, rfl⟩, (⟨hi, hl, hk⟩ | ⟨k, hkl, c, hi, hl, hk⟩)⟩
      · exact ⟨none, _, by have := run_endLoop (P := P) hl (by rw [hrec]; simp); rw [hrec] at this; exact this, hdone _ _ (Nat.le_refl _) (hI _ _ _ hi (Bk.putObj hl rfl (by omega) _)) ((World.putObj_heap_other (by omega)).trans hk)⟩
      · exact ⟨some c, _, by have := run_endLoop (P := P) hl (by rw [hrec]; simp); rw [hrec] at this; exact this, wpIn_wide.2 (hstop _ c k _ (Nat.le_refl _) hkl (hIx _ _ _ _ hi (Bk.putObj hl rfl (by omega) _)) ((World.putObj_heap_other (by omega)).trans hk))⟩

/-- A function with a range over a function, opened in the plain form. -/
theorem calls_of_wp_marks {P : Program} {f : FuncId} {fn : Func} {c : Code} {args : Array Value} {w : World} {R : Ending → World → Prop} (hf : P.funcs[f]? = some fn) (hb : fn.body = some c)
    (h : c.wp P (bodyPostM Fence.wide 10 P fn R) { tmps := args ++ Array.replicate (fn.ntmps - args.size) undef, defers := [] } w) : Calls P f args w R :=
  callsIn_wide.1 (callsIn_of_wp_marks (n := 10) hf hb trivial (wpIn_wide.2 h) rfl)

theorem postM_ret0 {P : Program} {fn : Func} {R : Ending → World → Prop} {tmps : Array Value} {w : World} {v : Value} (hr : (results fn tmps).run P w = .ok v w) (hR : R (.returned v) w) :
    bodyPostM Fence.wide 10 P fn R .ret { tmps := tmps, defers := [] } w := ⟨v, hr, hR⟩

theorem postM_ret1 {P : Program} {fn : Func} {R : Ending → World → Prop} {tmps : Array Value} {w : World} {v : Value} {D : Nat} (hK : w.heap[D]? = some (.deferred (some [])))
    (hr : (results fn tmps).run P (w.putObj D (.deferred none)) = .ok v (w.putObj D (.deferred none))) (hR : R (.returned v) (w.putObj D (.deferred none))) :
    bodyPostM Fence.wide 10 P fn R .ret { tmps := tmps, defers := [{ target := .collected D, args := #[] }] } w :=
  ⟨by simp, .inl ⟨_, _, rfl, run_takeDeferred hK, v, hr, hR⟩⟩

/-- append as an operation within a round, by what its run comes to. -/
theorem wpListIn_append_run {F : Fence} {n : Nat} {P : Program} {ops : Array Oper} {rest : List Oper} {o : Oper} {a : Act} {Q : Exit → Act → World → Prop} {w : World} (hgd : o.guard = none) (s x : Operand) (t : TypeId)
    (ho : o.op = .call { callee := .builtin .append, args := #[s, x], argTypes := #[t, t] }) {v vx v' : Value} {w' : World} (hs : a.eval s = v) (hx : a.eval x = vx)
    (hr : (Builtin.append_ #[t, t] o.type #[v, vx]).run P w = .ok v' w') (h : wpListIn F n P ops Q rest (a.put o.dst v') w') : wpListIn F n P ops Q (o :: rest) a w := by
  refine wpListIn_plain hgd fun K hK => ?_
  unfold Oper.wpIn
  refine ⟨by simp [Oper.about, ho, resolve, Target.leads, Sem.run_pure], ?_⟩
  rw [Oper.semAt_plain F _ _ (by rw [ho]; intro c hc'; cases hc')]
  simp [execOp, ho, resolve, invoke, builtin, hs, hx, hr, Result.andThen]
  exact hK _ _ h
end Go.Proofs.Ytmfhbobjambgaaa
