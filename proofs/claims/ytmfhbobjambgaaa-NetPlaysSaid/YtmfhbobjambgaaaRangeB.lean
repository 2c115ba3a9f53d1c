/- An iterator that keeps variables of its own in memory (SeqB), and the law of a range over it. -/
import Derived.Test.YtmfhbobjambgaaaRange
import Derived.RangeFuncWrites
set_option linter.unusedSimpArgs false
set_option linter.unusedVariables false
namespace Go.Proofs.Ytmfhbobjambgaaa
open Go.RowKit

/-- What lies kept below n lies kept below less. -/
theorem Bk.anti {m n : Nat} {G : Nat → Prop} {W W' : World} (h : Bk n G W W') (hm : m ≤ n) : Bk m G W W' :=
  ⟨h.os, h.tape, h.output, h.size, fun k hk hG hc => h.block k hk hG (hc.imp (fun h => Nat.lt_of_lt_of_le h hm) id)⟩

/-- From B on what is neither cells nor a map lies as it lay. -/
structure KeepsRF (B : Nat) (W W' : World) : Prop where
  size : W.heap.size ≤ W'.heap.size
  same : ∀ (k : Nat) (o : Go.Obj), B ≤ k → W.heap[k]? = some o → dataO o = false → W'.heap[k]? = some o
theorem KeepsRec.from {W W' : World} (h : KeepsRec W W') (B : Nat) : KeepsRF B W W' := ⟨h.size, fun k o _ hk ho => h.same k o hk ho⟩
theorem KeepsRF.trans {B : Nat} {X Y Z : World} (h : KeepsRF B X Y) (k : KeepsRF B Y Z) : KeepsRF B X Z := ⟨Nat.le_trans h.size k.size, fun i o hi ho hf => k.same i o hi (h.same i o hi ho hf) hf⟩

/-- How the body of a round may be left: where it leaves the loop, what is no cells from B on lies as it lay. -/
def postB (B : Nat) (K : Nat → Prop) (I : Nat → World → Prop) (Ix : Code → Nat → World → Prop) (k : Nat) (W : World) : Exit → Act → World → Prop
  | .normal, _, W' => Upd K W W' ∧ I (k + 1) W'
  | .ret, _, W' => KeepsRF B W W' ∧ Ix .ret k W'
  | .exit id, _, W' => KeepsRF B W W' ∧ Ix (.exit id) k W'
  | .goto t, _, W' => KeepsRF B W W' ∧ Ix (.goto t) k W'
  | .panic _, _, _ => False
  | .outgrown, _, _ => False

theorem keepsFrom_putObj {B l : Nat} (W : World) (o : Obj) (h : l < B) : KeepsRF B W (W.putObj l o) :=
  ⟨by simp, fun k o' hk ho _ => (World.putObj_heap_other (by omega)).trans ho⟩
theorem keepsFrom_anti {A B : Nat} {W W' : World} (h : KeepsRF A W W') (hB : A ≤ B) : KeepsRF B W W' := ⟨h.size, fun k o hk => h.same k o (Nat.le_trans hB hk)⟩

/-- A round of the loop around is one within a round of the loop inside. -/
theorem RoundIn.inner {n m : Nat} {P : Program} {l : Nat} {f : FuncId} {tmps : Array Value} {assign body : Code} {w : World} {R : Ending → World → Prop} (lp : Nat)
    (h : RoundIn Fence.wide n P l f tmps assign body w R) : RoundIn (Fence.wide.inRound lp) m P l f tmps assign body w R := ⟨h.1, fun c cs _ => h.2 c cs (room_wide _)⟩

/-- An iterator that hands out xs, in order, with variables of its own in memory: from n on lies what the rounds make; they may write K beside it. -/
def SeqB {α : Type} (P : Program) (g : Nat) (lb : Array Value) (encs : α → Array Value) (xs : List α) (K : Nat → Prop) (w : World) : Prop :=
  ∀ (l : Nat) (W : World), Upd NoF w W → ∃ n, W.heap.size ≤ n ∧ ∀ (J Jx : Nat → World → Prop), (∀ k A B, J k A → Bk W.heap.size NoF A B → J k B) → (∀ k A B, Jx k A → Bk W.heap.size NoF A B → Jx k B) →
    (∀ k x W1, J k W1 → n ≤ W1.heap.size → xs[k]? = some x → YieldAt Fence.wide 8 P l (encs x) W1 fun e W' =>
      (e = .returned (.bool true) ∧ J (k + 1) W' ∧ Upd (fun i => K i ∨ n ≤ i) W1 W') ∨ (e = .returned (.bool false) ∧ Jx k W' ∧ KeepsRF W.heap.size W1 W')) →
    J 0 W → CallsIn Fence.wide 9 P g (#[.func (.yield l) #[] #[]] ++ lb) W fun e W' => (∃ v, e = .returned v) ∧ (J xs.length W' ∨ ∃ k, k < xs.length ∧ Jx k W')

/-- An iterator without variables of its own is one. -/
theorem SeqL.b {α : Type} {P : Program} {g : Nat} {lb : Array Value} {encs : α → Array Value} {xs : List α} {K K0 : Nat → Prop} {w : World} (h : SeqL P g lb encs xs NoF K w) (h0 : ∀ k, K0 k → K k) (hK : ∀ k, w.heap.size ≤ k → K k) :
    SeqB P g lb encs xs K0 w := by
  intro l W hW
  refine ⟨W.heap.size, Nat.le_refl _, fun J Jx hJ hX hY hj => ?_⟩
  have hs := hW.size
  refine (h l (fun k X => J k X ∧ W.heap.size ≤ X.heap.size) Jx W hW (fun k A B ha hb => ⟨hJ k A B ha.1 (Bk.of_upd hb), Nat.le_trans ha.2 hb.size⟩) (fun k A B ha hb => hX k A B ha (Bk.of_upd hb)) (fun k x X hx hxs => ?_) ⟨hj, Nat.le_refl _⟩).mono ?_
  · refine (hY k x X hx.1 hx.2 hxs).mono ?_
    rintro e W' (⟨he, ha, hu⟩ | ⟨he, ha, _⟩)
    · exact .inl ⟨he, ⟨ha, Nat.le_trans hx.2 hu.size⟩, hu.mono (fun i _ hi => by rcases hi with hi | hi; exact h0 i hi; exact hK i (by omega))⟩
    · exact .inr ⟨he, ha⟩
  · rintro e W' ⟨he, hp⟩
    exact ⟨he, hp.imp And.left id⟩

/-- The law of a range over a function, where a round's variables may be made anew. -/
theorem wp_rangeB {α : Type} {P : Program} {g : Operand} {ps : Array Tmp} {assign body : Code} {Q : Exit → Act → World → Prop} {a : Act} {w : World}
    {gf : Nat} {lb : Array Value} (hg : a.eval g = .func (.func gf) #[] lb) (eg : ∀ args w, (callFunc gf args).run P w = .ok (.enter gf args) w)
    {encs : α → Array Value} {xs : List α} {K : Nat → Prop} (hseq : SeqB P gf lb encs xs K w) (hps : ∀ x, (encs x).size = ps.size)
    (I : Nat → Nat → World → Prop) (Ix : Nat → Code → Nat → World → Prop) (hI : ∀ n k W W', I n k W → Bk w.heap.size NoF W W' → I n k W') (hIx : ∀ n c k W W', Ix n c k W → Bk w.heap.size NoF W W' → Ix n c k W') (h0 : ∀ n, w.heap.size ≤ n → I n 0 w)
    (hround : ∀ (l n k : Nat) (x : α), w.heap.size ≤ n → xs[k]? = some x → ∀ (W : World) (K' : Act → World → Prop), (∀ (a' : Act) (W1 : World), Upd NoF W W1 → (∀ W', I n k W' → n ≤ W'.heap.size → Bk w.heap.size NoF W1 W' → body.wpIn (Fence.wide.inRound l) 8 P (postB w.heap.size (fun i => K i ∨ n ≤ i) (I n) (Ix n) k W') a' W') → K' a' W1) →
      assign.wpIn (Fence.wide.inRound l) 8 P (Exit.then K' (fun _ _ _ => False)) { tmps := (ps.zip (encs x)).foldl (fun t (p, v) => t.setIfInBounds p v) a.tmps, defers := [] } W)
    (hdone : ∀ (n D : Nat) (W : World), w.heap.size ≤ D → w.heap.size ≤ n → I n xs.length W → W.heap[D]? = some (.deferred (some [])) → Q .normal { a with defers := { target := .collected D, args := #[] } :: a.defers } W)
    (hstop : ∀ (n D : Nat) (c : Code) (k : Nat) (W : World), w.heap.size ≤ D → w.heap.size ≤ n → k < xs.length → Ix n c k W → W.heap[D]? = some (.deferred (some [])) → c.wp P Q { a with defers := { target := .collected D, args := #[] } :: a.defers } W) :
    (Code.rangeFunc g ps assign body).wp P Q a w := by
  refine (wpIn_wide (n := 10)).1 ?_
  refine wpIn_rangeFunc ?_
  intro fn hfn
  obtain ⟨rec, hrec⟩ : ∃ rec : LoopState → Option Code → Loop, rec = fun st pe => { state := st, pending := pe, fn, tmps := a.tmps, params := ps, assign, body, defers := w.heap.size } := ⟨_, rfl⟩
  obtain ⟨W1, hW1⟩ : ∃ W1, (w.alloc (.deferred (some []))).alloc (.loop (rec .ready none)) = W1 := ⟨_, rfl⟩
  have hL1 : W1.heap[w.heap.size + 1]? = some (.loop (rec .ready none)) := by
    rw [← hW1]; have := World.alloc_heap_new (w.alloc (.deferred (some []))) (.loop (rec .ready none)); rwa [World.size_alloc] at this
  have hK1 : W1.heap[w.heap.size]? = some (.deferred (some [])) := by
    rw [← hW1]; exact (Below.heap_alloc _ _ _ (by simp)).trans (World.alloc_heap_new w _)
  have hI1 : ∀ n, w.heap.size ≤ n → I n 0 W1 := fun n hn => by rw [← hW1]; exact hI n 0 _ _ (hI n 0 _ _ (h0 n hn) (Bk.alloc _ _ _ _)) (Bk.alloc _ _ _ _)
  have hsz1 : W1.heap.size = w.heap.size + 2 := by rw [← hW1]; simp
  obtain ⟨n, hn0, hseq⟩ := hseq (w.heap.size + 1) W1 (by rw [← hW1]; exact (Upd.alloc NoF w _).trans (Upd.alloc NoF _ _) (fun _ _ h => h))
  have hn : w.heap.size ≤ n := by omega
  have hb1 : Upd NoF w W1 := by
    rw [← hW1]; exact (Upd.alloc NoF w _).trans (Upd.alloc NoF _ _) (fun _ _ h => h)
  refine ⟨w.heap.size + 1, [{ target := .collected w.heap.size, args := #[] }], W1, { target := .fn (.func gf) lb, args := #[.func (.yield (w.heap.size + 1)) #[] #[]] }, W1, gf,
    #[.func (.yield (w.heap.size + 1)) #[] #[]] ++ lb, W1, ?_, ?_, ?_, ?_, fun _ => by omega, ?_⟩
  · rw [← hW1, hrec]; exact run_enterLoop_outer _ _ _ _ _
  · simp only [resolve, hg]
    simp [go_sem]
  · intro f' _; trivial
  · simp [invoke, go_sem, eg]
  · have keep : ∀ {A B : World} {k : Nat} {o : Obj}, Bk W1.heap.size NoF A B → k < W1.heap.size → A.heap[k]? = some o → B.heap[k]? = some o :=
      fun hu hk ho => (hu.block _ (Array.getElem?_eq_some_iff.1 ho).1 (fun h => h) (.inl hk)).trans ho
    refine (hseq
      (fun k W => I n k W ∧ W.heap[w.heap.size + 1]? = some (.loop (rec .ready none)) ∧ W.heap[w.heap.size]? = some (.deferred (some [])))
      (fun k W => ∃ c, Ix n c k W ∧ W.heap[w.heap.size + 1]? = some (.loop (rec .done (some c))) ∧ W.heap[w.heap.size]? = some (.deferred (some [])))
      (fun k A B hs hu => ⟨hI n k A B hs.1 (hu.anti (by omega)), keep hu (by omega) hs.2.1, keep hu (by omega) hs.2.2⟩)
      (fun k A B hs hu => by
        obtain ⟨c, hc, hl, hk⟩ := hs
        exact ⟨c, hIx n c k A B hc (hu.anti (by omega)), keep hu (by omega) hl, keep hu (by omega) hk⟩)
      ?_ ⟨hI1 n hn, hL1, hK1⟩).mono ?_
    · rintro k x W ⟨hi, hl, hk⟩ hnW hx
      have hlt : w.heap.size + 1 < W.heap.size := (Array.getElem?_eq_some_iff.1 hl).1
      have hy := run_yield (P := P) (args := encs x) hl (by rw [hrec]; exact hps x)
      rw [hrec] at hy
      refine ⟨fn, _, assign, body, hy, roundIn_of_wpIn hfn (hround _ n k x hn hx W _ (fun a' V hV hbody => ?_))⟩
      have hlV : V.heap[w.heap.size + 1]? = some (.loop (rec .ready none)) := hV.heap hl (fun h => h)
      have hkV : V.heap[w.heap.size]? = some (.deferred (some [])) := hV.heap hk (fun h => h)
      have hltV : w.heap.size + 1 < V.heap.size := (Array.getElem?_eq_some_iff.1 hlV).1
      refine ⟨_, run_beginRound hlV (by rw [hrec]), ?_⟩
      have hl2 : (V.putObj (w.heap.size + 1) (.loop { rec .ready none with state := .busy })).heap[w.heap.size + 1]? = some (.loop { rec .ready none with state := .busy }) := World.putObj_heap_same hltV
      have hk2 : (V.putObj (w.heap.size + 1) (.loop { rec .ready none with state := .busy })).heap[w.heap.size]? = some (.deferred (some [])) := (World.putObj_heap_other (by omega)).trans hkV
      have bk2 : Bk w.heap.size NoF V (V.putObj (w.heap.size + 1) (.loop { rec .ready none with state := .busy })) := Bk.putObj hlV rfl (by omega) _
      have bk0 : Bk w.heap.size NoF W V := Bk.of_upd (hV.mono (fun _ _ h => h.elim))
      refine wpIn_mono (hbody _ (hI n k _ _ hi (bk0.trans bk2)) (by rw [World.putObj_size]; exact Nat.le_trans hnW hV.size) bk2) ?_
      have fin : ∀ (jump : Option Code) (W3 : World), KeepsRF w.heap.size (V.putObj (w.heap.size + 1) (.loop { rec .ready none with state := .busy })) W3 →
          (Instr.endRound (w.heap.size + 1) jump).run P W3 = .ok (.bool jump.isNone) (W3.putObj (w.heap.size + 1) (.loop (rec (if jump.isNone then .ready else .done) jump))) ∧
          W3.heap[w.heap.size + 1]? = some (.loop { rec .ready none with state := .busy }) ∧
          (W3.putObj (w.heap.size + 1) (.loop (rec (if jump.isNone then .ready else .done) jump))).heap[w.heap.size + 1]? = some (.loop (rec (if jump.isNone then .ready else .done) jump)) ∧
          (W3.putObj (w.heap.size + 1) (.loop (rec (if jump.isNone then .ready else .done) jump))).heap[w.heap.size]? = some (.deferred (some [])) := fun jump W3 hk3 => by
        have hl3 := hk3.same _ _ (by omega) hl2 rfl
        have := run_endRound (P := P) jump hl3
        rw [hrec] at this ⊢
        exact ⟨this, by rw [hrec] at hl3; exact hl3, World.putObj_heap_same (Array.getElem?_eq_some_iff.1 hl3).1, (World.putObj_heap_other (by omega)).trans (hk3.same _ _ (Nat.le_refl _) hk2 rfl)⟩
      have kf : ∀ (W3 : World) (o : Obj), KeepsRF w.heap.size (V.putObj (w.heap.size + 1) (.loop { rec .ready none with state := .busy })) W3 → KeepsRF W1.heap.size W (W3.putObj (w.heap.size + 1) o) := fun W3 o hk3 =>
        ((((hV.others.from _).trans (keepsFrom_putObj V _ (by omega))).trans (keepsFrom_anti hk3 (by omega))).trans (keepsFrom_putObj W3 o (by omega)))
      rintro e a3 W3 hp
      cases e with
      | normal =>
        obtain ⟨hk3, hi3⟩ := hp
        obtain ⟨hr, hl3, hl4, hk4⟩ := fin none W3 (hk3.others.from _)
        refine ⟨_, _, hr, .inl ⟨rfl, ⟨hI _ _ _ _ hi3 (Bk.putObj hl3 rfl (by omega) _), hl4, hk4⟩, ?_⟩⟩
        -- what the iterator reads was kept: the record alone was turned beside
        refine Upd.trans (F := fun i => K i ∨ n ≤ i) (G := fun i => K i ∨ n ≤ i) (hV.mono (fun _ _ h => h.elim)) (b := V) ⟨hk3.os, hk3.tape, hk3.output, ?_, fun i hi hF => ?_⟩ (fun _ _ h => h)
        · have h3 := hk3.size
          rw [World.putObj_size] at h3
          rw [World.putObj_size]
          exact h3
        · by_cases hil : i = w.heap.size + 1
          · subst hil
            have e1 := World.putObj_heap_same (w := W3) (o := .loop (rec .ready none)) (Array.getElem?_eq_some_iff.1 hl3).1
            exact e1.trans hlV.symm
          · refine (World.putObj_heap_other hil).trans ?_
            have h3 := hk3.block i (by rw [World.putObj_size]; exact hi) (hF.imp id (fun hn o ho => hn o (by rw [World.putObj_heap_other hil] at ho; exact ho)))
            rw [World.putObj_heap_other hil] at h3
            exact h3
      | ret =>
        obtain ⟨hk3, hi3⟩ := hp
        obtain ⟨hr, hl3, hl4, hk4⟩ := fin (some .ret) W3 hk3
        exact ⟨_, _, hr, .inr ⟨rfl, ⟨.ret,  hIx _ _ _ _ _ hi3 (Bk.putObj hl3 rfl (by omega) _), hl4, hk4⟩, kf _ _ hk3⟩⟩
      | exit id =>
        obtain ⟨hk3, hi3⟩ := hp
        obtain ⟨hr, hl3, hl4, hk4⟩ := fin (some (.exit id)) W3 hk3
        exact ⟨_, _, hr, .inr ⟨rfl, ⟨.exit id,  hIx _ _ _ _ _ hi3 (Bk.putObj hl3 rfl (by omega) _), hl4, hk4⟩, kf _ _ hk3⟩⟩
      | goto t =>
        obtain ⟨hk3, hi3⟩ := hp
        obtain ⟨hr, hl3, hl4, hk4⟩ := fin (some (.goto t)) W3 hk3
        exact ⟨_, _, hr, .inr ⟨rfl, ⟨.goto t,  hIx _ _ _ _ _ hi3 (Bk.putObj hl3 rfl (by omega) _), hl4, hk4⟩, kf _ _ hk3⟩⟩
      | panic ch => exact hp.elim
      | outgrown => exact hp.elim
    · rintro e W2 ⟨⟨v, rfl⟩, (⟨hi, hl, hk⟩ | ⟨k, hkl, c, hi, hl, hk⟩)⟩
      · exact ⟨none, _, by have := run_endLoop (P := P) hl (by rw [hrec]; simp); rw [hrec] at this; exact this, hdone n _ _ (Nat.le_refl _) hn (hI _ _ _ _ hi (Bk.putObj hl rfl (by omega) _)) ((World.putObj_heap_other (by omega)).trans hk)⟩
      · exact ⟨some c, _, by have := run_endLoop (P := P) hl (by rw [hrec]; simp); rw [hrec] at this; exact this, wpIn_wide.2 (hstop n _ c k _ (Nat.le_refl _) hn hkl (hIx _ _ _ _ _ hi (Bk.putObj hl rfl (by omega) _)) ((World.putObj_heap_other (by omega)).trans hk))⟩

end Go.Proofs.Ytmfhbobjambgaaa
