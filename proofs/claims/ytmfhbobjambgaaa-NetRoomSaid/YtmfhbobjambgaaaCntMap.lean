/- A map from pairs of numbers to counts that the call makes: what it says, and what it comes to say. -/
import Derived.Test.YtmfhbobjambgaaaSep
import Derived.Maps.Own
import Derived.Maps.Views
import Derived.WideKeyEntry
import Derived.DeepKeys4
set_option linter.unusedSimpArgs false
set_option linter.unusedVariables false
namespace Go.Proofs.Ytmfhbobjambgaaa.CM
open Go.RowKit
open Go.Maps (atKey_put_same atKey_put_other)
open Go.ChangeMaps (setBlock heap_setBlock_same heap_setBlock_other)

abbrev KT : TypeId := 46
abbrev MT : TypeId := 43
abbrev key (a b : Int) : Value := .agg #[.int .i64 a, .int .i64 b]
def fit (a : Int) : Prop := (Lit.int .i64 a).wf = true
theorem laidOut : laidOutB Try.prog = true := by kernel_rfl
theorem cellsK : Try.prog.cellsOf KT = 2 := by kernel_rfl
theorem cellsI : Try.prog.cellsOf 3 = 1 := by kernel_rfl
theorem rowK : (KT : TypeId) < Try.prog.types.size := of_decide_eq_true (by kernel_rfl)
theorem wideK : (match Try.prog.underlying KT with | some (.array _ _) | some (.struct _) => true | _ => false) = true := by rw [Try.underlying46]
set_option maxRecDepth 100000 in
theorem law0 : Go.WideMaps.KeyLaw Try.prog KT := deep_law_laid laidOut (m := 2) (by omega) rowK (by kernel_rfl) wideK
theorem law : Go.Maps.Keyed Try.prog KT := Go.Maps.Keyed.of_law law0
theorem kt : Try.prog.keyType KT = true := by kernel_rfl
theorem tsz : ∃ d, Try.prog.types.size + 1 = d + 2 := ⟨Try.prog.types.size - 1, by kernel_rfl⟩
theorem lits1 {P : Program} {t : TypeId} (ht : P.underlying t = some (.int .i64)) (d : Nat) {a : Int} (ha : fit a) : P.keyLits (d + 1) t [.int .i64 a] = some [.int .i64 a] := by
  unfold fit at ha
  unfold Program.keyLits
  rw [ht]
  simp [ha]
theorem lits2 {P : Program} {t e : TypeId} (ht : P.underlying t = some (.array 2 e)) (he : P.underlying e = some (.int .i64)) (h2 : P.cellsOf t = 2) (h1 : P.cellsOf e = 1) (d : Nat) {a b : Int} (ha : fit a) (hb : fit b) :
    P.keyLits (d + 2) t [.int .i64 a, .int .i64 b] = some [.int .i64 a, .int .i64 b] := by
  unfold Program.keyLits
  rw [ht]
  simp [h2, h1, List.range, List.range.loop, lits1 he d ha, lits1 he d hb]
theorem formed (a b : Int) : (key a b).formed Try.prog KT = true := by simp [Value.formed, Try.underlying46, cellsK]
set_option maxRecDepth 100000 in
theorem keyOf_key {a b : Int} (ha : fit a) (hb : fit b) : ∃ kl, keyOf Try.prog KT (key a b) = some kl := by
  unfold keyOf
  rw [Try.underlying46]
  simp only [kt, formed, Bool.and_self, if_true]
  obtain ⟨d, hd⟩ := tsz
  rw [hd]
  exact ⟨_, by rw [show (key a b).cells.toList = [.int .i64 a, .int .i64 b] from rfl, lits2 Try.underlying46 Try.underlying3 cellsK cellsI d ha hb]; rfl⟩
theorem zeroI (w : World) : (zeroValue 3).run Try.prog w = .ok (.int .i64 0) w := by kernel_rfl
/-- Block b is a map of at most n entries that says f. -/
def Is (w : World) (b n : Nat) (f : Int → Int → Int) : Prop :=
  ∃ D : DataW Unit, w.ownsMap Try.prog KT (plainElem Try.prog 3) b n D ∧ (∃ es, D = .map es) ∧
    ∀ a c kl, keyOf Try.prog KT (key a c) = some kl → D.atKey kl (.lit (.int .i64 0)) = .lit (.int .i64 (f a c))
theorem Is.kept {w w' : World} {b n : Nat} {f : Int → Int → Int} (h : Is w b n f) (hg : w'.heap[b]? = w.heap[b]?) : Is w' b n f := by
  obtain ⟨D, ⟨es, clock, hb, F, hs, hD⟩, hm, hf⟩ := h
  exact ⟨D, ⟨es, clock, hg.trans hb, F, hs, hD⟩, hm, hf⟩
theorem Is.lt {w : World} {b n : Nat} {f : Int → Int → Int} (h : Is w b n f) : b < w.heap.size := by
  obtain ⟨D, hD, _⟩ := h
  exact hD.lt
theorem Is.made (w : World) : Is (w.alloc (.map #[] 0)) w.heap.size 0 (fun _ _ => 0) :=
  ⟨_, World.ownsMap_made w _ _ _, ⟨[], rfl⟩, fun _ _ _ _ => rfl⟩
/-- Looked up. -/
theorem Is.look {w : World} {b n : Nat} {f : Int → Int → Int} (h : Is w b n f) {a c : Int} (ha : fit a) (hc : fit c) :
    (Instr.lookup MT (.map (some b)) (key a c) false).run Try.prog w = .ok (.int .i64 (f a c)) w := by
  obtain ⟨D, hD, _, hf⟩ := h
  obtain ⟨kl, hk⟩ := keyOf_key ha hc
  obtain ⟨x, hrun, hat, _⟩ := hD.lookup_int law Try.underlying43 Try.underlying3 (zeroI w) hk
  rw [hf a c kl hk] at hat
  cases hat
  exact hrun
def upd (f : Int → Int → Int) (a c x : Int) : Int → Int → Int := fun a' c' => if a' = a ∧ c' = c then x else f a' c'
theorem Is.put {w : World} {b n : Nat} {f : Int → Int → Int} (h : Is w b n f) (hn : n < maxLen) {a c x : Int} (ha : fit a) (hc : fit c) (hx : fit x) :
    ∃ w', (Instr.mapUpdate MT (.map (some b)) (key a c) (.int .i64 x)).run Try.prog w = .ok () w' ∧ Is w' b (n + 1) (upd f a c x) ∧ w.grownBy w' (some b) := by
  obtain ⟨D, hD, hm, hf⟩ := h
  obtain ⟨kl, hk⟩ := keyOf_key ha hc
  obtain ⟨w', hrun, hD', hg⟩ := hD.update law Try.underlying43 hn hk (plainElem_int (H := Unit) Try.underlying3 hx)
  refine ⟨w', hrun, ⟨_, hD', ?_, fun a' c' kl' hk' => ?_⟩, hg⟩
  · obtain ⟨es, rfl⟩ := hm; exact ⟨_, rfl⟩
  · unfold upd
    by_cases e : a' = a ∧ c' = c
    · obtain ⟨rfl, rfl⟩ := e
      rw [hk] at hk'
      cases hk'
      rw [if_pos ⟨rfl, rfl⟩]
      exact atKey_put_same hm (law.key hk) _ _
    · rw [if_neg e, atKey_put_other (fun e2 => e ?_), hf a' c' kl' hk']
      subst e2
      have := law.inj hk hk'
      simp only [key, Value.agg.injEq, Array.mk.injEq, List.cons.injEq, Value.int.injEq, true_and, and_true] at this
      exact ⟨this.1.symm, this.2.symm⟩
theorem Is.mono {w : World} {b n m : Nat} {f : Int → Int → Int} (h : Is w b n f) (hm : n ≤ m) : Is w b m f := by
  obtain ⟨D, hD, r⟩ := h
  exact ⟨D, hD.mono hm, r⟩
theorem Is.same {w w' : World} {b n : Nat} {f : Int → Int → Int} {es es0 : Array MapEntry} {clock clock0 : Nat} (h : Is (setBlock w b (.map es clock)) b n f) (ho : w.heap[b]? = some (.map es0 clock0)) (hg : w'.heap[b]? = some (.map es clock)) : Is w' b n f :=
  h.kept (hg.trans (heap_setBlock_same ho _).symm)
theorem grown_setBlock {w : World} {b : Nat} {es0 : Array MapEntry} {clock0 : Nat} (ho : w.heap[b]? = some (.map es0 clock0)) (o' : Go.Obj) : w.grownBy (setBlock w b o') (some b) :=
  ⟨rfl, rfl, rfl, by simp [setBlock], fun i _ hi => heap_setBlock_other ho _ (fun e => hi (by rw [e]))⟩
set_option maxRecDepth 100000 in
/-- An entry is found or made, and then written. -/
theorem Is.entry {w : World} {b n : Nat} {f : Int → Int → Int} (h : Is w b n f) (hn : n < maxLen) {a c : Int} (ha : fit a) (hc : fit c) :
    ∃ (st : Nat) (w1 : World), (Instr.mapEntry MT (.map (some b)) (key a c)).run Try.prog w = .ok (.tuple #[.int .i64 (f a c), goInt st]) w1 ∧ Is w1 b (n + 1) f ∧ w.grownBy w1 (some b) ∧
      ∀ (w2 : World) (x : Int), fit x → w2.heap[b]? = w1.heap[b]? → ∃ w3, (Instr.entryStore MT (.map (some b)) (goInt st) (.int .i64 x)).run Try.prog w2 = .ok () w3 ∧ Is w3 b (n + 1) (upd f a c x) ∧ w2.grownBy w3 (some b) := by
  have hlook := h.look ha hc
  have h0 := h
  obtain ⟨D, ⟨es, clock, hb, F, hs, hD⟩, hm, hf⟩ := h
  obtain ⟨kl, hk⟩ := keyOf_key ha hc
  obtain ⟨v0, st, es1, clock1, hent, hv0, hst⟩ := Go.WideElems.entry_then_store law0 Try.underlying43 (z := .int .i64 0) zeroI hb F hk
  have hstore : ∀ (w2 : World) (x : Int), fit x → w2.heap[b]? = some (.map es1 clock1) → ∃ w3, (Instr.entryStore MT (.map (some b)) (goInt st) (.int .i64 x)).run Try.prog w2 = .ok () w3 ∧ Is w3 b (n + 1) (upd f a c x) ∧ w2.grownBy w3 (some b) := by
    intro w2 x hx hw2
    obtain ⟨es', clock', hrun, hmu⟩ := hst w2 (.int .i64 x) hw2
    obtain ⟨w', hrun', hI, _⟩ := h0.put hn ha hc hx
    rw [hmu] at hrun'
    cases hrun'
    exact ⟨_, hrun, hI.same hb (heap_setBlock_same hw2 _), grown_setBlock hw2 _⟩
  have hw1 : (setBlock w b (.map es1 clock1)).heap[b]? = some (.map es1 clock1) := heap_setBlock_same hb _
  have key1 : v0 = .int .i64 (f a c) ∧ Is (setBlock w b (.map es1 clock1)) b (n + 1) f := by
    have hlr := hlook
    rcases law0.find w hk es.toList F.keys with ⟨h1, h2⟩ | ⟨j, e0, h1, h2, h3⟩
    · have r1 : (Instr.mapEntry MT (.map (some b)) (key a c)).run Try.prog w = .ok (.tuple #[.int .i64 0, goInt clock]) (setBlock w b (.map (es.push ⟨key a c, .int .i64 0, clock⟩) (clock + 1))) := by
        simp [Instr.mapEntry, run_underlying Try.underlying43, MapKept.run_getObj_map hb, law0.check w false hk, h1, zeroI, MapKept.run_setObj_map _ hb, Result.andThen, setBlock]
      have r2 : (Instr.mapUpdate MT (.map (some b)) (key a c) (.int .i64 0)).run Try.prog w = .ok () (setBlock w b (.map (es.push ⟨key a c, .int .i64 0, clock⟩) (clock + 1))) := by
        simp [Instr.mapUpdate, run_underlying Try.underlying43, MapKept.run_getObj_map hb, law0.check w false hk, h1, MapKept.run_setObj_map _ hb, Result.andThen, setBlock]
      have r3 : (Instr.lookup MT (.map (some b)) (key a c) false).run Try.prog w = .ok (.int .i64 0) w := by
        simp [Instr.lookup, run_underlying Try.underlying43, MapKept.run_getObj_map hb, law0.check w es.isEmpty hk, h1, zeroI, Result.andThen]
      rw [r3] at hlr
      have e0 : f a c = 0 := by
        injection hlr with e1 _
        injection e1 with _ e1
        exact e1.symm
      rw [r1] at hent
      injection hent with e1 e2
      injection e1 with e1
      have e3 : v0 = .int .i64 0 := by
        have e9 := congrArg Array.toList e1
        injection e9 with e9 _
        exact e9.symm
      refine ⟨by rw [e3, e0], ?_⟩
      obtain ⟨w', hrun', hI, _⟩ := h0.put hn ha hc (x := 0) (by unfold fit; decide)
      rw [r2] at hrun'
      injection hrun' with _ hrun'
      rw [← e2, hrun']
      have eu : upd f a c 0 = f := by
        funext a' c'
        unfold upd
        split
        · rename_i e; rw [e.1, e.2, e0]
        · rfl
      rw [eu] at hI
      exact hI
    · have hj : es[j]? = some e0 := by simpa using h2
      have hsame : es.modify j (fun e => { e with key := key a c }) = es := by
        apply Array.ext'
        rw [Array.toList_modify, Go.ChangeMaps.modify_eq_set _ _ _ _ h2]
        have : ({ e0 with key := key a c } : MapEntry) = e0 := by rw [← h3]
        rw [this]
        exact Go.WideElems.set_self _ _ _ h2
      have r1 : (Instr.mapEntry MT (.map (some b)) (key a c)).run Try.prog w = .ok (.tuple #[e0.val, goInt e0.born]) (setBlock w b (.map es clock)) := by
        simp [Instr.mapEntry, run_underlying Try.underlying43, MapKept.run_getObj_map hb, law0.check w false hk, h1, hj, h3, law0.stays w hk, hsame, MapKept.run_setObj_map _ hb, Result.andThen, setBlock]
      have r3 : (Instr.lookup MT (.map (some b)) (key a c) false).run Try.prog w = .ok e0.val w := by
        simp [Instr.lookup, run_underlying Try.underlying43, MapKept.run_getObj_map hb, law0.check w es.isEmpty hk, h1, Result.andThen]
      rw [r3] at hlr
      have e4 : e0.val = .int .i64 (f a c) := by injection hlr
      rw [r1] at hent
      injection hent with e1 e2
      injection e1 with e1
      have e3 : v0 = e0.val := by
        have e9 := congrArg Array.toList e1
        injection e9 with e9 _
        exact e9.symm
      refine ⟨by rw [e3, e4], ?_⟩
      rw [← e2]
      exact (h0.kept (by rw [heap_setBlock_same hb, hb])).mono (Nat.le_succ n)
  rw [key1.1] at hent
  exact ⟨st, _, hent, key1.2, grown_setBlock hb _, fun w2 x hx he => hstore w2 x hx (he.trans hw1)⟩
end Go.Proofs.Ytmfhbobjambgaaa.CM
