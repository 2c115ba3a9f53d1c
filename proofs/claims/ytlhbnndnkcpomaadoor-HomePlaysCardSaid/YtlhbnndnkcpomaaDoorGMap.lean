/- Maps that the call makes, of whatever keys and elements: what they say, and what they come to say. -/
import Derived.Test.YtlhbnndnkcpomaaDoorSep
import Derived.Maps.Own
import Derived.Maps.Views
import Derived.Maps.OwnSet
import Derived.Maps.Range
import Derived.Maps.RangeWalk
import Derived.WideKeyEntry
set_option linter.unusedSimpArgs false
set_option linter.unusedVariables false
namespace Go.Proofs.YtlhbnndnkcpomaaDoor.GM
open Go.RowKit
open Go.Maps (atKey_put_same atKey_put_other has_put_same has_put_other atKey_del_same atKey_del_other has_del_same has_del_other size_put size_del Tidy)
open Go.ChangeMaps (setBlock heap_setBlock_same heap_setBlock_other)

/-- An element reads as itself. -/
def R (v : Value) : Option (DataW Value × List MemPlace) := some (.held v, [])
theorem R_inv {v : Value} {d : DataW Value} {ps : List MemPlace} (h : R v = some (d, ps)) : d = .held v := by
  unfold R at h
  cases h; rfl
/-- A type of maps: keys of κ; an element's nought. -/
structure Ty (P : Program) (κ : Type) where
  t : TypeId
  k : TypeId
  e : TypeId
  z : Value
  enc : κ → Value
  ok : κ → Prop
  law : Go.Maps.Keyed P k
  ht : P.underlying t = some (.map k e)
  hz : ∀ w, (zeroValue e).run P w = .ok z w
  key : ∀ a, ok a → ∃ kl, keyOf P k (enc a) = some kl
  inj : ∀ a b, enc a = enc b → a = b
  all : ∀ v kl, keyOf P k v = some kl → ∃ a, v = enc a ∧ ok a
def fit (a : Int) : Prop := (Lit.int .i64 a).wf = true
theorem fit_of {a : Int} (h : -9223372036854775808 ≤ a ∧ a ≤ 9223372036854775807) : fit a := WalkArith.wf_i64 h
/-- Maps keyed by numbers. -/
def ints {P : Program} (t k e : TypeId) (z : Value) (hk : P.underlying k = some (.int .i64)) (ht : P.underlying t = some (.map k e)) (hz : ∀ w, (zeroValue e).run P w = .ok z w) : Ty P Int where
  t := t
  k := k
  e := e
  z := z
  enc a := .int .i64 a
  ok := fit
  law := Go.Maps.int_keyed hk
  ht := ht
  hz := hz
  key a ha := ⟨_, Go.Maps.keyOf_int_mk hk ha⟩
  inj a b h := by cases h; rfl
  all v kl h := by
    obtain ⟨x, rfl, _, hw⟩ := Go.Maps.keyOf_int_inv hk h
    exact ⟨x, rfl, hw⟩
section
variable {P : Program} {κ : Type} {m : Ty P κ} {w w' : World} {b N : Nat} {f : κ → Option Value} {a c : κ} {v : Value}
/-- Block b is a map of N entries that says f. -/
def Is (m : Ty P κ) (w : World) (b N : Nat) (f : κ → Option Value) : Prop :=
  ∃ D : DataW Value, w.ownsMap P m.k R b N D ∧ Tidy D ∧ Go.Maps.size D = N ∧ ∀ a kl, keyOf P m.k (m.enc a) = some kl → (∀ z, D.atKey kl z = match f a with | some v => .held v | none => z) ∧ Go.Maps.has D kl = (f a).isSome
/-- What is looked up. -/
def Ty.at (m : Ty P κ) (f : κ → Option Value) (a : κ) : Value := (f a).getD m.z
theorem Is.obj (h : Is m w b N f) : ∃ es clock, w.heap[b]? = some (.map es clock) := by
  obtain ⟨D, ⟨es, clock, hb, _⟩, _⟩ := h
  exact ⟨es, clock, hb⟩
theorem Is.kept (h : Is m w b N f) (hg : w'.heap[b]? = w.heap[b]?) : Is m w' b N f := by
  obtain ⟨D, ⟨es, clock, hb, F, hs, hD⟩, r⟩ := h
  exact ⟨D, ⟨es, clock, hg.trans hb, F, hs, hD⟩, r⟩
theorem Is.lt (h : Is m w b N f) : b < w.heap.size := by
  obtain ⟨D, hD, _⟩ := h
  exact hD.lt
theorem Is.upd {F : Nat → Prop} (h : Is m w b N f) (hu : Upd F w w') (hF : ¬ F b) : Is m w' b N f := h.kept (hu.block b h.lt (.inl hF))
theorem Is.same {es es0 : Array MapEntry} {clock clock0 : Nat} (h : Is m (setBlock w b (.map es clock)) b N f) (ho : w.heap[b]? = some (.map es0 clock0)) (hg : w'.heap[b]? = some (.map es clock)) : Is m w' b N f :=
  h.kept (hg.trans (heap_setBlock_same ho _).symm)
theorem Is.made (m : Ty P κ) (w : World) : Is m (w.alloc (.map #[] 0)) w.heap.size 0 (fun _ => none) :=
  ⟨_, World.ownsMap_made w _ _ _, ⟨[], rfl, List.Pairwise.nil⟩, rfl, fun _ _ _ => ⟨fun _ => rfl, rfl⟩⟩
/-- Looked up. -/
theorem Is.look (h : Is m w b N f) (ha : m.ok a) : (Instr.lookup m.t (.map (some b)) (m.enc a) false).run P w = .ok (m.at f a) w := by
  obtain ⟨D, hD, _, _, hf⟩ := h
  obtain ⟨kl, hk⟩ := m.key a ha
  obtain ⟨v, ps, hrun, hv⟩ := hD.lookup m.law m.ht (m.hz w) (zd := .held m.z) (zp := []) rfl hk
  have h1 := (hf a kl hk).1 (.held m.z)
  have h2 := R_inv hv
  rw [h1] at h2
  rw [hrun]
  unfold Ty.at
  cases hfa : f a with
  | none => rw [hfa] at h2; cases h2; rfl
  | some x => rw [hfa] at h2; cases h2; rfl
theorem Is.look2 (h : Is m w b N f) (ha : m.ok a) : (Instr.lookup m.t (.map (some b)) (m.enc a) true).run P w = .ok (.tuple #[m.at f a, .bool (f a).isSome]) w := by
  obtain ⟨D, hD, _, _, hf⟩ := h
  obtain ⟨kl, hk⟩ := m.key a ha
  obtain ⟨v, ps, hrun, hv⟩ := hD.look_ok m.law m.ht (m.hz w) (zd := .held m.z) (zp := []) rfl hk
  have h1 := (hf a kl hk).1 (.held m.z)
  have h2 := R_inv hv
  rw [h1] at h2
  rw [hrun, (hf a kl hk).2]
  unfold Ty.at
  cases hfa : f a with
  | none => rw [hfa] at h2; cases h2; rfl
  | some x => rw [hfa] at h2; cases h2; rfl
theorem tight {D : DataW Value} {n : Nat} {k : TypeId} (h : w.ownsMap P k R b n D) : w.ownsMap P k R b (Go.Maps.size D) D := by
  obtain ⟨es, clock, hb, F, hs, rfl⟩ := h
  refine ⟨es, clock, hb, F, ?_, rfl⟩
  simp [Go.Maps.size, length_sorted]
/-- How many. -/
theorem Is.len (h : Is m w b N f) (ty : TypeId) : (Builtin.len_ #[m.t] ty #[.map (some b)]).run P w = .ok (.int .i64 N) w := by
  obtain ⟨D, hD, _, hN, _⟩ := h
  have := hD.len m.ht ty
  rw [hN] at this
  exact this
def putN (f : κ → Option Value) (N : Nat) (a : κ) : Nat := if (f a).isSome then N else N + 1
def delN (f : κ → Option Value) (N : Nat) (a : κ) : Nat := if (f a).isSome then N - 1 else N
variable [DecidableEq κ]
def put (f : κ → Option Value) (a : κ) (v : Value) : κ → Option Value := fun x => if x = a then some v else f x
def del (f : κ → Option Value) (a : κ) : κ → Option Value := fun x => if x = a then none else f x
/-- Written. -/
theorem Is.store (h : Is m w b N f) (hn : N < maxLen) (ha : m.ok a) (v : Value) :
    ∃ w', (Instr.mapUpdate m.t (.map (some b)) (m.enc a) v).run P w = .ok () w' ∧ Is m w' b (putN f N a) (put f a v) ∧ w.grownBy w' (some b) := by
  obtain ⟨D, hD, hT, hN, hf⟩ := h
  obtain ⟨kl, hk⟩ := m.key a ha
  obtain ⟨w', hrun, hD', hg⟩ := hD.update m.law m.ht hn hk (d := .held v) (ps := []) rfl
  have hkey := m.law.key hk
  have hs : Go.Maps.size (D.put kl (.held v)) = putN f N a := by
    rw [size_put hT, (hf a kl hk).2, hN]; rfl
  refine ⟨w', hrun, ⟨_, hs ▸ tight hD', hT.put hkey _, hs, fun x kx hx => ?_⟩, hg⟩
  unfold put
  by_cases e : x = a
  · subst e
    rw [hk] at hx; cases hx
    rw [if_pos rfl]
    exact ⟨fun z => atKey_put_same hT.isMap hkey _ _, has_put_same hT.isMap hkey _⟩
  · rw [if_neg e]
    have hne : kx ≠ kl := fun e2 => e (m.inj _ _ (m.law.inj hx (e2 ▸ hk)))
    exact ⟨fun z => by rw [atKey_put_other hne]; exact (hf x kx hx).1 z, by rw [has_put_other hne]; exact (hf x kx hx).2⟩
/-- Struck out. -/
theorem Is.drop (h : Is m w b N f) (ha : m.ok a) (ty : TypeId) :
    ∃ w', (Builtin.delete_ #[m.t, m.k] ty #[.map (some b), m.enc a]).run P w = .ok (.tuple #[]) w' ∧ Is m w' b (delN f N a) (del f a) ∧ w.grownBy w' (some b) := by
  obtain ⟨D, hD, hT, hN, hf⟩ := h
  obtain ⟨kl, hk⟩ := m.key a ha
  obtain ⟨w', hrun, hD', hg⟩ := hD.drop m.law m.ht hk ty
  have hs : Go.Maps.size (D.del kl) = delN f N a := by
    have := size_del (k := kl) hT
    rw [(hf a kl hk).2, hN] at this
    unfold delN
    split <;> rename_i h9 <;> simp [h9] at this <;> omega
  refine ⟨w', hrun, ⟨_, hs ▸ tight hD', hT.del kl, hs, fun x kx hx => ?_⟩, hg.grown⟩
  unfold del
  by_cases e : x = a
  · subst e
    rw [hk] at hx; cases hx
    rw [if_pos rfl]
    exact ⟨fun z => atKey_del_same _, has_del_same⟩
  · rw [if_neg e]
    have hne : kx ≠ kl := fun e2 => e (m.inj _ _ (m.law.inj hx (e2 ▸ hk)))
    exact ⟨fun z => by rw [atKey_del_other hne]; exact (hf x kx hx).1 z, by rw [has_del_other hne]; exact (hf x kx hx).2⟩
theorem grown_setBlock {es0 : Array MapEntry} {clock0 : Nat} (ho : w.heap[b]? = some (.map es0 clock0)) (o' : Go.Obj) : w.grownBy (setBlock w b o') (some b) :=
  ⟨rfl, rfl, rfl, by simp [setBlock], fun i _ hi => heap_setBlock_other ho _ (fun e => hi (by rw [e]))⟩
set_option maxRecDepth 100000 in
/-- An entry is found or made, and then written. -/
theorem Is.entry (h : Is m w b N f) (hn : N < maxLen) (ha : m.ok a) :
    ∃ (st : Nat) (w1 : World), (Instr.mapEntry m.t (.map (some b)) (m.enc a)).run P w = .ok (.tuple #[m.at f a, goInt st]) w1 ∧ (∃ es clock, w1.heap[b]? = some (.map es clock)) ∧ w.grownBy w1 (some b) ∧
      ∀ (w2 : World) (v : Value), w2.heap[b]? = w1.heap[b]? → ∃ w3, (Instr.entryStore m.t (.map (some b)) (goInt st) v).run P w2 = .ok () w3 ∧ Is m w3 b (putN f N a) (put f a v) ∧ w2.grownBy w3 (some b) := by
  have hlr := h.look ha
  have h0 := h
  obtain ⟨D, ⟨es, clock, hb, F, hs, hD⟩, _⟩ := h
  obtain ⟨kl, hk⟩ := m.key a ha
  obtain ⟨s1, s2, _⟩ := F.stamped
  rcases m.law.find w hk es.toList F.keys with ⟨h1, h2⟩ | ⟨j, e0, h1, h2, h3⟩
  · have r1 : (Instr.mapEntry m.t (.map (some b)) (m.enc a)).run P w = .ok (.tuple #[m.z, goInt clock]) (setBlock w b (.map (es.push ⟨m.enc a, m.z, clock⟩) (clock + 1))) := by
      simp [Instr.mapEntry, run_underlying m.ht, MapKept.run_getObj_map hb, m.law.check w false hk, h1, m.hz, MapKept.run_setObj_map _ hb, Result.andThen, setBlock]
    have r2 : ∀ v, (Instr.mapUpdate m.t (.map (some b)) (m.enc a) v).run P w = .ok () (setBlock w b (.map (es.push ⟨m.enc a, v, clock⟩) (clock + 1))) := fun v => by
      simp [Instr.mapUpdate, run_underlying m.ht, MapKept.run_getObj_map hb, m.law.check w false hk, h1, MapKept.run_setObj_map _ hb, Result.andThen, setBlock]
    have r3 : (Instr.lookup m.t (.map (some b)) (m.enc a) false).run P w = .ok m.z w := by
      simp [Instr.lookup, run_underlying m.ht, MapKept.run_getObj_map hb, m.law.check w es.isEmpty hk, h1, m.hz, Result.andThen]
    rw [r3] at hlr
    have e0 : m.z = m.at f a := by injection hlr
    rw [e0] at r1
    have hw1 : (setBlock w b (.map (es.push ⟨m.enc a, m.at f a, clock⟩) (clock + 1))).heap[b]? = some (.map (es.push ⟨m.enc a, m.at f a, clock⟩) (clock + 1)) := heap_setBlock_same hb _
    refine ⟨clock, _, r1, ⟨_, _, hw1⟩, grown_setBlock hb _, fun w2 v hg => ?_⟩
    have hw2 := hg.trans hw1
    have hidx : (es.push ⟨m.enc a, m.at f a, clock⟩).findIdx? (fun e => ((e.born : Nat) : Int) == ((clock : Nat) : Int)) = some es.size := by
      rw [Go.WideElems.findIdx_arr]
      refine Go.WideElems.findIdx_born (l := (es.push ⟨m.enc a, m.at f a, clock⟩).toList) (j := es.size) (e0 := ⟨m.enc a, m.at f a, clock⟩) ?_ (by simp)
      simp only [Array.toList_push, List.map_append, List.map_cons, List.map_nil]
      refine List.nodup_append.2 ⟨s2, by simp, fun x hx c hc e1 => ?_⟩
      simp only [List.mem_singleton] at hc
      obtain ⟨y, hy, rfl⟩ := List.mem_map.1 hx
      have := s1 y hy
      omega
    have hmod : (es.push ⟨m.enc a, m.at f a, clock⟩).modify es.size (fun e => { e with val := v }) = es.push ⟨m.enc a, v, clock⟩ := by
      apply Array.ext'
      rw [Array.toList_modify, Array.toList_push, Array.toList_push, ← Array.length_toList, Go.WideElems.modify_last]
    obtain ⟨w', hrun', hI, _⟩ := h0.store hn ha v
    rw [r2 v] at hrun'
    cases hrun'
    exact ⟨_, by simp [Instr.entryStore, MapKept.run_getObj_map hw2, asInt, asIntOf, goInt, hidx, hmod, MapKept.run_setObj_map _ hw2, Result.andThen]; rfl, hI.same hb (heap_setBlock_same hw2 _), grown_setBlock hw2 _⟩
  · have hj : es[j]? = some e0 := by simpa using h2
    have hsame : es.modify j (fun e => { e with key := m.enc a }) = es := by
      apply Array.ext'
      rw [Array.toList_modify, Go.ChangeMaps.modify_eq_set _ _ _ _ h2]
      have : ({ e0 with key := m.enc a } : MapEntry) = e0 := by rw [← h3]
      rw [this]
      exact Go.WideElems.set_self _ _ _ h2
    have r1 : (Instr.mapEntry m.t (.map (some b)) (m.enc a)).run P w = .ok (.tuple #[e0.val, goInt e0.born]) (setBlock w b (.map es clock)) := by
      simp [Instr.mapEntry, run_underlying m.ht, MapKept.run_getObj_map hb, m.law.check w false hk, h1, hj, h3, m.law.stays w hk, hsame, MapKept.run_setObj_map _ hb, Result.andThen, setBlock]
    have r2 : ∀ v, (Instr.mapUpdate m.t (.map (some b)) (m.enc a) v).run P w = .ok () (setBlock w b (.map (es.modify j (fun e' => { e' with key := m.enc a, val := v })) clock)) := fun v => by
      simp [Instr.mapUpdate, run_underlying m.ht, MapKept.run_getObj_map hb, m.law.check w false hk, h1, hj, h3, m.law.stays w hk, MapKept.run_setObj_map _ hb, Result.andThen, setBlock]
    have r3 : (Instr.lookup m.t (.map (some b)) (m.enc a) false).run P w = .ok e0.val w := by
      simp [Instr.lookup, run_underlying m.ht, MapKept.run_getObj_map hb, m.law.check w es.isEmpty hk, h1, Result.andThen]
    rw [r3] at hlr
    have e4 : e0.val = m.at f a := by injection hlr
    rw [e4] at r1
    have hw1 : (setBlock w b (.map es clock)).heap[b]? = some (.map es clock) := heap_setBlock_same hb _
    refine ⟨e0.born, _, r1, ⟨_, _, hw1⟩, grown_setBlock hb _, fun w2 v hg => ?_⟩
    have hw2 := hg.trans hw1
    have hidx : es.findIdx? (fun e => ((e.born : Nat) : Int) == ((e0.born : Nat) : Int)) = some j := by
      rw [Go.WideElems.findIdx_arr]
      exact Go.WideElems.findIdx_born s2 h2
    have hmod : es.modify j (fun e => { e with val := v }) = es.modify j (fun e' => { e' with key := m.enc a, val := v }) := by
      apply Array.ext'
      rw [Array.toList_modify, Array.toList_modify, Go.ChangeMaps.modify_eq_set _ _ _ _ h2, Go.ChangeMaps.modify_eq_set _ _ _ _ h2, ← h3]
    obtain ⟨w', hrun', hI, _⟩ := h0.store hn ha v
    rw [r2 v] at hrun'
    cases hrun'
    exact ⟨_, by simp [Instr.entryStore, MapKept.run_getObj_map hw2, asInt, asIntOf, goInt, hidx, hmod, MapKept.run_setObj_map _ hw2, Result.andThen]; rfl, hI.same hb (heap_setBlock_same hw2 _), grown_setBlock hw2 _⟩
end
section
variable {P : Program} {κ : Type} {m : Ty P κ} {b r N cnt : Nat} {f : κ → Option Value} {a : κ} {w w' : World}
/-- A range over a map under way: cnt entries are still to come. -/
def Rng (m : Ty P κ) (w : World) (b r N : Nat) (f : κ → Option Value) (cnt : Nat) : Prop :=
  ∃ (D : DataW Value) (left : Lit → Bool), w.ranges P m.k R b r N D left cnt ∧ ∀ a kl, keyOf P m.k (m.enc a) = some kl → (∀ z, D.atKey kl z = match f a with | some v => .held v | none => z)
theorem Is.range (h : Is m w b N f) : ∃ w', (Instr.range m.t (.map (some b))).run P w = .ok (.pointer (some ⟨w.heap.size, 0, none⟩)) w' ∧ Rng m w' b w.heap.size N f N ∧ Upd NoF w w' ∧ w'.heap.size = w.heap.size + 1 := by
  obtain ⟨D, hD, hT, hN, hf⟩ := h
  obtain ⟨w', hrun, hr, hg, hs⟩ := hD.range m.law m.ht
  rw [hN] at hr
  exact ⟨w', hrun, ⟨D, _, hr, fun a kl hk => (hf a kl hk).1⟩, Upd.grown hg (fun k hk => by cases hk), hs⟩
theorem Rng.kept (h : Rng m w b r N f cnt) (hb : w'.heap[b]? = w.heap[b]?) (hr : w'.heap[r]? = w.heap[r]?) : Rng m w' b r N f cnt := by
  obtain ⟨D, left, ⟨es, clock, since, seen, c0, h1, F, h2, h3, h4, rest⟩, hf⟩ := h
  exact ⟨D, left, ⟨es, clock, since, seen, c0, hb.trans h1, F, h2, h3, hr.trans h4, rest⟩, hf⟩
theorem Rng.upd {F : Nat → Prop} (h : Rng m w b r N f cnt) (hu : Upd F w w') (hF : ¬ F b) : Rng m w' b r N f cnt := by
  have h0 := h
  obtain ⟨D, left, ⟨es, clock, since, seen, c0, h1, F', h2, h3, h4, rest⟩, hf⟩ := h
  exact h0.kept (hu.block b (Array.getElem?_eq_some_iff.1 h1).1 (.inl hF)) (hu.block r (Array.getElem?_eq_some_iff.1 h4).1 (.inr (fun o ho => by rw [h4] at ho; cases ho; rfl)))
theorem Rng.left_eq (h : Rng m w b r N f cnt) : w.rangeLeft b r = cnt := by
  obtain ⟨D, left, hr, _⟩ := h
  exact hr.left_eq
/-- The step. -/
theorem Rng.next (h : Rng m w b r N f cnt) (ty : TypeId) :
    (cnt = 0 ∧ (Instr.next (.pointer (some ⟨r, 0, none⟩)) false ty).run P w = .ok (.tuple #[.bool false]) w) ∨
    ∃ a v w' cnt', m.ok a ∧ f a = some v ∧ (Instr.next (.pointer (some ⟨r, 0, none⟩)) false ty).run P w = .ok (.tuple #[.bool true, m.enc a, v]) w' ∧
      Rng m w' b r N f cnt' ∧ cnt' < cnt ∧ Bk r NoF w w' ∧ w'.heap.size = w.heap.size ∧ (Instr.entry (.pointer (some ⟨r, 0, none⟩))).run P w' = .ok (.tuple #[m.enc a, v]) w' := by
  obtain ⟨D, left, hr, hf⟩ := h
  have hr0 := hr
  rcases hr.next m.law ty with ⟨h0, _, hrun⟩ | ⟨key, v, kl, y, w', cnt', hk, hl, hv, hat, hrun, hr', hlt, hg, hs, hen⟩
  · exact .inl ⟨h0, hrun⟩
  · obtain ⟨a, rfl, ha⟩ := m.all _ _ hk
    have hy : y.1 = .held v := R_inv (d := y.1) (ps := y.2) hv
    have h1 := hf a kl hk
    have hfa : f a = some v := by
      cases hfa : f a with
      | none =>
        have e1 := (h1 .nil).symm.trans (hat .nil)
        rw [hfa, hy] at e1
        cases e1
      | some u =>
        have e1 := (h1 .nil).symm.trans (hat .nil)
        rw [hfa, hy] at e1
        cases e1
        rfl
    refine .inr ⟨a, v, w', cnt', ha, hfa, hrun, ⟨D, _, hr', hf⟩, hlt, ?_, hs, hen⟩
    obtain ⟨es, clock, since, seen, c0, _, _, _, _, h4, _⟩ := hr0
    refine ⟨hg.os, hg.tape, hg.output, hg.size, fun k hk _ hn => hg.block k hk (fun e => ?_)⟩
    cases e
    rcases hn with hn | hn
    · omega
    · exact hn (fun o ho => by rw [h4] at ho; cases ho; rfl)
end
section
variable {P : Program} {κ : Type} {m : Ty P κ} {b N : Nat} {f : κ → Option Value} {a : κ} {G : Nat → Prop} {w0 W : World} {L : List Obj}
/-- A map, as an object. -/
def mapO (m : Ty P κ) (b N : Nat) (f : κ → Option Value) : Obj where
  is W F := Is m W b N f ∧ F b
  keep h k := by
    obtain ⟨es, clock, hb⟩ := h.1.obj
    exact ⟨h.1.kept ((k.cells b _ h.2 hb rfl).trans hb.symm), h.2⟩
  mono h k := ⟨h.1, k b h.2⟩
  tight {W F} h := ⟨fun k => k = b, ⟨h.1, rfl⟩, fun k hk => by subst hk; exact ⟨h.2, h.1.lt⟩⟩
theorem mapIs (h : Sep G w0 W L) (i : Nat) (hi : L[i]? = some (mapO m b N f)) : Is m W b N f := by
  obtain ⟨F, h2, _⟩ := h.get i hi
  exact h2.1
theorem mapNew (m : Ty P κ) (h : Sep G w0 W L) : Sep G w0 (W.alloc (.map #[] 0)) (mapO m W.heap.size 0 (fun _ => none) :: L) :=
  h.push (Upd.alloc NoF W _) ⟨Is.made m W, Nat.le_refl _⟩
variable [DecidableEq κ]
theorem mapPut (h : Sep G w0 W L) (i : Nat) (hi : L[i]? = some (mapO m b N f)) (hn : N < maxLen) (ha : m.ok a) (v : Value) :
    ∃ W', (Instr.mapUpdate m.t (.map (some b)) (m.enc a) v).run P W = .ok () W' ∧ Sep G w0 W' (L.set i (mapO m b (putN f N a) (put f a v))) ∧ W.grownBy W' (some b) := by
  obtain ⟨F, h2, h3⟩ := h.step i hi
  obtain ⟨W', hrun, hI, hg⟩ := h2.1.store hn ha v
  exact ⟨W', hrun, h3 _ _ (Upd.mapped hg h2.2 h2.1.obj) ⟨hI, .inl h2.2⟩, hg⟩
theorem mapDel (h : Sep G w0 W L) (i : Nat) (hi : L[i]? = some (mapO m b N f)) (ha : m.ok a) (ty : TypeId) :
    ∃ W', (Builtin.delete_ #[m.t, m.k] ty #[.map (some b), m.enc a]).run P W = .ok (.tuple #[]) W' ∧ Sep G w0 W' (L.set i (mapO m b (delN f N a) (del f a))) ∧ W.grownBy W' (some b) := by
  obtain ⟨F, h2, h3⟩ := h.step i hi
  obtain ⟨W', hrun, hI, hg⟩ := h2.1.drop ha ty
  exact ⟨W', hrun, h3 _ _ (Upd.mapped hg h2.2 h2.1.obj) ⟨hI, .inl h2.2⟩, hg⟩
end
end Go.Proofs.YtlhbnndnkcpomaaDoor.GM
