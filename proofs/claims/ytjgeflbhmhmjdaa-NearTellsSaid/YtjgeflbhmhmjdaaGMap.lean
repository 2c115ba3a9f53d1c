/- Maps that the call makes, of whatever keys and elements: what they say, and what they come to say. -/
import Derived.Test.YtjgeflbhmhmjdaaSep
import Derived.Maps.Own
import Derived.Maps.Views
import Derived.Maps.OwnSet
import Derived.Maps.Range
import Derived.Maps.RangeWalk
import Derived.WideKeyEntry
import Derived.Test.YtjgeflbhmhmjdaaNearL
set_option linter.unusedSimpArgs false
set_option linter.unusedVariables false
namespace Go.Proofs.Ytjgeflbhmhmjdaa.GM
open Go.RowKit
open Go.Maps (atKey_put_same atKey_put_other has_put_same has_put_other atKey_del_same atKey_del_other has_del_same has_del_other size_put size_del Tidy)
open Go.ChangeMaps (setBlock heap_setBlock_same heap_setBlock_other)

/-- An element reads as itself. -/
def R (v : Value) : Option (DataW Value × List MemPlace) := some (.held v, [])
theorem R_inv {v : Value} {d : DataW Value} {ps : List MemPlace} (h : R v = some (d, ps)) : d = .held v := by
  unfold R at h
  cases h; rfl
/-- A type of maps: keys of κ; an element's nought. -/
structure Ty (P : Program) (κ : Type) where
  t : TypeId
  k : TypeId
  e : TypeId
  z : Value
  enc : κ → Value
  ok : κ → Prop
  law : Go.Maps.Keyed P k
  ht : P.underlying t = some (.map k e)
  hz : ∀ w, (zeroValue e).run P w = .ok z w
  key : ∀ a, ok a → ∃ kl, keyOf P k (enc a) = some kl
  inj : ∀ a b, enc a = enc b → a = b
  all : ∀ v kl, keyOf P k v = some kl → ∃ a, v = enc a ∧ ok a
def fit (a : Int) : Prop := (Lit.int .i64 a).wf = true
theorem fit_of {a : Int} (h : -9223372036854775808 ≤ a ∧ a ≤ 9223372036854775807) : fit a := WalkArith.wf_i64 h
/-- Maps keyed by numbers. -/
def ints {P : Program} (t k e : TypeId) (z : Value) (hk : P.underlying k = some (.int .i64)) (ht : P.underlying t = some (.map k e)) (hz : ∀ w, (zeroValue e).run P w = .ok z w) : Ty P Int where
  t := t
  k := k
  e := e
  z := z
  enc a := .int .i64 a
  ok := fit
  law := Go.Maps.int_keyed hk
  ht := ht
  hz := hz
  key a ha := ⟨_, Go.Maps.keyOf_int_mk hk ha⟩
  inj a b h := by cases h; rfl
  all v kl h := by
    obtain ⟨x, rfl, _, hw⟩ := Go.Maps.keyOf_int_inv hk h
    exact ⟨x, rfl, hw⟩
section
variable {P : Program} {κ : Type} {m : Ty P κ} {w w' : World} {b N : Nat} {f : κ → Option Value} {a c : κ} {v : Value}
/-- Block b is a map of N entries that says f. -/
def Is (m : Ty P κ) (w : World) (b N : Nat) (f : κ → Option Value) : Prop :=
  ∃ D : DataW Value, w.ownsMap P m.k R b N D ∧ Tidy D ∧ Go.Maps.size D = N ∧ ∀ a kl, keyOf P m.k (m.enc a) = some kl → (∀ z, D.atKey kl z = match f a with | some v => .held v | none => z) ∧ Go.Maps.has D kl = (f a).isSome
/-- What is looked up. -/
def Ty.at (m : Ty P κ) (f : κ → Option Value) (a : κ) : Value := (f a).getD m.z
theorem Is.obj (h : Is m w b N f) : ∃ es clock, w.heap[b]? = some (.map es clock) := by
  obtain ⟨D, ⟨es, clock, hb, _⟩, _⟩ := h
  exact ⟨es, clock, hb⟩
theorem Is.kept (h : Is m w b N f) (hg : w'.heap[b]? = w.heap[b]?) : Is m w' b N f := by
  obtain ⟨D, ⟨es, clock, hb, F, hs, hD⟩, r⟩ := h
  exact ⟨D, ⟨es, clock, hg.trans hb, F, hs, hD⟩, r⟩
theorem Is.lt (h : Is m w b N f) : b < w.heap.size := by
  obtain ⟨D, hD, _⟩ := h
  exact hD.lt
theorem Is.upd {F : Nat → Prop} (h : Is m w b N f) (hu : Upd F w w') (hF : ¬ F b) : Is m w' b N f := h.kept (hu.block b h.lt (.inl hF))
theorem Is.same {es es0 : Array MapEntry} {clock clock0 : Nat} (h : Is m (setBlock w b (.map es clock)) b N f) (ho : w.heap[b]? = some (.map es0 clock0)) (hg : w'.heap[b]? = some (.map es clock)) : Is m w' b N f :=
  h.kept (hg.trans (heap_setBlock_same ho _).symm)
theorem Is.made (m : Ty P κ) (w : World) : Is m (w.alloc (.map #[] 0)) w.heap.size 0 (fun _ => none) :=
  ⟨_, World.ownsMap_made w _ _ _, ⟨[], rfl, List.Pairwise.nil⟩, rfl, fun _ _ _ => ⟨fun _ => rfl, rfl⟩⟩
/-- Looked up. -/
theorem Is.look (h : Is m w b N f) (ha : m.ok a) : (Instr.lookup m.t (.map (some b)) (m.enc a) false).run P w = .ok (m.at f a) w := by
  obtain ⟨D, hD, _, _, hf⟩ := h
  obtain ⟨kl, hk⟩ := m.key a ha
  obtain ⟨v, ps, hrun, hv⟩ := hD.lookup m.law m.ht (m.hz w) (zd := .held m.z) (zp := []) rfl hk
  have h1 := (hf a kl hk).1 (.held m.z)
  have h2 := R_inv hv
  rw [h1] at h2
  rw [hrun]
  unfold Ty.at
  cases hfa : f a with
  | none => rw [hfa] at h2; cases h2; rfl
  | some x => rw [hfa] at h2; cases h2; rfl
theorem Is.look2 (h : Is m w b N f) (ha : m.ok a) : (Instr.lookup m.t (.map (some b)) (m.enc a) true).run P w = .ok (.tuple #[m.at f a, .bool (f a).isSome]) w := by
  obtain ⟨D, hD, _, _, hf⟩ := h
  obtain ⟨kl, hk⟩ := m.key a ha
  obtain ⟨v, ps, hrun, hv⟩ := hD.look_ok m.law m.ht (m.hz w) (zd := .held m.z) (zp := []) rfl hk
  have h1 := (hf a kl hk).1 (.held m.z)
  have h2 := R_inv hv
  rw [h1] at h2
  rw [hrun, (hf a kl hk).2]
  unfold Ty.at
  cases hfa : f a with
  | none => rw [hfa] at h2; cases h2; rfl
  | some x => rw [hfa] at h2; cases h2; rfl
theorem tight {D : DataW Value} {n : Nat} {k : TypeId} (h : w.ownsMap P k R b n D) : w.ownsMap P k R b (Go.Maps.size D) D := by
  obtain ⟨es, clock, hb, F, hs, rfl⟩ := h
  refine ⟨es, clock, hb, F, ?_, rfl⟩
  simp [Go.Maps.size, length_sorted]
/-- How many. -/
theorem Is.len (h : Is m w b N f) (ty : TypeId) : (Builtin.len_ #[m.t] ty #[.map (some b)]).run P w = .ok (.int .i64 N) w := by
  obtain ⟨D, hD, _, hN, _⟩ := h
  have := hD.len m.ht ty
  rw [hN] at this
  exact this
def putN (f : κ → Option Value) (N : Nat) (a : κ) : Nat := if (f a).isSome then N else N + 1
def delN (f : κ → Option Value) (N : Nat) (a : κ) : Nat := if (f a).isSome then N - 1 else N
variable [DecidableEq κ]
def put (f : κ → Option Value) (a : κ) (v : Value) : κ → Option Value := fun x => if x = a then some v else f x
def del (f : κ → Option Value) (a : κ) : κ → Option Value := fun x => if x = a then none else f x
/-- Written. -/
theorem Is.store (h : Is m w b N f) (hn : N < maxLen) (ha : m.ok a) (v : Value) :
    ∃ w', (Instr.mapUpdate m.t (.map (some b)) (m.enc a) v).run P w = .ok () w' ∧ Is m w' b (putN f N a) (put f a v) ∧ w.grownBy w' (some b) := by
  obtain ⟨D, hD, hT, hN, hf⟩ := h
  obtain ⟨kl, hk⟩ := m.key a ha
  obtain ⟨w', hrun, hD', hg⟩ := hD.update m.law m.ht hn hk (d := .held v) (ps := []) rfl
  have hkey := m.law.key hk
  have hs : Go.Maps.size (D.put kl (.held v)) = putN f N a := by
    rw [size_put hT, (hf a kl hk).2, hN]; rfl
  refine ⟨w', hrun, ⟨_, hs ▸ tight hD', hT.put hkey _, hs, fun x kx hx => ?_⟩, hg⟩
  unfold put
  by_cases e : x = a
  · subst e
    rw [hk] at hx; cases hx
    rw [if_pos rfl]
    exact ⟨fun z => atKey_put_same hT.isMap hkey _ _, has_put_same hT.isMap hkey _⟩
  · rw [if_neg e]
    have hne : kx ≠ kl := fun e2 => e (m.inj _ _ (m.law.inj hx (e2 ▸ hk)))
    exact ⟨fun z => by rw [atKey_put_other hne]; exact (hf x kx hx).1 z, by rw [has_put_other hne]; exact (hf x kx hx).2⟩
/-- Struck out. -/
theorem Is.drop (h : Is m w b N f) (ha : m.ok a) (ty : TypeId) :
    ∃ w', (Builtin.delete_ #[m.t, m.k] ty #[.map (some b), m.enc a]).run P w = .ok (.tuple #[]) w' ∧ Is m w' b (delN f N a) (del f a) ∧ w.grownBy w' (some b) := by
  obtain ⟨D, hD, hT, hN, hf⟩ := h
  obtain ⟨kl, hk⟩ := m.key a ha
  obtain ⟨w', hrun, hD', hg⟩ := hD.drop m.law m.ht hk ty
  have hs : Go.Maps.size (D.del kl) = delN f N a := by
    have := size_del (k := kl) hT
    rw [(hf a kl hk).2, hN] at this
    unfold delN
    split <;> rename_i h9 <;> simp [h9] at this <;> omega
  refine ⟨w', hrun, ⟨_, hs ▸ tight hD', hT.del kl, hs, fun x kx hx => ?_⟩, hg.grown⟩
  unfold del
  by_cases e : x = a
  · subst e
    rw [hk] at hx; cases hx
    rw [if_pos rfl]
    exact ⟨fun z => atKey_del_same _, has_del_same⟩
  · rw [if_neg e]
    have hne : kx ≠ kl := fun e2 => e (m.inj _ _ (m.law.inj hx (e2 ▸ hk)))
    exact ⟨fun z => by rw [atKey_del_other hne]; exact (hf x kx hx).1 z, by rw [has_del_other hne]; exact (hf x kx hx).2⟩
theorem grown_setBlock {es0 : Array MapEntry} {clock0 : Nat} (ho : w.heap[b]? = some (.map es0 clock0)) (o' : Go.Obj) : w.grownBy (setBlock w b o') (some b) :=
  ⟨rfl, rfl, rfl, by simp [setBlock], fun i _ hi => heap_setBlock_other ho _ (fun e => hi (by rw [e]))⟩
set_option maxRecDepth 100000 in
/-- An entry is found or made, and then written. -/
theorem Is.entry (h : Is m w b N f) (hn : N < maxLen) (ha : m.ok a) :
    ∃ (st : Nat) (w1 : World), (Instr.mapEntry m.t (.map (some b)) (m.enc a)).run P w = .ok (.tuple #[m.at f a, goInt st]) w1 ∧ (∃ es clock, w1.heap[b]? = some (.map es clock)) ∧ w.grownBy w1 (some b) ∧
      ∀ (w2 : World) (v : Value), w2.heap[b]? = w1.heap[b]? → ∃ w3, (Instr.entryStore m.t (.map (some b)) (goInt st) v).run P w2 = .ok () w3 ∧ Is m w3 b (putN f N a) (put f a v) ∧ w2.grownBy w3 (some b) := by
  have hlr := h.look ha
  have h0 := h
  obtain ⟨D, ⟨es, clock, hb, F, hs, hD⟩, _⟩ := h
  obtain ⟨kl, hk⟩ := m.key a ha
  obtain ⟨s1, s2, _⟩ := F.stamped
  rcases m.law.find w hk es.toList F.keys with ⟨h1, h2⟩ | ⟨j, e0, h1, h2, h3⟩
  · have r1 : (Instr.mapEntry m.t (.map (some b)) (m.enc a)).run P w = .ok (.tuple #[m.z, goInt clock]) (setBlock w b (.map (es.push ⟨m.enc a, m.z, clock⟩) (clock + 1))) := by
      simp [Instr.mapEntry, run_underlying m.ht, MapKept.run_getObj_map hb, m.law.check w false hk, h1, m.hz, MapKept.run_setObj_map _ hb, Result.andThen, setBlock]
    have r2 : ∀ v, (Instr.mapUpdate m.t (.map (some b)) (m.enc a) v).run P w = .ok () (setBlock w b (.map (es.push ⟨m.enc a, v, clock⟩) (clock + 1))) := fun v => by
      simp [Instr.mapUpdate, run_underlying m.ht, MapKept.run_getObj_map hb, m.law.check w false hk, h1, MapKept.run_setObj_map _ hb, Result.andThen, setBlock]
    have r3 : (Instr.lookup m.t (.map (some b)) (m.enc a) false).run P w = .ok m.z w := by
      simp [Instr.lookup, run_underlying m.ht, MapKept.run_getObj_map hb, m.law.check w es.isEmpty hk, h1, m.hz, Result.andThen]
    rw [r3] at hlr
    have e0 : m.z = m.at f a := by injection hlr
    rw [e0] at r1
    have hw1 : (setBlock w b (.map (es.push ⟨m.enc a, m.at f a, clock⟩) (clock + 1))).heap[b]? = some (.map (es.push ⟨m.enc a, m.at f a, clock⟩) (clock + 1)) := heap_setBlock_same hb _
    refine ⟨clock, _, r1, ⟨_, _, hw1⟩, grown_setBlock hb _, fun w2 v hg => ?_⟩
    have hw2 := hg.trans hw1
    have hidx : (es.push ⟨m.enc a, m.at f a, clock⟩).findIdx? (fun e => ((e.born : Nat) : Int) == ((clock : Nat) : Int)) = some es.size := by
      rw [Go.WideElems.findIdx_arr]
      refine Go.WideElems.findIdx_born (l := (es.push ⟨m.enc a, m.at f a, clock⟩).toList) (j := es.size) (e0 := ⟨m.enc a, m.at f a, clock⟩) ?_ (by simp)
      simp only [Array.toList_push, List.map_append, List.map_cons, List.map_nil]
      refine List.nodup_append.2 ⟨s2, by simp, fun x hx c hc e1 => ?_⟩
      simp only [List.mem_singleton] at hc
      obtain ⟨y, hy, rfl⟩ := List.mem_map.1 hx
      have := s1 y hy
      omega
    have hmod : (es.push ⟨m.enc a, m.at f a, clock⟩).modify es.size (fun e => { e with val := v }) = es.push ⟨m.enc a, v, clock⟩ := by
      apply Array.ext'
      rw [Array.toList_modify, Array.toList_push, Array.toList_push, ← Array.length_toList, Go.WideElems.modify_last]
    obtain ⟨w', hrun', hI, _⟩ := h0.store hn ha v
    rw [r2 v] at hrun'
    cases hrun'
    exact ⟨_, by simp [Instr.entryStore, MapKept.run_getObj_map hw2, asInt, asIntOf, goInt, hidx, hmod, MapKept.run_setObj_map _ hw2, Result.andThen]; rfl, hI.same hb (heap_setBlock_same hw2 _), grown_setBlock hw2 _⟩
  · have hj : es[j]? = some e0 := by simpa using h2
    have hsame : es.modify j (fun e => { e with key := m.enc a }) = es := by
      apply Array.ext'
      rw [Array.toList_modify, Go.ChangeMaps.modify_eq_set _ _ _ _ h2]
      have : ({ e0 with key := m.enc a } : MapEntry) = e0 := by rw [← h3]
      rw [this]
      exact Go.WideElems.set_self _ _ _ h2
    have r1 : (Instr.mapEntry m.t (.map (some b)) (m.enc a)).run P w = .ok (.tuple #[e0.val, goInt e0.born]) (setBlock w b (.map es clock)) := by
      simp [Instr.mapEntry, run_underlying m.ht, MapKept.run_getObj_map hb, m.law.check w false hk, h1, hj, h3, m.law.stays w hk, hsame, MapKept.run_setObj_map _ hb, Result.andThen, setBlock]
    have r2 : ∀ v, (Instr.mapUpdate m.t (.map (some b)) (m.enc a) v).run P w = .ok () (setBlock w b (.map (es.modify j (fun e' => { e' with key := m.enc a, val := v })) clock)) := fun v => by
      simp [Instr.mapUpdate, run_underlying m.ht, MapKept.run_getObj_map hb, m.law.check w false hk, h1, hj, h3, m.law.stays w hk, MapKept.run_setObj_map _ hb, Result.andThen, setBlock]
    have r3 : (Instr.lookup m.t (.map (some b)) (m.enc a) false).run P w = .ok e0.val w := by
      simp [Instr.lookup, run_underlying m.ht, MapKept.run_getObj_map hb, m.law.check w es.isEmpty hk, h1, Result.andThen]
    rw [r3] at hlr
    have e4 : e0.val = m.at f a := by injection hlr
    rw [e4] at r1
    have hw1 : (setBlock w b (.map es clock)).heap[b]? = some (.map es clock) := heap_setBlock_same hb _
    refine ⟨e0.born, _, r1, ⟨_, _, hw1⟩, grown_setBlock hb _, fun w2 v hg => ?_⟩
    have hw2 := hg.trans hw1
    have hidx : es.findIdx? (fun e => ((e.born : Nat) : Int) == ((e0.born : Nat) : Int)) = some j := by
      rw [Go.WideElems.findIdx_arr]
      exact Go.WideElems.findIdx_born s2 h2
    have hmod : es.modify j (fun e => { e with val := v }) = es.modify j (fun e' => { e' with key := m.enc a, val := v }) := by
      apply Array.ext'
      rw [Array.toList_modify, Array.toList_modify, Go.ChangeMaps.modify_eq_set _ _ _ _ h2, Go.ChangeMaps.modify_eq_set _ _ _ _ h2, ← h3]
    obtain ⟨w', hrun', hI, _⟩ := h0.store hn ha v
    rw [r2 v] at hrun'
    cases hrun'
    exact ⟨_, by simp [Instr.entryStore, MapKept.run_getObj_map hw2, asInt, asIntOf, goInt, hidx, hmod, MapKept.run_setObj_map _ hw2, Result.andThen]; rfl, hI.same hb (heap_setBlock_same hw2 _), grown_setBlock hw2 _⟩
end
section
variable {P : Program} {κ : Type} {m : Ty P κ} {b r N cnt : Nat} {f : κ → Option Value} {a : κ} {w w' : World}
/-- A range over a map under way: cnt entries are still to come. -/
def Rng (m : Ty P κ) (w : World) (b r N : Nat) (f : κ → Option Value) (cnt : Nat) : Prop :=
  ∃ (D : DataW Value) (left : Lit → Bool), w.ranges P m.k R b r N D left cnt ∧ ∀ a kl, keyOf P m.k (m.enc a) = some kl → (∀ z, D.atKey kl z = match f a with | some v => .held v | none => z)
theorem Is.range (h : Is m w b N f) : ∃ w', (Instr.range m.t (.map (some b))).run P w = .ok (.pointer (some ⟨w.heap.size, 0, none⟩)) w' ∧ Rng m w' b w.heap.size N f N ∧ Upd NoF w w' ∧ w'.heap.size = w.heap.size + 1 := by
  obtain ⟨D, hD, hT, hN, hf⟩ := h
  obtain ⟨w', hrun, hr, hg, hs⟩ := hD.range m.law m.ht
  rw [hN] at hr
  exact ⟨w', hrun, ⟨D, _, hr, fun a kl hk => (hf a kl hk).1⟩, Upd.grown hg (fun k hk => by cases hk), hs⟩
theorem Rng.kept (h : Rng m w b r N f cnt) (hb : w'.heap[b]? = w.heap[b]?) (hr : w'.heap[r]? = w.heap[r]?) : Rng m w' b r N f cnt := by
  obtain ⟨D, left, ⟨es, clock, since, seen, c0, h1, F, h2, h3, h4, rest⟩, hf⟩ := h
  exact ⟨D, left, ⟨es, clock, since, seen, c0, hb.trans h1, F, h2, h3, hr.trans h4, rest⟩, hf⟩
theorem Rng.upd {F : Nat → Prop} (h : Rng m w b r N f cnt) (hu : Upd F w w') (hF : ¬ F b) : Rng m w' b r N f cnt := by
  have h0 := h
  obtain ⟨D, left, ⟨es, clock, since, seen, c0, h1, F', h2, h3, h4, rest⟩, hf⟩ := h
  exact h0.kept (hu.block b (Array.getElem?_eq_some_iff.1 h1).1 (.inl hF)) (hu.block r (Array.getElem?_eq_some_iff.1 h4).1 (.inr (fun o ho => by rw [h4] at ho; cases ho; rfl)))
theorem Rng.left_eq (h : Rng m w b r N f cnt) : w.rangeLeft b r = cnt := by
  obtain ⟨D, left, hr, _⟩ := h
  exact hr.left_eq
/-- The step. -/
theorem Rng.next (h : Rng m w b r N f cnt) (ty : TypeId) :
    (cnt = 0 ∧ (Instr.next (.pointer (some ⟨r, 0, none⟩)) false ty).run P w = .ok (.tuple #[.bool false]) w) ∨
    ∃ a v w' cnt', m.ok a ∧ f a = some v ∧ (Instr.next (.pointer (some ⟨r, 0, none⟩)) false ty).run P w = .ok (.tuple #[.bool true, m.enc a, v]) w' ∧
      Rng m w' b r N f cnt' ∧ cnt' < cnt ∧ Bk r NoF w w' ∧ w'.heap.size = w.heap.size ∧ (Instr.entry (.pointer (some ⟨r, 0, none⟩))).run P w' = .ok (.tuple #[m.enc a, v]) w' := by
  obtain ⟨D, left, hr, hf⟩ := h
  have hr0 := hr
  rcases hr.next m.law ty with ⟨h0, _, hrun⟩ | ⟨key, v, kl, y, w', cnt', hk, hl, hv, hat, hrun, hr', hlt, hg, hs, hen⟩
  · exact .inl ⟨h0, hrun⟩
  · obtain ⟨a, rfl, ha⟩ := m.all _ _ hk
    have hy : y.1 = .held v := R_inv (d := y.1) (ps := y.2) hv
    have h1 := hf a kl hk
    have hfa : f a = some v := by
      cases hfa : f a with
      | none =>
        have e1 := (h1 .nil).symm.trans (hat .nil)
        rw [hfa, hy] at e1
        cases e1
      | some u =>
        have e1 := (h1 .nil).symm.trans (hat .nil)
        rw [hfa, hy] at e1
        cases e1
        rfl
    refine .inr ⟨a, v, w', cnt', ha, hfa, hrun, ⟨D, _, hr', hf⟩, hlt, ?_, hs, hen⟩
    obtain ⟨es, clock, since, seen, c0, _, _, _, _, h4, _⟩ := hr0
    refine ⟨hg.os, hg.tape, hg.output, hg.size, fun k hk _ hn => hg.block k hk (fun e => ?_)⟩
    cases e
    rcases hn with hn | hn
    · omega
    · exact hn (fun o ho => by rw [h4] at ho; cases ho; rfl)
end
section
variable {P : Program} {κ : Type} {m : Ty P κ} {b N : Nat} {f : κ → Option Value} {a : κ} {G : Nat → Prop} {w0 W : World} {L : List Obj}
/-- A map, as an object. -/
def mapO (m : Ty P κ) (b N : Nat) (f : κ → Option Value) : Obj where
  is W F := Is m W b N f ∧ F b
  keep h k := by
    obtain ⟨es, clock, hb⟩ := h.1.obj
    exact ⟨h.1.kept ((k.cells b _ h.2 hb rfl).trans hb.symm), h.2⟩
  mono h k := ⟨h.1, k b h.2⟩
  tight {W F} h := ⟨fun k => k = b, ⟨h.1, rfl⟩, fun k hk => by subst hk; exact ⟨h.2, h.1.lt⟩⟩
theorem mapIs (h : Sep G w0 W L) (i : Nat) (hi : L[i]? = some (mapO m b N f)) : Is m W b N f := by
  obtain ⟨F, h2, _⟩ := h.get i hi
  exact h2.1
theorem mapNew (m : Ty P κ) (h : Sep G w0 W L) : Sep G w0 (W.alloc (.map #[] 0)) (mapO m W.heap.size 0 (fun _ => none) :: L) :=
  h.push (Upd.alloc NoF W _) ⟨Is.made m W, Nat.le_refl _⟩
variable [DecidableEq κ]
theorem mapPut (h : Sep G w0 W L) (i : Nat) (hi : L[i]? = some (mapO m b N f)) (hn : N < maxLen) (ha : m.ok a) (v : Value) :
    ∃ W', (Instr.mapUpdate m.t (.map (some b)) (m.enc a) v).run P W = .ok () W' ∧ Sep G w0 W' (L.set i (mapO m b (putN f N a) (put f a v))) ∧ W.grownBy W' (some b) := by
  obtain ⟨F, h2, h3⟩ := h.step i hi
  obtain ⟨W', hrun, hI, hg⟩ := h2.1.store hn ha v
  exact ⟨W', hrun, h3 _ _ (Upd.mapped hg h2.2 h2.1.obj) ⟨hI, .inl h2.2⟩, hg⟩
theorem mapDel (h : Sep G w0 W L) (i : Nat) (hi : L[i]? = some (mapO m b N f)) (ha : m.ok a) (ty : TypeId) :
    ∃ W', (Builtin.delete_ #[m.t, m.k] ty #[.map (some b), m.enc a]).run P W = .ok (.tuple #[]) W' ∧ Sep G w0 W' (L.set i (mapO m b (delN f N a) (del f a))) ∧ W.grownBy W' (some b) := by
  obtain ⟨F, h2, h3⟩ := h.step i hi
  obtain ⟨W', hrun, hI, hg⟩ := h2.1.drop ha ty
  exact ⟨W', hrun, h3 _ _ (Upd.mapped hg h2.2 h2.1.obj) ⟨hI, .inl h2.2⟩, hg⟩
end
end Go.Proofs.Ytjgeflbhmhmjdaa.GM
set_option linter.unusedSimpArgs false
set_option linter.unusedVariables false
namespace Go.Proofs.Ytjgeflbhmhmjdaa.NR
open Go.RowKit
open BU (IsU words)
open PL (Cfg CC CV May)
open KA (Kp CIs OkA Uniq mayX mayK mayW wrL)
open DL (DS stampE beginE beginS endB openE endS failS overS)
/-- What the core had last, by blocks. -/
abbrev Hs : Type := Int → Option (Array Value)
def hD (f : Hs) (b : Int) : Array Value := (f b).getD TBlk.Z
def hU (f : Hs) (b : Int) (D : Array Value) : Hs := fun x => if x = b then some D else f x
def hV (f : Hs) : Int → Option Value := fun b => (f b).map Value.agg
def mapH : GM.Ty Try.prog Int := GM.ints 30 3 35 (.agg TBlk.Z) Try.underlying3 Try.underlying30 (fun w => agg_zero TBlk.infoZ w)
theorem hV_at (f : Hs) (b : Int) : mapH.at (hV f) b = .agg (hD f b) := by
  unfold GM.Ty.at hV hD
  cases f b <;> rfl
theorem hV_put (f : Hs) (b : Int) (D : Array Value) : GM.put (hV f) b (.agg D) = hV (hU f b D) := by
  funext x
  unfold GM.put hV hU
  by_cases e : x = b
  · rw [if_pos e, if_pos e]; rfl
  · rw [if_neg e, if_neg e]
theorem hV_nil : hV (fun _ => none) = fun _ => none := rfl
theorem hD_same (f : Hs) (b : Int) (D : Array Value) : hD (hU f b D) b = D := by unfold hD hU; rw [if_pos rfl]; rfl
theorem hD_other (f : Hs) {b x : Int} (D : Array Value) (h : x ≠ b) : hD (hU f b D) x = hD f x := by unfold hD hU; rw [if_neg h]
theorem idx_run {D : Array Value} {n : Nat} {v : Value} (hn : n < 16) (h : D[n]? = some v) (w : World) : (Instr.index BT (.agg D) (.int .i64 (n : Int))).run Try.prog w = .ok v w := by
  have hg := Try.isAgg31 w
  have hs := Try.sizeOf31 w
  have e1 : (asIntOf (.int .i64 (n : Int))).run Try.prog w = .ok (.i64, (n : Int)) w := rfl
  have hc : (0 : Int) ≤ (n : Int) ∧ (n : Int) < ((16 : Nat) : Int) := by omega
  unfold Instr.index
  simp only [Sem.run_bind, e1, Result.andThen_ok, run_underlying Try.underlying35, if_pos hc, hs, Int.toNat_natCast, Nat.mul_one]
  simp [part, hg, h]
structure Tell (p : Kp) (f : Hs) (S : Ns) : Prop where
  line : ∀ b l, lnO p S.A b = some l → l.D = hD f b
  back : ∀ b z, BK.findB S.zs b = some z → z.D = hD f b
  isU : ∀ b D, f b = some D → IsU D
theorem Tell.u {p : Kp} {f : Hs} {S : Ns} (t : Tell p f S) (b : Int) : IsU (hD f b) := by
  unfold hD
  cases h : f b with
  | none => exact isUZ
  | some D => exact t.isU b D h
structure TellN (f : Hs) (core : Int) (n : Nt) : Prop where
  isU : IsU n.D
  fit : MM.fit n.blk
  frm : n.frm = core
  too : n.too = -1
  has : n.has = true → n.D = hD f n.blk
structure Tells (f : Hs) (core : Int) (out : List Nt) : Prop where
  all : ∀ n ∈ out, TellN f core n
  len : out.length ≤ 2
theorem Tells.nil (f : Hs) (core : Int) : Tells f core [] := ⟨fun n hn => (by cases hn), (by show 0 ≤ 2; decide)⟩
section
variable {p : Kp} {S S' : Ns} {f : Hs}
theorem Tell.of (t : Tell p f S) (hl : ∀ b l, lnO p S'.A b = some l → ∃ l', lnO p S.A b = some l' ∧ l'.D = l.D) (hb : ∀ b z, BK.findB S'.zs b = some z → ∃ z', BK.findB S.zs b = some z' ∧ z'.D = z.D) : Tell p f S' :=
  ⟨fun b l h => (by obtain ⟨l', h1, h2⟩ := hl b l h; rw [← h2]; exact t.line b l' h1), fun b z h => (by obtain ⟨z', h1, h2⟩ := hb b z h; rw [← h2]; exact t.back b z' h1), t.isU⟩
theorem Tell.new (c : Cfg) (core : Int) (hf : p.Fits c) : Tell p (fun _ => none) (Ns.new c core) :=
  ⟨fun b l h => (by
    obtain ⟨_, h2, i, _, h3⟩ := lnO_at hf h
    rw [← h3] at h2
    cases h2), fun b z h => (by cases h), fun b D h => (by cases h)⟩
theorem Tell.drp (t : Tell p f S) (h : NV p S) (ho : S.Ok p) (b : Int) : Tell p f { S with A := p.drpA S.A b } := t.of (fun x l hx => by
  have hx : lnO p (p.drpA S.A b) x = some l := hx
  rw [lnO_drp ho.fits h.good h.uniq] at hx
  split at hx
  · cases hx
  · exact ⟨l, hx, rfl⟩) (fun x z hx => ⟨z, hx, rfl⟩)
theorem Tell.ask (t : Tell p f S) (h : NV p S) (ho : S.Ok p) (b : Int) (wr : Bool) : Tell p f (askR p S b wr).S ∧ Tells f S.core (askR p S b wr).out := by
  have hlen1 : ∀ n : Nt, [n].length ≤ 2 := fun n => by show 1 ≤ 2; decide
  have hask : ∀ S' : Ns, S'.core = S.core → (0 ≤ b ∧ b < S.data) → TellN f S.core (askN S' b wr) := fun S' hc hb => ⟨isUZ, data_fit ho hb, hc, rfl, fun h => by cases h⟩
  have keep : ∀ S1 : Ns, Tell p f S1 → ∀ out, Tell p f (askQ S1 out b wr).S := fun S1 t1 out => ⟨t1.line, t1.back, t1.isU⟩
  rcases ask_cases p S b wr with e | ⟨h0, e⟩ | ⟨h0, e⟩ | ⟨h0, e⟩ | ⟨hwa, hb, hbd, _, ⟨_, e⟩ | ⟨hg, _, e⟩ | ⟨hg, _, _, e⟩⟩ <;> rw [e]
  · exact ⟨t, Tells.nil _ _⟩
  · exact ⟨t, Tells.nil _ _⟩
  · exact ⟨t, Tells.nil _ _⟩
  · exact ⟨t, Tells.nil _ _⟩
  · exact ⟨keep S t [], fun n hn => (by
      obtain rfl : n = askN S b wr := by simpa [askQ] using hn
      exact hask S rfl hbd), hlen1 _⟩
  · exact ⟨keep _ (t.drp h ho _) [], fun n hn => (by
      obtain rfl : n = askN (goneS p S (p.gone S.A S.M b)) b wr := by simpa [askQ] using hn
      exact hask _ rfl hbd), hlen1 _⟩
  · obtain ⟨_, hln, _, hne⟩ := gone_at ho.fits h.good h.uniq hg
    have hgu := (gone_ok (p := p) (M := S.M) ho.okA b).isU
    have hgf := gone_fit h ho hg
    have hgD := t.line _ _ hln
    generalize p.gone S.A S.M b = g at *
    have t2 : Tell p f (goneS p (backS S g) g) := ⟨fun x l hx => (by
        have hx : lnO p (p.drpA S.A g.blk) x = some l := hx
        rw [lnO_drp ho.fits h.good h.uniq] at hx
        split at hx
        · cases hx
        · exact t.line x l hx), fun x z hx => (by
        have hx : BK.findB (BK.putS S.data S.c.backs S.zs g.blk g.D) x = some z := hx
        by_cases e : g.blk = x
        · by_cases he : BK.putE S.data S.c.backs S.zs g.blk = 0
          · rw [← e, find_put ho.inv (isU_N hgu) he] at hx
            cases hx
            rw [← e]; exact hgD
          · rw [BK.put_none he] at hx
            exact t.back x z hx
        · rw [BK.put_otherB ho.inv g.blk x e (isU_N hgu)] at hx
          exact t.back x z hx), t.isU⟩
    exact ⟨keep _ t2 _, fun n hn => (by
      rcases (by simpa [askQ] using hn : n = putN S g ∨ n = askN (goneS p (backS S g) g) b wr) with rfl | rfl
      · exact ⟨hgu, hgf, rfl, rfl, fun _ => hgD⟩
      · exact hask _ rfl hbd), by show 2 ≤ 2; decide⟩
theorem markS_A (S : Ns) (b : Int) (r q : Bool) : (markS S b r q).A = S.A ∧ (markS S b r q).zs = S.zs := by unfold markS; split <;> exact ⟨rfl, rfl⟩
theorem Tell.eq (t : Tell p f S) (hA : S'.A = S.A) (hz : S'.zs = S.zs) : Tell p f S' := t.of (fun b l h => ⟨l, by rw [← hA]; exact h, rfl⟩) (fun b z h => ⟨z, by rw [← hz]; exact h, rfl⟩)
theorem Tell.load (t : Tell p f S) (b w : Int) : Tell p f (loadS p S b w) := by
  unfold loadS
  split
  · exact t.eq (markS_A _ _ _ _).1 (markS_A _ _ _ _).2
  · exact t
theorem load_tells (t : Tell p f S) {b w : Int} (he : loadE p S b w = 0) : (0 ≤ w ∧ w < 16) ∧ loadX p S b w = wordZ (hD f b) w := by
  unfold loadX
  rw [if_pos he]
  unfold loadE at he
  split at he
  · rename_i hs
    split at he
    · rename_i hw
      refine ⟨hw, ?_⟩
      rw [place_lnO] at hs
      obtain ⟨l, hl⟩ := Option.isSome_iff_exists.1 hs
      rw [fnd_lnO, hl]
      show wordZ l.D w = _
      rw [t.line b l hl]
    · cases he
  · cases he
theorem wrE_cases {b w : Int} : (p.wrE S.A b w ≠ 0 ∧ ∀ z, p.wrA S.A b w z = S.A) ∨ (p.wrE S.A b w = 0 ∧ mayW w = true ∧ ∃ l, lnO p S.A b = some l ∧ l.st ≠ 1) := by
  unfold KA.Kp.wrE KA.Kp.wrA lnO
  cases hp : p.place S.A b with
  | none => exact .inl ⟨by show (4 : Int) ≠ 0; decide, fun _ => rfl⟩
  | some i =>
    cases hw : mayW w with
    | false => exact .inl ⟨by show (if false = true then _ else (5 : Int)) ≠ 0; rw [if_neg (by decide)]; decide, fun _ => (by show (if false = true then _ else S.A) = S.A; rw [if_neg (by decide)])⟩
    | true =>
      by_cases hs : (S.A i).st = 1
      · exact .inl ⟨by show (if true = true then (if (S.A i).st = 1 then (8 : Int) else 0) else 5) ≠ 0; rw [if_pos rfl, if_pos hs]; decide, fun z => (by show (if true = true then (if (S.A i).st = 1 then S.A else updL S.A i (wrL (S.A i) w z)) else S.A) = S.A; rw [if_pos rfl, if_pos hs])⟩
      · exact .inr ⟨by show (if true = true then (if (S.A i).st = 1 then (8 : Int) else 0) else 5) = 0; rw [if_pos rfl, if_neg hs], rfl, S.A i, rfl, hs⟩
theorem Tell.store0 (t : Tell p f S) {b w z : Int} (he : p.wrE S.A b w ≠ 0) : Tell p f (storeS p S b w z) := by
  rcases wrE_cases (p := p) (S := S) (b := b) (w := w) with ⟨_, h⟩ | ⟨h, _⟩
  · unfold storeS
    rw [if_neg he]
    exact t.eq (h z) rfl
  · exact absurd h he
theorem isU_set {D : Array Value} (h : IsU D) (i : Nat) (x : Int) : IsU (D.setIfInBounds i (.int .u32 x)) := ⟨by rw [Array.size_setIfInBounds]; exact h.1, fun u hu => by
  rcases Array.mem_or_eq_of_mem_setIfInBounds hu with h2 | h2
  · exact h.2 u h2
  · exact ⟨x, h2⟩⟩
theorem Tell.store1 (t : Tell p f S) (h : NV p S) (ho : S.Ok p) {b w : Int} (z : Int) (he : p.wrE S.A b w = 0) : Tell p (hU f b ((hD f b).setIfInBounds w.toNat (.int .u32 z))) (storeS p S b w z) := by
  rcases wrE_cases (p := p) (S := S) (b := b) (w := w) with ⟨h1, _⟩ | ⟨_, hw, l, hl, hs⟩
  · exact absurd he h1
  have hA : (storeS p S b w z).A = p.wrA S.A b w z := by unfold storeS; rw [if_pos he]; exact (markS_A _ _ _ _).1
  have hz : (storeS p S b w z).zs = S.zs := by unfold storeS; rw [if_pos he]; exact (markS_A _ _ _ _).2
  refine ⟨fun x m hm => ?_, fun x y hy => ?_, fun x D hx => ?_⟩
  · rw [hA, lnO_wr ho.fits h.good h.uniq] at hm
    by_cases e : x = b
    · rw [if_pos e, hl] at hm
      obtain rfl : wroteL l w z = m := by simpa using hm
      rw [e, hD_same]
      unfold wroteL
      rw [hw, if_pos rfl, if_neg hs]
      show l.D.setIfInBounds w.toNat (.int .u32 z) = _
      rw [t.line b l hl]
    · rw [if_neg e] at hm
      rw [hD_other _ _ e]
      exact t.line x m hm
  · rw [hz] at hy
    by_cases e : x = b
    · have := h.apart b (by rw [bkI_find, ← e, hy]; rfl)
      rw [hl] at this; cases this
    · rw [hD_other _ _ e]; exact t.back x y hy
  · unfold hU at hx
    split at hx
    · cases hx; exact isU_set (t.u b) _ _
    · exact t.isU x D hx
theorem Tell.kill (t : Tell p f S) (ho : S.Ok p) (b : Int) : Tell p f { S with zs := BK.killS S.zs b } := t.of (fun x l hx => ⟨l, hx, rfl⟩) (fun x z hx => by
  have hx : BK.findB (BK.killS S.zs b) x = some z := hx
  by_cases e : b = x
  · rw [← e, find_kill ho.inv] at hx
    cases hf : BK.findB S.zs b with
    | none => rw [hf] at hx; cases hx
    | some y => rw [hf] at hx; cases hx; exact ⟨y, by rw [← e]; exact hf, rfl⟩
  · rw [BK.kill_otherB ho.inv b x e] at hx; exact ⟨z, hx, rfl⟩)
theorem Tell.drop (t : Tell p f S) (ho : S.Ok p) (b : Int) : Tell p f { S with zs := BK.dropS S.zs b } := t.of (fun x l hx => ⟨l, hx, rfl⟩) (fun x z hx => by
  have hx : BK.findB (BK.dropS S.zs b) x = some z := hx
  by_cases e : b = x
  · rw [← e, find_drop ho.inv] at hx; cases hx
  · rw [BK.drop_otherB ho.inv b x e] at hx; exact ⟨z, hx, rfl⟩)
theorem trnL_D (l : Ln) (s : Int) : (trnL l s).D = l.D := by unfold trnL; split <;> rfl
theorem Tell.asked2 (t : Tell p f S) (h : NV p S) (ho : S.Ok p) (n : Nt) : Tell p f (askedS2 p S n) := by
  have tk := t.kill ho n.blk
  refine ⟨fun x l hx => ?_, tk.back, tk.isU⟩
  have hx : lnO p (askedA p S n) x = some l := hx
  unfold askedA at hx
  split at hx
  · rw [lnO_drp ho.fits h.good h.uniq] at hx
    split at hx
    · cases hx
    · exact t.line x l hx
  · split at hx
    · rw [lnO_trn ho.fits h.good h.uniq] at hx
      split at hx
      · rename_i e
        cases hl : lnO p S.A n.blk with
        | none => rw [hl] at hx; cases hx
        | some l' =>
          rw [hl] at hx
          obtain rfl : trnL l' 1 = l := by simpa using hx
          rw [trnL_D, e]; exact t.line n.blk l' hl
      · exact t.line x l hx
    · exact t.line x l hx
theorem ack_tells (t : Tell p f S) {n : Nt} (hfit : MM.fit n.blk) (ho : S.Ok p) : TellN f S.core (ackN2 p S n) := by
  have h1 : TellN f S.core (ackN1 p S n) := by
    unfold ackN1
    split
    · rename_i hc
      simp only [Bool.and_eq_true] at hc
      have hs := hc.1
      rw [place_lnO] at hs
      obtain ⟨l, hl⟩ := Option.isSome_iff_exists.1 hs
      have hD' : (p.fnd S.A n.blk).D = hD f n.blk := by rw [fnd_lnO, hl]; exact t.line _ l hl
      exact ⟨(KA.fnd_ok (p := p) ho.okA n.blk).isU, hfit, rfl, rfl, fun _ => hD'⟩
    · exact ⟨isUZ, hfit, rfl, rfl, fun h => by cases h⟩
  unfold ackN2
  split
  · rename_i hl
    have hb : (ackN1 p S n).blk = n.blk := by unfold ackN1; split <;> rfl
    have hD' : bkD S.zs n.blk = hD f n.blk := by
      unfold bkL at hl
      unfold bkD
      cases hf : BK.findB S.zs n.blk with
      | none => rw [hf] at hl; cases hl
      | some z => exact t.back _ z hf
    exact ⟨bkD_isU ho.allU n.blk, h1.fit, h1.frm, h1.too, fun _ => by show bkD S.zs n.blk = hD f (ackN1 p S n).blk; rw [hb]; exact hD'⟩
  · exact h1
theorem Tell.take (t : Tell p f S) (h : NV p S) (ho : S.Ok p) (hc : 0 ≤ S.core) {n : Nt} (hn : n.Ok) {g : Hs} (hg : g = if (takeR p S n).e = 0 ∧ n.kind = 6 then hU f n.blk n.D else f) :
    Tell p g (takeR p S n).S ∧ Tells g S.core (takeR p S n).out := by
  have hlen1 : ∀ n : Nt, [n].length ≤ 2 := fun n => by show 1 ≤ 2; decide
  rcases take_cases p S n with ⟨_, e⟩ | ⟨hf, hk, e⟩ | ⟨_, hk, e⟩ | ⟨_, hk, e⟩ | ⟨hf, h6, h7, h8, e⟩ <;> rw [e] at hg ⊢
  · obtain rfl : g = f := by rw [hg, if_neg (fun h => by have h : (2 : Int) = 0 := h.1; cases h)]
    exact ⟨t, Tells.nil _ _⟩
  · have hfit := (fits_at hf hc).2.1
    show Tell p g (dataS p S n) ∧ Tells g S.core (dataO p S n)
    have hg : g = if dataE p S n = 0 ∧ n.kind = 6 then hU f n.blk n.D else f := hg
    unfold dataS dataO
    unfold dataE at hg
    cases hd : dataB S n with
    | false =>
      rw [hd] at hg
      obtain rfl : g = f := by rw [hg, if_neg (fun h => by have h : (8 : Int) = 0 := h.1; cases h)]
      exact ⟨t, Tells.nil _ _⟩
    | true =>
      rw [hd] at hg
      obtain ⟨h1, h2, _⟩ := dataB_at hd
      have hno := h.wait h1
      rw [h2] at hno
      by_cases he : p.putE S.A (lineOf n) = 0
      · have hg : g = hU f n.blk n.D := by rw [hg]; exact if_pos ⟨he, hk⟩
        subst hg
        rw [if_pos rfl, if_pos he, he]
        refine ⟨⟨fun x l hx => ?_, fun x z hx => ?_, fun x D hx => ?_⟩, fun m hm => ?_, hlen1 _⟩
        · have hx : lnO p (p.putA S.A (lineOf n)) x = some l := hx
          rw [lnO_put ho.fits h.good h.uniq he] at hx
          split at hx
          · rename_i e2
            cases hx
            have e2 : x = n.blk := e2
            rw [e2, hD_same]; rfl
          · rename_i e2
            have e2 : ¬ x = n.blk := e2
            rw [hD_other _ _ e2]; exact t.line x l hx
        · have hx : BK.findB S.zs x = some z := hx
          have e2 : x ≠ n.blk := fun e2 => by rw [bkI_find, ← e2, hx] at hno; cases hno
          rw [hD_other _ _ e2]; exact t.back x z hx
        · unfold hU at hx
          split at hx
          · cases hx; exact hn.isU
          · exact t.isU x D hx
        · obtain rfl : m = noteP S 11 n.blk := by simpa using hm
          exact ⟨isUZ, hfit, rfl, rfl, fun h => by cases h⟩
      · have hg : g = f := by rw [hg]; exact if_neg (fun h => he h.1)
        subst hg
        have hA : p.putA S.A (lineOf n) = S.A := by
          rcases putE_cases (p := p) (A := S.A) (lineOf n) with ⟨h0, _⟩ | ⟨_, h0, _⟩
          · exact absurd h0 he
          · exact h0
        rw [if_pos rfl, if_neg he, hA]
        have : (p.putE S.A (lineOf n) == 0) = false := by simpa using he
        rw [this]
        exact ⟨⟨t.line, t.back, t.isU⟩, Tells.nil _ _⟩
  · obtain rfl : g = f := by rw [hg, if_neg (fun h => by omega)]
    refine ⟨?_, Tells.nil _ _⟩
    show Tell p g (nackS S n)
    unfold nackS
    split
    · exact ⟨t.line, t.back, t.isU⟩
    · exact t
  · obtain rfl : g = f := by rw [hg, if_neg (fun h => by omega)]
    exact ⟨t.drop ho n.blk, Tells.nil _ _⟩
  · obtain rfl : g = f := by rw [hg, if_neg (fun h => h6 h.2)]
    obtain ⟨hk, hfit, _, _⟩ := fits_at hf hc
    have t1 : Tell p g (askedS1 S n) := ⟨t.line, t.back, t.isU⟩
    unfold askedR
    split
    · exact ⟨t1, fun m hm => (by
        obtain rfl : m = refuseN S n := by simpa using hm
        exact ⟨isUZ, hfit, rfl, rfl, fun h => by cases h⟩), hlen1 _⟩
    · exact ⟨t1.asked2 (h.asked1 n) (ho.asked1 n) n, fun m hm => (by
        obtain rfl : m = ackN2 p (askedS1 S n) n := by simpa using hm
        exact ack_tells t1 hfit (ho.asked1 n)), hlen1 _⟩
/-- A block is never in the cache and among the backs at one time. -/
theorem NV.never (h : NV p S) (b : Int) : ((p.place S.A b).isSome && bkI S.zs b) = false := by
  cases hb : bkI S.zs b with
  | false => simp
  | true => rw [place_lnO, h.apart b hb]; rfl
theorem askR_c (p : Kp) (S : Ns) (b : Int) (wr : Bool) : (askR p S b wr).S.c = S.c := by
  rcases ask_cases p S b wr with e | ⟨_, e⟩ | ⟨_, e⟩ | ⟨_, e⟩ | ⟨hwa, hb, _, _, ⟨_, e⟩ | ⟨hg, _, e⟩ | ⟨hg, _, _, e⟩⟩ <;> rw [e] <;> rfl
theorem takeR_c (p : Kp) (S : Ns) (n : Nt) : (takeR p S n).S.c = S.c := by
  rcases take_cases p S n with ⟨_, e⟩ | ⟨hf, hk, e⟩ | ⟨_, _, e⟩ | ⟨_, _, e⟩ | ⟨hf, h6, h7, h8, e⟩ <;> rw [e]
  · show (dataS p S n).c = S.c
    unfold dataS
    split
    · split <;> rfl
    · rfl
  · show (nackS S n).c = S.c
    unfold nackS
    split <;> rfl
  · rfl
  · unfold askedR
    split <;> rfl
theorem markS_c (S : Ns) (b : Int) (r q : Bool) : (markS S b r q).c = S.c := by unfold markS; split <;> rfl
theorem loadS_c (p : Kp) (S : Ns) (b w : Int) : (loadS p S b w).c = S.c := by
  unfold loadS
  split
  · exact markS_c _ _ _ _
  · rfl
theorem storeS_c (p : Kp) (S : Ns) (b w z : Int) : (storeS p S b w z).c = S.c := by
  unfold storeS
  split
  · exact markS_c _ _ _ _
  · rfl
end
end Go.Proofs.Ytjgeflbhmhmjdaa.NR
