/- A map from numbers to marks that the call makes: what it says, and what it comes to say. -/
import Derived.Test.YtjgeflbhmhmjdaaGreatSep
import Derived.Maps.Own
import Derived.Maps.Views
import Derived.Lib.SlKeysI
import Derived.Maps.OwnSet
import Derived.Maps.Range
set_option linter.unusedSimpArgs false
set_option linter.unusedVariables false
namespace Go.Proofs.YtjgeflbhmhmjdaaGreat.MM
open Go.RowKit
open Go.Maps (atKey_put_same atKey_put_other)
open Go.ChangeMaps (setBlock heap_setBlock_same heap_setBlock_other)

abbrev KT : TypeId := 3
abbrev MT : TypeId := 143
abbrev ET : TypeId := 151
abbrev mk (m : Bool × Bool) : Value := .agg #[.bool m.1, .bool m.2]
def fit (a : Int) : Prop := (Lit.int .i64 a).wf = true
def code (m : Bool × Bool) : Int := (if m.1 then 2 else 0) + (if m.2 then 1 else 0)
theorem code_inj {m m' : Bool × Bool} (h : code m = code m') : m = m' := by
  obtain ⟨a, b⟩ := m
  obtain ⟨c, d⟩ := m'
  revert h
  cases a <;> cases b <;> cases c <;> cases d <;> simp [code]
def R : Value → Option (DataW Unit × List MemPlace)
  | .agg ⟨[.bool a, .bool b]⟩ => some (.lit (.int .i64 (code (a, b))), [])
  | _ => none
theorem R_mk (m : Bool × Bool) : R (mk m) = some (.lit (.int .i64 (code m)), []) := rfl
theorem R_inv {v : Value} {m : Bool × Bool} {ps : List MemPlace} (h : R v = some (.lit (.int .i64 (code m)), ps)) : v = mk m := by
  unfold R at h
  split at h
  · rename_i a b
    simp only [Option.some.injEq, Prod.mk.injEq, DataW.lit.injEq, Lit.int.injEq, true_and] at h
    have := code_inj h.1
    rw [← this]
  · cases h
theorem law : Go.Maps.Keyed Tryz.prog KT := Go.Maps.int_keyed Tryz.underlying3
theorem keyOf_key {a : Int} (ha : fit a) : keyOf Tryz.prog KT (.int .i64 a) = some (.int .i64 a) := Go.Maps.keyOf_int_mk Tryz.underlying3 ha
theorem zeroE (w : World) : (zeroValue ET).run Tryz.prog w = .ok (mk (false, false)) w := by kernel_rfl
def Is (w : World) (b n : Nat) (f : Int → Bool × Bool) : Prop :=
  ∃ D : DataW Unit, w.ownsMap Tryz.prog KT R b n D ∧ Go.Maps.IsMap D ∧ (∀ a, fit a → D.atKey (.int .i64 a) (.lit (.int .i64 0)) = .lit (.int .i64 (code (f a)))) ∧ ∀ a, Go.Maps.has D (.int .i64 a) = ((f a).1 || (f a).2)
theorem Is.kept {w w' : World} {b n : Nat} {f : Int → Bool × Bool} (h : Is w b n f) (hg : w'.heap[b]? = w.heap[b]?) : Is w' b n f := by
  obtain ⟨D, ⟨es, clock, hb, F, hs, hD⟩, r⟩ := h
  exact ⟨D, ⟨es, clock, hg.trans hb, F, hs, hD⟩, r⟩
theorem Is.lt {w : World} {b n : Nat} {f : Int → Bool × Bool} (h : Is w b n f) : b < w.heap.size := by
  obtain ⟨D, hD, _⟩ := h
  exact hD.lt
theorem Is.mono {w : World} {b n m : Nat} {f : Int → Bool × Bool} (h : Is w b n f) (hm : n ≤ m) : Is w b m f := by
  obtain ⟨D, hD, r⟩ := h
  exact ⟨D, hD.mono hm, r⟩
theorem Is.made (w : World) : Is (w.alloc (.map #[] 0)) w.heap.size 0 (fun _ => (false, false)) :=
  ⟨_, World.ownsMap_made w _ _ _, ⟨[], rfl⟩, fun _ _ => rfl, fun _ => rfl⟩
theorem Is.look {w : World} {b n : Nat} {f : Int → Bool × Bool} (h : Is w b n f) {a : Int} (ha : fit a) :
    (Instr.lookup MT (.map (some b)) (.int .i64 a) false).run Tryz.prog w = .ok (mk (f a)) w := by
  obtain ⟨D, hD, _, hf, _⟩ := h
  obtain ⟨v, ps, hrun, hv⟩ := hD.lookup law Tryz.underlying143 (zeroE w) (R_mk (false, false)) (keyOf_key ha)
  rw [show code (false, false) = 0 from rfl, hf a ha] at hv
  rw [hrun, R_inv hv]
def put (f : Int → Bool × Bool) (a : Int) (m : Bool × Bool) : Int → Bool × Bool := fun x => if x = a then m else f x
theorem Is.store {w : World} {b n : Nat} {f : Int → Bool × Bool} (h : Is w b n f) (hn : n < maxLen) {a : Int} (ha : fit a) (m : Bool × Bool) (hm : (m.1 || m.2) = true) :
    ∃ w', (Instr.mapUpdate MT (.map (some b)) (.int .i64 a) (mk m)).run Tryz.prog w = .ok () w' ∧ Is w' b (n + 1) (put f a m) ∧ w.grownBy w' (some b) := by
  obtain ⟨D, hD, hM, hf, hh⟩ := h
  have hk := keyOf_key ha
  obtain ⟨w', hrun, hD', hg⟩ := hD.update law Tryz.underlying143 hn hk (R_mk m)
  refine ⟨w', hrun, ⟨_, hD', ?_, fun x hx => ?_, fun x => ?_⟩, hg⟩
  · obtain ⟨es, rfl⟩ := hM; exact ⟨_, rfl⟩
  · unfold put
    by_cases e : x = a
    · subst e
      rw [if_pos rfl]
      exact atKey_put_same hM (law.key hk) _ _
    · rw [if_neg e, atKey_put_other (fun e2 => e (by cases e2; rfl)), hf x hx]
  · unfold put
    by_cases e : x = a
    · subst e
      rw [if_pos rfl, Go.Maps.has_put_same hM (law.key hk), hm]
    · rw [if_neg e, Go.Maps.has_put_other (fun e2 => e (by cases e2; rfl)), hh x]
theorem Is.clear {w : World} {b n : Nat} {f : Int → Bool × Bool} (h : Is w b n f) (ty : TypeId) :
    ∃ w', (Builtin.clear_ #[MT] ty #[.map (some b)]).run Tryz.prog w = .ok (.tuple #[]) w' ∧ Is w' b 0 (fun _ => (false, false)) ∧ w.grownBy w' (some b) := by
  obtain ⟨D, ⟨es, clock, hb, F, _, _⟩, _⟩ := h
  refine ⟨setBlock w b (.map #[] clock), ?_, ?_, ⟨rfl, rfl, rfl, by simp [setBlock], fun i _ hi => heap_setBlock_other hb _ (fun e => hi (by rw [e]))⟩⟩
  · simp [Builtin.clear_, run_underlying Tryz.underlying143, MapKept.run_getObj_map hb, MapKept.run_setObj_map _ hb, Result.andThen, setBlock]
  · exact ⟨.map [], ⟨#[], clock, heap_setBlock_same hb _, ⟨by simp, MapKept.stamped_empty clock, by simp⟩, Nat.le_refl _, rfl⟩, ⟨[], rfl⟩, fun _ _ => rfl, fun _ => rfl⟩
end Go.Proofs.YtjgeflbhmhmjdaaGreat.MM
