/- Blocks of sixteen words, and when two of them are the same. -/
import Derived.Test.YtmfhbobjambgaaaAggBlock
import Derived.ChangeKeysEq
set_option linter.unusedSimpArgs false
set_option linter.unusedVariables false
namespace Go.Proofs.Ytmfhbobjambgaaa.BU
open Go.RowKit

theorem split16 {D : Array Value} (h : D.size = 16) : ∃ d0 d1 d2 d3 d4 d5 d6 d7 d8 d9 d10 d11 d12 d13 d14 d15, D = #[d0, d1, d2, d3, d4, d5, d6, d7, d8, d9, d10, d11, d12, d13, d14, d15] := by
  obtain ⟨l⟩ := D
  simp only [List.size_toArray] at h
  match l, h with
  | [d0, d1, d2, d3, d4, d5, d6, d7, d8, d9, d10, d11, d12, d13, d14, d15], _ => exact ⟨d0, d1, d2, d3, d4, d5, d6, d7, d8, d9, d10, d11, d12, d13, d14, d15, rfl⟩
/-- Sixteen words. -/
def IsU (D : Array Value) : Prop := D.size = 16 ∧ ∀ u ∈ D, ∃ n : Int, u = .int .u32 n
theorem IsU.isN {D : Array Value} (h : IsU D) : IsN 16 D := ⟨h.1, fun u hu => by obtain ⟨n, rfl⟩ := h.2 u hu; rfl⟩
theorem isU_Z : IsU TBlk.Z := ⟨TBlk.size_Z, fun u hu => by
  simp only [TBlk.Z, List.mem_toArray, List.mem_cons, List.not_mem_nil, or_false, or_self] at hu
  exact ⟨0, hu⟩⟩
/-- Its numbers. -/
def words (D : Array Value) : List Int := D.toList.map intOf
theorem words_inj {D E : Array Value} (hD : IsU D) (hE : IsU E) : words D = words E ↔ D = E := by
  refine ⟨fun h => ?_, fun h => by rw [h]⟩
  apply Array.toList_inj.1
  have key : ∀ (l m : List Value), (∀ u ∈ l, ∃ n : Int, u = .int .u32 n) → (∀ u ∈ m, ∃ n : Int, u = .int .u32 n) → l.map intOf = m.map intOf → l = m := by
    intro l
    induction l with
    | nil => intro m _ _ h; cases m <;> simp_all
    | cons x l ih =>
      intro m hl hm h
      cases m with
      | nil => simp at h
      | cons y m =>
        simp only [List.map_cons, List.cons.injEq] at h
        obtain ⟨a, rfl⟩ := hl x (by simp)
        obtain ⟨b, rfl⟩ := hm y (by simp)
        have hab : a = b := h.1
        rw [hab, ih m (fun u hu => hl u (by simp [hu])) (fun u hu => hm u (by simp [hu])) h.2]
  exact key _ _ (fun u hu => hD.2 u (by simpa using hu)) (fun u hu => hE.2 u (by simpa using hu)) h

theorem items_run {P : Program} {e : TypeId} (w : World) (d : Nat) (hu : P.underlying e = some (.int .u32)) (hg : (isAgg e).run P w = .ok false w) (xs ys : Array Value) : ∀ (is : List Nat),
    (∀ i ∈ is, ∃ a b : Int, xs[i]? = some (.int .u32 a) ∧ ys[i]? = some (.int .u32 b)) → (Op.eqItems (d + 1) e 1 xs ys is).run P w = .ok (is.all fun i => (xs[i]?.map intOf) == (ys[i]?.map intOf)) w
  | [], _ => rfl
  | i :: is, h => by
    obtain ⟨a, b, ha, hb⟩ := h i (by simp)
    have ih := items_run w d hu hg xs ys is (fun j hj => h j (by simp [hj]))
    have p1 : (part e xs (i * 1)).run P w = .ok (.int .u32 a) w := by simp [part, hg, ha]
    have p2 : (part e ys (i * 1)).run P w = .ok (.int .u32 b) w := by simp [part, hg, hb]
    simp only [Op.eqItems, Sem.run_bind, p1, p2, Result.andThen_ok, run_equalIn_int w d e .u32 .u32 a b hu, List.all_cons, ha, hb, Option.map_some]
    show (if (!(a == b)) = true then (pure false : Sem Bool) else Op.eqItems (d + 1) e 1 xs ys is).run P w = _
    have e1 : (some (intOf (Value.int .u32 a)) == some (intOf (Value.int .u32 b))) = (a == b) := by simp [intOf]
    rw [e1]
    cases hab : (a == b)
    · simp [Sem.run_pure]
    · simpa using ih

set_option maxRecDepth 100000 in
theorem eq_run {D E : Array Value} (hD : IsU D) (hE : IsU E) (d : Nat) (w : World) : (Op.equalIn (d + 2) 35 (.agg D) (.agg E)).run Try.prog w = .ok (words D == words E) w := by
  have hi : (Try.prog.info? 33).isSome = true := by kernel_rfl
  obtain ⟨i, hi⟩ := Option.isSome_iff_exists.1 hi
  have hc : Try.prog.cellsOf 33 = 1 := by kernel_rfl
  rw [run_equalIn_array (P := Try.prog) (w := w) (d + 1) D E Try.underlying35 hi, hc]
  rw [items_run w d Try.underlying33 (Try.isAgg33 w) D E _ (fun j hj => by
    rw [List.mem_range] at hj
    have hj1 : j < D.size := by have := hD.1; omega
    have hj2 : j < E.size := by have := hE.1; omega
    obtain ⟨a, ha⟩ := hD.2 D[j] (Array.getElem_mem hj1)
    obtain ⟨b, hb⟩ := hE.2 E[j] (Array.getElem_mem hj2)
    exact ⟨a, b, by rw [Array.getElem?_eq_getElem hj1, ha], by rw [Array.getElem?_eq_getElem hj2, hb]⟩)]
  congr 1
  rw [Bool.eq_iff_iff, List.all_eq_true]
  constructor
  · intro h
    refine beq_iff_eq.2 (List.ext_getElem? fun j => ?_)
    unfold words
    rw [List.getElem?_map, List.getElem?_map]
    by_cases hj : j < 16
    · have := h j (List.mem_range.2 hj)
      simpa using this
    · rw [List.getElem?_eq_none (by have := hD.1; simp; omega), List.getElem?_eq_none (by have := hE.1; simp; omega)]
  · intro h j hj
    have h := beq_iff_eq.1 h
    have := congrArg (fun l => l[j]?) h
    unfold words at this
    simp only [List.getElem?_map] at this
    simpa using this
end Go.Proofs.Ytmfhbobjambgaaa.BU
