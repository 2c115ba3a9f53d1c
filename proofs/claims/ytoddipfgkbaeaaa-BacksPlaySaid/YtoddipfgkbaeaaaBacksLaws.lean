/- Backs: what an operation about one block does to what is found of a block (plain laws on lists). -/
import Derived.Test.YtoddipfgkbaeaaaBacksDo
set_option linter.unusedSimpArgs false
set_option linter.unusedVariables false
namespace Go.Proofs.Ytoddipfgkbaeaaa.BK
open Go.RowKit

section
variable {data room : Int} {zs : List Bk}
theorem find_some_iff (h : Inv data room zs) {b : Int} {z : Bk} : findB zs b = some z ↔ z ∈ zs ∧ z.blk = b := by
  constructor
  · intro hf
    obtain ⟨i, _, h2, h3⟩ := find_of hf
    exact ⟨List.mem_of_getElem? h2, h3⟩
  · rintro ⟨hm, hb⟩
    cases hf : findB zs b with
    | none => exact absurd hb ((ix_none (find_none_of hf)).2 z hm)
    | some y =>
      obtain ⟨i, _, h2, h3⟩ := find_of hf
      obtain ⟨j, hj⟩ := List.mem_iff_getElem?.1 hm
      have := h.apart i j y z h2 hj (by rw [h3, hb])
      subst this
      rw [h2] at hj
      exact hj
theorem find_none_iff {b : Int} : findB zs b = none ↔ ∀ z ∈ zs, z.blk ≠ b := by
  constructor
  · intro hf
    exact (ix_none (find_none_of hf)).2
  · intro hn
    cases hf : findB zs b with
    | none => rfl
    | some y =>
      obtain ⟨i, _, h2, h3⟩ := find_of hf
      exact absurd h3 (hn y (List.mem_of_getElem? h2))
theorem find_congr {xs ys : List Bk} (hx : Inv data room xs) (hy : Inv data room ys) {b : Int} (h : ∀ z : Bk, z.blk = b → (z ∈ xs ↔ z ∈ ys)) : findB xs b = findB ys b := by
  cases hf : findB xs b with
  | none =>
    refine (find_none_iff.2 fun z hz hb => ?_).symm
    exact find_none_iff.1 hf z ((h z hb).2 hz) hb
  | some z =>
    obtain ⟨h1, h2⟩ := (find_some_iff hx).1 hf
    exact ((find_some_iff hy).2 ⟨(h z h2).1 h1, h2⟩).symm
theorem findV_congr {xs ys : List Bk} {b : Int} (h : findB xs b = findB ys b) : findV xs b = findV ys b := by unfold findV; rw [h]
theorem mem_drop_iff (h : Inv data room zs) (c : Int) (z : Bk) : z ∈ dropS zs c ↔ z ∈ zs ∧ z.blk ≠ c := by
  constructor
  · intro hz
    refine ⟨?_, dropS_not h c z hz⟩
    unfold dropS at hz
    cases hx : ixB zs c with
    | none => rw [hx] at hz; exact hz
    | some i => rw [hx] at hz; exact List.mem_of_mem_eraseIdx hz
  · rintro ⟨hz, hn⟩
    unfold dropS
    cases hx : ixB zs c with
    | none => exact hz
    | some i =>
      obtain ⟨_, y, hy, hb⟩ := ix_some hx
      refine List.mem_eraseIdx_iff_getElem?.2 ?_
      obtain ⟨j, hj⟩ := List.mem_iff_getElem?.1 hz
      exact ⟨j, fun e => by subst e; rw [hy] at hj; cases hj; exact hn hb, hj⟩
theorem put_otherB (h : Inv data room zs) (c b : Int) (hne : c ≠ b) {D : Array Value} (hD : IsN 16 D) : findB (putS data room zs c D) b = findB zs b := by
  refine (find_congr (h.put c hD) h fun z hz => ?_)
  unfold putS
  split
  · rw [List.mem_append]
    constructor
    · rintro (hm | hm)
      · exact hm
      · simp at hm; subst hm; exact absurd hz hne
    · exact .inl
  · exact Iff.rfl
theorem put_other (h : Inv data room zs) (c b : Int) (hne : c ≠ b) {D : Array Value} (hD : IsN 16 D) : findV (putS data room zs c D) b = findV zs b := by
  refine findV_congr (find_congr (h.put c hD) h fun z hz => ?_)
  unfold putS
  split
  · rw [List.mem_append]
    constructor
    · rintro (hm | hm)
      · exact hm
      · simp at hm; subst hm; exact absurd hz hne
    · exact .inl
  · exact Iff.rfl
theorem kill_otherB (h : Inv data room zs) (c b : Int) (hne : c ≠ b) : findB (killS zs c) b = findB zs b := by
  refine (find_congr (h.kill c) h fun z hz => ?_)
  unfold killS
  cases hx : findB zs c with
  | none => exact Iff.rfl
  | some y =>
    show z ∈ (if y.live then dropS zs c ++ [⟨c, y.D, false⟩] else zs) ↔ z ∈ zs
    split
    · rw [List.mem_append, mem_drop_iff h]
      constructor
      · rintro (hm | hm)
        · exact hm.1
        · simp at hm; subst hm; exact absurd hz hne
      · intro hm; exact .inl ⟨hm, fun e => hne (by rw [← e, hz])⟩
    · exact Iff.rfl
theorem kill_other (h : Inv data room zs) (c b : Int) (hne : c ≠ b) : findV (killS zs c) b = findV zs b := by
  refine findV_congr (find_congr (h.kill c) h fun z hz => ?_)
  unfold killS
  cases hx : findB zs c with
  | none => exact Iff.rfl
  | some y =>
    show z ∈ (if y.live then dropS zs c ++ [⟨c, y.D, false⟩] else zs) ↔ z ∈ zs
    split
    · rw [List.mem_append, mem_drop_iff h]
      constructor
      · rintro (hm | hm)
        · exact hm.1
        · simp at hm; subst hm; exact absurd hz hne
      · intro hm; exact .inl ⟨hm, fun e => hne (by rw [← e, hz])⟩
    · exact Iff.rfl
theorem drop_otherB (h : Inv data room zs) (c b : Int) (hne : c ≠ b) : findB (dropS zs c) b = findB zs b := by
  refine (find_congr (h.drop c) h fun z hz => ?_)
  rw [mem_drop_iff h]
  exact ⟨fun hm => hm.1, fun hm => ⟨hm, fun e => hne (by rw [← e, hz])⟩⟩
theorem drop_other (h : Inv data room zs) (c b : Int) (hne : c ≠ b) : findV (dropS zs c) b = findV zs b := by
  refine findV_congr (find_congr (h.drop c) h fun z hz => ?_)
  rw [mem_drop_iff h]
  exact ⟨fun hm => hm.1, fun hm => ⟨hm, fun e => hne (by rw [← e, hz])⟩⟩
theorem drop_same (h : Inv data room zs) (b : Int) : findV (dropS zs b) b = .tuple #[.agg TBlk.Z, .bool false, .bool false] := by
  unfold findV
  rw [find_none_iff.2 (fun z hz => dropS_not h b z hz)]
theorem put_same (h : Inv data room zs) (b : Int) {D : Array Value} (hD : IsN 16 D) (he : putE data room zs b = 0) : findV (putS data room zs b D) b = .tuple #[.agg D, .bool true, .bool true] := by
  unfold findV
  have hm : (⟨b, D, true⟩ : Bk) ∈ putS data room zs b D := by unfold putS; rw [if_pos he]; simp
  rw [(find_some_iff (h.put b hD)).2 ⟨hm, rfl⟩]
theorem put_none {b : Int} {D : Array Value} (he : putE data room zs b ≠ 0) : putS data room zs b D = zs := by unfold putS; rw [if_neg he]
theorem findV_split (zs : List Bk) (b : Int) : (findB zs b = none ∧ findV zs b = .tuple #[.agg TBlk.Z, .bool false, .bool false] ∧ killB zs b = false ∧ dropB zs b = false ∧ killS zs b = zs) ∨
    ∃ z, findB zs b = some z ∧ findV zs b = .tuple #[.agg z.D, .bool z.live, .bool true] ∧ killB zs b = z.live ∧ dropB zs b = true := by
  cases hf : findB zs b with
  | none => exact .inl ⟨rfl, by unfold findV; rw [hf], by unfold killB; rw [hf], by unfold dropB; rw [find_none_of hf]; rfl, by unfold killS; rw [hf]⟩
  | some z =>
    obtain ⟨i, h1, _, _⟩ := find_of hf
    exact .inr ⟨z, rfl, by unfold findV; rw [hf], by unfold killB; rw [hf], by unfold dropB; rw [h1]; rfl⟩
theorem kill_same (h : Inv data room zs) (b : Int) {z : Bk} (hf : findB zs b = some z) : findV (killS zs b) b = .tuple #[.agg z.D, .bool false, .bool true] := by
  cases hl : z.live with
  | false =>
    have e : killS zs b = zs := by unfold killS; rw [hf]; show (if z.live then _ else zs) = zs; rw [hl]; rfl
    rw [e]; unfold findV; rw [hf]; show Value.tuple #[.agg z.D, .bool z.live, .bool true] = _; rw [hl]
  | true =>
    have hm : (⟨b, z.D, false⟩ : Bk) ∈ killS zs b := by unfold killS; rw [hf]; show _ ∈ (if z.live then _ else zs); rw [hl, if_pos rfl]; simp
    unfold findV
    rw [(find_some_iff (h.kill b)).2 ⟨hm, rfl⟩]
theorem putE_there (h : Inv data room zs) {b : Int} {z : Bk} (hf : findB zs b = some z) : putE data room zs b = 8 := by
  obtain ⟨i, h1, h2, h3⟩ := find_of hf
  have := h.rng z (List.mem_of_getElem? h2)
  unfold putE
  rw [if_neg (by omega), h1]
  rfl
end
end Go.Proofs.Ytoddipfgkbaeaaa.BK
