/- Each operation of package backs as one function on the list of what is there. -/
import Derived.Test.YtoddipfgkbaeaaaBacksQ
set_option linter.unusedSimpArgs false
set_option linter.unusedVariables false
namespace Go.Proofs.Ytoddipfgkbaeaaa.BK
open Go.RowKit
open PL (Cfg CC CV May)

/-- What is there may be: no more than there is room for, of data blocks, no block twice. -/
structure Inv (data room : Int) (zs : List Bk) : Prop where
  few : (zs.length : Int) ≤ room
  rng : ∀ z ∈ zs, 0 ≤ z.blk ∧ z.blk < data
  apart : ∀ (i j : Nat) (y z : Bk), zs[i]? = some y → zs[j]? = some z → y.blk = z.blk → i = j
  isN : ∀ z ∈ zs, IsN 16 z.D

def ixB (zs : List Bk) (b : Int) : Option Nat := zs.findIdx? (fun z => z.blk == b)
def putE (data room : Int) (zs : List Bk) (b : Int) : Int := if b < 0 ∨ data ≤ b then 2 else if (ixB zs b).isSome then 8 else if room ≤ zs.length then 7 else 0
def putS (data room : Int) (zs : List Bk) (b : Int) (D : Array Value) : List Bk := if putE data room zs b = 0 then zs ++ [⟨b, D, true⟩] else zs
def findB (zs : List Bk) (b : Int) : Option Bk := match ixB zs b with | some i => zs[i]? | none => none
def dropB (zs : List Bk) (b : Int) : Bool := (ixB zs b).isSome
def dropS (zs : List Bk) (b : Int) : List Bk := match ixB zs b with | some i => zs.eraseIdx i | none => zs
def killB (zs : List Bk) (b : Int) : Bool := match findB zs b with | some z => z.live | none => false
def killS (zs : List Bk) (b : Int) : List Bk := match findB zs b with | some z => if z.live then dropS zs b ++ [⟨b, z.D, false⟩] else zs | none => zs
def findV (zs : List Bk) (b : Int) : Value := match findB zs b with | some z => .tuple #[.agg z.D, .bool z.live, .bool true] | none => .tuple #[.agg TBlk.Z, .bool false, .bool false]

theorem ix_none {zs : List Bk} {b : Int} (h : ixB zs b = none) : firstAt (fun z : Bk => z.blk == b) zs = -1 ∧ ∀ z ∈ zs, z.blk ≠ b := by
  unfold ixB at h
  refine ⟨by unfold firstAt; rw [h], fun z hz => ?_⟩
  have := List.findIdx?_eq_none_iff.1 h z hz
  simpa using this
theorem ix_some {zs : List Bk} {b : Int} {i : Nat} (h : ixB zs b = some i) : firstAt (fun z : Bk => z.blk == b) zs = i ∧ ∃ z, zs[i]? = some z ∧ z.blk = b := by
  unfold ixB at h
  refine ⟨by unfold firstAt; rw [h], ?_⟩
  obtain ⟨hl, hg, _⟩ := List.findIdx?_eq_some_iff_getElem.1 h
  exact ⟨zs[i], List.getElem?_eq_getElem hl, by simpa using hg⟩

theorem Inv.nil (data room : Int) (h : 0 ≤ room) : Inv data room [] := ⟨by simpa using h, fun z hz => (by cases hz), fun i j y z h => by simp at h, fun z hz => (by cases hz)⟩
theorem Inv.erase {data room : Int} {zs : List Bk} (h : Inv data room zs) (i : Nat) : Inv data room (zs.eraseIdx i) := by
  have key : ∀ (j : Nat) (y : Bk), (zs.eraseIdx i)[j]? = some y → zs[if j < i then j else j + 1]? = some y := fun j y hj => by
    rw [List.getElem?_eraseIdx] at hj
    split at hj <;> rename_i hlt
    · rw [if_pos hlt]; exact hj
    · rw [if_neg hlt]; exact hj
  refine ⟨by have := List.length_eraseIdx_le zs i; have := h.few; omega, fun z hz => h.rng z (List.mem_of_mem_eraseIdx hz), fun j k y z hj hk he => ?_, fun z hz => h.isN z (List.mem_of_mem_eraseIdx hz)⟩
  have := h.apart _ _ _ _ (key j y hj) (key k z hk) he
  split at this <;> split at this <;> omega
theorem Inv.push {data room : Int} {zs : List Bk} (h : Inv data room zs) (z : Bk) (h0 : (zs.length : Int) < room) (h1 : 0 ≤ z.blk ∧ z.blk < data) (h2 : ∀ y ∈ zs, y.blk ≠ z.blk) (h3 : IsN 16 z.D) : Inv data room (zs ++ [z]) := by
  have key : ∀ (j : Nat) (y : Bk), (zs ++ [z])[j]? = some y → (zs[j]? = some y) ∨ (j = zs.length ∧ y = z) := fun j y hj => by
    by_cases hlt : j < zs.length
    · rw [List.getElem?_append_left hlt] at hj; exact .inl hj
    · rw [List.getElem?_append_right (by omega)] at hj
      obtain ⟨hl, hy⟩ := List.getElem?_eq_some_iff.1 hj
      simp at hl hy
      exact .inr ⟨by omega, hy.symm⟩
  refine ⟨by rw [List.length_append]; simp only [List.length_cons, List.length_nil]; omega, fun y hy => ?_, fun i j y x hi hj he => ?_, fun y hy => ?_⟩
  · rcases List.mem_append.1 hy with hy | hy
    · exact h.rng y hy
    · simp at hy; exact hy ▸ h1
  · rcases key i y hi with k1 | ⟨k1, e1⟩ <;> rcases key j x hj with k2 | ⟨k2, e2⟩
    · exact h.apart i j y x k1 k2 he
    · exact absurd (e2 ▸ he) (h2 y (List.mem_of_getElem? k1))
    · exact absurd (e1 ▸ he).symm (h2 x (List.mem_of_getElem? k2))
    · omega
  · rcases List.mem_append.1 hy with hy | hy
    · exact h.isN y hy
    · simp at hy; exact hy ▸ h3
theorem Inv.put {data room : Int} {zs : List Bk} (h : Inv data room zs) (b : Int) {D : Array Value} (hD : IsN 16 D) : Inv data room (putS data room zs b D) := by
  unfold putS
  split
  · rename_i he
    unfold putE at he
    split at he
    · cases he
    · split at he
      · cases he
      · split at he
        · cases he
        · rename_i h1 h2 h3
          have hn : ixB zs b = none := by cases hx : ixB zs b <;> simp_all
          exact h.push ⟨b, D, true⟩ (by omega) ⟨by show 0 ≤ b; omega, by show b < data; omega⟩ (ix_none hn).2 hD
  · exact h
theorem Inv.drop {data room : Int} {zs : List Bk} (h : Inv data room zs) (b : Int) : Inv data room (dropS zs b) := by
  unfold dropS
  split
  · exact h.erase _
  · exact h
theorem dropS_not {data room : Int} {zs : List Bk} (h : Inv data room zs) (b : Int) : ∀ y ∈ dropS zs b, y.blk ≠ b := fun y hy he => by
  unfold dropS at hy
  cases hx : ixB zs b with
  | none => rw [hx] at hy; exact (ix_none hx).2 y hy he
  | some i =>
    rw [hx] at hy
    obtain ⟨_, z, hz, hzb⟩ := ix_some hx
    obtain ⟨j, hj⟩ := List.mem_iff_getElem?.1 hy
    rw [List.getElem?_eraseIdx] at hj
    split at hj
    · have := h.apart j i y z hj hz (by rw [he, hzb]); omega
    · have := h.apart (j + 1) i y z hj hz (by rw [he, hzb]); omega
theorem dropS_len {zs : List Bk} {b : Int} (h : (ixB zs b).isSome = true) : (dropS zs b).length + 1 = zs.length := by
  unfold dropS
  cases hx : ixB zs b with
  | none => rw [hx] at h; cases h
  | some i =>
    obtain ⟨_, z, hz, _⟩ := ix_some hx
    have := (List.getElem?_eq_some_iff.1 hz).1
    show (zs.eraseIdx i).length + 1 = zs.length
    rw [List.length_eraseIdx, if_pos this]; omega
theorem find_of {zs : List Bk} {b : Int} {z : Bk} (h : findB zs b = some z) : ∃ i, ixB zs b = some i ∧ zs[i]? = some z ∧ z.blk = b := by
  unfold findB at h
  cases hx : ixB zs b with
  | none => rw [hx] at h; cases h
  | some i =>
    rw [hx] at h
    obtain ⟨_, y, hy, hb⟩ := ix_some hx
    replace h : zs[i]? = some z := h
    rw [hy] at h; cases h
    exact ⟨i, rfl, hy, hb⟩
theorem find_none_of {zs : List Bk} {b : Int} (h : findB zs b = none) : ixB zs b = none := by
  unfold findB at h
  cases hx : ixB zs b with
  | none => rfl
  | some i =>
    rw [hx] at h
    obtain ⟨_, y, hy, hb⟩ := ix_some hx
    replace h : zs[i]? = none := h
    rw [hy] at h; cases h
theorem Inv.kill {data room : Int} {zs : List Bk} (h : Inv data room zs) (b : Int) : Inv data room (killS zs b) := by
  unfold killS
  cases hx : findB zs b with
  | none => exact h
  | some z =>
    obtain ⟨i, h1, h2, h3⟩ := find_of hx
    show Inv data room (if z.live then dropS zs b ++ [⟨b, z.D, false⟩] else zs)
    split
    · have hl := dropS_len (zs := zs) (b := b) (by rw [h1]; rfl)
      have hr := h.rng z (List.mem_of_getElem? h2)
      rw [h3] at hr
      exact (h.drop b).push ⟨b, z.D, false⟩ (by have := h.few; omega) hr (dropS_not h b) (h.isN z (List.mem_of_getElem? h2))
    · exact h

section
variable {G : Nat → Prop} {w0 W : World} {L : List Obj} {kb : Nat} {data room : Int} {zs : List Bk}
/-- A call that leaves the object as it is. -/
theorem Sep.readsS {P : Program} {Φ : Obj} (h : Sep G w0 W L) (i : Nat) (hi : L[i]? = some Φ) {f : FuncId} {args : Array Value} {E : Ending → Prop}
    (hc : ∀ F, Φ.is W F → Calls P f args W fun e W' => E e ∧ Upd NoF W W') : Calls P f args W fun e W' => E e ∧ Sep G w0 W' (L.set i Φ) := by
  have hs : L.set i Φ = L := by
    apply List.ext_getElem?
    intro j
    rw [List.getElem?_set]
    split
    · rename_i e; subst e
      rw [hi]
      have := (List.getElem?_eq_some_iff.1 hi).1
      simp [this]
    · rfl
  rw [hs]
  exact h.reads i hi hc
theorem s_put (h : Sep G w0 W L) (i : Nat) (hi : L[i]? = some (Bo kb data zs room)) (hv : Inv data room zs) (hr : room ≤ 65536) (b : Int) (D : Array Value) (hD : IsN 16 D) :
    Calls Try.prog 12 #[ptr kb, .int .i64 b, .agg D] W fun e W' => e = .returned (.int .i64 (putE data room zs b)) ∧ Sep G w0 W' (L.set i (Bo kb data (putS data room zs b D) room)) := by
  unfold putS
  by_cases h1 : b < 0 ∨ data ≤ b
  · have he : putE data room zs b = 2 := by unfold putE; rw [if_pos h1]
    rw [he, if_neg (by decide)]
    exact Sep.readsS h i hi (E := fun e => e = _) (fun F hF => put_arg W F kb data zs room b D hF h1)
  · cases hx : ixB zs b with
    | some j =>
      have he : putE data room zs b = 8 := by unfold putE; rw [if_neg h1, hx]; rfl
      rw [he, if_neg (by decide)]
      exact Sep.readsS h i hi (E := fun e => e = _) (fun F hF => put_state W F kb data zs room b j D hF (by omega) (by omega) (ix_some hx).1)
    | none =>
      by_cases hl : room ≤ (zs.length : Int)
      · have he : putE data room zs b = 7 := by unfold putE; rw [if_neg h1, hx]; simp [hl]
        rw [he, if_neg (by decide)]
        exact Sep.readsS h i hi (E := fun e => e = _) (fun F hF => put_full W F kb data zs room b D hD hF (by omega) (by omega) (ix_none hx).1 hl)
      · have he : putE data room zs b = 0 := by unfold putE; rw [if_neg h1, hx]; simp [hl]
        rw [he, if_pos rfl]
        exact h.call (E := fun e => e = _) i hi (fun F hF => put_ok W F kb data zs room b D hD hF (by omega) (by omega) (ix_none hx).1 (by omega) hr)
theorem s_find (h : Sep G w0 W L) (i : Nat) (hi : L[i]? = some (Bo kb data zs room)) (b : Int) :
    Calls Try.prog 10 #[ptr kb, .int .i64 b] W fun e W' => e = .returned (findV zs b) ∧ Sep G w0 W' L := by
  unfold findV
  cases hx : findB zs b with
  | none => exact h.reads (E := fun e => e = _) i hi (fun F hF => find_no W F kb data zs room b hF (ix_none (find_none_of hx)).1)
  | some z =>
    obtain ⟨j, h1, h2, h3⟩ := find_of hx
    exact h.reads (E := fun e => e = _) i hi (fun F hF => find_yes W F kb data zs room b j z hF (ix_some h1).1 h2)
theorem s_drop (h : Sep G w0 W L) (i : Nat) (hi : L[i]? = some (Bo kb data zs room)) (hv : Inv data room zs) (hr : room ≤ 65536) (b : Int) :
    Calls Try.prog 16 #[ptr kb, .int .i64 b] W fun e W' => e = .returned (.bool (dropB zs b)) ∧ Sep G w0 W' (L.set i (Bo kb data (dropS zs b) room)) := by
  unfold dropB dropS
  cases hx : ixB zs b with
  | none => exact Sep.readsS h i hi (E := fun e => e = _) (fun F hF => drop_no W F kb data zs room b hF (ix_none hx).1)
  | some j =>
    obtain ⟨h1, z, h2, h3⟩ := ix_some hx
    exact h.call (E := fun e => e = _) i hi (fun F hF => drop_yes W F kb data zs room b j z hF h1 h2 (by have := hv.few; omega))
theorem s_kill (h : Sep G w0 W L) (i : Nat) (hi : L[i]? = some (Bo kb data zs room)) (hv : Inv data room zs) (hr : room ≤ 65536) (b : Int) :
    Calls Try.prog 15 #[ptr kb, .int .i64 b] W fun e W' => e = .returned (.bool (killB zs b)) ∧ Sep G w0 W' (L.set i (Bo kb data (killS zs b) room)) := by
  unfold killB killS
  cases hx : findB zs b with
  | none => exact Sep.readsS h i hi (E := fun e => e = _) (fun F hF => kill_no W F kb data zs room b hF (ix_none (find_none_of hx)).1)
  | some z =>
    obtain ⟨j, h1, h2, h3⟩ := find_of hx
    obtain ⟨blk, D, live⟩ := z
    replace h3 : blk = b := h3
    subst h3
    cases live
    · exact Sep.readsS h i hi (E := fun e => e = _) (fun F hF => kill_dead W F kb data zs room blk j _ hF (ix_some h1).1 h2 rfl)
    · have hd : dropS zs blk = zs.eraseIdx j := by unfold dropS; rw [h1]
      show Calls _ _ _ _ fun e W' => _ ∧ Sep G w0 W' (L.set i (Bo kb data (if true = true then dropS zs blk ++ [⟨blk, D, false⟩] else zs) room))
      rw [if_pos rfl, hd]
      exact h.call (E := fun e => e = _) i hi (fun F hF => kill_yes W F kb data zs room blk j D hF (ix_some h1).1 h2 hv.few hr)
theorem s_copy (h : Sep G w0 W L) (i : Nat) (hi : L[i]? = some (Bo kb data zs room)) (hv : Inv data room zs) (hr : room ≤ 65536) :
    Calls Try.prog 18 #[ptr kb] W fun e W' => ∃ q, e = .returned (ptr q) ∧ Sep G w0 W' (Bo q data zs room :: L) := by
  obtain ⟨F, hF⟩ := h.has i hi
  exact (copy_any W F kb data zs room hF (by have := hv.few; omega)).mono fun e W' ⟨q, he, hu, hq⟩ => ⟨q, he, h.push hu hq⟩
end
end Go.Proofs.Ytoddipfgkbaeaaa.BK
