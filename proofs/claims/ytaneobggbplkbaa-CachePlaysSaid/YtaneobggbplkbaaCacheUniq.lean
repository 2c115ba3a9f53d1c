/- Package cache, plain laws: never two lines of a block, nor more lines of a set than ways. -/
import Derived.Test.YtaneobggbplkbaaCacheLaw
set_option linter.unusedSimpArgs false
set_option linter.unusedVariables false
namespace Go.Proofs.Ytaneobggbplkbaa.KA
open Go.RowKit
open BU (IsU words)
open PL (Cfg CC CV May)
section
variable {p : Kp} {c : Cfg} {A : Nat → Ln} {M : Nat → Int}
/-- No two lines of a block. -/
def Uniq (p : Kp) (A : Nat → Ln) : Prop := ∀ i j, i < p.s * p.y → j < p.s * p.y → freeB (A i) = false → freeB (A j) = false → (A i).blk = (A j).blk → i = j
theorem hasB_iff {b : Int} {x : Ln} : hasB b x = true ↔ freeB x = false ∧ x.blk = b := by
  unfold hasB freeB; simp
theorem Uniq.nil : Uniq p (fun _ => Ln.nil) := fun i j _ _ h => by cases h
theorem Uniq.upd (h : Uniq p A) {i : Nat} {x : Ln} (hx : freeB x = true ∨ ∀ j, j < p.s * p.y → j ≠ i → freeB (A j) = false → (A j).blk ≠ x.blk) : Uniq p (updL A i x) := by
  intro j k hj hk fj fk e
  unfold updL at fj fk e
  by_cases e1 : j = i <;> by_cases e2 : k = i
  · rw [e1, e2]
  · rw [if_pos e1] at fj e; rw [if_neg e2] at fk e
    rcases hx with hx | hx
    · rw [hx] at fj; cases fj
    · exact absurd e.symm (hx k hk e2 fk)
  · rw [if_neg e1] at fj e; rw [if_pos e2] at fk e
    rcases hx with hx | hx
    · rw [hx] at fk; cases fk
    · exact absurd e (hx j hj e1 fj)
  · rw [if_neg e1] at fj e; rw [if_neg e2] at fk e
    exact h j k hj hk fj fk e
/-- Where a line of a block stands, that is its place. -/
theorem place_eq (hf : p.Fits c) (hg : Good p A) (hu : Uniq p A) {i : Nat} (hi : i < p.s * p.y) (fi : freeB (A i) = false) : p.place A (A i).blk = some i := by
  obtain ⟨h1, h2⟩ := hg i hi fi
  have hm : mayK (A i).blk = true := by unfold mayX at h1; revert h1; cases mayK (A i).blk <;> simp
  have hy : 0 < p.y := by have := (Kp.small hf).2.2.1; omega
  have hmod : i % p.y < p.y := Nat.mod_lt _ hy
  have hiy : p.set (A i).blk * p.y + i % p.y = i := by rw [h2]; exact Nat.div_add_mod' i p.y
  have hs := place_has (A := A) hm hmod (by rw [hiy]; exact hasB_iff.2 ⟨fi, rfl⟩)
  obtain ⟨k, hk⟩ := Option.isSome_iff_exists.1 hs
  obtain ⟨_, j, hj, rfl, hh⟩ := place_at hk
  obtain ⟨fk, ek⟩ := hasB_iff.1 hh
  have := hu _ _ (hf.idx_lt hj) hi fk fi ek
  rw [hk, this]
theorem place_lt (hf : p.Fits c) {b : Int} {i : Nat} (h : p.place A b = some i) : i < p.s * p.y ∧ freeB (A i) = false ∧ (A i).blk = b := by
  obtain ⟨_, j, hj, rfl, hh⟩ := place_at h
  obtain ⟨f, e⟩ := hasB_iff.1 hh
  exact ⟨hf.idx_lt hj, f, e⟩
theorem Uniq.put (hf : p.Fits c) (hg : Good p A) (h : Uniq p A) (x : Ln) : Uniq p (p.putA A x) := by
  unfold Kp.putA
  split
  · cases hs : p.slot A x.blk with
    | none => exact h
    | some i =>
      refine h.upd (.inr fun j hj hne fj e => ?_)
      have hpl := place_eq hf hg h hj fj
      rw [e] at hpl
      unfold Kp.slot at hs
      rw [hpl] at hs
      cases hs
      exact hne rfl
  · exact h
theorem Uniq.drp (h : Uniq p A) (b : Int) : Uniq p (p.drpA A b) := by
  unfold Kp.drpA
  split
  · exact h
  · exact h.upd (.inl rfl)
/-- A line is turned, its block the same. -/
theorem Uniq.turn (hf : p.Fits c) (h : Uniq p A) {b : Int} {i : Nat} (hp : p.place A b = some i) {x : Ln} (hx : x.blk = (A i).blk) : Uniq p (updL A i x) := by
  obtain ⟨h1, h2, h3⟩ := place_lt hf hp
  refine h.upd (.inr fun j hj hne fj e => hne ?_)
  exact h j i hj h1 fj h2 (e.trans hx)
theorem Good.turn (hf : p.Fits c) (h : Good p A) {b : Int} {i : Nat} (hp : p.place A b = some i) {x : Ln} (hx : x.blk = (A i).blk) (hs : 1 ≤ x.st ∧ x.st ≤ 3) : Good p (updL A i x) := by
  obtain ⟨h1, h2, h3⟩ := place_lt hf hp
  obtain ⟨g1, g2⟩ := h i h1 h2
  intro j hj fj
  unfold updL at fj ⊢
  by_cases e : j = i
  · rw [if_pos e, e]
    refine ⟨?_, by rw [hx]; exact g2⟩
    unfold mayX at g1 ⊢
    rw [hx]
    revert g1
    cases mayK (A i).blk <;> simp
    omega
  · rw [if_neg e] at fj ⊢
    exact h j hj fj
theorem Uniq.trn (hf : p.Fits c) (h : Uniq p A) (b s : Int) : Uniq p (p.trnA A b s) := by
  unfold Kp.trnA
  cases hp : p.place A b with
  | none => exact h
  | some i =>
    dsimp only
    split
    · exact h.turn hf hp rfl
    · exact h
theorem Good.trn (hf : p.Fits c) (h : Good p A) (b s : Int) : Good p (p.trnA A b s) := by
  unfold Kp.trnA
  cases hp : p.place A b with
  | none => exact h
  | some i =>
    dsimp only
    split
    · rename_i hs
      exact h.turn hf hp rfl (by unfold maySt at hs; simpa using hs)
    · exact h
theorem Uniq.wr (hf : p.Fits c) (h : Uniq p A) (b w z : Int) : Uniq p (p.wrA A b w z) := by
  unfold Kp.wrA
  cases hp : p.place A b with
  | none => exact h
  | some i =>
    dsimp only
    split
    · split
      · exact h
      · exact h.turn hf hp rfl
    · exact h
theorem Good.wr (hf : p.Fits c) (h : Good p A) (b w z : Int) : Good p (p.wrA A b w z) := by
  unfold Kp.wrA
  cases hp : p.place A b with
  | none => exact h
  | some i =>
    dsimp only
    split
    · split
      · exact h
      · exact h.turn hf hp rfl (by show 1 ≤ (3 : Int) ∧ (3 : Int) ≤ 3; omega)
    · exact h
/-- Rising numbers within y. -/
theorem rise_len : ∀ (L : List Nat) (a y : Nat), L.Pairwise (· < ·) → (∀ i ∈ L, a ≤ i ∧ i < a + y) → L.length ≤ y
  | [], _, _, _, _ => Nat.zero_le _
  | i :: L, a, y, hp, hb => by
    obtain ⟨h1, h2⟩ := List.pairwise_cons.1 hp
    have hi := hb i (by simp)
    have := rise_len L (i + 1) (a + y - (i + 1)) h2 (fun j hj => by have := h1 j hj; have := hb j (by simp [hj]); omega)
    simp only [List.length_cons]
    omega
/-- The places of the lines. -/
def plc (n : Nat) (A : Nat → Ln) : List Nat := (List.range n).filter (fun i => !freeB (A i))
theorem lns_eq (n : Nat) (A : Nat → Ln) : lns n A = (plc n A).map A := by
  unfold lns plc
  rw [List.filter_map]
  rfl
theorem plc_rise (n : Nat) (A : Nat → Ln) : (plc n A).Pairwise (· < ·) := List.Pairwise.sublist List.filter_sublist List.pairwise_lt_range
theorem plc_mem {n : Nat} {i : Nat} (h : i ∈ plc n A) : i < n ∧ freeB (A i) = false := by
  unfold plc at h
  obtain ⟨h1, h2⟩ := List.mem_filter.1 h
  exact ⟨List.mem_range.1 h1, by simpa using h2⟩
/-- How many lines of a set. -/
def many (p : Kp) (q : Nat) (l : List Ln) : Nat := (l.filter (fun x => p.set x.blk == q)).length
theorem many_le (hg : Good p A) (q k : Nat) : many p q ((lns (p.s * p.y) A).take k) ≤ p.y := by
  unfold many
  rw [lns_eq, ← List.map_take, List.filter_map, List.length_map]
  by_cases hy : p.y = 0
  · have : plc (p.s * p.y) A = [] := by rw [hy]; rfl
    rw [this]; simp
  refine rise_len _ (q * p.y) p.y ((plc_rise _ A).sublist (List.Sublist.trans List.filter_sublist (List.take_sublist _ _))) (fun i hi => ?_)
  obtain ⟨h1, h2⟩ := List.mem_filter.1 hi
  obtain ⟨hlt, hf⟩ := plc_mem (List.mem_of_mem_take h1)
  obtain ⟨_, e⟩ := hg i hlt hf
  simp only [Function.comp_apply, beq_iff_eq] at h2
  rw [e] at h2
  have hd := Nat.div_add_mod' i p.y
  have hm := Nat.mod_lt i (show p.y > 0 by omega)
  rw [h2] at hd
  omega
def manyI (p : Kp) (q : Int) (l : List Ln) : Nat := (l.filter (fun x => (p.set x.blk : Int) == q)).length
theorem manyI_le (hg : Good p A) (b : Int) (k : Nat) : manyI p (p.set b) ((lns (p.s * p.y) A).take k) ≤ p.y := by
  have := many_le hg (p.set b) k
  unfold many at this
  unfold manyI
  have e : (fun x : Ln => ((p.set x.blk : Nat) : Int) == ((p.set b : Nat) : Int)) = (fun x => p.set x.blk == p.set b) := by
    funext x
    rw [Bool.eq_iff_iff]
    simp only [beq_iff_eq]
    omega
  rw [e]
  exact this
theorem manyI_app (q : Int) (l : List Ln) (x : Ln) : manyI p q (l ++ [x]) = manyI p q l + (if (p.set x.blk : Int) = q then 1 else 0) := by
  unfold manyI
  rw [List.filter_append, List.length_append]
  congr 1
  by_cases e : ((p.set x.blk : Nat) : Int) = q
  · rw [if_pos e]; simp [e]
  · rw [if_neg e]; simp [e]
def seen (b : Int) (l : List Ln) : Bool := l.any (fun x => x.blk == b)
def seenF (l : List Ln) : Int → Option Value := fun b => if seen b l then some (.bool true) else none
def manyF (p : Kp) (l : List Ln) : Int → Option Value := fun q => if manyI p q l = 0 then none else some (.int .i64 (manyI p q l : Nat))
theorem seenF_nil : seenF [] = fun _ => none := by funext b; rfl
theorem manyF_nil : manyF p [] = fun _ => none := by funext b; rfl
theorem seenF_app (l : List Ln) (x : Ln) : seenF (l ++ [x]) = fun y => if y = x.blk then some (.bool true) else seenF l y := by
  funext y
  unfold seenF seen
  rw [List.any_append]
  by_cases e : y = x.blk
  · rw [if_pos e, e]; simp
  · rw [if_neg e]
    have : (x.blk == y) = false := by simpa using fun h : x.blk = y => e h.symm
    simp [this]
theorem manyF_app (l : List Ln) (x : Ln) : manyF p (l ++ [x]) = fun y => if y = (p.set x.blk : Int) then some (.int .i64 ((manyI p (p.set x.blk) l : Nat) + 1 : Int)) else manyF p l y := by
  funext y
  unfold manyF
  rw [manyI_app]
  by_cases e : y = (p.set x.blk : Int)
  · rw [if_pos e, e, if_pos rfl, if_neg (by omega)]; simp
  · have e2 : ¬ ((p.set x.blk : Nat) : Int) = y := fun h => e h.symm
    simp only [if_neg e, if_neg e2, Nat.add_zero]
theorem manyF_at (l : List Ln) (q : Int) : (manyF p l q).getD (.int .i64 0) = .int .i64 (manyI p q l : Nat) := by
  unfold manyF
  split
  · rename_i h; rw [h]; rfl
  · rfl
theorem seenF_at (l : List Ln) (b : Int) : (seenF l b).getD (.bool false) = .bool (seen b l) := by
  unfold seenF
  cases seen b l <;> rfl
theorem take_succ {α : Type} {l : List α} {k : Nat} {x : α} (h : l[k]? = some x) : l.take (k + 1) = l.take k ++ [x] := by
  obtain ⟨h1, h2⟩ := List.getElem?_eq_some_iff.1 h
  rw [List.take_succ_eq_append_getElem h1, h2]
/-- The k-th line was not seen. -/
theorem not_seen (hu : Uniq p A) {k : Nat} {x : Ln} (hx : (lns (p.s * p.y) A)[k]? = some x) : seen x.blk ((lns (p.s * p.y) A).take k) = false := by
  unfold seen
  rw [lns_eq] at hx ⊢
  rw [List.getElem?_map] at hx
  cases hk : (plc (p.s * p.y) A)[k]? with
  | none => rw [hk] at hx; cases hx
  | some i =>
    rw [hk] at hx
    cases hx
    rw [List.any_eq_false]
    intro y hy
    rw [← List.map_take] at hy
    obtain ⟨j, hj, rfl⟩ := List.mem_map.1 hy
    obtain ⟨j', hj', hjk⟩ := List.mem_iff_getElem.1 hj
    have hk' := List.getElem?_eq_some_iff.1 hk
    obtain ⟨hk1, hk2⟩ := hk'
    obtain ⟨i1, i2⟩ := plc_mem (List.mem_of_getElem? hk)
    obtain ⟨j1, j2⟩ := plc_mem (List.mem_of_mem_take hj)
    simp only [beq_iff_eq]
    intro e
    have e3 := hu j i j1 i1 j2 i2 e
    simp only [List.length_take] at hj'
    rw [List.getElem_take] at hjk
    have := List.pairwise_iff_getElem.1 (plc_rise (p.s * p.y) A) j' k (by omega) hk1 (by omega)
    omega
/-- A line of the row. -/
theorem lns_mem (hf : p.Fits c) (hg : Good p A) {x : Ln} (hx : x ∈ lns (p.s * p.y) A) : mayX x = true := by
  rw [lns_eq] at hx
  obtain ⟨i, hi, rfl⟩ := List.mem_map.1 hx
  obtain ⟨h1, h2⟩ := plc_mem hi
  exact (hg i h1 h2).1
end
end Go.Proofs.Ytaneobggbplkbaa.KA
