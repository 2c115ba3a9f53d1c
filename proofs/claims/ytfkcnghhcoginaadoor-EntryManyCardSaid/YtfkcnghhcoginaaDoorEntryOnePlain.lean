/- Plain laws of entries: what the statements EntryOne, EntryKnows and EntryMany ask of the values. -/
import Derived.Test.YtfkcnghhcoginaaDoorEntryRAsked
import Derived.Test.YtfkcnghhcoginaaDoorEntryGets
set_option linter.unusedSimpArgs false
set_option linter.unusedVariables false
namespace Go.Proofs.YtfkcnghhcoginaaDoor.ET
open Go.RowKit
open ML

/-- All that an entry knows. -/
def knownE (o : Int) (s : Mk) : Mk := s ||| bitB o

theorem bits_ge2 {m : Mk} {x y : Nat} (hxy : x ≠ y) (hx : m.getLsbD x = true) (hy : m.getLsbD y = true) : 2 ≤ (bitsL m).length := by
  have h1 := (bitsL_mem m x).2 hx
  have h2 := (bitsL_mem m y).2 hy
  match hL : bitsL m with
  | [] => rw [hL] at h1; simp at h1
  | [a] => rw [hL] at h1 h2; simp at h1 h2; omega
  | a :: b :: l => simp
theorem one_fin : ∀ k : Fin 32, bitsL (0#32 ||| BitVec.twoPow 32 k.val) = [k.val] := by decide +kernel
theorem one_bit {x : Int} (h : coreB x = true) : (bitsL (0#32 ||| bitB x)).length = 1 := by
  unfold coreB at h; simp at h
  rw [bitB_in h.1 (by omega), one_fin ⟨x.toNat, by omega⟩]; rfl
theorem bitB_get {x : Int} (h0 : 0 ≤ x) (h1 : x ≤ 31) (i : Nat) (hi : i < 32) : (bitB x).getLsbD i = decide ((i : Int) = x) := by
  rw [bitB_in h0 h1, BitVec.getLsbD_twoPow]
  by_cases e : (i : Int) = x
  · have : x.toNat = i := by omega
    simp [e, this, hi]
  · have : x.toNat ≠ i := by omega
    simp [e, this]
theorem bitB_out_get {x : Int} (h0 : x < 0) (i : Nat) : (bitB x).getLsbD i = false := by rw [bitB_out (by omega)]; simp
theorem may_zero {x : Int} (h : coreB x = true) : mayE x 0#32 = true := by
  have h' := h
  unfold coreB at h; simp at h
  rw [mayE_own (by omega), h']; simp
theorem in_self {m : Mk} {x : Int} (h : coreB x = true) : inM (m ||| bitB x) x = true := by
  unfold coreB at h; simp at h
  unfold inM
  rw [BitVec.getLsbD_or, bitB_get h.1 (by omega) _ (by omega)]
  simp; omega
theorem may_high {o : Int} {s : Mk} (h : mayE o s = true) (i : Nat) (h16 : 16 ≤ i) (hi : i < 32) : s.getLsbD i = false := by
  by_cases ho : o = -1
  · rw [mayE_in ho, decide_eq_true_eq, high_iff] at h
    exact h i h16 hi
  · rw [mayE_own ho] at h; simp at h; rw [h.2]; simp
theorem may_le {o : Int} {s : Mk} (h : mayE o s = true) : -1 ≤ o ∧ o ≤ 15 := by
  by_cases ho : o = -1
  · omega
  · rw [mayE_own ho] at h; simp [coreB] at h; omega
theorem bitO_get {o : Int} {s : Mk} (h : mayE o s = true) (i : Nat) (hi : i < 32) : (bitB o).getLsbD i = decide ((i : Int) = o) := by
  have := may_le h
  by_cases h0 : 0 ≤ o
  · exact bitB_get h0 (by omega) i hi
  · rw [bitB_out_get (by omega)]; simp; omega
/-- Behind an ask that shares: the entry may be, and more than one is known. -/
theorem may_shared {o x : Int} {s : Mk} (hm : mayE o s = true) (hx : coreB x = true) : mayE (-1) (othersE o s x ||| bitB x) = true := by
  rw [mayE_in rfl, decide_eq_true_eq, high_iff]
  intro i h16 hi
  have hx' := hx
  unfold coreB at hx'; simp at hx'
  have := may_le hm
  unfold othersE
  simp only [BitVec.getLsbD_or, BitVec.getLsbD_and, BitVec.getLsbD_not, BitVec.getLsbD_zero, may_high hm i h16 hi, bitO_get hm i hi, bitB_get hx'.1 (by omega : x ≤ 31) i hi, hi]
  simp; omega
theorem count_shared {o x : Int} {s : Mk} (hx : coreB x = true) (hn : othersE o s x ≠ 0#32) : 2 ≤ (bitsL (othersE o s x ||| bitB x)).length := by
  have hx' := hx
  unfold coreB at hx'; simp at hx'
  obtain ⟨i, hi⟩ : ∃ i, i ∈ bitsL (othersE o s x) := by
    match hL : bitsL (othersE o s x) with
    | [] =>
      exfalso; apply hn
      apply ext_inM
      intro i _
      cases hb : (othersE o s x).getLsbD i
      · simp
      · have := (bitsL_mem (othersE o s x) i).2 hb
        rw [hL] at this; simp at this
    | a :: l => exact ⟨a, by simp⟩
  have hi32 := bitsL_lt _ i hi
  rw [bitsL_mem] at hi
  have hne : i ≠ x.toNat := by
    intro e
    have h2 : ((s ||| (0#32 ||| bitB o)) &&& ~~~ bitB x).getLsbD i = true := hi
    rw [BitVec.getLsbD_and, BitVec.getLsbD_not, bitB_get hx'.1 (by omega) i hi32] at h2
    simp at h2
    omega
  refine bits_ge2 hne ?_ ?_
  · rw [BitVec.getLsbD_or, hi]; rfl
  · rw [BitVec.getLsbD_or, bitB_get hx'.1 (by omega) _ (by omega)]; simp; omega
theorem known_shared (m : Mk) : knownE (-1) m = m := by
  unfold knownE; rw [bitB_out (by omega)]; simp

/-- What is lost behind an ask. -/
def lostE (o : Int) (s : Mk) (p : Int) (q : Mk) (x : Int) : Mk := (knownE o s &&& ~~~ knownE p q) &&& ~~~ bitB x
theorem lost_mine {o x : Int} {s : Mk} (hm : mayE o s = true) (hx : coreB x = true) : lostE o s x 0#32 x &&& ~~~ whoE o s 2 x = 0#32 := by
  apply ext_inM
  intro i hi
  unfold lostE whoE knownE
  simp only [BitVec.getLsbD_and, BitVec.getLsbD_or, BitVec.getLsbD_not, BitVec.getLsbD_zero, hi, if_true]
  cases s.getLsbD i <;> cases (bitB o).getLsbD i <;> cases (bitB x).getLsbD i <;> rfl
theorem lost_alone {o x : Int} {s : Mk} (h : othersE o s x = 0#32) : lostE o s x 0#32 x = 0#32 := by
  apply ext_inM
  intro i hi
  have h' : (othersE o s x).getLsbD i = false := by rw [h]; simp
  unfold othersE at h'
  unfold lostE knownE
  simp only [BitVec.getLsbD_and, BitVec.getLsbD_or, BitVec.getLsbD_not, BitVec.getLsbD_zero, hi] at h' ⊢
  revert h'
  cases s.getLsbD i <;> cases (bitB o).getLsbD i <;> cases (bitB x).getLsbD i <;> simp
theorem lost_shared {o x : Int} {s : Mk} : lostE o s (-1) (othersE o s x ||| bitB x) x = 0#32 := by
  apply ext_inM
  intro i hi
  unfold lostE
  rw [known_shared]
  unfold othersE knownE
  simp only [BitVec.getLsbD_and, BitVec.getLsbD_or, BitVec.getLsbD_not, BitVec.getLsbD_zero, hi]
  cases s.getLsbD i <;> cases (bitB o).getLsbD i <;> cases (bitB x).getLsbD i <;> rfl
theorem who_known (o : Int) (s : Mk) (k x : Int) : whoE o s k x &&& ~~~ knownE o s = 0#32 := by
  apply ext_inM
  intro i hi
  unfold whoE knownE
  split
  all_goals
    simp only [BitVec.getLsbD_and, BitVec.getLsbD_or, BitVec.getLsbD_not, BitVec.getLsbD_zero, hi]
    cases s.getLsbD i <;> cases (bitB o).getLsbD i <;> cases (bitB x).getLsbD i <;> rfl
theorem sub_self (m : Mk) : m &&& ~~~ m = 0#32 := by simp
/-- A block that goes back: all but its core are known still. -/
theorem gone_owner {x : Int} {s : Mk} (hm : mayE x s = true) (h0 : 0 ≤ x) : (knownE x s &&& ~~~ knownE (-1) 0#32) &&& ~~~ bitB x = 0#32 := by
  obtain ⟨rfl, _⟩ := mayE_zero hm h0
  apply ext_inM
  intro i hi
  unfold knownE
  simp only [BitVec.getLsbD_and, BitVec.getLsbD_or, BitVec.getLsbD_not, BitVec.getLsbD_zero, hi]
  cases (bitB x).getLsbD i <;> simp
end Go.Proofs.YtfkcnghhcoginaaDoor.ET
