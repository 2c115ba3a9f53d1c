/- Sets of numbers below 32 as 32 bits: plain facts. -/
import Derived.Test.YtlhbnndnkcpomaaDoorGen
import Derived.Lib.TrailingZeros
set_option linter.unusedSimpArgs false
set_option linter.unusedVariables false
namespace Go.Proofs.YtlhbnndnkcpomaaDoor
open Go.RowKit

abbrev Mk := BitVec 32
/-- A set as a value. -/
abbrev VM (m : Mk) : Value := .int .u32 (m.toNat : Int)

/-- One number's bit; none: it may be in no set. -/
def bitB (n : Int) : Mk := if 0 ≤ n ∧ n ≤ 31 then BitVec.twoPow 32 n.toNat else 0#32

theorem bitB_in {n : Int} (h0 : 0 ≤ n) (h1 : n ≤ 31) : bitB n = BitVec.twoPow 32 n.toNat := by simp [bitB, h0, h1]
theorem bitB_out {n : Int} (h : n < 0 ∨ 31 < n) : bitB n = 0#32 := by
  unfold bitB; rw [if_neg (by omega)]
theorem twoPow_ne (k : Nat) (h : k < 32) : BitVec.twoPow 32 k ≠ 0#32 := by
  intro he
  have := congrArg (fun m => BitVec.getLsbD m k) he
  simp [BitVec.getLsbD_twoPow, h] at this
theorem bitB_zero_iff (n : Int) : bitB n = 0#32 ↔ (n < 0 ∨ 31 < n) := by
  constructor
  · intro h
    apply Decidable.byContradiction
    intro hn
    rw [bitB_in (by omega) (by omega)] at h
    exact twoPow_ne _ (by omega) h
  · exact bitB_out
theorem twoPow_toNat (k : Nat) (h : k < 32) : (BitVec.twoPow 32 k).toNat = 2 ^ k := by
  rw [BitVec.toNat_twoPow]
  exact Nat.mod_eq_of_lt (Nat.pow_lt_pow_right (by decide) h)

theorem ofInt_toNat (m : Mk) : BitVec.ofInt 32 (m.toNat : Int) = m := by
  rw [BitVec.ofInt_natCast]; simp
theorem wrap_toNat (m : Mk) : IntKind.u32.wrap (m.toNat : Int) = (m.toNat : Int) := by
  have := m.isLt
  rw [IntKind.wrap_u32]
  omega
theorem bits_or (a b : Mk) : bits .or .u32 (a.toNat : Int) (b.toNat : Int) = ((a ||| b).toNat : Int) := by
  show IntKind.u32.wrap ((BitVec.ofInt 32 (a.toNat : Int) ||| BitVec.ofInt 32 (b.toNat : Int)).toNat : Int) = _
  rw [ofInt_toNat, ofInt_toNat, wrap_toNat]
theorem bits_and (a b : Mk) : bits .and .u32 (a.toNat : Int) (b.toNat : Int) = ((a &&& b).toNat : Int) := by
  show IntKind.u32.wrap ((BitVec.ofInt 32 (a.toNat : Int) &&& BitVec.ofInt 32 (b.toNat : Int)).toNat : Int) = _
  rw [ofInt_toNat, ofInt_toNat, wrap_toNat]
theorem bits_andNot (a b : Mk) : bits .andNot .u32 (a.toNat : Int) (b.toNat : Int) = ((a &&& ~~~b).toNat : Int) := by
  show IntKind.u32.wrap ((BitVec.ofInt 32 (a.toNat : Int) &&& ~~~ BitVec.ofInt 32 (b.toNat : Int)).toNat : Int) = _
  rw [ofInt_toNat, ofInt_toNat, wrap_toNat]

/-- A number that fits is a set. -/
theorem mk_of {x : Int} (h0 : 0 ≤ x) (h1 : x ≤ 4294967295) : ∃ m : Mk, x = (m.toNat : Int) :=
  ⟨BitVec.ofNat 32 x.toNat, by rw [BitVec.toNat_ofNat]; omega⟩

/-- Whether a number is in a set. -/
def inM (m : Mk) (n : Int) : Bool := decide (0 ≤ n) && decide (n ≤ 31) && m.getLsbD n.toNat

theorem and_bitB (m : Mk) (n : Int) : (m &&& bitB n = 0#32) ↔ inM m n = false := by
  unfold inM
  by_cases h : 0 ≤ n ∧ n ≤ 31
  · obtain ⟨h0, h1⟩ := h
    rw [bitB_in h0 h1]
    simp only [h0, h1, decide_true, Bool.true_and]
    constructor
    · intro he
      have := congrArg (fun m => BitVec.getLsbD m n.toNat) he
      simpa [BitVec.getLsbD_twoPow, show n.toNat < 32 by omega] using this
    · intro hb
      apply BitVec.eq_of_getLsbD_eq
      intro i hi
      simp only [BitVec.getLsbD_and, BitVec.getLsbD_twoPow, BitVec.getLsbD_zero]
      by_cases e : n.toNat = i
      · subst e; simp [hb]
      · simp [e]
  · rw [bitB_out (by omega)]
    simp only [BitVec.and_zero, true_iff, Bool.and_eq_false_iff, decide_eq_false_iff_not]
    left
    omega

/-- The numbers of a set, from the least one on. -/
def bitsL (m : Mk) : List Nat := (List.range 32).filter fun i => m.getLsbD i

theorem bitsL_mem (m : Mk) (i : Nat) : i ∈ bitsL m ↔ m.getLsbD i = true := by
  simp only [bitsL, List.mem_filter, List.mem_range]
  constructor
  · exact fun h => h.2
  · intro h
    refine ⟨?_, h⟩
    apply Decidable.byContradiction
    intro hn
    rw [BitVec.getLsbD_of_ge _ _ (by omega)] at h
    cases h

theorem bitsL_zero : bitsL 0#32 = [] := by simp [bitsL]

/-- The least number of a set that is not empty. -/
theorem ctz_spec (m : Mk) (h : m ≠ 0#32) : Lib.ctz 32 m.toNat < 32 ∧ m.getLsbD (Lib.ctz 32 m.toNat) = true ∧ ∀ j, j < Lib.ctz 32 m.toNat → m.getLsbD j = false := by
  have h0 : m.toNat ≠ 0 := fun e => h (BitVec.eq_of_toNat_eq (by simpa using e))
  obtain ⟨q, hq, hk⟩ := Lib.ctzFrom_spec 32 m.toNat (by omega) m.isLt
  have e : Lib.ctz 32 m.toNat = Lib.ctzFrom 32 m.toNat := by simp [Lib.ctz, h0]
  rw [e]
  generalize Lib.ctzFrom 32 m.toNat = k at *
  refine ⟨hk, ?_, fun j hj => ?_⟩
  · rw [BitVec.getLsbD, hq, Nat.mul_comm, Nat.testBit_mul_two_pow]
    simp [Nat.testBit_zero]
  · rw [BitVec.getLsbD, hq, Nat.mul_comm, Nat.testBit_mul_two_pow]
    simp; omega

theorem filter_range_least (p : Nat → Bool) : ∀ (n k : Nat), k < n → p k = true → (∀ j, j < k → p j = false) → (List.range n).filter p = k :: (List.range n).filter (fun i => p i && decide (i ≠ k)) := by
  intro n
  induction n with
  | zero => intro k hk; omega
  | succ n ih =>
    intro k hk hp hl
    rw [List.range_succ, List.filter_append, List.filter_append]
    by_cases e : k = n
    · subst e
      have h1 : (List.range k).filter p = [] := List.filter_eq_nil_iff.2 (fun i hi => by rw [hl i (List.mem_range.1 hi)]; simp)
      have h2 : (List.range k).filter (fun i => p i && decide (i ≠ k)) = [] := List.filter_eq_nil_iff.2 (fun i hi => by rw [hl i (List.mem_range.1 hi)]; simp)
      rw [h1, h2]
      simp [hp]
    · rw [ih k (by omega) hp hl]
      have h9 : (n ≠ k) := fun h => e h.symm
      simp [List.filter_cons, h9]

/-- The first of a set's numbers, and the others. -/
theorem bitsL_cons (m : Mk) (h : m ≠ 0#32) : bitsL m = Lib.ctz 32 m.toNat :: bitsL (m &&& ~~~ bitB (Lib.ctz 32 m.toNat : Nat)) := by
  obtain ⟨h1, h2, h3⟩ := ctz_spec m h
  generalize Lib.ctz 32 m.toNat = k at *
  unfold bitsL
  rw [filter_range_least _ 32 k h1 h2 h3]
  congr 1
  apply List.filter_congr
  intro i hi
  have hi' := List.mem_range.1 hi
  rw [bitB_in (by omega) (by omega)]
  simp only [BitVec.getLsbD_and, BitVec.getLsbD_not, BitVec.getLsbD_twoPow, Int.toNat_natCast, hi', h1, decide_true, Bool.true_and]
  by_cases e : k = i
  · subst e; simp
  · simp [e, Ne.symm e]

theorem bitsL_lt (m : Mk) : ∀ i ∈ bitsL m, i < 32 := fun i hi => List.mem_range.1 (List.mem_filter.1 hi).1
theorem bitsL_length (m : Mk) : (bitsL m).length ≤ 32 := by
  have := List.length_filter_le (fun i => m.getLsbD i) (List.range 32)
  simpa [bitsL] using this

/-- A set is known by its numbers. -/
theorem ext_inM {a b : Mk} (h : ∀ i, i < 32 → a.getLsbD i = b.getLsbD i) : a = b := BitVec.eq_of_getLsbD_eq (fun i hi => h i hi)

/-- The set of a list's numbers. -/
def ofL (l : List Nat) : Mk := l.foldl (fun (m : Mk) (i : Nat) => m ||| bitB (i : Int)) 0#32
theorem ofL_go (l : List Nat) (hl : ∀ i ∈ l, i < 32) : ∀ (m : Mk) (i : Nat), i < 32 → (l.foldl (fun (m : Mk) (i : Nat) => m ||| bitB (i : Int)) m).getLsbD i = (m.getLsbD i || decide (i ∈ l)) := by
  induction l with
  | nil => intro m i hi; simp
  | cons a l ih =>
    intro m i hi
    rw [List.foldl_cons, ih (fun j hj => hl j (by simp [hj])) _ i hi]
    have ha := hl a (by simp)
    rw [bitB_in (by omega) (by omega)]
    simp only [BitVec.getLsbD_or, BitVec.getLsbD_twoPow, Int.toNat_natCast, hi, decide_true, Bool.true_and, List.mem_cons, Bool.decide_or]
    by_cases e : i = a
    · subst e; simp [hi]
    · simp [e, Ne.symm e]
theorem ofL_bitsL (m : Mk) : ofL (bitsL m) = m := by
  apply ext_inM
  intro i hi
  rw [ofL, ofL_go _ (bitsL_lt m) _ i hi]
  simp only [BitVec.getLsbD_zero, Bool.false_or]
  rw [Bool.eq_iff_iff]
  simp [bitsL_mem]

/-- What Of makes of a list, behind m: none, if a number is out of range. -/
def ofGo (m : Mk) : List Int → Option Mk
  | [] => some m
  | n :: l => if n < 0 ∨ 31 < n then none else ofGo (m ||| bitB n) l

/-- The numbers of a slice, up to k. -/
def upTo (Z : Nat → Int) (k : Nat) : List Int := (List.range k).map Z
theorem upTo_succ (Z : Nat → Int) (k : Nat) : upTo Z (k + 1) = upTo Z k ++ [Z k] := by simp [upTo, List.range_succ]
theorem ofGo_snoc (l : List Int) (n : Int) : ∀ m, ofGo m (l ++ [n]) = (ofGo m l).bind fun m' => if n < 0 ∨ 31 < n then none else some (m' ||| bitB n) := by
  induction l with
  | nil => intro m; simp [ofGo]
  | cons a l ih =>
    intro m
    simp only [List.cons_append, ofGo]
    split
    · rfl
    · exact ih _
theorem ofGo_none {l : List Int} {m : Mk} (h : ofGo m l = none) (l' : List Int) : ofGo m (l ++ l') = none := by
  induction l generalizing m with
  | nil => simp [ofGo] at h
  | cons a l ih =>
    simp only [List.cons_append, ofGo] at h ⊢
    split
    · rfl
    · rename_i hn
      rw [if_neg hn] at h
      exact ih h
theorem upTo_add (Z : Nat → Int) (k d : Nat) : upTo Z (k + d) = upTo Z k ++ (List.range d).map (fun i => Z (k + i)) := by
  simp [upTo, List.range_add, Function.comp_def]
theorem ofGo_upTo_none {Z : Nat → Int} {k n : Nat} (h : ofGo 0#32 (upTo Z k) = none) (hk : k ≤ n) : ofGo 0#32 (upTo Z n) = none := by
  obtain ⟨d, rfl⟩ : ∃ d, n = k + d := ⟨n - k, by omega⟩
  rw [upTo_add]
  exact ofGo_none h _
/-- With a number, by adding: the document's own way. -/
theorem or_add (m : Mk) (n : Int) (h0 : 0 ≤ n) (h1 : n ≤ 31) (hn : inM m n = false) : ((m ||| bitB n).toNat : Int) = (m.toNat : Int) + 2 ^ n.toNat := by
  have hd : m &&& bitB n = 0#32 := (and_bitB m n).2 hn
  have hlt : n.toNat < 32 := by omega
  have he : m ||| bitB n = m + bitB n := (BitVec.add_eq_or_of_and_eq_zero m (bitB n) hd).symm
  have h3 := congrArg BitVec.toNat he
  rw [BitVec.toNat_or, BitVec.toNat_add] at h3
  have h5 : m.toNat ≤ m.toNat ||| (bitB n).toNat := Nat.left_le_or
  have h6 := m.isLt
  have h7 := (bitB n).isLt
  have h8 : (bitB n).toNat = 2 ^ n.toNat := by rw [bitB_in h0 h1, twoPow_toNat _ hlt]
  have h9 : 0 < 2 ^ n.toNat := Nat.pow_pos (by decide)
  rw [BitVec.toNat_or]
  have e2 : m.toNat ||| (bitB n).toNat = m.toNat + (bitB n).toNat := by omega
  rw [e2, bitB_in h0 h1, twoPow_toNat _ hlt]
  push_cast
  rfl
end Go.Proofs.YtlhbnndnkcpomaaDoor
