/- slices.Index, slices.Contains of numbers; what is marked lies among the data. -/
import Derived.Test.YtkncijoclnjpoaaMarkLaw
set_option linter.unusedSimpArgs false
set_option linter.unusedVariables false
namespace Go.Proofs.Ytkncijoclnjpoaa.MK
open Go.RowKit
open PL (Cfg CC CV May)
attribute [local go_sem] Oper.semAt_some
set_option maxRecDepth 100000 in
theorem index_any (w : World) (v : Value) (xs : List Int) (x : Int) (h1 : Row w 3 1 v xs.length (xs.map VI)) :
    Calls Try.prog 33 #[v, .int .i64 x] w fun e w' => ∃ r : Int, e = .returned (.int .i64 r) ∧ (0 ≤ r ↔ x ∈ xs) ∧ Upd NoF w w' := by
  obtain ⟨a1, cap1, rfl, l1, m1, r1⟩ := ints_at h1
  unfold maxLen at m1
  have R1 := Lib.hid r1
  clear r1 h1
  go_enter Try.func33, Try.ntmps33
  go_wp2
  go_loopw [8] (fun i wr => ∃ k : Nat, k ≤ xs.length ∧ i = .int .i64 k ∧ Hid (x ∉ xs.take k ∧ Upd NoF w wr)) (fun i _ => xs.length - (intOf i).toNat)
  case atStart => exact ⟨0, Nat.zero_le _, rfl, by simp, Upd.refl _ _⟩
  case round =>
    obtain ⟨k, hk, rfl, HI⟩ := hrel
    by_cases hlt : k < xs.length
    · obtain ⟨n, hn⟩ : ∃ n, xs[k]? = some n := ⟨_, List.getElem?_eq_getElem hlt⟩
      obtain ⟨g1, rfl, hr1⟩ := R1.out k n hn
      have c1 := HI.out.2.cell hr1 (fun h => h)
      have HN := Lib.hid hn
      clear hn hr1
      by_cases he : x = n
      · subst he
        go_wp2
        go_ret
        exact ⟨k, rfl, ⟨fun _ => List.mem_of_getElem? HN.out, fun _ => by omega⟩, HI.out.2⟩
      · have g0 : (x == n) = false := by simpa using he
        have hs : x ∉ xs.take (k + 1) := by
          obtain ⟨h1, h2⟩ := List.getElem?_eq_some_iff.1 HN.out
          rw [List.take_succ_eq_append_getElem h1, h2]
          simp only [List.mem_append, List.mem_singleton, not_or]
          exact ⟨HI.out.1, he⟩
        have HS := Lib.hid hs
        clear hs he
        go_wp2
        go_roundw
        case rel => exact ⟨k + 1, by omega, by go_num, HS.out, HI.out.2⟩
        case measure => simp [intOf]; omega
    · obtain rfl : xs.length = k := by omega
      have hni : x ∉ xs := by have := HI.out.1; rwa [List.take_of_length_le (Nat.le_refl _)] at this
      have HNI := Lib.hid hni
      clear hni
      go_wp2
      go_ret
      exact ⟨-1, rfl, ⟨fun h => by omega, fun h => absurd h HNI.out⟩, HI.out.2⟩
theorem contains_any (w : World) (v : Value) (xs : List Int) (x : Int) (h1 : Row w 3 1 v xs.length (xs.map VI)) :
    Calls Try.prog 16 #[v, .int .i64 x] w fun e w' => e = .returned (.bool (decide (x ∈ xs))) ∧ Upd NoF w w' := by
  have HX := Lib.hid (index_any w v xs x h1)
  clear h1
  go_enter Try.func16, Try.ntmps16
  go_wp2_with fail
  refine HX.out.mono ?_
  rintro e w' ⟨r, rfl, hr, hu⟩
  have HU := Lib.hid hu
  have he : decide (x ∈ xs) = decide (0 ≤ r) := decide_eq_decide.2 hr.symm
  have HE := Lib.hid he
  clear hu hr he HX
  go_wp2
  go_ret
  exact ⟨by rw [HE.out]; rfl, HU.out⟩
theorem data_le {c : Cfg} (h : May c) : c.blocks - c.cores * c.logs ≤ 256 := by
  have := PL.mul_small h.1 h.2.2.1
  have := h.2.1
  omega
/-- What is marked lies among the data. -/
def InData (data : Int) (f : Int → Bool × Bool) : Prop := ∀ a, ((f a).1 || (f a).2) = true → 0 ≤ a ∧ a < data
theorem InData.none2 (data : Int) : InData data none2 := fun a h => by cases h
theorem InData.put {data : Int} {f : Int → Bool × Bool} (h : InData data f) (x : Int) (r q : Bool) : InData data (putF data f x r q) := by
  intro a ha
  cases hm : mayB data x
  · rw [putF_no hm] at ha; exact h a ha
  · by_cases e : x = a
    · subst e; simpa [mayB] using hm
    · rw [putF_other e] at ha; exact h a ha
def lastOf (ss : List Int) (j : Nat) : Int := if j = 0 then -1 else ss.getD (j - 1) 0
theorem lastOf_succ {ss : List Int} {j : Nat} {b : Int} (h : ss[j]? = some b) : lastOf ss (j + 1) = b := by
  unfold lastOf
  rw [if_neg (by omega), Nat.add_sub_cancel, List.getD_eq_getElem?_getD, h]
  rfl
theorem lastOf_lt {ss : List Int} (hp : ss.Pairwise (· < ·)) (h0 : ∀ a ∈ ss, 0 ≤ a) {j : Nat} {b : Int} (h : ss[j]? = some b) : lastOf ss j < b := by
  obtain ⟨hj, rfl⟩ := List.getElem?_eq_some_iff.1 h
  unfold lastOf
  split
  · have := h0 _ (List.getElem_mem hj); omega
  · rename_i hne
    rw [List.getD_eq_getElem?_getD, List.getElem?_eq_getElem (by omega)]
    exact (List.pairwise_iff_getElem.1 hp) (j - 1) j (by omega) hj (by omega)
end Go.Proofs.Ytkncijoclnjpoaa.MK
