/- The contracts of the functions of layer 14 (order) and of its reference. -/
import Derived.Test.YtdkdlgcgkkbghaaGen
set_option linter.unusedSimpArgs false
set_option linter.unusedVariables false
namespace Go.Proofs.Ytdkdlgcgkkbghaa.Ord
open Go.RowKit

def older (a b : Int) : Bool := a != 0 && decide (a < b)

theorem older_any (a b : Int) (w : World) : Calls Try.prog 34 #[.int .u64 a, .int .u64 b] w fun e w' => e = .returned (.bool (older a b)) ∧ w = w' := by
  by_cases h : a = 0
  · subst h
    go_enter Try.func34, Try.ntmps34
    go_wp2
    go_ret
    exact ⟨rfl, rfl⟩
  · have h1 : (a != 0) = true := by simpa using h
    have h2 : older a b = decide (a < b) := by simp [older, h1]
    have H2 := Lib.hid h2
    clear h2 h
    by_cases h3 : a < b
    all_goals
      go_enter Try.func34, Try.ntmps34
      go_wp2
      go_ret
      exact ⟨by rw [H2.out]; simp [h3], rfl⟩

theorem asked_any (own : Int) (flag meets : Bool) (stamp : Int) (w : World) : Calls Try.prog 30 #[.int .u64 own, .bool flag, .bool meets, .int .u64 stamp] w fun e w' => e = .returned (.tuple #[.bool (own != 0 && meets), .bool (flag || own != 0 && meets && older stamp own)]) ∧ w = w' := by
  by_cases h : own = 0
  · subst h
    go_enter Try.func30, Try.ntmps30
    go_wp2
    refine wp_scope_fwd 0 rfl ?_
    go_wp2
    go_step3
    go_wp2
    refine ⟨rfl, ?_⟩
    go_wp2
    rw [Exit.noGoto_ret]
    go_wp2
    go_ret2
    exact ⟨by simp, rfl⟩
  · have h1 : (own != 0) = true := by simpa using h
    have H1 := Lib.hid h1
    have h0 : (own == 0) = false := by simpa using h
    clear h1 h
    cases meets
    · go_enter Try.func30, Try.ntmps30
      go_wp2
      refine wp_scope_fwd 0 rfl ?_
      go_wp2
      go_step3
      go_wp2
      refine ⟨rfl, ?_⟩
      go_wp2
      rw [Exit.noGoto_ret]
      go_wp2
      go_ret2
      exact ⟨by simp, rfl⟩
    · by_cases ho : older stamp own = true
      all_goals
        go_enter Try.func30, Try.ntmps30
        go_wp2
        refine wp_scope_fwd 0 rfl ?_
        go_wp2_with (go_at_call 34; refine (older_any _ _ _).mono ?_; rintro e w' ⟨rfl, rfl⟩)
        go_step3
        go_wp2
        rw [Exit.jump_ret]
        go_wp2
        go_ret2
        exact ⟨by simp [H1.out, ho], rfl⟩

theorem gives_any (own : Int) (flag : Bool) (stamp : Int) (w : World) : Calls Try.prog 31 #[.int .u64 own, .bool flag, .int .u64 stamp] w fun e w' => e = .returned (.bool (flag && older stamp own)) ∧ w = w' := by
  cases flag
  all_goals
    go_enter Try.func31, Try.ntmps31
    go_wp2_with (go_at_call 34; refine (older_any _ _ _).mono ?_; rintro e w' ⟨rfl, rfl⟩)
    go_ret
    exact ⟨rfl, rfl⟩

theorem refOlder_any (a b : Int) (ha : 0 ≤ a) (hb : 0 ≤ b) (w : World) : Calls Try.prog 35 #[.int .u64 a, .int .u64 b] w fun e w' => e = .returned (.bool (older a b)) ∧ w = w' := by
  have h2 : older a b = (decide (0 < a) && decide (0 < b) && decide (a < b)) := by
    unfold older; rw [Bool.eq_iff_iff]; simp; omega
  have H2 := Lib.hid h2
  clear h2
  by_cases h0 : 0 < a
  · by_cases h1 : 0 < b
    · by_cases h3 : a < b
      all_goals
        go_enter Try.func35, Try.ntmps35
        go_wp2
        go_ret
        exact ⟨by rw [H2.out]; simp [h0, h1, h3], rfl⟩
    · have h3 : ¬ a < b := by omega
      go_enter Try.func35, Try.ntmps35
      go_wp2
      go_ret
      exact ⟨by rw [H2.out]; simp [h0, h1, h3], rfl⟩
  · obtain rfl : a = 0 := by omega
    go_enter Try.func35, Try.ntmps35
    go_wp2
    go_ret
    exact ⟨by simp [H2.out], rfl⟩

theorem refAsked_any (own : Int) (flag meets : Bool) (stamp : Int) (h0 : 0 ≤ own) (h1 : 0 ≤ stamp) (w : World) : Calls Try.prog 32 #[.int .u64 own, .bool flag, .bool meets, .int .u64 stamp] w fun e w' => e = .returned (.tuple #[.bool (own != 0 && meets), .bool (flag || own != 0 && meets && older stamp own)]) ∧ w = w' := by
  have h2 : (own != 0) = decide (0 < own) := by rw [Bool.eq_iff_iff]; simp; omega
  have H2 := Lib.hid h2
  clear h2
  by_cases h : 0 < own
  all_goals
    cases flag
    all_goals
      cases meets
      all_goals
        go_enter Try.func32, Try.ntmps32
        go_wp2_with (go_at_call 35; refine (refOlder_any _ _ (by omega) (by omega) _).mono ?_; rintro e w' ⟨rfl, rfl⟩)
        go_ret2
        exact ⟨by first | (simp [H2.out, h]; done) | (simp [H2.out, h]; intro hh; omega), rfl⟩

theorem refGives_any (own : Int) (flag : Bool) (stamp : Int) (h0 : 0 ≤ own) (h1 : 0 ≤ stamp) (w : World) : Calls Try.prog 33 #[.int .u64 own, .bool flag, .int .u64 stamp] w fun e w' => e = .returned (.bool (flag && older stamp own)) ∧ w = w' := by
  by_cases h : 0 < own
  · cases flag
    all_goals
      go_enter Try.func33, Try.ntmps33
      go_wp2_with (go_at_call 35; refine (refOlder_any _ _ (by omega) (by omega) _).mono ?_; rintro e w' ⟨rfl, rfl⟩)
      go_ret
      exact ⟨by simp, rfl⟩
  · obtain rfl : own = 0 := by omega
    have h2 : older stamp 0 = false := by unfold older; simp; omega
    have H2 := Lib.hid h2
    clear h2
    go_enter Try.func33, Try.ntmps33
    go_wp2_with (go_at_call 35; refine (refOlder_any _ _ (by omega) (by omega) _).mono ?_; rintro e w' ⟨rfl, rfl⟩)
    go_ret
    exact ⟨by simp [H2.out], rfl⟩

end Go.Proofs.Ytdkdlgcgkkbghaa.Ord
