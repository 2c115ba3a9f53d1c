/- The contracts of the functions of layer 14 (order). -/
import Derived.Test.YtbhcdbnbiocimaaGen
set_option linter.unusedSimpArgs false
set_option linter.unusedVariables false
namespace Go.Proofs.Ytbhcdbnbiocimaa.Ord
open Go.RowKit

def older (a b : Int) : Bool := a != 0 && decide (a < b)

theorem older_any (a b : Int) (w : World) : Calls Try.prog 10 #[.int .u64 a, .int .u64 b] w fun e w' => e = .returned (.bool (older a b)) ∧ w = w' := by
  by_cases h : a = 0
  · subst h
    go_enter Try.func10, Try.ntmps10
    go_wp2
    go_ret
    exact ⟨rfl, rfl⟩
  · have h1 : (a != 0) = true := by simpa using h
    have h2 : older a b = decide (a < b) := by simp [older, h1]
    have H2 := Lib.hid h2
    clear h2 h
    by_cases h3 : a < b
    all_goals
      go_enter Try.func10, Try.ntmps10
      go_wp2
      go_ret
      exact ⟨by rw [H2.out]; simp [h3], rfl⟩

theorem asked_any (own : Int) (flag meets : Bool) (stamp : Int) (w : World) : Calls Try.prog 8 #[.int .u64 own, .bool flag, .bool meets, .int .u64 stamp] w fun e w' => e = .returned (.tuple #[.bool (own != 0 && meets), .bool (flag || own != 0 && meets && older stamp own)]) ∧ w = w' := by
  by_cases h : own = 0
  · subst h
    go_enter Try.func8, Try.ntmps8
    go_wp2
    refine wp_scope_fwd 0 rfl ?_
    go_wp2
    go_step3
    go_wp2
    refine ⟨rfl, ?_⟩
    go_wp2
    rw [Exit.noGoto_ret]
    go_wp2
    go_ret2
    exact ⟨by simp, rfl⟩
  · have h1 : (own != 0) = true := by simpa using h
    have H1 := Lib.hid h1
    have h0 : (own == 0) = false := by simpa using h
    clear h1 h
    cases meets
    · go_enter Try.func8, Try.ntmps8
      go_wp2
      refine wp_scope_fwd 0 rfl ?_
      go_wp2
      go_step3
      go_wp2
      refine ⟨rfl, ?_⟩
      go_wp2
      rw [Exit.noGoto_ret]
      go_wp2
      go_ret2
      exact ⟨by simp, rfl⟩
    · by_cases ho : older stamp own = true
      all_goals
        go_enter Try.func8, Try.ntmps8
        go_wp2
        refine wp_scope_fwd 0 rfl ?_
        go_wp2_with (go_at_call 10; refine (older_any _ _ _).mono ?_; rintro e w' ⟨rfl, rfl⟩)
        go_step3
        go_wp2
        rw [Exit.jump_ret]
        go_wp2
        go_ret2
        exact ⟨by simp [H1.out, ho], rfl⟩

theorem gives_any (own : Int) (flag : Bool) (stamp : Int) (w : World) : Calls Try.prog 9 #[.int .u64 own, .bool flag, .int .u64 stamp] w fun e w' => e = .returned (.bool (flag && older stamp own)) ∧ w = w' := by
  cases flag
  all_goals
    go_enter Try.func9, Try.ntmps9
    go_wp2_with (go_at_call 10; refine (older_any _ _ _).mono ?_; rintro e w' ⟨rfl, rfl⟩)
    go_ret
    exact ⟨rfl, rfl⟩

theorem works_any (w : World) : Calls Try.prog 4 #[] w fun e w' => e = .returned (.bool true) ∧ w = w' := by
  have h1 : older 3 5 = true := rfl
  have h2 : older 0 5 = false := rfl
  go_enter Try.func4, Try.ntmps4
  go_wp2_with (first | (go_at_call 10; refine (older_any _ _ _).mono ?_; rintro e w' ⟨rfl, rfl⟩) | (go_at_call 8; refine (asked_any _ _ _ _ _).mono ?_; rintro e w' ⟨rfl, rfl⟩) | (go_at_call 9; refine (gives_any _ _ _ _).mono ?_; rintro e w' ⟨rfl, rfl⟩))
  go_ret
  exact ⟨rfl, rfl⟩

end Go.Proofs.Ytbhcdbnbiocimaa.Ord
