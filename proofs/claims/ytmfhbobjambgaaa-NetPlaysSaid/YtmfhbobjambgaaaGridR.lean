/- The reference undertowref01: Place, Hops. -/
import Derived.Test.YtmfhbobjambgaaaNetG
set_option linter.unusedSimpArgs false
set_option linter.unusedVariables false
namespace Go.Proofs.Ytmfhbobjambgaaa.GR
open Go.RowKit
attribute [local go_sem] Oper.semAt_some
theorem rplace_any (n : Int) (h : -1 ≤ n ∧ n < 16) (w : World) : Calls Try.prog 48 #[.int .i64 n] w fun e w' => e = .returned (.tuple #[.int .i64 (px n), .int .i64 (py n), .int .i64 0]) ∧ w = w' := by
  have : n = -1 ∨ n = 0 ∨ n = 1 ∨ n = 2 ∨ n = 3 ∨ n = 4 ∨ n = 5 ∨ n = 6 ∨ n = 7 ∨ n = 8 ∨ n = 9 ∨ n = 10 ∨ n = 11 ∨ n = 12 ∨ n = 13 ∨ n = 14 ∨ n = 15 := by omega
  clear h
  rcases this with rfl | rfl | rfl | rfl | rfl | rfl | rfl | rfl | rfl | rfl | rfl | rfl | rfl | rfl | rfl | rfl | rfl
  all_goals
    go_enter Try.func48, Try.ntmps48
    go_wp2
    refine bodyPost_ret (results_tmp3 (by rfl) _ _ _) rfl ?_
    exact ⟨rfl, rfl⟩
theorem rabs_any (n : Int) (h : -100 ≤ n ∧ n ≤ 100) (w : World) : Calls Try.prog 60 #[.int .i64 n] w fun e w' => e = .returned (.int .i64 (n.natAbs : Nat)) ∧ w = w' := by
  have hw : IntKind.i64.wrap (-n) = -n := IntWalk.i64_in _ (by omega)
  by_cases h0 : n < 0
  · have g : decide (n < 0) = true := by simp; omega
    have e : ((n.natAbs : Nat) : Int) = -n := by omega
    rw [e]
    go_enter Try.func60, Try.ntmps60
    go_wp2
    go_ret
    exact ⟨rfl, rfl⟩
  · have g : decide (n < 0) = false := by simp; omega
    have e : ((n.natAbs : Nat) : Int) = n := by omega
    rw [e]
    go_enter Try.func60, Try.ntmps60
    go_wp2
    go_ret
    exact ⟨rfl, rfl⟩
theorem px_rng (n : Int) (h : -1 ≤ n ∧ n < 16) : -1 ≤ px n ∧ px n ≤ 3 ∧ 0 ≤ py n ∧ py n ≤ 3 := by
  have : n = -1 ∨ n = 0 ∨ n = 1 ∨ n = 2 ∨ n = 3 ∨ n = 4 ∨ n = 5 ∨ n = 6 ∨ n = 7 ∨ n = 8 ∨ n = 9 ∨ n = 10 ∨ n = 11 ∨ n = 12 ∨ n = 13 ∨ n = 14 ∨ n = 15 := by omega
  rcases this with rfl | rfl | rfl | rfl | rfl | rfl | rfl | rfl | rfl | rfl | rfl | rfl | rfl | rfl | rfl | rfl | rfl <;> decide
theorem rhops_any (a b : Int) (ha : -1 ≤ a ∧ a < 16) (hb : -1 ≤ b ∧ b < 16) (w : World) : Calls Try.prog 49 #[.int .i64 (px a), .int .i64 (py a), .int .i64 (px b), .int .i64 (py b)] w fun e w' => e = .returned (.int .i64 (hopsN a b)) ∧ w = w' := by
  have h1 := px_rng a ha
  have h2 := px_rng b hb
  have e : hopsN a b = ((px b - px a).natAbs : Nat) + ((py b - py a).natAbs : Nat) := by unfold hopsN; omega
  rw [e]
  have hw1 : IntKind.i64.wrap (px b - px a) = px b - px a := IntWalk.i64_in _ (by omega)
  have hw2 : IntKind.i64.wrap (py b - py a) = py b - py a := IntWalk.i64_in _ (by omega)
  have hw3 : IntKind.i64.wrap (((px b - px a).natAbs : Nat) + ((py b - py a).natAbs : Nat)) = ((px b - px a).natAbs : Nat) + ((py b - py a).natAbs : Nat) := IntWalk.i64_in _ (by omega)
  have HA1 := Lib.hid (rabs_any (px b - px a) (by omega))
  have HA2 := Lib.hid (rabs_any (py b - py a) (by omega))
  clear e h1 h2
  generalize ((px b - px a).natAbs : Nat) = u at *
  generalize ((py b - py a).natAbs : Nat) = v at *
  go_enter Try.func49, Try.ntmps49
  go_wp2_with fail
  refine (HA1.out _).mono ?_
  rintro e w2 ⟨rfl, rfl⟩
  go_wp2_with fail
  refine (HA2.out _).mono ?_
  rintro e w2 ⟨rfl, rfl⟩
  go_wp2
  go_ret
  exact ⟨rfl, rfl⟩
end Go.Proofs.Ytmfhbobjambgaaa.GR
