/- The contracts of the functions of layer 14 (order), of its reference and of its statements. -/
import Derived.Test.YtelaipbgogcjdaaGen
set_option linter.unusedSimpArgs false
set_option linter.unusedVariables false
namespace Go.Proofs.Ytelaipbgogcjdaa.Ord
open Go.RowKit

def older (a b : Int) : Bool := a != 0 && decide (a < b)

theorem older_any (a b : Int) (w : World) : Calls Try.prog 9 #[.int .u64 a, .int .u64 b] w fun e w' => e = .returned (.bool (older a b)) ∧ w = w' := by
  by_cases h : a = 0
  · subst h
    go_enter Try.func9, Try.ntmps9
    go_wp2
    go_ret
    exact ⟨rfl, rfl⟩
  · have h1 : (a != 0) = true := by simpa using h
    have h2 : older a b = decide (a < b) := by simp [older, h1]
    have H2 := Lib.hid h2
    clear h2 h
    by_cases h3 : a < b
    all_goals
      go_enter Try.func9, Try.ntmps9
      go_wp2
      go_ret
      exact ⟨by rw [H2.out]; simp [h3], rfl⟩

theorem asked_any (own : Int) (flag meets : Bool) (stamp : Int) (w : World) : Calls Try.prog 7 #[.int .u64 own, .bool flag, .bool meets, .int .u64 stamp] w fun e w' => e = .returned (.tuple #[.bool (own != 0 && meets), .bool (flag || own != 0 && meets && older stamp own)]) ∧ w = w' := by
  by_cases h : own = 0
  · subst h
    go_enter Try.func7, Try.ntmps7
    go_wp2
    refine wp_scope_fwd 0 rfl ?_
    go_wp2
    go_step3
    go_wp2
    refine ⟨rfl, ?_⟩
    go_wp2
    rw [Exit.noGoto_ret]
    go_wp2
    go_ret2
    exact ⟨by simp, rfl⟩
  · have h1 : (own != 0) = true := by simpa using h
    have H1 := Lib.hid h1
    have h0 : (own == 0) = false := by simpa using h
    clear h1 h
    cases meets
    · go_enter Try.func7, Try.ntmps7
      go_wp2
      refine wp_scope_fwd 0 rfl ?_
      go_wp2
      go_step3
      go_wp2
      refine ⟨rfl, ?_⟩
      go_wp2
      rw [Exit.noGoto_ret]
      go_wp2
      go_ret2
      exact ⟨by simp, rfl⟩
    · by_cases ho : older stamp own = true
      all_goals
        go_enter Try.func7, Try.ntmps7
        go_wp2
        refine wp_scope_fwd 0 rfl ?_
        go_wp2_with (go_at_call 9; refine (older_any _ _ _).mono ?_; rintro e w' ⟨rfl, rfl⟩)
        go_step3
        go_wp2
        rw [Exit.jump_ret]
        go_wp2
        go_ret2
        exact ⟨by simp [H1.out, ho], rfl⟩

theorem gives_any (own : Int) (flag : Bool) (stamp : Int) (w : World) : Calls Try.prog 10 #[.int .u64 own, .bool flag, .int .u64 stamp] w fun e w' => e = .returned (.bool (flag && older stamp own)) ∧ w = w' := by
  cases flag
  all_goals
    go_enter Try.func10, Try.ntmps10
    go_wp2_with (go_at_call 9; refine (older_any _ _ _).mono ?_; rintro e w' ⟨rfl, rfl⟩)
    go_ret
    exact ⟨rfl, rfl⟩

theorem works_any (w : World) : Calls Try.prog 8 #[] w fun e w' => e = .returned (.bool true) ∧ w = w' := by
  have h1 : older 3 5 = true := rfl
  have h2 : older 0 5 = false := rfl
  go_enter Try.func8, Try.ntmps8
  go_wp2_with (first | (go_at_call 9; refine (older_any _ _ _).mono ?_; rintro e w' ⟨rfl, rfl⟩) | (go_at_call 7; refine (asked_any _ _ _ _ _).mono ?_; rintro e w' ⟨rfl, rfl⟩) | (go_at_call 10; refine (gives_any _ _ _ _).mono ?_; rintro e w' ⟨rfl, rfl⟩))
  go_ret
  exact ⟨rfl, rfl⟩

theorem refOlder_any (a b : Int) (ha : 0 ≤ a) (hb : 0 ≤ b) (w : World) : Calls Try.prog 11 #[.int .u64 a, .int .u64 b] w fun e w' => e = .returned (.bool (older a b)) ∧ w = w' := by
  have h2 : older a b = (decide (0 < a) && decide (0 < b) && decide (a < b)) := by
    unfold older; rw [Bool.eq_iff_iff]; simp; omega
  have H2 := Lib.hid h2
  clear h2
  by_cases h0 : 0 < a
  · by_cases h1 : 0 < b
    · by_cases h3 : a < b
      all_goals
        go_enter Try.func11, Try.ntmps11
        go_wp2
        go_ret
        exact ⟨by rw [H2.out]; simp [h0, h1, h3], rfl⟩
    · have h3 : ¬ a < b := by omega
      go_enter Try.func11, Try.ntmps11
      go_wp2
      go_ret
      exact ⟨by rw [H2.out]; simp [h0, h1, h3], rfl⟩
  · obtain rfl : a = 0 := by omega
    go_enter Try.func11, Try.ntmps11
    go_wp2
    go_ret
    exact ⟨by simp [H2.out], rfl⟩

theorem refAsked_any (own : Int) (flag meets : Bool) (stamp : Int) (h0 : 0 ≤ own) (h1 : 0 ≤ stamp) (w : World) : Calls Try.prog 12 #[.int .u64 own, .bool flag, .bool meets, .int .u64 stamp] w fun e w' => e = .returned (.tuple #[.bool (own != 0 && meets), .bool (flag || own != 0 && meets && older stamp own)]) ∧ w = w' := by
  have h2 : (own != 0) = decide (0 < own) := by rw [Bool.eq_iff_iff]; simp; omega
  have H2 := Lib.hid h2
  clear h2
  by_cases h : 0 < own
  all_goals
    cases flag
    all_goals
      cases meets
      all_goals
        go_enter Try.func12, Try.ntmps12
        go_wp2_with (go_at_call 11; refine (refOlder_any _ _ (by omega) (by omega) _).mono ?_; rintro e w' ⟨rfl, rfl⟩)
        go_ret2
        exact ⟨by first | (simp [H2.out, h]; done) | (simp [H2.out, h]; intro hh; omega), rfl⟩

theorem refGives_any (own : Int) (flag : Bool) (stamp : Int) (h0 : 0 ≤ own) (h1 : 0 ≤ stamp) (w : World) : Calls Try.prog 13 #[.int .u64 own, .bool flag, .int .u64 stamp] w fun e w' => e = .returned (.bool (flag && older stamp own)) ∧ w = w' := by
  by_cases h : 0 < own
  · cases flag
    all_goals
      go_enter Try.func13, Try.ntmps13
      go_wp2_with (go_at_call 11; refine (refOlder_any _ _ (by omega) (by omega) _).mono ?_; rintro e w' ⟨rfl, rfl⟩)
      go_ret
      exact ⟨by simp, rfl⟩
  · obtain rfl : own = 0 := by omega
    have h2 : older stamp 0 = false := by unfold older; simp; omega
    have H2 := Lib.hid h2
    clear h2
    go_enter Try.func13, Try.ntmps13
    go_wp2_with (go_at_call 11; refine (refOlder_any _ _ (by omega) (by omega) _).mono ?_; rintro e w' ⟨rfl, rfl⟩)
    go_ret
    exact ⟨by simp [H2.out], rfl⟩

theorem lawKnown_any (w : World) : Calls Try.prog 3 #[] w fun e w' => e = .returned (.bool true) ∧ w = w' := by
  have k1 : older 5 5 = false := rfl
  have k2 : older 9 5 = false := rfl
  have k3 : older 3 5 = true := rfl
  go_enter Try.func3, Try.ntmps3
  go_wp2_with (first | (go_at_call 9; refine (older_any _ _ _).mono ?_; rintro e w' ⟨rfl, rfl⟩) | (go_at_call 7; refine (asked_any _ _ _ _ _).mono ?_; rintro e w' ⟨rfl, rfl⟩) | (go_at_call 10; refine (gives_any _ _ _ _).mono ?_; rintro e w' ⟨rfl, rfl⟩) | (go_at_call 8; refine (works_any _).mono ?_; rintro e w' ⟨rfl, rfl⟩))
  go_ret
  exact ⟨rfl, rfl⟩

theorem lawOlder_any (a b : Int) (ha : 0 ≤ a) (hb : 0 ≤ b) (w : World) : Calls Try.prog 4 #[.int .u64 a, .int .u64 b] w fun e w' => e = .returned (.bool true) ∧ w = w' := by
  go_enter Try.func4, Try.ntmps4
  go_wp2_with (first | (go_at_call 9; refine (older_any _ _ _).mono ?_; rintro e w' ⟨rfl, rfl⟩) | (go_at_call 11; refine (refOlder_any _ _ (by omega) (by omega) _).mono ?_; rintro e w' ⟨rfl, rfl⟩) | (go_at_call 8; refine (works_any _).mono ?_; rintro e w' ⟨rfl, rfl⟩))
  go_ret
  exact ⟨rfl, rfl⟩

theorem lawAsked_any (own : Int) (flag meets : Bool) (stamp : Int) (ha : 0 ≤ own) (hb : 0 ≤ stamp) (w : World) : Calls Try.prog 5 #[.int .u64 own, .bool flag, .bool meets, .int .u64 stamp] w fun e w' => e = .returned (.bool true) ∧ w = w' := by
  generalize hr : (own != 0 && meets) = r
  generalize hn : (flag || own != 0 && meets && older stamp own) = n
  generalize hg : (flag && older stamp own) = g
  have Ha : ∀ W, Calls Try.prog 7 #[.int .u64 own, .bool flag, .bool meets, .int .u64 stamp] W fun e w' => e = .returned (.tuple #[.bool r, .bool n]) ∧ W = w' := by
    intro W; rw [← hr, ← hn]; exact asked_any _ _ _ _ _
  have Hb : ∀ W, Calls Try.prog 12 #[.int .u64 own, .bool flag, .bool meets, .int .u64 stamp] W fun e w' => e = .returned (.tuple #[.bool r, .bool n]) ∧ W = w' := by
    intro W; rw [← hr, ← hn]; exact refAsked_any _ _ _ _ ha hb _
  have Hc : ∀ W, Calls Try.prog 10 #[.int .u64 own, .bool flag, .int .u64 stamp] W fun e w' => e = .returned (.bool g) ∧ W = w' := by
    intro W; rw [← hg]; exact gives_any _ _ _ _
  have Hd : ∀ W, Calls Try.prog 13 #[.int .u64 own, .bool flag, .int .u64 stamp] W fun e w' => e = .returned (.bool g) ∧ W = w' := by
    intro W; rw [← hg]; exact refGives_any _ _ _ ha hb _
  clear hr hn hg
  have HA := Lib.hid Ha
  have HB := Lib.hid Hb
  have HC := Lib.hid Hc
  have HD := Lib.hid Hd
  clear Ha Hb Hc Hd
  go_enter Try.func5, Try.ntmps5
  go_wp2_with (first | (go_at_call 7; refine (HA.out _).mono ?_; rintro e w' ⟨rfl, rfl⟩) | (go_at_call 12; refine (HB.out _).mono ?_; rintro e w' ⟨rfl, rfl⟩) | (go_at_call 10; refine (HC.out _).mono ?_; rintro e w' ⟨rfl, rfl⟩) | (go_at_call 13; refine (HD.out _).mono ?_; rintro e w' ⟨rfl, rfl⟩) | (go_at_call 8; refine (works_any _).mono ?_; rintro e w' ⟨rfl, rfl⟩))
  go_ret
  exact ⟨rfl, rfl⟩
def upAt (own : Int) (M : Nat → Bool) (Z : Nat → Int) (flag : Bool) : Nat → Bool
  | 0 => flag
  | k + 1 => upAt own M Z flag k || own != 0 && M k && older (Z k) own

set_option maxRecDepth 100000 in
set_option maxHeartbeats 1000000 in
theorem lawFlags_any (own : Int) (flag : Bool) (a : Option Addr) (len cap : Nat) (B : Nat → Bool) (a2 : Option Addr) (len2 cap2 : Nat) (Z : Nat → Int) (w : World)
    (h1 : IsRow1 w a len cap (fun i => .bool (B i))) (h2 : IsRow1 w a2 len2 cap2 (fun i => .int .u64 (Z i))) :
    Calls Try.prog 6 #[.int .u64 own, .bool flag, .slice a len cap, .slice a2 len2 cap2] w fun e w' => e = .returned (.bool true) ∧ w = w' := by
  obtain ⟨l1, m1, c1⟩ := h1
  obtain ⟨l2, m2, c2⟩ := h2
  unfold maxLen at m1 m2
  have C1 := Lib.hid c1
  have C2 := Lib.hid c2
  clear c1 c2
  by_cases hbig : 200 < len2
  · go_enter Try.func6, Try.ntmps6
    go_wp2_with (go_at_call 8; refine (works_any _).mono ?_; rintro e w' ⟨rfl, rfl⟩)
    go_ret
    exact ⟨rfl, rfl⟩
  · have hb0 : decide ((200 : Int) < (len2 : Int)) = false := by simp; omega
    go_enter Try.func6, Try.ntmps6
    go_wp2
    go_loop [9, 10, 24] (fun u o i => ∃ k : Nat, k ≤ len2 ∧ i = .int .i64 k ∧ u = .bool (upAt own (fun j => decide (j < len) && B j) Z flag k) ∧ o = .bool (upAt own (fun j => decide (j < len) && B j) Z flag k)) (fun _ _ i => len2 - (intOf i).toNat)
    case atStart => exact ⟨0, Nat.zero_le _, rfl, rfl, rfl⟩
    case round =>
      obtain ⟨k, hk, rfl, rfl, rfl⟩ := hrel
      by_cases hlt : k < len2
      · obtain ⟨x2, rfl, g2⟩ := C2.out k hlt
        have hs : upAt own (fun j => decide (j < len) && B j) Z flag (k + 1) = (upAt own (fun j => decide (j < len) && B j) Z flag k || own != 0 && (decide (k < len) && B k) && older (Z k) own) := rfl
        generalize upAt own (fun j => decide (j < len) && B j) Z flag k = U at *
        generalize Z k = z at *
        by_cases hk1 : k < len
        · obtain ⟨x1, rfl, g1⟩ := C1.out k hk1
          generalize B k = b at *
          simp only [hk1, decide_true, Bool.true_and] at hs
          cases b
          · simp only [Bool.and_false, Bool.false_and, Bool.or_false] at hs
            cases U
            all_goals
              have HS := Lib.hid hs
              clear hs
              go_wp2_with (go_at_call 7; refine (asked_any _ _ _ _ _).mono ?_; rintro e w' ⟨rfl, rfl⟩)
              go_round
              case rel => exact ⟨k + 1, by omega, by go_num, by rw [HS.out]; all_goals (simp; try omega), by rw [HS.out]; all_goals (simp; try omega)⟩
              case measure => simp [intOf]; omega
          · by_cases ho : own = 0
            · subst ho
              simp only [bne_self_eq_false, Bool.false_and, Bool.or_false] at hs
              cases U
              all_goals
                have HS := Lib.hid hs
                clear hs
                go_wp2_with (go_at_call 7; refine (asked_any _ _ _ _ _).mono ?_; rintro e w' ⟨rfl, rfl⟩)
                go_round
                case rel => exact ⟨k + 1, by omega, by go_num, by rw [HS.out]; all_goals (simp; try omega), by rw [HS.out]; all_goals (simp; try omega)⟩
                case measure => simp [intOf]; omega
            · have ho1 : (own != 0) = true := by simpa using ho
              have ho2 : (own == 0) = false := by simpa using ho
              clear ho
              simp only [ho1, Bool.true_and] at hs
              by_cases hz : z = 0
              · subst hz
                have hol : older 0 own = false := rfl
                rw [hol, Bool.or_false] at hs
                cases U
                all_goals
                  have HS := Lib.hid hs
                  clear hs
                  go_wp2_with (go_at_call 7; refine (asked_any _ _ _ _ _).mono ?_; rintro e w' ⟨rfl, rfl⟩)
                  go_round
                  case rel => exact ⟨k + 1, by omega, by go_num, by rw [HS.out]; all_goals (simp; try omega), by rw [HS.out]; all_goals (simp; try omega)⟩
                  case measure => simp [intOf]; omega
              · have hz1 : (z != 0) = true := by simpa using hz
                have hz2 : (z == 0) = false := by simpa using hz
                clear hz
                by_cases hzo : z < own
                · have hol : older z own = true := by simp [older, hz1, hzo]
                  rw [hol, Bool.or_true] at hs
                  cases U
                  all_goals
                    have HS := Lib.hid hs
                    clear hs
                    go_wp2_with (go_at_call 7; refine (asked_any _ _ _ _ _).mono ?_; rintro e w' ⟨rfl, rfl⟩)
                    go_round
                    case rel => exact ⟨k + 1, by omega, by go_num, by rw [HS.out]; all_goals (simp; try omega), by rw [HS.out]; all_goals (simp; try omega)⟩
                    case measure => simp [intOf]; omega
                · have hol : older z own = false := by simp [older, hz1]; omega
                  rw [hol, Bool.or_false] at hs
                  cases U
                  all_goals
                    have HS := Lib.hid hs
                    clear hs
                    go_wp2_with (go_at_call 7; refine (asked_any _ _ _ _ _).mono ?_; rintro e w' ⟨rfl, rfl⟩)
                    go_round
                    case rel => exact ⟨k + 1, by omega, by go_num, by rw [HS.out]; all_goals (simp; try omega), by rw [HS.out]; all_goals (simp; try omega)⟩
                    case measure => simp [intOf]; omega
        · simp only [hk1, decide_false, Bool.false_and, Bool.and_false, Bool.or_false] at hs
          have hk2 : decide ((k : Int) < (len : Int)) = false := by simp; omega
          cases U
          all_goals
            have HS := Lib.hid hs
            clear hs
            go_wp2_with (go_at_call 7; refine (asked_any _ _ _ _ _).mono ?_; rintro e w' ⟨rfl, rfl⟩)
            go_round
            case rel => exact ⟨k + 1, by omega, by go_num, by rw [HS.out]; all_goals (simp; try omega), by rw [HS.out]; all_goals (simp; try omega)⟩
            case measure => simp [intOf]; omega
      · go_wp2_with (go_at_call 8; refine (works_any _).mono ?_; rintro e w' ⟨rfl, rfl⟩)
        go_ret
        exact ⟨rfl, rfl⟩
end Go.Proofs.Ytelaipbgogcjdaa.Ord
