/- MarksKnown: what the Go function does; no marks at all. -/
import Derived.Test.YtkncijoclnjpoaaMarkWorks
set_option linter.unusedSimpArgs false
set_option linter.unusedVariables false
namespace Go.Proofs.Ytkncijoclnjpoaa.MK
open Go.RowKit
open PL (Cfg CC CV May)
attribute [local go_sem] Oper.semAt_some
abbrev nilP : Value := .pointer none
theorem put_nil (x : Int) (r q : Bool) (w : World) : Calls Try.prog 30 #[nilP, .int .i64 x, .agg #[.bool r, .bool q]] w fun e w' => e = .returned (.int .i64 1) ∧ Upd NoF w w' := by
  have hu := Upd.alloc NoF w (.cells #[.bool r, .bool q] 55)
  have HU := Lib.hid hu
  clear hu
  go_enter Try.func30, Try.ntmps30
  go_wp2
  go_ret
  exact ⟨rfl, HU.out⟩
theorem read_nil (x : Int) (w : World) : Calls Try.prog 10 #[nilP, .int .i64 x] w fun e w' => e = .returned (.int .i64 1) ∧ Upd NoF w w' := by
  go_enter Try.func10, Try.ntmps10
  go_wp2_with fail
  refine (put_nil x true false _).mono ?_
  rintro e w' ⟨rfl, hu⟩
  have HU := Lib.hid hu
  clear hu
  go_wp2
  go_ret
  exact ⟨rfl, HU.out⟩
theorem write_nil (x : Int) (w : World) : Calls Try.prog 11 #[nilP, .int .i64 x] w fun e w' => e = .returned (.int .i64 1) ∧ Upd NoF w w' := by
  go_enter Try.func11, Try.ntmps11
  go_wp2_with fail
  refine (put_nil x false true _).mono ?_
  rintro e w' ⟨rfl, hu⟩
  have HU := Lib.hid hu
  clear hu
  go_wp2
  go_ret
  exact ⟨rfl, HU.out⟩
theorem has_nil (x : Int) (w : World) : Calls Try.prog 12 #[nilP, .int .i64 x] w fun e w' => e = .returned (.tuple #[.bool false, .bool false]) ∧ Upd NoF w w' := by
  go_enter Try.func12, Try.ntmps12
  go_wp2
  go_ret2
  exact ⟨rfl, Upd.refl _ _⟩
theorem meets_nil (x : Int) (w : World) : Calls Try.prog 13 #[nilP, .int .u8 5, .int .i64 x] w fun e w' => e = .returned (.bool false) ∧ Upd NoF w w' := by
  go_enter Try.func13, Try.ntmps13
  go_wp2_with fail
  refine (has_nil x _).mono ?_
  rintro e w' ⟨rfl, hu⟩
  have HU := Lib.hid hu
  clear hu
  go_wp2
  go_ret
  exact ⟨rfl, HU.out⟩
theorem clear_nil (w : World) : Calls Try.prog 14 #[nilP] w fun e w' => e = .returned (.tuple #[]) ∧ Upd NoF w w' := by
  go_enter Try.func14, Try.ntmps14
  go_wp2
  go_end0
  exact ⟨rfl, Upd.refl _ _⟩
theorem all_nil (w : World) : Calls Try.prog 15 #[nilP] w fun e w' => e = .returned (.slice none 0 0) ∧ Upd NoF w w' := by
  go_enter Try.func15, Try.ntmps15
  go_wp2
  go_ret
  exact ⟨rfl, Upd.refl _ _⟩
theorem copy_nil (w : World) : Calls Try.prog 18 #[nilP] w fun e w' => e = .returned nilP ∧ Upd NoF w w' := by
  go_enter Try.func18, Try.ntmps18
  go_wp2
  go_ret
  exact ⟨rfl, Upd.refl _ _⟩
def c00 : Cfg := ⟨0, 0, 0, 0, 0, 0, 0, 0⟩
set_option maxRecDepth 100000 in
set_option maxHeartbeats 2000000 in
theorem known_any (w : World) : Calls Try.prog 6 #[] w fun e w' => e = .returned (.bool true) ∧ Below w.heap.size w w' := by
  go_enter Try.func6, Try.ntmps6
  go_wp2_with fail
  refine (eight_any w).mono ?_
  rintro e v1 ⟨rfl, hu⟩
  have HS1 := Lib.hid ((Sep.zero NoF w).upd0 hu)
  clear hu
  go_wp2_with fail
  refine (new_yes HS1.out c8 may8).mono ?_
  rintro e v2 ⟨kb, mb, rfl, hk⟩
  have HK2 := Lib.hid hk
  clear hk
  have hd : c8.blocks - c8.cores * c8.logs = 8 := by decide
  rw [hd] at HK2
  clear hd
  go_wp2_with fail
  refine (works_any _).mono ?_
  rintro e v3 ⟨rfl, hu⟩
  have HK3 := Lib.hid (HK2.out.upd0 hu)
  clear hu
  go_wp2_with fail
  refine (read_any HK3.out (by decide) 3 (fit_small (by decide))).mono ?_
  rintro e v4 ⟨rfl, hk⟩
  have HK4 := Lib.hid hk
  clear hk
  have e3 : putE 8 3 = 0 := by decide
  rw [e3]
  clear e3
  go_wp2_with fail
  refine (write_any HK4.out (by decide) 5 (fit_small (by decide))).mono ?_
  rintro e v5 ⟨rfl, hk⟩
  have HK5 := Lib.hid hk
  clear hk
  have e5 : putE 8 5 = 0 := by decide
  rw [e5]
  clear e5
  have m1 : meetB 4 (putF 8 (putF 8 none2 3 true false) 5 false true 3) = false := by decide
  have m2 : meetB 5 (putF 8 (putF 8 none2 3 true false) 5 false true 3) = true := by decide
  have m3 : meetB 4 (putF 8 (putF 8 none2 3 true false) 5 false true 5) = true := by decide
  have m4 : meetB 9 (putF 8 (putF 8 none2 3 true false) 5 false true 5) = false := by decide
  have H1 := meets_any HK5.out 4 3 (fit_small (by decide))
  rw [m1] at H1
  have H1 := Lib.hid H1
  clear m1
  go_wp2_with fail
  refine H1.out.mono ?_
  rintro e v6 ⟨rfl, hu⟩
  have HK6 := Lib.hid (HK5.out.upd0 hu)
  clear hu
  have H2 := meets_any HK6.out 5 3 (fit_small (by decide))
  rw [m2] at H2
  have H2 := Lib.hid H2
  clear m2
  go_wp2_with fail
  refine H2.out.mono ?_
  rintro e v7 ⟨rfl, hu⟩
  have HK7 := Lib.hid (HK6.out.upd0 hu)
  clear hu
  have H3 := meets_any HK7.out 4 5 (fit_small (by decide))
  rw [m3] at H3
  have H3 := Lib.hid H3
  clear m3
  go_wp2_with fail
  refine H3.out.mono ?_
  rintro e v8 ⟨rfl, hu⟩
  have HK8 := Lib.hid (HK7.out.upd0 hu)
  clear hu
  have H4 := meets_any HK8.out 9 5 (fit_small (by decide))
  rw [m4] at H4
  have H4 := Lib.hid H4
  clear m4
  go_wp2_with fail
  refine H4.out.mono ?_
  rintro e v9 ⟨rfl, hu⟩
  have HU9 := Lib.hid ((HK8.out.upd0 hu).sep.upd)
  clear hu HK2 HK3 HK4 HK5 HK6 HK7 HK8 H1 H2 H3 H4 HS1
  go_wp2_with fail
  refine (clear_nil v9).mono ?_
  rintro e x1 ⟨rfl, hu⟩
  have HA := Lib.hid (HU9.out.trans hu (fun _ _ h => h))
  clear hu HU9
  go_wp2_with fail
  refine (has_nil 0 x1).mono ?_
  rintro e x2 ⟨rfl, hu⟩
  have HB := Lib.hid (HA.out.trans hu (fun _ _ h => h))
  clear hu HA
  have HN := Lib.hid (show Calls Try.prog 9 #[.agg #[.int .i64 0, .int .i64 0, .int .i64 0, .int .i64 0, .int .i64 0, .int .i64 0, .int .i64 0, .int .i64 0]] x2 fun e w' => e = .returned (.tuple #[.pointer none, .int .i64 2]) ∧ Upd NoF x2 w' from new_no c00 (by decide) x2)
  go_wp2_with fail
  refine HN.out.mono ?_
  rintro e x3 ⟨rfl, hu⟩
  have HC := Lib.hid (HB.out.trans hu (fun _ _ h => h))
  clear hu HB HN
  go_wp2_with fail
  refine (read_nil 0 x3).mono ?_
  rintro e x4 ⟨rfl, hu⟩
  have HD := Lib.hid (HC.out.trans hu (fun _ _ h => h))
  clear hu HC
  go_wp2_with fail
  refine (write_nil 0 x4).mono ?_
  rintro e x5 ⟨rfl, hu⟩
  have HE := Lib.hid (HD.out.trans hu (fun _ _ h => h))
  clear hu HD
  go_wp2_with fail
  refine (meets_nil 0 x5).mono ?_
  rintro e x6 ⟨rfl, hu⟩
  have HF := Lib.hid (HE.out.trans hu (fun _ _ h => h))
  clear hu HE
  go_wp2_with fail
  refine (all_nil x6).mono ?_
  rintro e x7 ⟨rfl, hu⟩
  have HG := Lib.hid (HF.out.trans hu (fun _ _ h => h))
  clear hu HF
  go_wp2_with fail
  refine (copy_nil x7).mono ?_
  rintro e x8 ⟨rfl, hu⟩
  have HH := Lib.hid (HG.out.trans hu (fun _ _ h => h))
  clear hu HG
  go_wp2
  go_ret
  exact ⟨rfl, HH.out.below (Nat.le_refl _) (fun _ _ h => h)⟩
end Go.Proofs.Ytkncijoclnjpoaa.MK
