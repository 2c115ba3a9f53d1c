/- Package grid at the places of nodes; how far a note goes. -/
import Derived.Test.YtmfhbobjambgaaaNoteD
import Derived.WalkLawsBesides
set_option linter.unusedSimpArgs false
set_option linter.unusedVariables false
namespace Go.Proofs.Ytmfhbobjambgaaa.GR
open Go.RowKit
open BU (IsU words)
attribute [local go_sem] Oper.semAt_some

/-- Where a node lies. -/
def px (n : Int) : Int := if n = -1 then -1 else n.emod 4
def py (n : Int) : Int := if n = -1 then 0 else n.ediv 4
def hopsN (a b : Int) : Int := ((px b - px a).natAbs + (py b - py a).natAbs : Nat)
def fbits (x : Int) : Nat := if x = -1 then 13830554455654793216 else if x = 0 then 0 else if x = 1 then 4607182418800017408 else if x = 2 then 4611686018427387904 else 4613937818241073152
def plc (n : Int) : Value := .complex .f64 (fbits (px n)) (fbits (py n))
theorem bits_run (b : Nat) (w : World) : (callFunc 69 #[.float .f64 b]).run Try.prog w = .ok (.value (.int .u64 b)) w := by kernel_rfl
attribute [local go_sem ↓] bits_run
theorem abs_m4 (w : World) : Calls Try.prog 64 #[.float .f64 13839561654909534208] w fun e w' => e = .returned (.float .f64 4616189618054758400) ∧ w = w' := by
  have h1 : bits .andNot .u64 13839561654909534208 9223372036854775808 = 4616189618054758400 := by kernel_rfl
  have h2 : (callFunc 68 #[.int .u64 4616189618054758400]).run Try.prog w = .ok (.value (.float .f64 4616189618054758400)) w := by kernel_rfl
  go_enter Try.func64, Try.ntmps64
  go_wp2
  go_ret
  exact ⟨rfl, rfl⟩
theorem abs_m3 (w : World) : Calls Try.prog 64 #[.float .f64 13837309855095848960] w fun e w' => e = .returned (.float .f64 4613937818241073152) ∧ w = w' := by
  have h1 : bits .andNot .u64 13837309855095848960 9223372036854775808 = 4613937818241073152 := by kernel_rfl
  have h2 : (callFunc 68 #[.int .u64 4613937818241073152]).run Try.prog w = .ok (.value (.float .f64 4613937818241073152)) w := by kernel_rfl
  go_enter Try.func64, Try.ntmps64
  go_wp2
  go_ret
  exact ⟨rfl, rfl⟩
theorem abs_m2 (w : World) : Calls Try.prog 64 #[.float .f64 13835058055282163712] w fun e w' => e = .returned (.float .f64 4611686018427387904) ∧ w = w' := by
  have h1 : bits .andNot .u64 13835058055282163712 9223372036854775808 = 4611686018427387904 := by kernel_rfl
  have h2 : (callFunc 68 #[.int .u64 4611686018427387904]).run Try.prog w = .ok (.value (.float .f64 4611686018427387904)) w := by kernel_rfl
  go_enter Try.func64, Try.ntmps64
  go_wp2
  go_ret
  exact ⟨rfl, rfl⟩
theorem abs_m1 (w : World) : Calls Try.prog 64 #[.float .f64 13830554455654793216] w fun e w' => e = .returned (.float .f64 4607182418800017408) ∧ w = w' := by
  have h1 : bits .andNot .u64 13830554455654793216 9223372036854775808 = 4607182418800017408 := by kernel_rfl
  have h2 : (callFunc 68 #[.int .u64 4607182418800017408]).run Try.prog w = .ok (.value (.float .f64 4607182418800017408)) w := by kernel_rfl
  go_enter Try.func64, Try.ntmps64
  go_wp2
  go_ret
  exact ⟨rfl, rfl⟩
theorem abs_0 (w : World) : Calls Try.prog 64 #[.float .f64 0] w fun e w' => e = .returned (.float .f64 0) ∧ w = w' := by
  have h1 : bits .andNot .u64 0 9223372036854775808 = 0 := by kernel_rfl
  have h2 : (callFunc 68 #[.int .u64 0]).run Try.prog w = .ok (.value (.float .f64 0)) w := by kernel_rfl
  go_enter Try.func64, Try.ntmps64
  go_wp2
  go_ret
  exact ⟨rfl, rfl⟩
theorem abs_1 (w : World) : Calls Try.prog 64 #[.float .f64 4607182418800017408] w fun e w' => e = .returned (.float .f64 4607182418800017408) ∧ w = w' := by
  have h1 : bits .andNot .u64 4607182418800017408 9223372036854775808 = 4607182418800017408 := by kernel_rfl
  have h2 : (callFunc 68 #[.int .u64 4607182418800017408]).run Try.prog w = .ok (.value (.float .f64 4607182418800017408)) w := by kernel_rfl
  go_enter Try.func64, Try.ntmps64
  go_wp2
  go_ret
  exact ⟨rfl, rfl⟩
theorem abs_2 (w : World) : Calls Try.prog 64 #[.float .f64 4611686018427387904] w fun e w' => e = .returned (.float .f64 4611686018427387904) ∧ w = w' := by
  have h1 : bits .andNot .u64 4611686018427387904 9223372036854775808 = 4611686018427387904 := by kernel_rfl
  have h2 : (callFunc 68 #[.int .u64 4611686018427387904]).run Try.prog w = .ok (.value (.float .f64 4611686018427387904)) w := by kernel_rfl
  go_enter Try.func64, Try.ntmps64
  go_wp2
  go_ret
  exact ⟨rfl, rfl⟩
theorem abs_3 (w : World) : Calls Try.prog 64 #[.float .f64 4613937818241073152] w fun e w' => e = .returned (.float .f64 4613937818241073152) ∧ w = w' := by
  have h1 : bits .andNot .u64 4613937818241073152 9223372036854775808 = 4613937818241073152 := by kernel_rfl
  have h2 : (callFunc 68 #[.int .u64 4613937818241073152]).run Try.prog w = .ok (.value (.float .f64 4613937818241073152)) w := by kernel_rfl
  go_enter Try.func64, Try.ntmps64
  go_wp2
  go_ret
  exact ⟨rfl, rfl⟩
theorem abs_4 (w : World) : Calls Try.prog 64 #[.float .f64 4616189618054758400] w fun e w' => e = .returned (.float .f64 4616189618054758400) ∧ w = w' := by
  have h1 : bits .andNot .u64 4616189618054758400 9223372036854775808 = 4616189618054758400 := by kernel_rfl
  have h2 : (callFunc 68 #[.int .u64 4616189618054758400]).run Try.prog w = .ok (.value (.float .f64 4616189618054758400)) w := by kernel_rfl
  go_enter Try.func64, Try.ntmps64
  go_wp2
  go_ret
  exact ⟨rfl, rfl⟩
theorem trunc_m1 (w : World) : Calls Try.prog 70 #[.float .f64 13830554455654793216] w fun e w' => e = .returned (.float .f64 13830554455654793216) ∧ w = w' := by
  have h2 : (callFunc 71 #[.float .f64 13830554455654793216]).run Try.prog w = .ok (.value (.float .f64 13830554455654793216)) w := by kernel_rfl
  go_enter Try.func70, Try.ntmps70
  go_wp2
  go_ret
  exact ⟨rfl, rfl⟩
theorem whole_m1 (w : World) : Calls Try.prog 67 #[.float .f64 13830554455654793216] w fun e w' => e = .returned (.bool true) ∧ w = w' := by
  have h1 : (binOp .eql 103 (.float .f64 13830554455654793216) (.float .f64 13830554455654793216)).run Try.prog w = .ok (.bool true) w := by kernel_rfl
  have h2 : (binOp .leq 103 (.float .f64 4607182418800017408) (.float .f64 4697254411347427328)).run Try.prog w = .ok (.bool true) w := by kernel_rfl
  go_enter Try.func67, Try.ntmps67
  go_wp2_with fail
  refine (trunc_m1 w).mono ?_
  rintro e w2 ⟨rfl, rfl⟩
  go_wp2_with fail
  refine (abs_m1 w).mono ?_
  rintro e w2 ⟨rfl, rfl⟩
  go_wp2
  go_ret
  exact ⟨rfl, rfl⟩
theorem trunc_0 (w : World) : Calls Try.prog 70 #[.float .f64 0] w fun e w' => e = .returned (.float .f64 0) ∧ w = w' := by
  have h2 : (callFunc 71 #[.float .f64 0]).run Try.prog w = .ok (.value (.float .f64 0)) w := by kernel_rfl
  go_enter Try.func70, Try.ntmps70
  go_wp2
  go_ret
  exact ⟨rfl, rfl⟩
theorem whole_0 (w : World) : Calls Try.prog 67 #[.float .f64 0] w fun e w' => e = .returned (.bool true) ∧ w = w' := by
  have h1 : (binOp .eql 103 (.float .f64 0) (.float .f64 0)).run Try.prog w = .ok (.bool true) w := by kernel_rfl
  have h2 : (binOp .leq 103 (.float .f64 0) (.float .f64 4697254411347427328)).run Try.prog w = .ok (.bool true) w := by kernel_rfl
  go_enter Try.func67, Try.ntmps67
  go_wp2_with fail
  refine (trunc_0 w).mono ?_
  rintro e w2 ⟨rfl, rfl⟩
  go_wp2_with fail
  refine (abs_0 w).mono ?_
  rintro e w2 ⟨rfl, rfl⟩
  go_wp2
  go_ret
  exact ⟨rfl, rfl⟩
theorem trunc_1 (w : World) : Calls Try.prog 70 #[.float .f64 4607182418800017408] w fun e w' => e = .returned (.float .f64 4607182418800017408) ∧ w = w' := by
  have h2 : (callFunc 71 #[.float .f64 4607182418800017408]).run Try.prog w = .ok (.value (.float .f64 4607182418800017408)) w := by kernel_rfl
  go_enter Try.func70, Try.ntmps70
  go_wp2
  go_ret
  exact ⟨rfl, rfl⟩
theorem whole_1 (w : World) : Calls Try.prog 67 #[.float .f64 4607182418800017408] w fun e w' => e = .returned (.bool true) ∧ w = w' := by
  have h1 : (binOp .eql 103 (.float .f64 4607182418800017408) (.float .f64 4607182418800017408)).run Try.prog w = .ok (.bool true) w := by kernel_rfl
  have h2 : (binOp .leq 103 (.float .f64 4607182418800017408) (.float .f64 4697254411347427328)).run Try.prog w = .ok (.bool true) w := by kernel_rfl
  go_enter Try.func67, Try.ntmps67
  go_wp2_with fail
  refine (trunc_1 w).mono ?_
  rintro e w2 ⟨rfl, rfl⟩
  go_wp2_with fail
  refine (abs_1 w).mono ?_
  rintro e w2 ⟨rfl, rfl⟩
  go_wp2
  go_ret
  exact ⟨rfl, rfl⟩
theorem trunc_2 (w : World) : Calls Try.prog 70 #[.float .f64 4611686018427387904] w fun e w' => e = .returned (.float .f64 4611686018427387904) ∧ w = w' := by
  have h2 : (callFunc 71 #[.float .f64 4611686018427387904]).run Try.prog w = .ok (.value (.float .f64 4611686018427387904)) w := by kernel_rfl
  go_enter Try.func70, Try.ntmps70
  go_wp2
  go_ret
  exact ⟨rfl, rfl⟩
theorem whole_2 (w : World) : Calls Try.prog 67 #[.float .f64 4611686018427387904] w fun e w' => e = .returned (.bool true) ∧ w = w' := by
  have h1 : (binOp .eql 103 (.float .f64 4611686018427387904) (.float .f64 4611686018427387904)).run Try.prog w = .ok (.bool true) w := by kernel_rfl
  have h2 : (binOp .leq 103 (.float .f64 4611686018427387904) (.float .f64 4697254411347427328)).run Try.prog w = .ok (.bool true) w := by kernel_rfl
  go_enter Try.func67, Try.ntmps67
  go_wp2_with fail
  refine (trunc_2 w).mono ?_
  rintro e w2 ⟨rfl, rfl⟩
  go_wp2_with fail
  refine (abs_2 w).mono ?_
  rintro e w2 ⟨rfl, rfl⟩
  go_wp2
  go_ret
  exact ⟨rfl, rfl⟩
theorem trunc_3 (w : World) : Calls Try.prog 70 #[.float .f64 4613937818241073152] w fun e w' => e = .returned (.float .f64 4613937818241073152) ∧ w = w' := by
  have h2 : (callFunc 71 #[.float .f64 4613937818241073152]).run Try.prog w = .ok (.value (.float .f64 4613937818241073152)) w := by kernel_rfl
  go_enter Try.func70, Try.ntmps70
  go_wp2
  go_ret
  exact ⟨rfl, rfl⟩
theorem whole_3 (w : World) : Calls Try.prog 67 #[.float .f64 4613937818241073152] w fun e w' => e = .returned (.bool true) ∧ w = w' := by
  have h1 : (binOp .eql 103 (.float .f64 4613937818241073152) (.float .f64 4613937818241073152)).run Try.prog w = .ok (.bool true) w := by kernel_rfl
  have h2 : (binOp .leq 103 (.float .f64 4613937818241073152) (.float .f64 4697254411347427328)).run Try.prog w = .ok (.bool true) w := by kernel_rfl
  go_enter Try.func67, Try.ntmps67
  go_wp2_with fail
  refine (trunc_3 w).mono ?_
  rintro e w2 ⟨rfl, rfl⟩
  go_wp2_with fail
  refine (abs_3 w).mono ?_
  rintro e w2 ⟨rfl, rfl⟩
  go_wp2
  go_ret
  exact ⟨rfl, rfl⟩
theorem is_m1 (w : World) : Calls Try.prog 63 #[.complex .f64 13830554455654793216 0] w fun e w' => e = .returned (.bool true) ∧ w = w' := by
  go_enter Try.func63, Try.ntmps63
  go_wp2_with fail
  refine (whole_m1 w).mono ?_
  rintro e w2 ⟨rfl, rfl⟩
  go_wp2_with fail
  refine (whole_0 w).mono ?_
  rintro e w2 ⟨rfl, rfl⟩
  go_wp2
  go_ret
  exact ⟨rfl, rfl⟩
theorem is_0 (w : World) : Calls Try.prog 63 #[.complex .f64 0 0] w fun e w' => e = .returned (.bool true) ∧ w = w' := by
  go_enter Try.func63, Try.ntmps63
  go_wp2_with fail
  refine (whole_0 w).mono ?_
  rintro e w2 ⟨rfl, rfl⟩
  go_wp2_with fail
  refine (whole_0 w).mono ?_
  rintro e w2 ⟨rfl, rfl⟩
  go_wp2
  go_ret
  exact ⟨rfl, rfl⟩
theorem is_1 (w : World) : Calls Try.prog 63 #[.complex .f64 4607182418800017408 0] w fun e w' => e = .returned (.bool true) ∧ w = w' := by
  go_enter Try.func63, Try.ntmps63
  go_wp2_with fail
  refine (whole_1 w).mono ?_
  rintro e w2 ⟨rfl, rfl⟩
  go_wp2_with fail
  refine (whole_0 w).mono ?_
  rintro e w2 ⟨rfl, rfl⟩
  go_wp2
  go_ret
  exact ⟨rfl, rfl⟩
theorem is_2 (w : World) : Calls Try.prog 63 #[.complex .f64 4611686018427387904 0] w fun e w' => e = .returned (.bool true) ∧ w = w' := by
  go_enter Try.func63, Try.ntmps63
  go_wp2_with fail
  refine (whole_2 w).mono ?_
  rintro e w2 ⟨rfl, rfl⟩
  go_wp2_with fail
  refine (whole_0 w).mono ?_
  rintro e w2 ⟨rfl, rfl⟩
  go_wp2
  go_ret
  exact ⟨rfl, rfl⟩
theorem is_3 (w : World) : Calls Try.prog 63 #[.complex .f64 4613937818241073152 0] w fun e w' => e = .returned (.bool true) ∧ w = w' := by
  go_enter Try.func63, Try.ntmps63
  go_wp2_with fail
  refine (whole_3 w).mono ?_
  rintro e w2 ⟨rfl, rfl⟩
  go_wp2_with fail
  refine (whole_0 w).mono ?_
  rintro e w2 ⟨rfl, rfl⟩
  go_wp2
  go_ret
  exact ⟨rfl, rfl⟩
theorem is_4 (w : World) : Calls Try.prog 63 #[.complex .f64 0 4607182418800017408] w fun e w' => e = .returned (.bool true) ∧ w = w' := by
  go_enter Try.func63, Try.ntmps63
  go_wp2_with fail
  refine (whole_0 w).mono ?_
  rintro e w2 ⟨rfl, rfl⟩
  go_wp2_with fail
  refine (whole_1 w).mono ?_
  rintro e w2 ⟨rfl, rfl⟩
  go_wp2
  go_ret
  exact ⟨rfl, rfl⟩
theorem is_5 (w : World) : Calls Try.prog 63 #[.complex .f64 4607182418800017408 4607182418800017408] w fun e w' => e = .returned (.bool true) ∧ w = w' := by
  go_enter Try.func63, Try.ntmps63
  go_wp2_with fail
  refine (whole_1 w).mono ?_
  rintro e w2 ⟨rfl, rfl⟩
  go_wp2_with fail
  refine (whole_1 w).mono ?_
  rintro e w2 ⟨rfl, rfl⟩
  go_wp2
  go_ret
  exact ⟨rfl, rfl⟩
theorem is_6 (w : World) : Calls Try.prog 63 #[.complex .f64 4611686018427387904 4607182418800017408] w fun e w' => e = .returned (.bool true) ∧ w = w' := by
  go_enter Try.func63, Try.ntmps63
  go_wp2_with fail
  refine (whole_2 w).mono ?_
  rintro e w2 ⟨rfl, rfl⟩
  go_wp2_with fail
  refine (whole_1 w).mono ?_
  rintro e w2 ⟨rfl, rfl⟩
  go_wp2
  go_ret
  exact ⟨rfl, rfl⟩
theorem is_7 (w : World) : Calls Try.prog 63 #[.complex .f64 4613937818241073152 4607182418800017408] w fun e w' => e = .returned (.bool true) ∧ w = w' := by
  go_enter Try.func63, Try.ntmps63
  go_wp2_with fail
  refine (whole_3 w).mono ?_
  rintro e w2 ⟨rfl, rfl⟩
  go_wp2_with fail
  refine (whole_1 w).mono ?_
  rintro e w2 ⟨rfl, rfl⟩
  go_wp2
  go_ret
  exact ⟨rfl, rfl⟩
theorem is_8 (w : World) : Calls Try.prog 63 #[.complex .f64 0 4611686018427387904] w fun e w' => e = .returned (.bool true) ∧ w = w' := by
  go_enter Try.func63, Try.ntmps63
  go_wp2_with fail
  refine (whole_0 w).mono ?_
  rintro e w2 ⟨rfl, rfl⟩
  go_wp2_with fail
  refine (whole_2 w).mono ?_
  rintro e w2 ⟨rfl, rfl⟩
  go_wp2
  go_ret
  exact ⟨rfl, rfl⟩
theorem is_9 (w : World) : Calls Try.prog 63 #[.complex .f64 4607182418800017408 4611686018427387904] w fun e w' => e = .returned (.bool true) ∧ w = w' := by
  go_enter Try.func63, Try.ntmps63
  go_wp2_with fail
  refine (whole_1 w).mono ?_
  rintro e w2 ⟨rfl, rfl⟩
  go_wp2_with fail
  refine (whole_2 w).mono ?_
  rintro e w2 ⟨rfl, rfl⟩
  go_wp2
  go_ret
  exact ⟨rfl, rfl⟩
theorem is_10 (w : World) : Calls Try.prog 63 #[.complex .f64 4611686018427387904 4611686018427387904] w fun e w' => e = .returned (.bool true) ∧ w = w' := by
  go_enter Try.func63, Try.ntmps63
  go_wp2_with fail
  refine (whole_2 w).mono ?_
  rintro e w2 ⟨rfl, rfl⟩
  go_wp2_with fail
  refine (whole_2 w).mono ?_
  rintro e w2 ⟨rfl, rfl⟩
  go_wp2
  go_ret
  exact ⟨rfl, rfl⟩
theorem is_11 (w : World) : Calls Try.prog 63 #[.complex .f64 4613937818241073152 4611686018427387904] w fun e w' => e = .returned (.bool true) ∧ w = w' := by
  go_enter Try.func63, Try.ntmps63
  go_wp2_with fail
  refine (whole_3 w).mono ?_
  rintro e w2 ⟨rfl, rfl⟩
  go_wp2_with fail
  refine (whole_2 w).mono ?_
  rintro e w2 ⟨rfl, rfl⟩
  go_wp2
  go_ret
  exact ⟨rfl, rfl⟩
theorem is_12 (w : World) : Calls Try.prog 63 #[.complex .f64 0 4613937818241073152] w fun e w' => e = .returned (.bool true) ∧ w = w' := by
  go_enter Try.func63, Try.ntmps63
  go_wp2_with fail
  refine (whole_0 w).mono ?_
  rintro e w2 ⟨rfl, rfl⟩
  go_wp2_with fail
  refine (whole_3 w).mono ?_
  rintro e w2 ⟨rfl, rfl⟩
  go_wp2
  go_ret
  exact ⟨rfl, rfl⟩
theorem is_13 (w : World) : Calls Try.prog 63 #[.complex .f64 4607182418800017408 4613937818241073152] w fun e w' => e = .returned (.bool true) ∧ w = w' := by
  go_enter Try.func63, Try.ntmps63
  go_wp2_with fail
  refine (whole_1 w).mono ?_
  rintro e w2 ⟨rfl, rfl⟩
  go_wp2_with fail
  refine (whole_3 w).mono ?_
  rintro e w2 ⟨rfl, rfl⟩
  go_wp2
  go_ret
  exact ⟨rfl, rfl⟩
theorem is_14 (w : World) : Calls Try.prog 63 #[.complex .f64 4611686018427387904 4613937818241073152] w fun e w' => e = .returned (.bool true) ∧ w = w' := by
  go_enter Try.func63, Try.ntmps63
  go_wp2_with fail
  refine (whole_2 w).mono ?_
  rintro e w2 ⟨rfl, rfl⟩
  go_wp2_with fail
  refine (whole_3 w).mono ?_
  rintro e w2 ⟨rfl, rfl⟩
  go_wp2
  go_ret
  exact ⟨rfl, rfl⟩
theorem is_15 (w : World) : Calls Try.prog 63 #[.complex .f64 4613937818241073152 4613937818241073152] w fun e w' => e = .returned (.bool true) ∧ w = w' := by
  go_enter Try.func63, Try.ntmps63
  go_wp2_with fail
  refine (whole_3 w).mono ?_
  rintro e w2 ⟨rfl, rfl⟩
  go_wp2_with fail
  refine (whole_3 w).mono ?_
  rintro e w2 ⟨rfl, rfl⟩
  go_wp2
  go_ret
  exact ⟨rfl, rfl⟩
theorem hops_m1_0 (w : World) : Calls Try.prog 57 #[.complex .f64 13830554455654793216 0, .complex .f64 0 0] w fun e w' => e = .returned (.tuple #[.int .i64 1, .int .i64 0]) ∧ w = w' := by
  have h1 : (binOp .sub 91 (.complex .f64 0 0) (.complex .f64 13830554455654793216 0)).run Try.prog w = .ok (.complex .f64 4607182418800017408 0) w := by kernel_rfl
  have h2 : (binOp .add 103 (.float .f64 4607182418800017408) (.float .f64 0)).run Try.prog w = .ok (.float .f64 4607182418800017408) w := by kernel_rfl
  have h3 : (convert 103 3 (.float .f64 4607182418800017408)).run Try.prog w = .ok (.int .i64 1) w := by kernel_rfl
  go_enter Try.func57, Try.ntmps57
  go_wp2_with fail
  refine (is_m1 w).mono ?_
  rintro e w2 ⟨rfl, rfl⟩
  go_wp2_with fail
  refine (is_0 w).mono ?_
  rintro e w2 ⟨rfl, rfl⟩
  go_wp2_with fail
  refine (abs_1 w).mono ?_
  rintro e w2 ⟨rfl, rfl⟩
  go_wp2_with fail
  refine (abs_0 w).mono ?_
  rintro e w2 ⟨rfl, rfl⟩
  go_wp2
  go_ret2
  exact ⟨rfl, rfl⟩
theorem hops_0_m1 (w : World) : Calls Try.prog 57 #[.complex .f64 0 0, .complex .f64 13830554455654793216 0] w fun e w' => e = .returned (.tuple #[.int .i64 1, .int .i64 0]) ∧ w = w' := by
  have h1 : (binOp .sub 91 (.complex .f64 13830554455654793216 0) (.complex .f64 0 0)).run Try.prog w = .ok (.complex .f64 13830554455654793216 0) w := by kernel_rfl
  have h2 : (binOp .add 103 (.float .f64 4607182418800017408) (.float .f64 0)).run Try.prog w = .ok (.float .f64 4607182418800017408) w := by kernel_rfl
  have h3 : (convert 103 3 (.float .f64 4607182418800017408)).run Try.prog w = .ok (.int .i64 1) w := by kernel_rfl
  go_enter Try.func57, Try.ntmps57
  go_wp2_with fail
  refine (is_0 w).mono ?_
  rintro e w2 ⟨rfl, rfl⟩
  go_wp2_with fail
  refine (is_m1 w).mono ?_
  rintro e w2 ⟨rfl, rfl⟩
  go_wp2_with fail
  refine (abs_m1 w).mono ?_
  rintro e w2 ⟨rfl, rfl⟩
  go_wp2_with fail
  refine (abs_0 w).mono ?_
  rintro e w2 ⟨rfl, rfl⟩
  go_wp2
  go_ret2
  exact ⟨rfl, rfl⟩
theorem hops_m1_1 (w : World) : Calls Try.prog 57 #[.complex .f64 13830554455654793216 0, .complex .f64 4607182418800017408 0] w fun e w' => e = .returned (.tuple #[.int .i64 2, .int .i64 0]) ∧ w = w' := by
  have h1 : (binOp .sub 91 (.complex .f64 4607182418800017408 0) (.complex .f64 13830554455654793216 0)).run Try.prog w = .ok (.complex .f64 4611686018427387904 0) w := by kernel_rfl
  have h2 : (binOp .add 103 (.float .f64 4611686018427387904) (.float .f64 0)).run Try.prog w = .ok (.float .f64 4611686018427387904) w := by kernel_rfl
  have h3 : (convert 103 3 (.float .f64 4611686018427387904)).run Try.prog w = .ok (.int .i64 2) w := by kernel_rfl
  go_enter Try.func57, Try.ntmps57
  go_wp2_with fail
  refine (is_m1 w).mono ?_
  rintro e w2 ⟨rfl, rfl⟩
  go_wp2_with fail
  refine (is_1 w).mono ?_
  rintro e w2 ⟨rfl, rfl⟩
  go_wp2_with fail
  refine (abs_2 w).mono ?_
  rintro e w2 ⟨rfl, rfl⟩
  go_wp2_with fail
  refine (abs_0 w).mono ?_
  rintro e w2 ⟨rfl, rfl⟩
  go_wp2
  go_ret2
  exact ⟨rfl, rfl⟩
theorem hops_1_m1 (w : World) : Calls Try.prog 57 #[.complex .f64 4607182418800017408 0, .complex .f64 13830554455654793216 0] w fun e w' => e = .returned (.tuple #[.int .i64 2, .int .i64 0]) ∧ w = w' := by
  have h1 : (binOp .sub 91 (.complex .f64 13830554455654793216 0) (.complex .f64 4607182418800017408 0)).run Try.prog w = .ok (.complex .f64 13835058055282163712 0) w := by kernel_rfl
  have h2 : (binOp .add 103 (.float .f64 4611686018427387904) (.float .f64 0)).run Try.prog w = .ok (.float .f64 4611686018427387904) w := by kernel_rfl
  have h3 : (convert 103 3 (.float .f64 4611686018427387904)).run Try.prog w = .ok (.int .i64 2) w := by kernel_rfl
  go_enter Try.func57, Try.ntmps57
  go_wp2_with fail
  refine (is_1 w).mono ?_
  rintro e w2 ⟨rfl, rfl⟩
  go_wp2_with fail
  refine (is_m1 w).mono ?_
  rintro e w2 ⟨rfl, rfl⟩
  go_wp2_with fail
  refine (abs_m2 w).mono ?_
  rintro e w2 ⟨rfl, rfl⟩
  go_wp2_with fail
  refine (abs_0 w).mono ?_
  rintro e w2 ⟨rfl, rfl⟩
  go_wp2
  go_ret2
  exact ⟨rfl, rfl⟩
theorem hops_m1_2 (w : World) : Calls Try.prog 57 #[.complex .f64 13830554455654793216 0, .complex .f64 4611686018427387904 0] w fun e w' => e = .returned (.tuple #[.int .i64 3, .int .i64 0]) ∧ w = w' := by
  have h1 : (binOp .sub 91 (.complex .f64 4611686018427387904 0) (.complex .f64 13830554455654793216 0)).run Try.prog w = .ok (.complex .f64 4613937818241073152 0) w := by kernel_rfl
  have h2 : (binOp .add 103 (.float .f64 4613937818241073152) (.float .f64 0)).run Try.prog w = .ok (.float .f64 4613937818241073152) w := by kernel_rfl
  have h3 : (convert 103 3 (.float .f64 4613937818241073152)).run Try.prog w = .ok (.int .i64 3) w := by kernel_rfl
  go_enter Try.func57, Try.ntmps57
  go_wp2_with fail
  refine (is_m1 w).mono ?_
  rintro e w2 ⟨rfl, rfl⟩
  go_wp2_with fail
  refine (is_2 w).mono ?_
  rintro e w2 ⟨rfl, rfl⟩
  go_wp2_with fail
  refine (abs_3 w).mono ?_
  rintro e w2 ⟨rfl, rfl⟩
  go_wp2_with fail
  refine (abs_0 w).mono ?_
  rintro e w2 ⟨rfl, rfl⟩
  go_wp2
  go_ret2
  exact ⟨rfl, rfl⟩
theorem hops_2_m1 (w : World) : Calls Try.prog 57 #[.complex .f64 4611686018427387904 0, .complex .f64 13830554455654793216 0] w fun e w' => e = .returned (.tuple #[.int .i64 3, .int .i64 0]) ∧ w = w' := by
  have h1 : (binOp .sub 91 (.complex .f64 13830554455654793216 0) (.complex .f64 4611686018427387904 0)).run Try.prog w = .ok (.complex .f64 13837309855095848960 0) w := by kernel_rfl
  have h2 : (binOp .add 103 (.float .f64 4613937818241073152) (.float .f64 0)).run Try.prog w = .ok (.float .f64 4613937818241073152) w := by kernel_rfl
  have h3 : (convert 103 3 (.float .f64 4613937818241073152)).run Try.prog w = .ok (.int .i64 3) w := by kernel_rfl
  go_enter Try.func57, Try.ntmps57
  go_wp2_with fail
  refine (is_2 w).mono ?_
  rintro e w2 ⟨rfl, rfl⟩
  go_wp2_with fail
  refine (is_m1 w).mono ?_
  rintro e w2 ⟨rfl, rfl⟩
  go_wp2_with fail
  refine (abs_m3 w).mono ?_
  rintro e w2 ⟨rfl, rfl⟩
  go_wp2_with fail
  refine (abs_0 w).mono ?_
  rintro e w2 ⟨rfl, rfl⟩
  go_wp2
  go_ret2
  exact ⟨rfl, rfl⟩
theorem hops_m1_3 (w : World) : Calls Try.prog 57 #[.complex .f64 13830554455654793216 0, .complex .f64 4613937818241073152 0] w fun e w' => e = .returned (.tuple #[.int .i64 4, .int .i64 0]) ∧ w = w' := by
  have h1 : (binOp .sub 91 (.complex .f64 4613937818241073152 0) (.complex .f64 13830554455654793216 0)).run Try.prog w = .ok (.complex .f64 4616189618054758400 0) w := by kernel_rfl
  have h2 : (binOp .add 103 (.float .f64 4616189618054758400) (.float .f64 0)).run Try.prog w = .ok (.float .f64 4616189618054758400) w := by kernel_rfl
  have h3 : (convert 103 3 (.float .f64 4616189618054758400)).run Try.prog w = .ok (.int .i64 4) w := by kernel_rfl
  go_enter Try.func57, Try.ntmps57
  go_wp2_with fail
  refine (is_m1 w).mono ?_
  rintro e w2 ⟨rfl, rfl⟩
  go_wp2_with fail
  refine (is_3 w).mono ?_
  rintro e w2 ⟨rfl, rfl⟩
  go_wp2_with fail
  refine (abs_4 w).mono ?_
  rintro e w2 ⟨rfl, rfl⟩
  go_wp2_with fail
  refine (abs_0 w).mono ?_
  rintro e w2 ⟨rfl, rfl⟩
  go_wp2
  go_ret2
  exact ⟨rfl, rfl⟩
theorem hops_3_m1 (w : World) : Calls Try.prog 57 #[.complex .f64 4613937818241073152 0, .complex .f64 13830554455654793216 0] w fun e w' => e = .returned (.tuple #[.int .i64 4, .int .i64 0]) ∧ w = w' := by
  have h1 : (binOp .sub 91 (.complex .f64 13830554455654793216 0) (.complex .f64 4613937818241073152 0)).run Try.prog w = .ok (.complex .f64 13839561654909534208 0) w := by kernel_rfl
  have h2 : (binOp .add 103 (.float .f64 4616189618054758400) (.float .f64 0)).run Try.prog w = .ok (.float .f64 4616189618054758400) w := by kernel_rfl
  have h3 : (convert 103 3 (.float .f64 4616189618054758400)).run Try.prog w = .ok (.int .i64 4) w := by kernel_rfl
  go_enter Try.func57, Try.ntmps57
  go_wp2_with fail
  refine (is_3 w).mono ?_
  rintro e w2 ⟨rfl, rfl⟩
  go_wp2_with fail
  refine (is_m1 w).mono ?_
  rintro e w2 ⟨rfl, rfl⟩
  go_wp2_with fail
  refine (abs_m4 w).mono ?_
  rintro e w2 ⟨rfl, rfl⟩
  go_wp2_with fail
  refine (abs_0 w).mono ?_
  rintro e w2 ⟨rfl, rfl⟩
  go_wp2
  go_ret2
  exact ⟨rfl, rfl⟩
theorem hops_m1_4 (w : World) : Calls Try.prog 57 #[.complex .f64 13830554455654793216 0, .complex .f64 0 4607182418800017408] w fun e w' => e = .returned (.tuple #[.int .i64 2, .int .i64 0]) ∧ w = w' := by
  have h1 : (binOp .sub 91 (.complex .f64 0 4607182418800017408) (.complex .f64 13830554455654793216 0)).run Try.prog w = .ok (.complex .f64 4607182418800017408 4607182418800017408) w := by kernel_rfl
  have h2 : (binOp .add 103 (.float .f64 4607182418800017408) (.float .f64 4607182418800017408)).run Try.prog w = .ok (.float .f64 4611686018427387904) w := by kernel_rfl
  have h3 : (convert 103 3 (.float .f64 4611686018427387904)).run Try.prog w = .ok (.int .i64 2) w := by kernel_rfl
  go_enter Try.func57, Try.ntmps57
  go_wp2_with fail
  refine (is_m1 w).mono ?_
  rintro e w2 ⟨rfl, rfl⟩
  go_wp2_with fail
  refine (is_4 w).mono ?_
  rintro e w2 ⟨rfl, rfl⟩
  go_wp2_with fail
  refine (abs_1 w).mono ?_
  rintro e w2 ⟨rfl, rfl⟩
  go_wp2_with fail
  refine (abs_1 w).mono ?_
  rintro e w2 ⟨rfl, rfl⟩
  go_wp2
  go_ret2
  exact ⟨rfl, rfl⟩
theorem hops_4_m1 (w : World) : Calls Try.prog 57 #[.complex .f64 0 4607182418800017408, .complex .f64 13830554455654793216 0] w fun e w' => e = .returned (.tuple #[.int .i64 2, .int .i64 0]) ∧ w = w' := by
  have h1 : (binOp .sub 91 (.complex .f64 13830554455654793216 0) (.complex .f64 0 4607182418800017408)).run Try.prog w = .ok (.complex .f64 13830554455654793216 13830554455654793216) w := by kernel_rfl
  have h2 : (binOp .add 103 (.float .f64 4607182418800017408) (.float .f64 4607182418800017408)).run Try.prog w = .ok (.float .f64 4611686018427387904) w := by kernel_rfl
  have h3 : (convert 103 3 (.float .f64 4611686018427387904)).run Try.prog w = .ok (.int .i64 2) w := by kernel_rfl
  go_enter Try.func57, Try.ntmps57
  go_wp2_with fail
  refine (is_4 w).mono ?_
  rintro e w2 ⟨rfl, rfl⟩
  go_wp2_with fail
  refine (is_m1 w).mono ?_
  rintro e w2 ⟨rfl, rfl⟩
  go_wp2_with fail
  refine (abs_m1 w).mono ?_
  rintro e w2 ⟨rfl, rfl⟩
  go_wp2_with fail
  refine (abs_m1 w).mono ?_
  rintro e w2 ⟨rfl, rfl⟩
  go_wp2
  go_ret2
  exact ⟨rfl, rfl⟩
theorem hops_m1_5 (w : World) : Calls Try.prog 57 #[.complex .f64 13830554455654793216 0, .complex .f64 4607182418800017408 4607182418800017408] w fun e w' => e = .returned (.tuple #[.int .i64 3, .int .i64 0]) ∧ w = w' := by
  have h1 : (binOp .sub 91 (.complex .f64 4607182418800017408 4607182418800017408) (.complex .f64 13830554455654793216 0)).run Try.prog w = .ok (.complex .f64 4611686018427387904 4607182418800017408) w := by kernel_rfl
  have h2 : (binOp .add 103 (.float .f64 4611686018427387904) (.float .f64 4607182418800017408)).run Try.prog w = .ok (.float .f64 4613937818241073152) w := by kernel_rfl
  have h3 : (convert 103 3 (.float .f64 4613937818241073152)).run Try.prog w = .ok (.int .i64 3) w := by kernel_rfl
  go_enter Try.func57, Try.ntmps57
  go_wp2_with fail
  refine (is_m1 w).mono ?_
  rintro e w2 ⟨rfl, rfl⟩
  go_wp2_with fail
  refine (is_5 w).mono ?_
  rintro e w2 ⟨rfl, rfl⟩
  go_wp2_with fail
  refine (abs_2 w).mono ?_
  rintro e w2 ⟨rfl, rfl⟩
  go_wp2_with fail
  refine (abs_1 w).mono ?_
  rintro e w2 ⟨rfl, rfl⟩
  go_wp2
  go_ret2
  exact ⟨rfl, rfl⟩
theorem hops_5_m1 (w : World) : Calls Try.prog 57 #[.complex .f64 4607182418800017408 4607182418800017408, .complex .f64 13830554455654793216 0] w fun e w' => e = .returned (.tuple #[.int .i64 3, .int .i64 0]) ∧ w = w' := by
  have h1 : (binOp .sub 91 (.complex .f64 13830554455654793216 0) (.complex .f64 4607182418800017408 4607182418800017408)).run Try.prog w = .ok (.complex .f64 13835058055282163712 13830554455654793216) w := by kernel_rfl
  have h2 : (binOp .add 103 (.float .f64 4611686018427387904) (.float .f64 4607182418800017408)).run Try.prog w = .ok (.float .f64 4613937818241073152) w := by kernel_rfl
  have h3 : (convert 103 3 (.float .f64 4613937818241073152)).run Try.prog w = .ok (.int .i64 3) w := by kernel_rfl
  go_enter Try.func57, Try.ntmps57
  go_wp2_with fail
  refine (is_5 w).mono ?_
  rintro e w2 ⟨rfl, rfl⟩
  go_wp2_with fail
  refine (is_m1 w).mono ?_
  rintro e w2 ⟨rfl, rfl⟩
  go_wp2_with fail
  refine (abs_m2 w).mono ?_
  rintro e w2 ⟨rfl, rfl⟩
  go_wp2_with fail
  refine (abs_m1 w).mono ?_
  rintro e w2 ⟨rfl, rfl⟩
  go_wp2
  go_ret2
  exact ⟨rfl, rfl⟩
theorem hops_m1_6 (w : World) : Calls Try.prog 57 #[.complex .f64 13830554455654793216 0, .complex .f64 4611686018427387904 4607182418800017408] w fun e w' => e = .returned (.tuple #[.int .i64 4, .int .i64 0]) ∧ w = w' := by
  have h1 : (binOp .sub 91 (.complex .f64 4611686018427387904 4607182418800017408) (.complex .f64 13830554455654793216 0)).run Try.prog w = .ok (.complex .f64 4613937818241073152 4607182418800017408) w := by kernel_rfl
  have h2 : (binOp .add 103 (.float .f64 4613937818241073152) (.float .f64 4607182418800017408)).run Try.prog w = .ok (.float .f64 4616189618054758400) w := by kernel_rfl
  have h3 : (convert 103 3 (.float .f64 4616189618054758400)).run Try.prog w = .ok (.int .i64 4) w := by kernel_rfl
  go_enter Try.func57, Try.ntmps57
  go_wp2_with fail
  refine (is_m1 w).mono ?_
  rintro e w2 ⟨rfl, rfl⟩
  go_wp2_with fail
  refine (is_6 w).mono ?_
  rintro e w2 ⟨rfl, rfl⟩
  go_wp2_with fail
  refine (abs_3 w).mono ?_
  rintro e w2 ⟨rfl, rfl⟩
  go_wp2_with fail
  refine (abs_1 w).mono ?_
  rintro e w2 ⟨rfl, rfl⟩
  go_wp2
  go_ret2
  exact ⟨rfl, rfl⟩
theorem hops_6_m1 (w : World) : Calls Try.prog 57 #[.complex .f64 4611686018427387904 4607182418800017408, .complex .f64 13830554455654793216 0] w fun e w' => e = .returned (.tuple #[.int .i64 4, .int .i64 0]) ∧ w = w' := by
  have h1 : (binOp .sub 91 (.complex .f64 13830554455654793216 0) (.complex .f64 4611686018427387904 4607182418800017408)).run Try.prog w = .ok (.complex .f64 13837309855095848960 13830554455654793216) w := by kernel_rfl
  have h2 : (binOp .add 103 (.float .f64 4613937818241073152) (.float .f64 4607182418800017408)).run Try.prog w = .ok (.float .f64 4616189618054758400) w := by kernel_rfl
  have h3 : (convert 103 3 (.float .f64 4616189618054758400)).run Try.prog w = .ok (.int .i64 4) w := by kernel_rfl
  go_enter Try.func57, Try.ntmps57
  go_wp2_with fail
  refine (is_6 w).mono ?_
  rintro e w2 ⟨rfl, rfl⟩
  go_wp2_with fail
  refine (is_m1 w).mono ?_
  rintro e w2 ⟨rfl, rfl⟩
  go_wp2_with fail
  refine (abs_m3 w).mono ?_
  rintro e w2 ⟨rfl, rfl⟩
  go_wp2_with fail
  refine (abs_m1 w).mono ?_
  rintro e w2 ⟨rfl, rfl⟩
  go_wp2
  go_ret2
  exact ⟨rfl, rfl⟩
theorem hops_m1_7 (w : World) : Calls Try.prog 57 #[.complex .f64 13830554455654793216 0, .complex .f64 4613937818241073152 4607182418800017408] w fun e w' => e = .returned (.tuple #[.int .i64 5, .int .i64 0]) ∧ w = w' := by
  have h1 : (binOp .sub 91 (.complex .f64 4613937818241073152 4607182418800017408) (.complex .f64 13830554455654793216 0)).run Try.prog w = .ok (.complex .f64 4616189618054758400 4607182418800017408) w := by kernel_rfl
  have h2 : (binOp .add 103 (.float .f64 4616189618054758400) (.float .f64 4607182418800017408)).run Try.prog w = .ok (.float .f64 4617315517961601024) w := by kernel_rfl
  have h3 : (convert 103 3 (.float .f64 4617315517961601024)).run Try.prog w = .ok (.int .i64 5) w := by kernel_rfl
  go_enter Try.func57, Try.ntmps57
  go_wp2_with fail
  refine (is_m1 w).mono ?_
  rintro e w2 ⟨rfl, rfl⟩
  go_wp2_with fail
  refine (is_7 w).mono ?_
  rintro e w2 ⟨rfl, rfl⟩
  go_wp2_with fail
  refine (abs_4 w).mono ?_
  rintro e w2 ⟨rfl, rfl⟩
  go_wp2_with fail
  refine (abs_1 w).mono ?_
  rintro e w2 ⟨rfl, rfl⟩
  go_wp2
  go_ret2
  exact ⟨rfl, rfl⟩
theorem hops_7_m1 (w : World) : Calls Try.prog 57 #[.complex .f64 4613937818241073152 4607182418800017408, .complex .f64 13830554455654793216 0] w fun e w' => e = .returned (.tuple #[.int .i64 5, .int .i64 0]) ∧ w = w' := by
  have h1 : (binOp .sub 91 (.complex .f64 13830554455654793216 0) (.complex .f64 4613937818241073152 4607182418800017408)).run Try.prog w = .ok (.complex .f64 13839561654909534208 13830554455654793216) w := by kernel_rfl
  have h2 : (binOp .add 103 (.float .f64 4616189618054758400) (.float .f64 4607182418800017408)).run Try.prog w = .ok (.float .f64 4617315517961601024) w := by kernel_rfl
  have h3 : (convert 103 3 (.float .f64 4617315517961601024)).run Try.prog w = .ok (.int .i64 5) w := by kernel_rfl
  go_enter Try.func57, Try.ntmps57
  go_wp2_with fail
  refine (is_7 w).mono ?_
  rintro e w2 ⟨rfl, rfl⟩
  go_wp2_with fail
  refine (is_m1 w).mono ?_
  rintro e w2 ⟨rfl, rfl⟩
  go_wp2_with fail
  refine (abs_m4 w).mono ?_
  rintro e w2 ⟨rfl, rfl⟩
  go_wp2_with fail
  refine (abs_m1 w).mono ?_
  rintro e w2 ⟨rfl, rfl⟩
  go_wp2
  go_ret2
  exact ⟨rfl, rfl⟩
theorem hops_m1_8 (w : World) : Calls Try.prog 57 #[.complex .f64 13830554455654793216 0, .complex .f64 0 4611686018427387904] w fun e w' => e = .returned (.tuple #[.int .i64 3, .int .i64 0]) ∧ w = w' := by
  have h1 : (binOp .sub 91 (.complex .f64 0 4611686018427387904) (.complex .f64 13830554455654793216 0)).run Try.prog w = .ok (.complex .f64 4607182418800017408 4611686018427387904) w := by kernel_rfl
  have h2 : (binOp .add 103 (.float .f64 4607182418800017408) (.float .f64 4611686018427387904)).run Try.prog w = .ok (.float .f64 4613937818241073152) w := by kernel_rfl
  have h3 : (convert 103 3 (.float .f64 4613937818241073152)).run Try.prog w = .ok (.int .i64 3) w := by kernel_rfl
  go_enter Try.func57, Try.ntmps57
  go_wp2_with fail
  refine (is_m1 w).mono ?_
  rintro e w2 ⟨rfl, rfl⟩
  go_wp2_with fail
  refine (is_8 w).mono ?_
  rintro e w2 ⟨rfl, rfl⟩
  go_wp2_with fail
  refine (abs_1 w).mono ?_
  rintro e w2 ⟨rfl, rfl⟩
  go_wp2_with fail
  refine (abs_2 w).mono ?_
  rintro e w2 ⟨rfl, rfl⟩
  go_wp2
  go_ret2
  exact ⟨rfl, rfl⟩
theorem hops_8_m1 (w : World) : Calls Try.prog 57 #[.complex .f64 0 4611686018427387904, .complex .f64 13830554455654793216 0] w fun e w' => e = .returned (.tuple #[.int .i64 3, .int .i64 0]) ∧ w = w' := by
  have h1 : (binOp .sub 91 (.complex .f64 13830554455654793216 0) (.complex .f64 0 4611686018427387904)).run Try.prog w = .ok (.complex .f64 13830554455654793216 13835058055282163712) w := by kernel_rfl
  have h2 : (binOp .add 103 (.float .f64 4607182418800017408) (.float .f64 4611686018427387904)).run Try.prog w = .ok (.float .f64 4613937818241073152) w := by kernel_rfl
  have h3 : (convert 103 3 (.float .f64 4613937818241073152)).run Try.prog w = .ok (.int .i64 3) w := by kernel_rfl
  go_enter Try.func57, Try.ntmps57
  go_wp2_with fail
  refine (is_8 w).mono ?_
  rintro e w2 ⟨rfl, rfl⟩
  go_wp2_with fail
  refine (is_m1 w).mono ?_
  rintro e w2 ⟨rfl, rfl⟩
  go_wp2_with fail
  refine (abs_m1 w).mono ?_
  rintro e w2 ⟨rfl, rfl⟩
  go_wp2_with fail
  refine (abs_m2 w).mono ?_
  rintro e w2 ⟨rfl, rfl⟩
  go_wp2
  go_ret2
  exact ⟨rfl, rfl⟩
theorem hops_m1_9 (w : World) : Calls Try.prog 57 #[.complex .f64 13830554455654793216 0, .complex .f64 4607182418800017408 4611686018427387904] w fun e w' => e = .returned (.tuple #[.int .i64 4, .int .i64 0]) ∧ w = w' := by
  have h1 : (binOp .sub 91 (.complex .f64 4607182418800017408 4611686018427387904) (.complex .f64 13830554455654793216 0)).run Try.prog w = .ok (.complex .f64 4611686018427387904 4611686018427387904) w := by kernel_rfl
  have h2 : (binOp .add 103 (.float .f64 4611686018427387904) (.float .f64 4611686018427387904)).run Try.prog w = .ok (.float .f64 4616189618054758400) w := by kernel_rfl
  have h3 : (convert 103 3 (.float .f64 4616189618054758400)).run Try.prog w = .ok (.int .i64 4) w := by kernel_rfl
  go_enter Try.func57, Try.ntmps57
  go_wp2_with fail
  refine (is_m1 w).mono ?_
  rintro e w2 ⟨rfl, rfl⟩
  go_wp2_with fail
  refine (is_9 w).mono ?_
  rintro e w2 ⟨rfl, rfl⟩
  go_wp2_with fail
  refine (abs_2 w).mono ?_
  rintro e w2 ⟨rfl, rfl⟩
  go_wp2_with fail
  refine (abs_2 w).mono ?_
  rintro e w2 ⟨rfl, rfl⟩
  go_wp2
  go_ret2
  exact ⟨rfl, rfl⟩
theorem hops_9_m1 (w : World) : Calls Try.prog 57 #[.complex .f64 4607182418800017408 4611686018427387904, .complex .f64 13830554455654793216 0] w fun e w' => e = .returned (.tuple #[.int .i64 4, .int .i64 0]) ∧ w = w' := by
  have h1 : (binOp .sub 91 (.complex .f64 13830554455654793216 0) (.complex .f64 4607182418800017408 4611686018427387904)).run Try.prog w = .ok (.complex .f64 13835058055282163712 13835058055282163712) w := by kernel_rfl
  have h2 : (binOp .add 103 (.float .f64 4611686018427387904) (.float .f64 4611686018427387904)).run Try.prog w = .ok (.float .f64 4616189618054758400) w := by kernel_rfl
  have h3 : (convert 103 3 (.float .f64 4616189618054758400)).run Try.prog w = .ok (.int .i64 4) w := by kernel_rfl
  go_enter Try.func57, Try.ntmps57
  go_wp2_with fail
  refine (is_9 w).mono ?_
  rintro e w2 ⟨rfl, rfl⟩
  go_wp2_with fail
  refine (is_m1 w).mono ?_
  rintro e w2 ⟨rfl, rfl⟩
  go_wp2_with fail
  refine (abs_m2 w).mono ?_
  rintro e w2 ⟨rfl, rfl⟩
  go_wp2_with fail
  refine (abs_m2 w).mono ?_
  rintro e w2 ⟨rfl, rfl⟩
  go_wp2
  go_ret2
  exact ⟨rfl, rfl⟩
theorem hops_m1_10 (w : World) : Calls Try.prog 57 #[.complex .f64 13830554455654793216 0, .complex .f64 4611686018427387904 4611686018427387904] w fun e w' => e = .returned (.tuple #[.int .i64 5, .int .i64 0]) ∧ w = w' := by
  have h1 : (binOp .sub 91 (.complex .f64 4611686018427387904 4611686018427387904) (.complex .f64 13830554455654793216 0)).run Try.prog w = .ok (.complex .f64 4613937818241073152 4611686018427387904) w := by kernel_rfl
  have h2 : (binOp .add 103 (.float .f64 4613937818241073152) (.float .f64 4611686018427387904)).run Try.prog w = .ok (.float .f64 4617315517961601024) w := by kernel_rfl
  have h3 : (convert 103 3 (.float .f64 4617315517961601024)).run Try.prog w = .ok (.int .i64 5) w := by kernel_rfl
  go_enter Try.func57, Try.ntmps57
  go_wp2_with fail
  refine (is_m1 w).mono ?_
  rintro e w2 ⟨rfl, rfl⟩
  go_wp2_with fail
  refine (is_10 w).mono ?_
  rintro e w2 ⟨rfl, rfl⟩
  go_wp2_with fail
  refine (abs_3 w).mono ?_
  rintro e w2 ⟨rfl, rfl⟩
  go_wp2_with fail
  refine (abs_2 w).mono ?_
  rintro e w2 ⟨rfl, rfl⟩
  go_wp2
  go_ret2
  exact ⟨rfl, rfl⟩
theorem hops_10_m1 (w : World) : Calls Try.prog 57 #[.complex .f64 4611686018427387904 4611686018427387904, .complex .f64 13830554455654793216 0] w fun e w' => e = .returned (.tuple #[.int .i64 5, .int .i64 0]) ∧ w = w' := by
  have h1 : (binOp .sub 91 (.complex .f64 13830554455654793216 0) (.complex .f64 4611686018427387904 4611686018427387904)).run Try.prog w = .ok (.complex .f64 13837309855095848960 13835058055282163712) w := by kernel_rfl
  have h2 : (binOp .add 103 (.float .f64 4613937818241073152) (.float .f64 4611686018427387904)).run Try.prog w = .ok (.float .f64 4617315517961601024) w := by kernel_rfl
  have h3 : (convert 103 3 (.float .f64 4617315517961601024)).run Try.prog w = .ok (.int .i64 5) w := by kernel_rfl
  go_enter Try.func57, Try.ntmps57
  go_wp2_with fail
  refine (is_10 w).mono ?_
  rintro e w2 ⟨rfl, rfl⟩
  go_wp2_with fail
  refine (is_m1 w).mono ?_
  rintro e w2 ⟨rfl, rfl⟩
  go_wp2_with fail
  refine (abs_m3 w).mono ?_
  rintro e w2 ⟨rfl, rfl⟩
  go_wp2_with fail
  refine (abs_m2 w).mono ?_
  rintro e w2 ⟨rfl, rfl⟩
  go_wp2
  go_ret2
  exact ⟨rfl, rfl⟩
theorem hops_m1_11 (w : World) : Calls Try.prog 57 #[.complex .f64 13830554455654793216 0, .complex .f64 4613937818241073152 4611686018427387904] w fun e w' => e = .returned (.tuple #[.int .i64 6, .int .i64 0]) ∧ w = w' := by
  have h1 : (binOp .sub 91 (.complex .f64 4613937818241073152 4611686018427387904) (.complex .f64 13830554455654793216 0)).run Try.prog w = .ok (.complex .f64 4616189618054758400 4611686018427387904) w := by kernel_rfl
  have h2 : (binOp .add 103 (.float .f64 4616189618054758400) (.float .f64 4611686018427387904)).run Try.prog w = .ok (.float .f64 4618441417868443648) w := by kernel_rfl
  have h3 : (convert 103 3 (.float .f64 4618441417868443648)).run Try.prog w = .ok (.int .i64 6) w := by kernel_rfl
  go_enter Try.func57, Try.ntmps57
  go_wp2_with fail
  refine (is_m1 w).mono ?_
  rintro e w2 ⟨rfl, rfl⟩
  go_wp2_with fail
  refine (is_11 w).mono ?_
  rintro e w2 ⟨rfl, rfl⟩
  go_wp2_with fail
  refine (abs_4 w).mono ?_
  rintro e w2 ⟨rfl, rfl⟩
  go_wp2_with fail
  refine (abs_2 w).mono ?_
  rintro e w2 ⟨rfl, rfl⟩
  go_wp2
  go_ret2
  exact ⟨rfl, rfl⟩
theorem hops_11_m1 (w : World) : Calls Try.prog 57 #[.complex .f64 4613937818241073152 4611686018427387904, .complex .f64 13830554455654793216 0] w fun e w' => e = .returned (.tuple #[.int .i64 6, .int .i64 0]) ∧ w = w' := by
  have h1 : (binOp .sub 91 (.complex .f64 13830554455654793216 0) (.complex .f64 4613937818241073152 4611686018427387904)).run Try.prog w = .ok (.complex .f64 13839561654909534208 13835058055282163712) w := by kernel_rfl
  have h2 : (binOp .add 103 (.float .f64 4616189618054758400) (.float .f64 4611686018427387904)).run Try.prog w = .ok (.float .f64 4618441417868443648) w := by kernel_rfl
  have h3 : (convert 103 3 (.float .f64 4618441417868443648)).run Try.prog w = .ok (.int .i64 6) w := by kernel_rfl
  go_enter Try.func57, Try.ntmps57
  go_wp2_with fail
  refine (is_11 w).mono ?_
  rintro e w2 ⟨rfl, rfl⟩
  go_wp2_with fail
  refine (is_m1 w).mono ?_
  rintro e w2 ⟨rfl, rfl⟩
  go_wp2_with fail
  refine (abs_m4 w).mono ?_
  rintro e w2 ⟨rfl, rfl⟩
  go_wp2_with fail
  refine (abs_m2 w).mono ?_
  rintro e w2 ⟨rfl, rfl⟩
  go_wp2
  go_ret2
  exact ⟨rfl, rfl⟩
theorem hops_m1_12 (w : World) : Calls Try.prog 57 #[.complex .f64 13830554455654793216 0, .complex .f64 0 4613937818241073152] w fun e w' => e = .returned (.tuple #[.int .i64 4, .int .i64 0]) ∧ w = w' := by
  have h1 : (binOp .sub 91 (.complex .f64 0 4613937818241073152) (.complex .f64 13830554455654793216 0)).run Try.prog w = .ok (.complex .f64 4607182418800017408 4613937818241073152) w := by kernel_rfl
  have h2 : (binOp .add 103 (.float .f64 4607182418800017408) (.float .f64 4613937818241073152)).run Try.prog w = .ok (.float .f64 4616189618054758400) w := by kernel_rfl
  have h3 : (convert 103 3 (.float .f64 4616189618054758400)).run Try.prog w = .ok (.int .i64 4) w := by kernel_rfl
  go_enter Try.func57, Try.ntmps57
  go_wp2_with fail
  refine (is_m1 w).mono ?_
  rintro e w2 ⟨rfl, rfl⟩
  go_wp2_with fail
  refine (is_12 w).mono ?_
  rintro e w2 ⟨rfl, rfl⟩
  go_wp2_with fail
  refine (abs_1 w).mono ?_
  rintro e w2 ⟨rfl, rfl⟩
  go_wp2_with fail
  refine (abs_3 w).mono ?_
  rintro e w2 ⟨rfl, rfl⟩
  go_wp2
  go_ret2
  exact ⟨rfl, rfl⟩
theorem hops_12_m1 (w : World) : Calls Try.prog 57 #[.complex .f64 0 4613937818241073152, .complex .f64 13830554455654793216 0] w fun e w' => e = .returned (.tuple #[.int .i64 4, .int .i64 0]) ∧ w = w' := by
  have h1 : (binOp .sub 91 (.complex .f64 13830554455654793216 0) (.complex .f64 0 4613937818241073152)).run Try.prog w = .ok (.complex .f64 13830554455654793216 13837309855095848960) w := by kernel_rfl
  have h2 : (binOp .add 103 (.float .f64 4607182418800017408) (.float .f64 4613937818241073152)).run Try.prog w = .ok (.float .f64 4616189618054758400) w := by kernel_rfl
  have h3 : (convert 103 3 (.float .f64 4616189618054758400)).run Try.prog w = .ok (.int .i64 4) w := by kernel_rfl
  go_enter Try.func57, Try.ntmps57
  go_wp2_with fail
  refine (is_12 w).mono ?_
  rintro e w2 ⟨rfl, rfl⟩
  go_wp2_with fail
  refine (is_m1 w).mono ?_
  rintro e w2 ⟨rfl, rfl⟩
  go_wp2_with fail
  refine (abs_m1 w).mono ?_
  rintro e w2 ⟨rfl, rfl⟩
  go_wp2_with fail
  refine (abs_m3 w).mono ?_
  rintro e w2 ⟨rfl, rfl⟩
  go_wp2
  go_ret2
  exact ⟨rfl, rfl⟩
theorem hops_m1_13 (w : World) : Calls Try.prog 57 #[.complex .f64 13830554455654793216 0, .complex .f64 4607182418800017408 4613937818241073152] w fun e w' => e = .returned (.tuple #[.int .i64 5, .int .i64 0]) ∧ w = w' := by
  have h1 : (binOp .sub 91 (.complex .f64 4607182418800017408 4613937818241073152) (.complex .f64 13830554455654793216 0)).run Try.prog w = .ok (.complex .f64 4611686018427387904 4613937818241073152) w := by kernel_rfl
  have h2 : (binOp .add 103 (.float .f64 4611686018427387904) (.float .f64 4613937818241073152)).run Try.prog w = .ok (.float .f64 4617315517961601024) w := by kernel_rfl
  have h3 : (convert 103 3 (.float .f64 4617315517961601024)).run Try.prog w = .ok (.int .i64 5) w := by kernel_rfl
  go_enter Try.func57, Try.ntmps57
  go_wp2_with fail
  refine (is_m1 w).mono ?_
  rintro e w2 ⟨rfl, rfl⟩
  go_wp2_with fail
  refine (is_13 w).mono ?_
  rintro e w2 ⟨rfl, rfl⟩
  go_wp2_with fail
  refine (abs_2 w).mono ?_
  rintro e w2 ⟨rfl, rfl⟩
  go_wp2_with fail
  refine (abs_3 w).mono ?_
  rintro e w2 ⟨rfl, rfl⟩
  go_wp2
  go_ret2
  exact ⟨rfl, rfl⟩
theorem hops_13_m1 (w : World) : Calls Try.prog 57 #[.complex .f64 4607182418800017408 4613937818241073152, .complex .f64 13830554455654793216 0] w fun e w' => e = .returned (.tuple #[.int .i64 5, .int .i64 0]) ∧ w = w' := by
  have h1 : (binOp .sub 91 (.complex .f64 13830554455654793216 0) (.complex .f64 4607182418800017408 4613937818241073152)).run Try.prog w = .ok (.complex .f64 13835058055282163712 13837309855095848960) w := by kernel_rfl
  have h2 : (binOp .add 103 (.float .f64 4611686018427387904) (.float .f64 4613937818241073152)).run Try.prog w = .ok (.float .f64 4617315517961601024) w := by kernel_rfl
  have h3 : (convert 103 3 (.float .f64 4617315517961601024)).run Try.prog w = .ok (.int .i64 5) w := by kernel_rfl
  go_enter Try.func57, Try.ntmps57
  go_wp2_with fail
  refine (is_13 w).mono ?_
  rintro e w2 ⟨rfl, rfl⟩
  go_wp2_with fail
  refine (is_m1 w).mono ?_
  rintro e w2 ⟨rfl, rfl⟩
  go_wp2_with fail
  refine (abs_m2 w).mono ?_
  rintro e w2 ⟨rfl, rfl⟩
  go_wp2_with fail
  refine (abs_m3 w).mono ?_
  rintro e w2 ⟨rfl, rfl⟩
  go_wp2
  go_ret2
  exact ⟨rfl, rfl⟩
theorem hops_m1_14 (w : World) : Calls Try.prog 57 #[.complex .f64 13830554455654793216 0, .complex .f64 4611686018427387904 4613937818241073152] w fun e w' => e = .returned (.tuple #[.int .i64 6, .int .i64 0]) ∧ w = w' := by
  have h1 : (binOp .sub 91 (.complex .f64 4611686018427387904 4613937818241073152) (.complex .f64 13830554455654793216 0)).run Try.prog w = .ok (.complex .f64 4613937818241073152 4613937818241073152) w := by kernel_rfl
  have h2 : (binOp .add 103 (.float .f64 4613937818241073152) (.float .f64 4613937818241073152)).run Try.prog w = .ok (.float .f64 4618441417868443648) w := by kernel_rfl
  have h3 : (convert 103 3 (.float .f64 4618441417868443648)).run Try.prog w = .ok (.int .i64 6) w := by kernel_rfl
  go_enter Try.func57, Try.ntmps57
  go_wp2_with fail
  refine (is_m1 w).mono ?_
  rintro e w2 ⟨rfl, rfl⟩
  go_wp2_with fail
  refine (is_14 w).mono ?_
  rintro e w2 ⟨rfl, rfl⟩
  go_wp2_with fail
  refine (abs_3 w).mono ?_
  rintro e w2 ⟨rfl, rfl⟩
  go_wp2_with fail
  refine (abs_3 w).mono ?_
  rintro e w2 ⟨rfl, rfl⟩
  go_wp2
  go_ret2
  exact ⟨rfl, rfl⟩
theorem hops_14_m1 (w : World) : Calls Try.prog 57 #[.complex .f64 4611686018427387904 4613937818241073152, .complex .f64 13830554455654793216 0] w fun e w' => e = .returned (.tuple #[.int .i64 6, .int .i64 0]) ∧ w = w' := by
  have h1 : (binOp .sub 91 (.complex .f64 13830554455654793216 0) (.complex .f64 4611686018427387904 4613937818241073152)).run Try.prog w = .ok (.complex .f64 13837309855095848960 13837309855095848960) w := by kernel_rfl
  have h2 : (binOp .add 103 (.float .f64 4613937818241073152) (.float .f64 4613937818241073152)).run Try.prog w = .ok (.float .f64 4618441417868443648) w := by kernel_rfl
  have h3 : (convert 103 3 (.float .f64 4618441417868443648)).run Try.prog w = .ok (.int .i64 6) w := by kernel_rfl
  go_enter Try.func57, Try.ntmps57
  go_wp2_with fail
  refine (is_14 w).mono ?_
  rintro e w2 ⟨rfl, rfl⟩
  go_wp2_with fail
  refine (is_m1 w).mono ?_
  rintro e w2 ⟨rfl, rfl⟩
  go_wp2_with fail
  refine (abs_m3 w).mono ?_
  rintro e w2 ⟨rfl, rfl⟩
  go_wp2_with fail
  refine (abs_m3 w).mono ?_
  rintro e w2 ⟨rfl, rfl⟩
  go_wp2
  go_ret2
  exact ⟨rfl, rfl⟩
theorem hops_m1_15 (w : World) : Calls Try.prog 57 #[.complex .f64 13830554455654793216 0, .complex .f64 4613937818241073152 4613937818241073152] w fun e w' => e = .returned (.tuple #[.int .i64 7, .int .i64 0]) ∧ w = w' := by
  have h1 : (binOp .sub 91 (.complex .f64 4613937818241073152 4613937818241073152) (.complex .f64 13830554455654793216 0)).run Try.prog w = .ok (.complex .f64 4616189618054758400 4613937818241073152) w := by kernel_rfl
  have h2 : (binOp .add 103 (.float .f64 4616189618054758400) (.float .f64 4613937818241073152)).run Try.prog w = .ok (.float .f64 4619567317775286272) w := by kernel_rfl
  have h3 : (convert 103 3 (.float .f64 4619567317775286272)).run Try.prog w = .ok (.int .i64 7) w := by kernel_rfl
  go_enter Try.func57, Try.ntmps57
  go_wp2_with fail
  refine (is_m1 w).mono ?_
  rintro e w2 ⟨rfl, rfl⟩
  go_wp2_with fail
  refine (is_15 w).mono ?_
  rintro e w2 ⟨rfl, rfl⟩
  go_wp2_with fail
  refine (abs_4 w).mono ?_
  rintro e w2 ⟨rfl, rfl⟩
  go_wp2_with fail
  refine (abs_3 w).mono ?_
  rintro e w2 ⟨rfl, rfl⟩
  go_wp2
  go_ret2
  exact ⟨rfl, rfl⟩
theorem hops_15_m1 (w : World) : Calls Try.prog 57 #[.complex .f64 4613937818241073152 4613937818241073152, .complex .f64 13830554455654793216 0] w fun e w' => e = .returned (.tuple #[.int .i64 7, .int .i64 0]) ∧ w = w' := by
  have h1 : (binOp .sub 91 (.complex .f64 13830554455654793216 0) (.complex .f64 4613937818241073152 4613937818241073152)).run Try.prog w = .ok (.complex .f64 13839561654909534208 13837309855095848960) w := by kernel_rfl
  have h2 : (binOp .add 103 (.float .f64 4616189618054758400) (.float .f64 4613937818241073152)).run Try.prog w = .ok (.float .f64 4619567317775286272) w := by kernel_rfl
  have h3 : (convert 103 3 (.float .f64 4619567317775286272)).run Try.prog w = .ok (.int .i64 7) w := by kernel_rfl
  go_enter Try.func57, Try.ntmps57
  go_wp2_with fail
  refine (is_15 w).mono ?_
  rintro e w2 ⟨rfl, rfl⟩
  go_wp2_with fail
  refine (is_m1 w).mono ?_
  rintro e w2 ⟨rfl, rfl⟩
  go_wp2_with fail
  refine (abs_m4 w).mono ?_
  rintro e w2 ⟨rfl, rfl⟩
  go_wp2_with fail
  refine (abs_m3 w).mono ?_
  rintro e w2 ⟨rfl, rfl⟩
  go_wp2
  go_ret2
  exact ⟨rfl, rfl⟩
theorem hops_any (a b : Int) (h : (a = -1 ∧ 0 ≤ b ∧ b < 16) ∨ (b = -1 ∧ 0 ≤ a ∧ a < 16)) (w : World) : Calls Try.prog 57 #[plc a, plc b] w fun e w' => e = .returned (.tuple #[.int .i64 (hopsN a b), .int .i64 0]) ∧ w = w' := by
  rcases h with ⟨rfl, h1, h2⟩ | ⟨rfl, h1, h2⟩
  · have : b = 0 ∨ b = 1 ∨ b = 2 ∨ b = 3 ∨ b = 4 ∨ b = 5 ∨ b = 6 ∨ b = 7 ∨ b = 8 ∨ b = 9 ∨ b = 10 ∨ b = 11 ∨ b = 12 ∨ b = 13 ∨ b = 14 ∨ b = 15 := by omega
    rcases this with rfl | rfl | rfl | rfl | rfl | rfl | rfl | rfl | rfl | rfl | rfl | rfl | rfl | rfl | rfl | rfl
    · exact hops_m1_0 w
    · exact hops_m1_1 w
    · exact hops_m1_2 w
    · exact hops_m1_3 w
    · exact hops_m1_4 w
    · exact hops_m1_5 w
    · exact hops_m1_6 w
    · exact hops_m1_7 w
    · exact hops_m1_8 w
    · exact hops_m1_9 w
    · exact hops_m1_10 w
    · exact hops_m1_11 w
    · exact hops_m1_12 w
    · exact hops_m1_13 w
    · exact hops_m1_14 w
    · exact hops_m1_15 w
  · have : a = 0 ∨ a = 1 ∨ a = 2 ∨ a = 3 ∨ a = 4 ∨ a = 5 ∨ a = 6 ∨ a = 7 ∨ a = 8 ∨ a = 9 ∨ a = 10 ∨ a = 11 ∨ a = 12 ∨ a = 13 ∨ a = 14 ∨ a = 15 := by omega
    rcases this with rfl | rfl | rfl | rfl | rfl | rfl | rfl | rfl | rfl | rfl | rfl | rfl | rfl | rfl | rfl | rfl
    · exact hops_0_m1 w
    · exact hops_1_m1 w
    · exact hops_2_m1 w
    · exact hops_3_m1 w
    · exact hops_4_m1 w
    · exact hops_5_m1 w
    · exact hops_6_m1 w
    · exact hops_7_m1 w
    · exact hops_8_m1 w
    · exact hops_9_m1 w
    · exact hops_10_m1 w
    · exact hops_11_m1 w
    · exact hops_12_m1 w
    · exact hops_13_m1 w
    · exact hops_14_m1 w
    · exact hops_15_m1 w
theorem place_any (n : Int) (h : -1 ≤ n ∧ n < 16) (w : World) : Calls Try.prog 56 #[.int .i64 n] w fun e w' => e = .returned (.tuple #[plc n, .int .i64 0]) ∧ w = w' := by
  have : n = -1 ∨ n = 0 ∨ n = 1 ∨ n = 2 ∨ n = 3 ∨ n = 4 ∨ n = 5 ∨ n = 6 ∨ n = 7 ∨ n = 8 ∨ n = 9 ∨ n = 10 ∨ n = 11 ∨ n = 12 ∨ n = 13 ∨ n = 14 ∨ n = 15 := by omega
  clear h
  rcases this with rfl | rfl | rfl | rfl | rfl | rfl | rfl | rfl | rfl | rfl | rfl | rfl | rfl | rfl | rfl | rfl | rfl
  · show Calls _ _ _ w fun e w' => e = .returned (.tuple #[.complex .f64 13830554455654793216 0, .int .i64 0]) ∧ w = w'
    go_enter Try.func56, Try.ntmps56
    go_wp2
    go_ret2
    exact ⟨rfl, rfl⟩
  · show Calls _ _ _ w fun e w' => e = .returned (.tuple #[.complex .f64 0 0, .int .i64 0]) ∧ w = w'
    go_enter Try.func56, Try.ntmps56
    go_wp2
    go_ret2
    exact ⟨rfl, rfl⟩
  · show Calls _ _ _ w fun e w' => e = .returned (.tuple #[.complex .f64 4607182418800017408 0, .int .i64 0]) ∧ w = w'
    go_enter Try.func56, Try.ntmps56
    go_wp2
    go_ret2
    exact ⟨rfl, rfl⟩
  · show Calls _ _ _ w fun e w' => e = .returned (.tuple #[.complex .f64 4611686018427387904 0, .int .i64 0]) ∧ w = w'
    go_enter Try.func56, Try.ntmps56
    go_wp2
    go_ret2
    exact ⟨rfl, rfl⟩
  · show Calls _ _ _ w fun e w' => e = .returned (.tuple #[.complex .f64 4613937818241073152 0, .int .i64 0]) ∧ w = w'
    go_enter Try.func56, Try.ntmps56
    go_wp2
    go_ret2
    exact ⟨rfl, rfl⟩
  · show Calls _ _ _ w fun e w' => e = .returned (.tuple #[.complex .f64 0 4607182418800017408, .int .i64 0]) ∧ w = w'
    go_enter Try.func56, Try.ntmps56
    go_wp2
    go_ret2
    exact ⟨rfl, rfl⟩
  · show Calls _ _ _ w fun e w' => e = .returned (.tuple #[.complex .f64 4607182418800017408 4607182418800017408, .int .i64 0]) ∧ w = w'
    go_enter Try.func56, Try.ntmps56
    go_wp2
    go_ret2
    exact ⟨rfl, rfl⟩
  · show Calls _ _ _ w fun e w' => e = .returned (.tuple #[.complex .f64 4611686018427387904 4607182418800017408, .int .i64 0]) ∧ w = w'
    go_enter Try.func56, Try.ntmps56
    go_wp2
    go_ret2
    exact ⟨rfl, rfl⟩
  · show Calls _ _ _ w fun e w' => e = .returned (.tuple #[.complex .f64 4613937818241073152 4607182418800017408, .int .i64 0]) ∧ w = w'
    go_enter Try.func56, Try.ntmps56
    go_wp2
    go_ret2
    exact ⟨rfl, rfl⟩
  · show Calls _ _ _ w fun e w' => e = .returned (.tuple #[.complex .f64 0 4611686018427387904, .int .i64 0]) ∧ w = w'
    go_enter Try.func56, Try.ntmps56
    go_wp2
    go_ret2
    exact ⟨rfl, rfl⟩
  · show Calls _ _ _ w fun e w' => e = .returned (.tuple #[.complex .f64 4607182418800017408 4611686018427387904, .int .i64 0]) ∧ w = w'
    go_enter Try.func56, Try.ntmps56
    go_wp2
    go_ret2
    exact ⟨rfl, rfl⟩
  · show Calls _ _ _ w fun e w' => e = .returned (.tuple #[.complex .f64 4611686018427387904 4611686018427387904, .int .i64 0]) ∧ w = w'
    go_enter Try.func56, Try.ntmps56
    go_wp2
    go_ret2
    exact ⟨rfl, rfl⟩
  · show Calls _ _ _ w fun e w' => e = .returned (.tuple #[.complex .f64 4613937818241073152 4611686018427387904, .int .i64 0]) ∧ w = w'
    go_enter Try.func56, Try.ntmps56
    go_wp2
    go_ret2
    exact ⟨rfl, rfl⟩
  · show Calls _ _ _ w fun e w' => e = .returned (.tuple #[.complex .f64 0 4613937818241073152, .int .i64 0]) ∧ w = w'
    go_enter Try.func56, Try.ntmps56
    go_wp2
    go_ret2
    exact ⟨rfl, rfl⟩
  · show Calls _ _ _ w fun e w' => e = .returned (.tuple #[.complex .f64 4607182418800017408 4613937818241073152, .int .i64 0]) ∧ w = w'
    go_enter Try.func56, Try.ntmps56
    go_wp2
    go_ret2
    exact ⟨rfl, rfl⟩
  · show Calls _ _ _ w fun e w' => e = .returned (.tuple #[.complex .f64 4611686018427387904 4613937818241073152, .int .i64 0]) ∧ w = w'
    go_enter Try.func56, Try.ntmps56
    go_wp2
    go_ret2
    exact ⟨rfl, rfl⟩
  · show Calls _ _ _ w fun e w' => e = .returned (.tuple #[.complex .f64 4613937818241073152 4613937818241073152, .int .i64 0]) ∧ w = w'
    go_enter Try.func56, Try.ntmps56
    go_wp2
    go_ret2
    exact ⟨rfl, rfl⟩
end Go.Proofs.Ytmfhbobjambgaaa.GR
