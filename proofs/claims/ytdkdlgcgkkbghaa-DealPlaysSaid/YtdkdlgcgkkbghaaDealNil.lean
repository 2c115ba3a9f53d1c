/- No transaction: what the calls answer. -/
import Derived.Test.YtdkdlgcgkkbghaaDealWorks
set_option linter.unusedSimpArgs false
set_option linter.unusedVariables false
namespace Go.Proofs.Ytdkdlgcgkkbghaa.DL
open Go.RowKit
open Go.Proofs.Ytdkdlgcgkkbghaa.Ord
attribute [local go_sem ↓] ldS_eq stS_eq

theorem nil_open (w : World) : Calls Try.prog 29 #[.pointer none] w fun e w' => e = .returned (.int .i64 1) ∧ w = w' := by
  go_enter Try.func29, Try.ntmps29
  go_wp2
  go_ret
  exact ⟨rfl, rfl⟩
theorem nil_end (w : World) : Calls Try.prog 13 #[.pointer none] w fun e w' => e = .returned (.tuple #[.bool false, .int .i64 1]) ∧ w = w' := by
  go_enter Try.func13, Try.ntmps13
  go_wp2_with (go_at_call 29; refine (nil_open _).mono ?_; rintro e w' ⟨rfl, rfl⟩)
  go_ret2
  exact ⟨rfl, rfl⟩
theorem nil_fail (c : Int) (w : World) : Calls Try.prog 14 #[.pointer none, .int .u32 c] w fun e w' => e = .returned (.int .i64 1) ∧ w = w' := by
  go_enter Try.func14, Try.ntmps14
  go_wp2_with (go_at_call 29; refine (nil_open _).mono ?_; rintro e w' ⟨rfl, rfl⟩)
  go_ret
  exact ⟨rfl, rfl⟩
theorem nil_depth (w : World) : Calls Try.prog 10 #[.pointer none] w fun e w' => e = .returned (.int .i64 0) ∧ w = w' := by
  go_enter Try.func10, Try.ntmps10
  go_wp2
  go_ret
  exact ⟨rfl, rfl⟩
theorem nil_stamp (w : World) : Calls Try.prog 16 #[.pointer none] w fun e w' => e = .returned (.int .u64 0) ∧ w = w' := by
  go_enter Try.func16, Try.ntmps16
  go_wp2_with (go_at_call 10; refine (nil_depth _).mono ?_; rintro e w' ⟨rfl, rfl⟩)
  go_ret
  exact ⟨rfl, rfl⟩
theorem nil_failing (w : World) : Calls Try.prog 17 #[.pointer none] w fun e w' => e = .returned (.bool false) ∧ w = w' := by
  go_enter Try.func17, Try.ntmps17
  go_wp2
  go_ret
  exact ⟨rfl, rfl⟩
theorem nil_flag (w : World) : Calls Try.prog 20 #[.pointer none] w fun e w' => e = .returned (.bool false) ∧ w = w' := by
  go_enter Try.func20, Try.ntmps20
  go_wp2
  go_ret
  exact ⟨rfl, rfl⟩
theorem nil_asked (m : Bool) (s : Int) (w : World) : Calls Try.prog 18 #[.pointer none, .bool m, .int .u64 s] w fun e w' => e = .returned (.bool false) ∧ w = w' := by
  go_enter Try.func18, Try.ntmps18
  go_wp2
  go_ret
  exact ⟨rfl, rfl⟩
theorem nil_copy (w : World) : Calls Try.prog 21 #[.pointer none] w fun e w' => e = .returned (.pointer none) ∧ w = w' := by
  go_enter Try.func21, Try.ntmps21
  go_wp2
  go_ret
  exact ⟨rfl, rfl⟩
theorem nil_refused (s : Int) (w : World) : Calls Try.prog 19 #[.pointer none, .int .u64 s] w fun e w' => e = .returned (.bool false) ∧ Upd NoF w w' := by
  go_enter Try.func19, Try.ntmps19
  go_wp2_with fail
  go_quiet ((go_at_call 29; exact Calls.quiet_of_same ((nil_open _).mono (fun _ _ h => ⟨h.1, h.2.symm⟩))))
  go_wp2
  go_ret
  exact ⟨rfl, Upd.drewN _ _ _⟩
set_option maxRecDepth 100000 in
theorem nil_over (w : World) : Calls Try.prog 15 #[.pointer none] w fun e w' => e = .returned (.tuple #[SV 0, .int .u32 0, .int .i64 1]) ∧ Upd NoF w w' := by
  obtain ⟨h1, h2⟩ := save_new w 0 36
  have s0 : (stS (.pointer (some ⟨w.heap.size, 0, none⟩)) (.agg #[.int .u32 0, .int .u32 0, .int .u32 0, .int .u32 0, .int .u32 0, .int .u32 0, .int .u32 0, .int .u32 0, .int .u32 0, .int .u32 0, .int .u32 0, .int .u32 0, .int .u32 0, .int .u32 0, .int .u32 0, .int .u32 0, .int .i64 0])).run Try.prog (w.alloc (.cells #[.int .u32 0, .int .u32 0, .int .u32 0, .int .u32 0, .int .u32 0, .int .u32 0, .int .u32 0, .int .u32 0, .int .u32 0, .int .u32 0, .int .u32 0, .int .u32 0, .int .u32 0, .int .u32 0, .int .u32 0, .int .u32 0, .int .i64 0] 36)) = .ok () ((w.alloc (.cells SZ 36)).setCells w.heap.size 0 (SC 0).toList) := stS_run 0 (save_newthere w _)
  generalize (w.alloc (.cells SZ 36)).setCells w.heap.size 0 (SC 0).toList = W2 at *
  have H1 := Lib.hid h1; have H2 := Lib.hid h2
  clear h1 h2
  go_enter Try.func15, Try.ntmps15
  go_wp2
  have hl2 := ldV_run H2.out
  refine bodyPost_ret (v := .tuple #[SV 0, .int .u32 0, .int .i64 1]) ?_ ?_ ?_
  · simp [results, Try.f15, asAddr, hl2]
  · rfl
  exact ⟨rfl, H1.out⟩
set_option maxRecDepth 100000 in
theorem nil_begin (m s : Int) (w : World) : Calls Try.prog 11 #[.pointer none, SV m, .int .u64 s] w fun e w' => e = .returned (.int .i64 1) ∧ Upd NoF w w' := by
  go_enter Try.func11, Try.ntmps11
  go_wp2
  refine wp_scope_fwd 0 rfl ?_
  go_wp2
  go_step3
  go_wp2
  refine ⟨rfl, ?_⟩
  go_wp2
  rw [Exit.noGoto_ret]
  go_wp2
  go_ret
  exact ⟨rfl, Upd.alloc NoF w _⟩
end Go.Proofs.Ytdkdlgcgkkbghaa.DL
