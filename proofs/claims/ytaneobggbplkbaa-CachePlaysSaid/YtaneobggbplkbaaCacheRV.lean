/- The references of layers 5 and 6, as the cache's reference uses them: Set, Use, Victim. -/
import Derived.Test.YtaneobggbplkbaaCacheV
set_option linter.unusedSimpArgs false
set_option linter.unusedVariables false
namespace Go.Proofs.Ytaneobggbplkbaa.KA
open Go.RowKit
open PL (Cfg CC CV May)
attribute [local go_sem] Oper.semAt_some
set_option maxRecDepth 100000 in
theorem rbits_any (m : Int) (hm : 0 ≤ m ∧ m ≤ 255) (w : World) : Calls Try.prog 63 #[.int .u8 m] w fun e w' => e = .returned (.agg #[.int .i64 (m % 2), .int .i64 (m / 2 % 2), .int .i64 (m / 4 % 2)]) ∧ Upd NoF w w' := by
  have hu := Upd.alloc NoF w (.cells #[.int .i64 (m % 2), .int .i64 (m / 2 % 2), .int .i64 (m / 4 % 2)] 88)
  go_enter Try.func63, Try.ntmps63
  go_wp2
  exact bodyPost_ret (v := .agg #[.int .i64 (m % 2), .int .i64 (m / 2 % 2), .int .i64 (m / 4 % 2)]) (by simp [results, Try.f63, go_sem]) rfl ⟨rfl, hu⟩
theorem use_nat : ∀ n : Nat, n < 256 → let m : Int := n; m / 8 * 8 + (m % 2 + 2 * (m / 2 % 2) + 4 * (m / 4 % 2)) = useV m 1 0 ∧ m / 8 * 8 + (1 + 2 * (m / 2 % 2) + 4 * (m / 4 % 2)) = useV m 2 0 ∧ m / 8 * 8 + (2 * (m / 2 % 2) + 4 * (m / 4 % 2)) = useV m 2 1 ∧ m / 8 * 8 + (3 + 4 * (m / 4 % 2)) = useV m 4 0 ∧ m / 8 * 8 + (1 + 4 * (m / 4 % 2)) = useV m 4 1 ∧ m / 8 * 8 + (2 * (m / 2 % 2) + 4) = useV m 4 2 ∧ m / 8 * 8 + 2 * (m / 2 % 2) = useV m 4 3 := by decide +kernel
theorem use_all (m : Int) (hm : 0 ≤ m ∧ m ≤ 255) : m / 8 * 8 + (m % 2 + 2 * (m / 2 % 2) + 4 * (m / 4 % 2)) = useV m 1 0 ∧ m / 8 * 8 + (1 + 2 * (m / 2 % 2) + 4 * (m / 4 % 2)) = useV m 2 0 ∧ m / 8 * 8 + (2 * (m / 2 % 2) + 4 * (m / 4 % 2)) = useV m 2 1 ∧ m / 8 * 8 + (3 + 4 * (m / 4 % 2)) = useV m 4 0 ∧ m / 8 * 8 + (1 + 4 * (m / 4 % 2)) = useV m 4 1 ∧ m / 8 * 8 + (2 * (m / 2 % 2) + 4) = useV m 4 2 ∧ m / 8 * 8 + 2 * (m / 2 % 2) = useV m 4 3 := by
  obtain ⟨n, rfl⟩ : ∃ n : Nat, m = n := ⟨m.toNat, by omega⟩
  exact use_nat n (by omega)
set_option maxRecDepth 100000 in
set_option maxHeartbeats 1000000 in
theorem ruse_any (m : Int) (hm : 0 ≤ m ∧ m ≤ 255) (ways way : Int) (hs : ways = 1 ∨ ways = 2 ∨ ways = 4) (h0 : 0 ≤ way) (h1 : way < ways) (w : World) :
    Calls Try.prog 62 #[.int .u8 m, .int .i64 ways, .int .i64 way] w fun e w' => e = .returned (.tuple #[.int .u8 (useV m ways way), .int .i64 0]) ∧ Upd NoF w w' := by
  have HB := Lib.hid (rbits_any m hm w)
  have hcase : (ways = 1 ∧ way = 0) ∨ (ways = 2 ∧ way = 0) ∨ (ways = 2 ∧ way = 1) ∨ (ways = 4 ∧ way = 0) ∨ (ways = 4 ∧ way = 1) ∨ (ways = 4 ∧ way = 2) ∨ (ways = 4 ∧ way = 3) := by omega
  clear hs h0 h1
  rcases hcase with ⟨rfl, rfl⟩ | ⟨rfl, rfl⟩ | ⟨rfl, rfl⟩ | ⟨rfl, rfl⟩ | ⟨rfl, rfl⟩ | ⟨rfl, rfl⟩ | ⟨rfl, rfl⟩
  all_goals
    go_enter Try.func62, Try.ntmps62
    go_wp2_with fail
    refine HB.out.mono ?_
    rintro e w2 ⟨rfl, hu⟩
    have HU := Lib.hid hu
    clear hu
    go_wp2
    go_ret2
  · exact ⟨congrArg (fun z => Ending.returned (.tuple #[.int .u8 z, .int .i64 0])) (use_all m hm).1, HU.out.trans (Upd.alloc NoF _ _) (fun _ _ h => h)⟩
  · exact ⟨congrArg (fun z => Ending.returned (.tuple #[.int .u8 z, .int .i64 0])) (use_all m hm).2.1, HU.out.trans (Upd.alloc NoF _ _) (fun _ _ h => h)⟩
  · exact ⟨congrArg (fun z => Ending.returned (.tuple #[.int .u8 z, .int .i64 0])) (use_all m hm).2.2.1, HU.out.trans (Upd.alloc NoF _ _) (fun _ _ h => h)⟩
  · exact ⟨congrArg (fun z => Ending.returned (.tuple #[.int .u8 z, .int .i64 0])) (use_all m hm).2.2.2.1, HU.out.trans (Upd.alloc NoF _ _) (fun _ _ h => h)⟩
  · exact ⟨congrArg (fun z => Ending.returned (.tuple #[.int .u8 z, .int .i64 0])) (use_all m hm).2.2.2.2.1, HU.out.trans (Upd.alloc NoF _ _) (fun _ _ h => h)⟩
  · exact ⟨congrArg (fun z => Ending.returned (.tuple #[.int .u8 z, .int .i64 0])) (use_all m hm).2.2.2.2.2.1, HU.out.trans (Upd.alloc NoF _ _) (fun _ _ h => h)⟩
  · exact ⟨congrArg (fun z => Ending.returned (.tuple #[.int .u8 z, .int .i64 0])) (use_all m hm).2.2.2.2.2.2, HU.out.trans (Upd.alloc NoF _ _) (fun _ _ h => h)⟩
set_option maxRecDepth 100000 in
theorem rvic_any (m : Int) (hm : 0 ≤ m ∧ m ≤ 255) (ways : Int) (hs : ways = 1 ∨ ways = 2 ∨ ways = 4) (w : World) :
    Calls Try.prog 59 #[.int .u8 m, .int .i64 ways] w fun e w' => e = .returned (.tuple #[.int .i64 (vicV m ways), .int .i64 0]) ∧ Upd NoF w w' := by
  have HB := Lib.hid (rbits_any m hm w)
  by_cases h0 : m % 2 = 0
  · have hb : (m % 2 == 0) = true := by simpa using h0
    rcases hs with rfl | rfl | rfl
    all_goals
      go_enter Try.func59, Try.ntmps59
      go_wp2_with fail
      refine HB.out.mono ?_
      rintro e w2 ⟨rfl, hu⟩
      have HU := Lib.hid hu
      clear hu
      go_wp2
      go_ret2
    · exact ⟨rfl, HU.out.trans (Upd.alloc NoF _ _) (fun _ _ h => h)⟩
    · exact ⟨congrArg (fun z => Ending.returned (.tuple #[.int .i64 z, .int .i64 0])) (show (0 : Int) = vicV m 2 by unfold vicV; simp [h0]), HU.out.trans (Upd.alloc NoF _ _) (fun _ _ h => h)⟩
    · exact ⟨congrArg (fun z => Ending.returned (.tuple #[.int .i64 z, .int .i64 0])) (show m / 2 % 2 = vicV m 4 by unfold vicV; simp [h0]), HU.out.trans (Upd.alloc NoF _ _) (fun _ _ h => h)⟩
  · have hb : (m % 2 == 0) = false := by simpa using h0
    have h1 : m % 2 = 1 := by omega
    rcases hs with rfl | rfl | rfl
    all_goals
      go_enter Try.func59, Try.ntmps59
      go_wp2_with fail
      refine HB.out.mono ?_
      rintro e w2 ⟨rfl, hu⟩
      have HU := Lib.hid hu
      clear hu
      go_wp2
      go_ret2
    · exact ⟨rfl, HU.out.trans (Upd.alloc NoF _ _) (fun _ _ h => h)⟩
    · exact ⟨congrArg (fun z => Ending.returned (.tuple #[.int .i64 z, .int .i64 0])) (show (1 : Int) = vicV m 2 by unfold vicV; simp [h1]), HU.out.trans (Upd.alloc NoF _ _) (fun _ _ h => h)⟩
    · exact ⟨congrArg (fun z => Ending.returned (.tuple #[.int .i64 z, .int .i64 0])) (show 2 + m / 4 % 2 = vicV m 4 by unfold vicV; simp [h1]), HU.out.trans (Upd.alloc NoF _ _) (fun _ _ h => h)⟩
set_option maxRecDepth 100000 in
theorem rset_any (c : Cfg) (hc : May c) (b : Int) (hb : 0 ≤ b ∧ b < 256) (w : World) : Calls Try.prog 58 #[CV c, .int .i64 b] w fun e w' => e = .returned (.int .i64 (b % c.sets)) ∧ Upd NoF w w' := by
  have HM := Lib.hid (PL.rMay_any c (w.alloc (.cells (CC c) 23)))
  rw [decide_eq_true hc] at HM
  have hsr : 1 ≤ c.sets ∧ c.sets ≤ 16 := by have := hc.2.2.2.2.2.2.1; omega
  have g0 : decide (b < 0) = false := by simp; omega
  have HU := Lib.hid (Upd.alloc NoF w (.cells (CC c) 23))
  have HQ := Lib.hid (Blk.new w (CC c) 23)
  have hr : Int.tmod b c.sets = b % c.sets := Int.tmod_eq_emod_of_nonneg hb.1
  have hz : (c.sets == 0) = false := by simp; omega
  have hw : IntKind.i64.wrap (b % c.sets) = b % c.sets := by
    have h1 := Int.emod_nonneg b (show c.sets ≠ 0 by omega)
    have h2 := Int.emod_lt_of_pos b (show 0 < c.sets by omega)
    exact IntWalk.i64_in _ (by omega)
  clear hc
  go_enter Try.func58, Try.ntmps58
  go_wp2_with fail
  refine HM.out.mono ?_
  rintro e w2 ⟨rfl, hu⟩
  have q1 : w2.cell? ⟨w.heap.size, 1, none⟩ = some (.int .i64 c.sets) := (HQ.out.upd hu (fun h => h)).cell 1
  have HU2 := Lib.hid (HU.out.trans hu (fun _ _ h => h))
  clear hu HM HQ
  go_wp2
  go_ret
  exact ⟨rfl, HU2.out⟩
end Go.Proofs.Ytaneobggbplkbaa.KA
