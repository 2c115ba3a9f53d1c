/- The contract of Begin. -/
import Derived.Test.YtjgeflbhmhmjdaaGreatRowF
set_option linter.unusedSimpArgs false
set_option linter.unusedVariables false
namespace Go.Proofs.YtjgeflbhmhmjdaaGreat.DL
open Go.RowKit
open Go.Proofs.YtjgeflbhmhmjdaaGreat.Ord

set_option maxRecDepth 100000 in
set_option maxHeartbeats 1000000 in
theorem begin_any (b : Nat) (nest : Int) (d : DS) (m stamp : Int) (hd : 0 ≤ d.depth ∧ d.depth ≤ 8) (w : World) (hb : DAt w b nest d) :
    Calls Tryz.prog 71 #[.pointer (some ⟨b, 0, none⟩), SV m, .int .u64 stamp] w fun e w' => e = .returned (.int .i64 (beginE nest d stamp)) ∧ DAt w' b nest (beginS nest d m stamp) ∧ Upd (OnlyAt b) w w' := by
  obtain ⟨hd0, hd8⟩ := hd
  have hb0 := Lib.hid hb
  obtain ⟨depth, n, st, fl, fa, ca⟩ := d
  clear hb
  go_enter Tryz.func71, Tryz.ntmps71
  go_wp2
  obtain ⟨W, hW⟩ : ∃ W, w.alloc (.cells (SC m) 76) = W := ⟨_, rfl⟩
  have HU : Hid (Upd (OnlyAt b) w W) := Lib.hid (by rw [← hW]; exact Upd.alloc _ w _)
  have HB : Hid (DAt W b nest ⟨depth, n, st, fl, fa, ca⟩) := Lib.hid (by rw [← hW]; exact hb0.out.alloc _)
  have HQ : Hid (Blk W w.heap.size (SC m) 76) := Lib.hid (by rw [← hW]; exact Blk.new w _ _)
  rw [hW]
  clear hW hb0
  have c0 : W.cell? ⟨b, 0, none⟩ = some (.int .i64 nest) := HB.out.cell 0
  have c1 : W.cell? ⟨b, 1, none⟩ = some (.int .i64 depth) := HB.out.cell 1
  have c19 : W.cell? ⟨b, 19, none⟩ = some (.int .u64 st) := HB.out.cell 19
  have c20 : W.cell? ⟨b, 20, none⟩ = some (.bool fl) := HB.out.cell 20
  have c21 : W.cell? ⟨b, 21, none⟩ = some (.bool fa) := HB.out.cell 21
  have fz : ∀ i, W.frozen? ⟨b, i, none⟩ = false := fun i => HB.out.frozen i
  by_cases h0 : stamp = 0
  · subst h0
    refine wp_scope_fwd 0 rfl ?_
    go_wp2
    go_step3
    go_wp2
    refine ⟨rfl, ?_⟩
    go_wp2
    rw [Exit.noGoto_ret]
    go_wp2
    go_ret
    have hE : beginE nest ⟨depth, n, st, fl, fa, ca⟩ 0 = 2 := by simp [beginE]
    exact ⟨by rw [hE]; rfl, by unfold beginS; rw [hE]; exact HB.out, HU.out⟩
  · have h0b : (stamp == 0) = false := by simpa using h0
    cases fa
    · refine wp_scope_fwd 0 rfl ?_
      go_wp2
      go_quiet (fail)
      rename_i nq
      clear c0 c1 c19 c20 c21 fz
      obtain ⟨W2, hW2⟩ : ∃ W2, W.drewN nq = W2 := ⟨_, rfl⟩
      have HU2 : Hid (Upd (OnlyAt b) w W2) := Lib.hid (by rw [← hW2]; exact only_trans HU.out (Upd.drewN _ W nq))
      have HB2 : Hid (DAt W2 b nest ⟨depth, n, st, fl, false, ca⟩) := Lib.hid (by rw [← hW2]; exact HB.out.upd (Upd.drewN NoF W nq) (fun h => h))
      have HQ2 : Hid (Blk W2 w.heap.size (SC m) 76) := Lib.hid (by rw [← hW2]; exact HQ.out.upd (Upd.drewN NoF W nq) (fun h => h))
      rw [hW2]
      clear hW2 HU HB HQ
      have c0 : W2.cell? ⟨b, 0, none⟩ = some (.int .i64 nest) := HB2.out.cell 0
      have c1 : W2.cell? ⟨b, 1, none⟩ = some (.int .i64 depth) := HB2.out.cell 1
      have c19 : W2.cell? ⟨b, 19, none⟩ = some (.int .u64 st) := HB2.out.cell 19
      have c20 : W2.cell? ⟨b, 20, none⟩ = some (.bool fl) := HB2.out.cell 20
      have c21 : W2.cell? ⟨b, 21, none⟩ = some (.bool false) := HB2.out.cell 21
      have fz : ∀ i, W2.frozen? ⟨b, i, none⟩ = false := fun i => HB2.out.frozen i
      by_cases h1 : depth = nest
      · subst h1
        have h1b : (depth == depth) = true := by simp
        go_wp2_with fail
        go_step3
        go_wp2
        refine ⟨rfl, ?_⟩
        go_wp2
        rw [Exit.noGoto_ret]
        go_wp2
        go_ret
        have hE : beginE depth ⟨depth, n, st, fl, false, ca⟩ stamp = 7 := by simp [beginE, h0]
        exact ⟨by rw [hE]; rfl, by unfold beginS; rw [hE]; exact HB2.out, HU2.out⟩
      · have h1b : (depth == nest) = false := by simpa using h1
        have HE := Lib.hid (show beginE nest ⟨depth, n, st, fl, false, ca⟩ stamp = 0 from by simp [beginE, h0, h1])
        clear h0 h1
        by_cases h2 : depth = 0
        · subst h2
          by_cases h3 : st = 0
          · subst h3
            have c2 : W2.cell? ⟨b, 2, none⟩ = some (.int .u32 0) := HB2.out.cell 2
            have c3 : W2.cell? ⟨b, 3, none⟩ = some (.int .u32 (n % 4294967296)) := HB2.out.cell 3
            have c4 : W2.cell? ⟨b, 4, none⟩ = some (.int .u32 0) := HB2.out.cell 4
            have c5 : W2.cell? ⟨b, 5, none⟩ = some (.int .u32 0) := HB2.out.cell 5
            have c6 : W2.cell? ⟨b, 6, none⟩ = some (.int .u32 0) := HB2.out.cell 6
            have c7 : W2.cell? ⟨b, 7, none⟩ = some (.int .u32 0) := HB2.out.cell 7
            have c8 : W2.cell? ⟨b, 8, none⟩ = some (.int .u32 0) := HB2.out.cell 8
            have c9 : W2.cell? ⟨b, 9, none⟩ = some (.int .u32 0) := HB2.out.cell 9
            have c10 : W2.cell? ⟨b, 10, none⟩ = some (.int .u32 0) := HB2.out.cell 10
            have c11 : W2.cell? ⟨b, 11, none⟩ = some (.int .u32 0) := HB2.out.cell 11
            have c12 : W2.cell? ⟨b, 12, none⟩ = some (.int .u32 0) := HB2.out.cell 12
            have c13 : W2.cell? ⟨b, 13, none⟩ = some (.int .u32 0) := HB2.out.cell 13
            have c14 : W2.cell? ⟨b, 14, none⟩ = some (.int .u32 0) := HB2.out.cell 14
            have c15 : W2.cell? ⟨b, 15, none⟩ = some (.int .u32 0) := HB2.out.cell 15
            have c16 : W2.cell? ⟨b, 16, none⟩ = some (.int .u32 0) := HB2.out.cell 16
            have c17 : W2.cell? ⟨b, 17, none⟩ = some (.int .u32 0) := HB2.out.cell 17
            have c18 : W2.cell? ⟨b, 18, none⟩ = some (.int .i64 n) := HB2.out.cell 18
            have q0 : W2.cell? ⟨w.heap.size, 0, none⟩ = some (.int .u32 0) := HQ2.out.cell 0
            have q1 : W2.cell? ⟨w.heap.size, 1, none⟩ = some (.int .u32 (m % 4294967296)) := HQ2.out.cell 1
            have q2 : W2.cell? ⟨w.heap.size, 2, none⟩ = some (.int .u32 0) := HQ2.out.cell 2
            have q3 : W2.cell? ⟨w.heap.size, 3, none⟩ = some (.int .u32 0) := HQ2.out.cell 3
            have q4 : W2.cell? ⟨w.heap.size, 4, none⟩ = some (.int .u32 0) := HQ2.out.cell 4
            have q5 : W2.cell? ⟨w.heap.size, 5, none⟩ = some (.int .u32 0) := HQ2.out.cell 5
            have q6 : W2.cell? ⟨w.heap.size, 6, none⟩ = some (.int .u32 0) := HQ2.out.cell 6
            have q7 : W2.cell? ⟨w.heap.size, 7, none⟩ = some (.int .u32 0) := HQ2.out.cell 7
            have q8 : W2.cell? ⟨w.heap.size, 8, none⟩ = some (.int .u32 0) := HQ2.out.cell 8
            have q9 : W2.cell? ⟨w.heap.size, 9, none⟩ = some (.int .u32 0) := HQ2.out.cell 9
            have q10 : W2.cell? ⟨w.heap.size, 10, none⟩ = some (.int .u32 0) := HQ2.out.cell 10
            have q11 : W2.cell? ⟨w.heap.size, 11, none⟩ = some (.int .u32 0) := HQ2.out.cell 11
            have q12 : W2.cell? ⟨w.heap.size, 12, none⟩ = some (.int .u32 0) := HQ2.out.cell 12
            have q13 : W2.cell? ⟨w.heap.size, 13, none⟩ = some (.int .u32 0) := HQ2.out.cell 13
            have q14 : W2.cell? ⟨w.heap.size, 14, none⟩ = some (.int .u32 0) := HQ2.out.cell 14
            have q15 : W2.cell? ⟨w.heap.size, 15, none⟩ = some (.int .u32 0) := HQ2.out.cell 15
            have q16 : W2.cell? ⟨w.heap.size, 16, none⟩ = some (.int .i64 m) := HQ2.out.cell 16
            go_wp2
            rw [Exit.jump_ret]
            go_wp2
            go_ret
            refine ⟨by rw [HE.out]; rfl, ?_, ?_⟩
            · unfold beginS; rw [HE.out]; simp only [if_true]
              exact blk_eq ((((((((((((((((((((HB2.out.set 2 (.int .u32 0)).set 3 (.int .u32 (m % 4294967296))).set 4 (.int .u32 0)).set 5 (.int .u32 0)).set 6 (.int .u32 0)).set 7 (.int .u32 0)).set 8 (.int .u32 0)).set 9 (.int .u32 0)).set 10 (.int .u32 0)).set 11 (.int .u32 0)).set 12 (.int .u32 0)).set 13 (.int .u32 0)).set 14 (.int .u32 0)).set 15 (.int .u32 0)).set 16 (.int .u32 0)).set 17 (.int .u32 0)).set 18 (.int .i64 m)).set 20 (.bool false)).set 19 (.int .u64 stamp)).set 1 (.int .i64 1)) (by kernel_rfl)
            · exact only_trans (only_trans (only_trans (only_trans (only_trans (only_trans (only_trans (only_trans (only_trans (only_trans (only_trans (only_trans (only_trans (only_trans (only_trans (only_trans (only_trans (only_trans (only_trans (only_trans (HU2.out) (set_only _ _)) (set_only _ _)) (set_only _ _)) (set_only _ _)) (set_only _ _)) (set_only _ _)) (set_only _ _)) (set_only _ _)) (set_only _ _)) (set_only _ _)) (set_only _ _)) (set_only _ _)) (set_only _ _)) (set_only _ _)) (set_only _ _)) (set_only _ _)) (set_only _ _)) (set_only _ _)) (set_only _ _)) (set_only _ _)
          · have h3b : (st == 0) = false := by simpa using h3
            have c2 : W2.cell? ⟨b, 2, none⟩ = some (.int .u32 0) := HB2.out.cell 2
            have c3 : W2.cell? ⟨b, 3, none⟩ = some (.int .u32 (n % 4294967296)) := HB2.out.cell 3
            have c4 : W2.cell? ⟨b, 4, none⟩ = some (.int .u32 0) := HB2.out.cell 4
            have c5 : W2.cell? ⟨b, 5, none⟩ = some (.int .u32 0) := HB2.out.cell 5
            have c6 : W2.cell? ⟨b, 6, none⟩ = some (.int .u32 0) := HB2.out.cell 6
            have c7 : W2.cell? ⟨b, 7, none⟩ = some (.int .u32 0) := HB2.out.cell 7
            have c8 : W2.cell? ⟨b, 8, none⟩ = some (.int .u32 0) := HB2.out.cell 8
            have c9 : W2.cell? ⟨b, 9, none⟩ = some (.int .u32 0) := HB2.out.cell 9
            have c10 : W2.cell? ⟨b, 10, none⟩ = some (.int .u32 0) := HB2.out.cell 10
            have c11 : W2.cell? ⟨b, 11, none⟩ = some (.int .u32 0) := HB2.out.cell 11
            have c12 : W2.cell? ⟨b, 12, none⟩ = some (.int .u32 0) := HB2.out.cell 12
            have c13 : W2.cell? ⟨b, 13, none⟩ = some (.int .u32 0) := HB2.out.cell 13
            have c14 : W2.cell? ⟨b, 14, none⟩ = some (.int .u32 0) := HB2.out.cell 14
            have c15 : W2.cell? ⟨b, 15, none⟩ = some (.int .u32 0) := HB2.out.cell 15
            have c16 : W2.cell? ⟨b, 16, none⟩ = some (.int .u32 0) := HB2.out.cell 16
            have c17 : W2.cell? ⟨b, 17, none⟩ = some (.int .u32 0) := HB2.out.cell 17
            have c18 : W2.cell? ⟨b, 18, none⟩ = some (.int .i64 n) := HB2.out.cell 18
            have q0 : W2.cell? ⟨w.heap.size, 0, none⟩ = some (.int .u32 0) := HQ2.out.cell 0
            have q1 : W2.cell? ⟨w.heap.size, 1, none⟩ = some (.int .u32 (m % 4294967296)) := HQ2.out.cell 1
            have q2 : W2.cell? ⟨w.heap.size, 2, none⟩ = some (.int .u32 0) := HQ2.out.cell 2
            have q3 : W2.cell? ⟨w.heap.size, 3, none⟩ = some (.int .u32 0) := HQ2.out.cell 3
            have q4 : W2.cell? ⟨w.heap.size, 4, none⟩ = some (.int .u32 0) := HQ2.out.cell 4
            have q5 : W2.cell? ⟨w.heap.size, 5, none⟩ = some (.int .u32 0) := HQ2.out.cell 5
            have q6 : W2.cell? ⟨w.heap.size, 6, none⟩ = some (.int .u32 0) := HQ2.out.cell 6
            have q7 : W2.cell? ⟨w.heap.size, 7, none⟩ = some (.int .u32 0) := HQ2.out.cell 7
            have q8 : W2.cell? ⟨w.heap.size, 8, none⟩ = some (.int .u32 0) := HQ2.out.cell 8
            have q9 : W2.cell? ⟨w.heap.size, 9, none⟩ = some (.int .u32 0) := HQ2.out.cell 9
            have q10 : W2.cell? ⟨w.heap.size, 10, none⟩ = some (.int .u32 0) := HQ2.out.cell 10
            have q11 : W2.cell? ⟨w.heap.size, 11, none⟩ = some (.int .u32 0) := HQ2.out.cell 11
            have q12 : W2.cell? ⟨w.heap.size, 12, none⟩ = some (.int .u32 0) := HQ2.out.cell 12
            have q13 : W2.cell? ⟨w.heap.size, 13, none⟩ = some (.int .u32 0) := HQ2.out.cell 13
            have q14 : W2.cell? ⟨w.heap.size, 14, none⟩ = some (.int .u32 0) := HQ2.out.cell 14
            have q15 : W2.cell? ⟨w.heap.size, 15, none⟩ = some (.int .u32 0) := HQ2.out.cell 15
            have q16 : W2.cell? ⟨w.heap.size, 16, none⟩ = some (.int .i64 m) := HQ2.out.cell 16
            go_wp2
            rw [Exit.jump_ret]
            go_wp2
            go_ret
            refine ⟨by rw [HE.out]; rfl, ?_, ?_⟩
            · unfold beginS; rw [HE.out]; simp only [if_true, h3, if_false]
              exact blk_eq (((((((((((((((((((HB2.out.set 2 (.int .u32 0)).set 3 (.int .u32 (m % 4294967296))).set 4 (.int .u32 0)).set 5 (.int .u32 0)).set 6 (.int .u32 0)).set 7 (.int .u32 0)).set 8 (.int .u32 0)).set 9 (.int .u32 0)).set 10 (.int .u32 0)).set 11 (.int .u32 0)).set 12 (.int .u32 0)).set 13 (.int .u32 0)).set 14 (.int .u32 0)).set 15 (.int .u32 0)).set 16 (.int .u32 0)).set 17 (.int .u32 0)).set 18 (.int .i64 m)).set 20 (.bool false)).set 1 (.int .i64 1)) (by kernel_rfl)
            · exact only_trans (only_trans (only_trans (only_trans (only_trans (only_trans (only_trans (only_trans (only_trans (only_trans (only_trans (only_trans (only_trans (only_trans (only_trans (only_trans (only_trans (only_trans (only_trans (HU2.out) (set_only _ _)) (set_only _ _)) (set_only _ _)) (set_only _ _)) (set_only _ _)) (set_only _ _)) (set_only _ _)) (set_only _ _)) (set_only _ _)) (set_only _ _)) (set_only _ _)) (set_only _ _)) (set_only _ _)) (set_only _ _)) (set_only _ _)) (set_only _ _)) (set_only _ _)) (set_only _ _)) (set_only _ _)
        · have h2b : (depth == 0) = false := by simpa using h2
          go_wp2
          rw [Exit.jump_ret]
          go_wp2
          go_ret
          refine ⟨by rw [HE.out]; rfl, ?_, ?_⟩
          · unfold beginS; rw [HE.out]; simp only [if_true, h2, if_false]
            exact blk_eq (HB2.out.set 1 (.int .i64 (depth + 1))) (by kernel_rfl)
          · exact only_trans (HU2.out) (set_only _ _)
    · refine wp_scope_fwd 0 rfl ?_
      go_wp2
      go_step3
      go_wp2
      refine ⟨rfl, ?_⟩
      go_wp2
      rw [Exit.noGoto_ret]
      go_wp2
      go_ret
      have hE : beginE nest ⟨depth, n, st, fl, true, ca⟩ stamp = 8 := by simp [beginE, h0]
      exact ⟨by rw [hE]; rfl, by unfold beginS; rw [hE]; exact HB.out, HU.out⟩

end Go.Proofs.YtjgeflbhmhmjdaaGreat.DL
