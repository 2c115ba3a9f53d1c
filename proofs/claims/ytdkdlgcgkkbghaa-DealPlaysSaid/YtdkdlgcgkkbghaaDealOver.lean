/- The contract of Over. -/
import Derived.Test.YtdkdlgcgkkbghaaDealOps
import Derived.Deep.RegionHeld3
set_option linter.unusedSimpArgs false
set_option linter.unusedVariables false
namespace Go.Proofs.Ytdkdlgcgkkbghaa.DL
open Go.RowKit
open Go.Proofs.Ytdkdlgcgkkbghaa.Ord

attribute [local go_sem ↓] ldS_eq stS_eq
set_option maxRecDepth 100000 in
set_option maxHeartbeats 1000000 in
theorem over_any (b : Nat) (nest : Int) (d : DS) (hca : 0 ≤ d.ca ∧ d.ca ≤ 4294967295) (w : World) (hb : DAt w b nest d) :
    Calls Try.prog 15 #[.pointer (some ⟨b, 0, none⟩)] w fun e w' => e = .returned (overV d) ∧ DAt w' b nest (overS d) ∧ Upd (OnlyAt b) w w' := by
  have hlt := hb.lt
  have hb1 : DAt (w.alloc (.cells #[.int .u32 0, .int .u32 0, .int .u32 0, .int .u32 0, .int .u32 0, .int .u32 0, .int .u32 0, .int .u32 0, .int .u32 0, .int .u32 0, .int .u32 0, .int .u32 0, .int .u32 0, .int .u32 0, .int .u32 0, .int .u32 0, .int .i64 0] 36)) b nest d := hb.alloc _
  obtain ⟨depth, n, st, fl, fa, ca⟩ := d
  replace hca : 0 ≤ ca ∧ ca ≤ 4294967295 := hca
  have h255 := and255 hca.1 hca.2
  clear hca
  have c0 : (w.alloc (.cells #[.int .u32 0, .int .u32 0, .int .u32 0, .int .u32 0, .int .u32 0, .int .u32 0, .int .u32 0, .int .u32 0, .int .u32 0, .int .u32 0, .int .u32 0, .int .u32 0, .int .u32 0, .int .u32 0, .int .u32 0, .int .u32 0, .int .i64 0] 36)).cell? ⟨b, 0, none⟩ = some (.int .i64 nest) := hb1.cell 0
  have c1 : (w.alloc (.cells #[.int .u32 0, .int .u32 0, .int .u32 0, .int .u32 0, .int .u32 0, .int .u32 0, .int .u32 0, .int .u32 0, .int .u32 0, .int .u32 0, .int .u32 0, .int .u32 0, .int .u32 0, .int .u32 0, .int .u32 0, .int .u32 0, .int .i64 0] 36)).cell? ⟨b, 1, none⟩ = some (.int .i64 depth) := hb1.cell 1
  have c18 : (w.alloc (.cells #[.int .u32 0, .int .u32 0, .int .u32 0, .int .u32 0, .int .u32 0, .int .u32 0, .int .u32 0, .int .u32 0, .int .u32 0, .int .u32 0, .int .u32 0, .int .u32 0, .int .u32 0, .int .u32 0, .int .u32 0, .int .u32 0, .int .i64 0] 36)).cell? ⟨b, 18, none⟩ = some (.int .i64 n) := hb1.cell 18
  have c19 : (w.alloc (.cells #[.int .u32 0, .int .u32 0, .int .u32 0, .int .u32 0, .int .u32 0, .int .u32 0, .int .u32 0, .int .u32 0, .int .u32 0, .int .u32 0, .int .u32 0, .int .u32 0, .int .u32 0, .int .u32 0, .int .u32 0, .int .u32 0, .int .i64 0] 36)).cell? ⟨b, 19, none⟩ = some (.int .u64 st) := hb1.cell 19
  have c20 : (w.alloc (.cells #[.int .u32 0, .int .u32 0, .int .u32 0, .int .u32 0, .int .u32 0, .int .u32 0, .int .u32 0, .int .u32 0, .int .u32 0, .int .u32 0, .int .u32 0, .int .u32 0, .int .u32 0, .int .u32 0, .int .u32 0, .int .u32 0, .int .i64 0] 36)).cell? ⟨b, 20, none⟩ = some (.bool fl) := hb1.cell 20
  have c21 : (w.alloc (.cells #[.int .u32 0, .int .u32 0, .int .u32 0, .int .u32 0, .int .u32 0, .int .u32 0, .int .u32 0, .int .u32 0, .int .u32 0, .int .u32 0, .int .u32 0, .int .u32 0, .int .u32 0, .int .u32 0, .int .u32 0, .int .u32 0, .int .i64 0] 36)).cell? ⟨b, 21, none⟩ = some (.bool fa) := hb1.cell 21
  have c22 : (w.alloc (.cells #[.int .u32 0, .int .u32 0, .int .u32 0, .int .u32 0, .int .u32 0, .int .u32 0, .int .u32 0, .int .u32 0, .int .u32 0, .int .u32 0, .int .u32 0, .int .u32 0, .int .u32 0, .int .u32 0, .int .u32 0, .int .u32 0, .int .i64 0] 36)).cell? ⟨b, 22, none⟩ = some (.int .u32 ca) := hb1.cell 22
  have fz : ∀ i, (w.alloc (.cells #[.int .u32 0, .int .u32 0, .int .u32 0, .int .u32 0, .int .u32 0, .int .u32 0, .int .u32 0, .int .u32 0, .int .u32 0, .int .u32 0, .int .u32 0, .int .u32 0, .int .u32 0, .int .u32 0, .int .u32 0, .int .u32 0, .int .i64 0] 36)).frozen? ⟨b, i, none⟩ = false := fun i => hb1.frozen i
  have HB := Lib.hid hb1
  have hz0 : Blk (w.alloc (.cells #[.int .u32 0, .int .u32 0, .int .u32 0, .int .u32 0, .int .u32 0, .int .u32 0, .int .u32 0, .int .u32 0, .int .u32 0, .int .u32 0, .int .u32 0, .int .u32 0, .int .u32 0, .int .u32 0, .int .u32 0, .int .u32 0, .int .i64 0] 36)) w.heap.size (SC 0) 36 := Blk.new w _ _
  have hne : b ≠ w.heap.size := by omega
  have hne2 : w.heap.size ≠ b := by omega
  clear hb hb1 hlt
  cases fa
  · have hth := save_nthere hz0
    have hBz := hz0
    obtain ⟨W2, hW2⟩ : ∃ W2, (w.alloc (.cells #[.int .u32 0, .int .u32 0, .int .u32 0, .int .u32 0, .int .u32 0, .int .u32 0, .int .u32 0, .int .u32 0, .int .u32 0, .int .u32 0, .int .u32 0, .int .u32 0, .int .u32 0, .int .u32 0, .int .u32 0, .int .u32 0, .int .i64 0] 36)).setCells w.heap.size 0 (SC 0).toList = W2 := ⟨_, rfl⟩
    have hZ2 : Blk W2 w.heap.size (SC 0) 36 := by rw [← hW2]; exact save_store hz0 0
    have HB2 : Hid (DAt W2 b nest ⟨depth, n, st, fl, false, ca⟩) := Lib.hid (by rw [← hW2]; exact blk_other_setCells hne _ _ _ HB.out)
    have HU2 : Hid (Upd (OnlyAt b) w W2) := Lib.hid (by rw [← hW2]; exact (Upd.alloc (OnlyAt b) w _).trans (upd_setCells _ _ _) (fun i hi h => by have : i = w.heap.size := h; omega))
    have s0 : (stS (.pointer (some ⟨w.heap.size, 0, none⟩)) (.agg #[.int .u32 0, .int .u32 0, .int .u32 0, .int .u32 0, .int .u32 0, .int .u32 0, .int .u32 0, .int .u32 0, .int .u32 0, .int .u32 0, .int .u32 0, .int .u32 0, .int .u32 0, .int .u32 0, .int .u32 0, .int .u32 0, .int .i64 0])).run Try.prog (w.alloc (.cells #[.int .u32 0, .int .u32 0, .int .u32 0, .int .u32 0, .int .u32 0, .int .u32 0, .int .u32 0, .int .u32 0, .int .u32 0, .int .u32 0, .int .u32 0, .int .u32 0, .int .u32 0, .int .u32 0, .int .u32 0, .int .u32 0, .int .i64 0] 36)) = .ok () W2 := by rw [← hW2]; exact stS_run 0 hth
    have HZ2 := Lib.hid hZ2
    clear hW2 hZ2 hth hBz hz0
    go_enter Try.func15, Try.ntmps15
    go_wp2
    have hl0 := ldV_run HZ2.out
    refine bodyPost_ret (v := .tuple #[SV 0, .int .u32 0, .int .i64 8]) ?_ ?_ ?_
    · simp [results, Try.f15, asAddr, hl0]
    · rfl
    exact ⟨rfl, HB2.out, HU2.out⟩
  · by_cases hk : ca % 256 = 1
    · have hkb : (bits .and .u32 ca 255 != 1) = false := by rw [h255]; simp [hk]
      clear h255
      go_enter Try.func15, Try.ntmps15
      go_wp2
      obtain ⟨W1, hW1⟩ : ∃ W1, ((((w.alloc (.cells #[.int .u32 0, .int .u32 0, .int .u32 0, .int .u32 0, .int .u32 0, .int .u32 0, .int .u32 0, .int .u32 0, .int .u32 0, .int .u32 0, .int .u32 0, .int .u32 0, .int .u32 0, .int .u32 0, .int .u32 0, .int .u32 0, .int .i64 0] 36)).setCell ⟨b, 1, none⟩ (.int .i64 0)).setCell ⟨b, 21, none⟩ (.bool false)).setCell ⟨b, 20, none⟩ (.bool false)) = W1 := ⟨_, rfl⟩
      have hB1 : DAt W1 b nest ⟨0, n, st, false, false, ca⟩ := by rw [← hW1]; exact blk_eq (((HB.out.set 1 (.int .i64 0)).set 21 (.bool false)).set 20 (.bool false)) (by kernel_rfl)
      have hZ1 : Blk W1 w.heap.size (SC 0) 36 := by rw [← hW1]; exact blk_eq (((hz0.other 1 (.int .i64 0) hne2).other 21 (.bool false) hne2).other 20 (.bool false) hne2) (by kernel_rfl)
      have hU1 : Upd (OnlyAt b) w W1 := by rw [← hW1]; exact only_trans (only_trans (only_trans (Upd.alloc _ w _) (set_only _ _)) (set_only _ _)) (set_only _ _)
      rw [hW1]
      clear hW1 hz0 c0 c1 c18 c19 c20 c21 c22 fz
      have hd := Upd.drew NoF W1
      have hBd := hB1.upd hd (fun h => h)
      have hZd := hZ1.upd hd (fun h => h)
      obtain ⟨W2, hW2⟩ : ∃ W2, W1.drew.setCells w.heap.size 0 (SC n).toList = W2 := ⟨_, rfl⟩
      have hB2 : DAt W2 b nest ⟨0, n, st, false, false, ca⟩ := by rw [← hW2]; exact blk_other_setCells hne _ _ _ hBd
      have hZ2 : Blk W2 w.heap.size (SC n) 36 := by rw [← hW2]; exact save_store hZd n
      have hU2 : Upd (OnlyAt b) w W2 := by rw [← hW2]; exact (hU1.trans hd (fun _ _ h => h.elim)).trans (upd_setCells _ _ _) (fun i hi h => by have : i = w.heap.size := h; omega)
      have l1 := ldS_run (save_range hBd)
      have l2 := ldS_run (save_range hB2)
      have s1 := stS_run n (save_nthere hZd)
      rw [hW2] at s1
      have y1 : W1.cell? ⟨b, 22, none⟩ = some (.int .u32 ca) := hB1.cell 22
      have y2 : W2.cell? ⟨b, 22, none⟩ = some (.int .u32 ca) := hB2.cell 22
      have HB2 := Lib.hid hB2; have HZ2 := Lib.hid hZ2; have HU2 := Lib.hid hU2
      clear hB1 hZ1 hU1 hd hBd hZd hW2 hB2 hZ2 hU2
      go_region_with (fail)
      all_goals
        go_wp2
        have hl2 := ldV_run HZ2.out
        refine bodyPost_ret (v := .tuple #[SV n, .int .u32 ca, .int .i64 0]) ?_ ?_ ?_
        · simp [results, Try.f15, asAddr, hl2]
        · rfl
        refine ⟨rfl, ?_, HU2.out⟩
        unfold overS
        simp only [if_true, hk]
        exact HB2.out
    · have hkb : (bits .and .u32 ca 255 != 1) = true := by rw [h255]; simp [hk]
      clear h255
      go_enter Try.func15, Try.ntmps15
      go_wp2
      obtain ⟨W1, hW1⟩ : ∃ W1, (((((w.alloc (.cells #[.int .u32 0, .int .u32 0, .int .u32 0, .int .u32 0, .int .u32 0, .int .u32 0, .int .u32 0, .int .u32 0, .int .u32 0, .int .u32 0, .int .u32 0, .int .u32 0, .int .u32 0, .int .u32 0, .int .u32 0, .int .u32 0, .int .i64 0] 36)).setCell ⟨b, 1, none⟩ (.int .i64 0)).setCell ⟨b, 21, none⟩ (.bool false)).setCell ⟨b, 20, none⟩ (.bool false)).setCell ⟨b, 19, none⟩ (.int .u64 0)) = W1 := ⟨_, rfl⟩
      have hB1 : DAt W1 b nest ⟨0, n, 0, false, false, ca⟩ := by rw [← hW1]; exact blk_eq ((((HB.out.set 1 (.int .i64 0)).set 21 (.bool false)).set 20 (.bool false)).set 19 (.int .u64 0)) (by kernel_rfl)
      have hZ1 : Blk W1 w.heap.size (SC 0) 36 := by rw [← hW1]; exact blk_eq ((((hz0.other 1 (.int .i64 0) hne2).other 21 (.bool false) hne2).other 20 (.bool false) hne2).other 19 (.int .u64 0) hne2) (by kernel_rfl)
      have hU1 : Upd (OnlyAt b) w W1 := by rw [← hW1]; exact only_trans (only_trans (only_trans (only_trans (Upd.alloc _ w _) (set_only _ _)) (set_only _ _)) (set_only _ _)) (set_only _ _)
      rw [hW1]
      clear hW1 hz0 c0 c1 c18 c19 c20 c21 c22 fz
      have hd := Upd.drew NoF W1
      have hBd := hB1.upd hd (fun h => h)
      have hZd := hZ1.upd hd (fun h => h)
      obtain ⟨W2, hW2⟩ : ∃ W2, W1.drew.setCells w.heap.size 0 (SC n).toList = W2 := ⟨_, rfl⟩
      have hB2 : DAt W2 b nest ⟨0, n, 0, false, false, ca⟩ := by rw [← hW2]; exact blk_other_setCells hne _ _ _ hBd
      have hZ2 : Blk W2 w.heap.size (SC n) 36 := by rw [← hW2]; exact save_store hZd n
      have hU2 : Upd (OnlyAt b) w W2 := by rw [← hW2]; exact (hU1.trans hd (fun _ _ h => h.elim)).trans (upd_setCells _ _ _) (fun i hi h => by have : i = w.heap.size := h; omega)
      have l1 := ldS_run (save_range hBd)
      have l2 := ldS_run (save_range hB2)
      have s1 := stS_run n (save_nthere hZd)
      rw [hW2] at s1
      have y1 : W1.cell? ⟨b, 22, none⟩ = some (.int .u32 ca) := hB1.cell 22
      have y2 : W2.cell? ⟨b, 22, none⟩ = some (.int .u32 ca) := hB2.cell 22
      have HB2 := Lib.hid hB2; have HZ2 := Lib.hid hZ2; have HU2 := Lib.hid hU2
      clear hB1 hZ1 hU1 hd hBd hZd hW2 hB2 hZ2 hU2
      go_region_with (fail)
      all_goals
        go_wp2
        have hl2 := ldV_run HZ2.out
        refine bodyPost_ret (v := .tuple #[SV n, .int .u32 ca, .int .i64 0]) ?_ ?_ ?_
        · simp [results, Try.f15, asAddr, hl2]
        · rfl
        refine ⟨rfl, ?_, HU2.out⟩
        unfold overS
        simp only [if_true, hk, if_false]
        exact HB2.out

end Go.Proofs.Ytdkdlgcgkkbghaa.DL
