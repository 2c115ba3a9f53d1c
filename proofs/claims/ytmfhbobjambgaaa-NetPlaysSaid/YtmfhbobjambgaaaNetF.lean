/- The contracts of package net: fits, way. -/
import Derived.Test.YtmfhbobjambgaaaNetC
import Derived.Test.YtmfhbobjambgaaaReg
set_option linter.unusedSimpArgs false
set_option linter.unusedVariables false
namespace Go.Proofs.Ytmfhbobjambgaaa.NE
open Go.RowKit
open BU (IsU words)
open PL (Cfg CC CV May)
attribute [local go_sem] Oper.semAt_some
attribute [local go_sem ↓] eqN_eq neN_eq eqB_eq neB_eq TNot.ld_eq TNot.st_eq TNot.al_eq TNot.bx_eq
attribute [local go_sem] TNot.al_run TNot.bx_run

theorem may_ends {n : Nt} (h : MayN n = true) : (n.frm = -1 ∧ 0 ≤ n.too ∧ n.too < 16) ∨ (n.too = -1 ∧ 0 ≤ n.frm ∧ n.frm < 16) := by
  unfold MayN coreB at h
  simp only [Bool.and_eq_true, decide_eq_true_eq, beq_iff_eq] at h
  cases ht : toHome n.kind
  · rw [ht] at h; simp at h; omega
  · rw [ht] at h; simp at h; omega
set_option maxRecDepth 100000 in
set_option maxHeartbeats 2000000 in
theorem fits_any (w : World) (F : Nat → Prop) (tb : Nat) (c : Cfg) (room : Int) (ns : List Nt) (hops : Int) (n : Nt) (hn : n.Ok) (hc : May c) (h : (To tb c room ns hops).is w F) :
    Calls Try.prog 32 #[ptr tb, .agg n.cells] w fun e w' => e = .returned (.bool (fitsN c n)) ∧ Upd NoF w w' := by
  obtain ⟨l, F2, hN, hb, _, _, _, hp⟩ := open_to h
  have hu := Upd.alloc NoF w (.cells n.cells 37)
  have q := Blk.new w n.cells 37
  obtain ⟨V, hV⟩ : ∃ V, w.alloc (.cells n.cells 37) = V := ⟨_, rfl⟩
  have hbV := hb.upd hu (fun h => h)
  rw [hV] at hu q hbV
  have HU := Lib.hid hu; have HV := Lib.hid hV; have HB := Lib.hid hbV; have HQ := Lib.hid q
  have HM := Lib.hid (fun w => NC.May_any n hn w)
  have HD := Lib.hid (fun w => PL.pData_yes c hc w)
  have hk : ∀ W W', ((fun W => Upd NoF w W ∧ Blk W w.heap.size n.cells 37 ∧ (TNot.ld (.pointer (some ⟨w.heap.size, 0, none⟩))).run Try.prog W = .ok (.agg n.cells) W ∧ W.cell? ⟨w.heap.size, 1, none⟩ = some (.int .i64 n.frm) ∧ W.cell? ⟨w.heap.size, 2, none⟩ = some (.int .i64 n.too) ∧ W.cell? ⟨w.heap.size, 3, none⟩ = some (.int .i64 n.blk) ∧ W.cell? ⟨tb, 0, none⟩ = some (.int .i64 c.cores) ∧ W.cell? ⟨tb, 1, none⟩ = some (.int .i64 c.sets) ∧ W.cell? ⟨tb, 2, none⟩ = some (.int .i64 c.ways) ∧ W.cell? ⟨tb, 3, none⟩ = some (.int .i64 c.blocks) ∧ W.cell? ⟨tb, 4, none⟩ = some (.int .i64 c.logs) ∧ W.cell? ⟨tb, 5, none⟩ = some (.int .i64 c.backs) ∧ W.cell? ⟨tb, 6, none⟩ = some (.int .i64 c.nest) ∧ W.cell? ⟨tb, 7, none⟩ = some (.int .i64 c.tries))) W → Upd NoF W W' → ((fun W => Upd NoF w W ∧ Blk W w.heap.size n.cells 37 ∧ (TNot.ld (.pointer (some ⟨w.heap.size, 0, none⟩))).run Try.prog W = .ok (.agg n.cells) W ∧ W.cell? ⟨w.heap.size, 1, none⟩ = some (.int .i64 n.frm) ∧ W.cell? ⟨w.heap.size, 2, none⟩ = some (.int .i64 n.too) ∧ W.cell? ⟨w.heap.size, 3, none⟩ = some (.int .i64 n.blk) ∧ W.cell? ⟨tb, 0, none⟩ = some (.int .i64 c.cores) ∧ W.cell? ⟨tb, 1, none⟩ = some (.int .i64 c.sets) ∧ W.cell? ⟨tb, 2, none⟩ = some (.int .i64 c.ways) ∧ W.cell? ⟨tb, 3, none⟩ = some (.int .i64 c.blocks) ∧ W.cell? ⟨tb, 4, none⟩ = some (.int .i64 c.logs) ∧ W.cell? ⟨tb, 5, none⟩ = some (.int .i64 c.backs) ∧ W.cell? ⟨tb, 6, none⟩ = some (.int .i64 c.nest) ∧ W.cell? ⟨tb, 7, none⟩ = some (.int .i64 c.tries))) W' := fun W W' hS hu => by
    obtain ⟨k0, kB, k1, k2, k3, k4, k5, k6, k7, k8, k9, k10, k11, k12⟩ := hS
    have hu0 := k0.trans hu (fun _ _ h => h)
    refine ⟨hu0, kB.upd hu (fun h => h), TNot.ld_at (Nt.Ok.isN hn.isU) (kB.upd hu (fun h => h)).whole, hu.cell k2 (fun h => h), hu.cell k3 (fun h => h), hu.cell k4 (fun h => h), hu.cell k5 (fun h => h), hu.cell k6 (fun h => h), hu.cell k7 (fun h => h), hu.cell k8 (fun h => h), hu.cell k9 (fun h => h), hu.cell k10 (fun h => h), hu.cell k11 (fun h => h), hu.cell k12 (fun h => h)⟩
  have hst : ((fun W => Upd NoF w W ∧ Blk W w.heap.size n.cells 37 ∧ (TNot.ld (.pointer (some ⟨w.heap.size, 0, none⟩))).run Try.prog W = .ok (.agg n.cells) W ∧ W.cell? ⟨w.heap.size, 1, none⟩ = some (.int .i64 n.frm) ∧ W.cell? ⟨w.heap.size, 2, none⟩ = some (.int .i64 n.too) ∧ W.cell? ⟨w.heap.size, 3, none⟩ = some (.int .i64 n.blk) ∧ W.cell? ⟨tb, 0, none⟩ = some (.int .i64 c.cores) ∧ W.cell? ⟨tb, 1, none⟩ = some (.int .i64 c.sets) ∧ W.cell? ⟨tb, 2, none⟩ = some (.int .i64 c.ways) ∧ W.cell? ⟨tb, 3, none⟩ = some (.int .i64 c.blocks) ∧ W.cell? ⟨tb, 4, none⟩ = some (.int .i64 c.logs) ∧ W.cell? ⟨tb, 5, none⟩ = some (.int .i64 c.backs) ∧ W.cell? ⟨tb, 6, none⟩ = some (.int .i64 c.nest) ∧ W.cell? ⟨tb, 7, none⟩ = some (.int .i64 c.tries))) V.drew := by
    have hd := Upd.drew NoF V
    have hbd := HB.out.upd hd (fun h => h)
    have hqd := HQ.out.upd hd (fun h => h)
    exact ⟨HU.out.trans hd (fun _ _ h => h), hqd, TNot.ld_at (Nt.Ok.isN hn.isU) hqd.whole, (hqd.cell 1).trans n.get1, (hqd.cell 2).trans n.get2, (hqd.cell 3).trans n.get3, hbd.cell 0, hbd.cell 1, hbd.cell 2, hbd.cell 3, hbd.cell 4, hbd.cell 5, hbd.cell 6, hbd.cell 7⟩
  have HSK := Lib.hid hk; have HST := Lib.hid hst
  clear hk hst
  have en := fun (h : MayN n = true) => may_ends h
  generalize hdata : c.blocks - c.cores * c.logs = data at HD
  clear h hp hb hN hu q hV hbV hc
  cases hm : MayN n
  · rw [hm] at HM
    have hf : fitsN c n = false := by unfold fitsN; rw [hm]; rfl
    rw [hf]
    clear en hf hm
    go_enter Try.func32, Try.ntmps32
    go_wp2_with fail
    rw [HV.out]
    refine wp_region_held_drew (S := (fun W => Upd NoF w W ∧ Blk W w.heap.size n.cells 37 ∧ (TNot.ld (.pointer (some ⟨w.heap.size, 0, none⟩))).run Try.prog W = .ok (.agg n.cells) W ∧ W.cell? ⟨w.heap.size, 1, none⟩ = some (.int .i64 n.frm) ∧ W.cell? ⟨w.heap.size, 2, none⟩ = some (.int .i64 n.too) ∧ W.cell? ⟨w.heap.size, 3, none⟩ = some (.int .i64 n.blk) ∧ W.cell? ⟨tb, 0, none⟩ = some (.int .i64 c.cores) ∧ W.cell? ⟨tb, 1, none⟩ = some (.int .i64 c.sets) ∧ W.cell? ⟨tb, 2, none⟩ = some (.int .i64 c.ways) ∧ W.cell? ⟨tb, 3, none⟩ = some (.int .i64 c.blocks) ∧ W.cell? ⟨tb, 4, none⟩ = some (.int .i64 c.logs) ∧ W.cell? ⟨tb, 5, none⟩ = some (.int .i64 c.backs) ∧ W.cell? ⟨tb, 6, none⟩ = some (.int .i64 c.nest) ∧ W.cell? ⟨tb, 7, none⟩ = some (.int .i64 c.tries))) (by kernel_rfl) (HST.out) (fun hHeld => ?_)
    refine rgn 0 (v := ?v0) hHeld ?y0 ?_
    case y0 => (intro w hSw; obtain ⟨k0, kB, k1, k2, k3, k4, k5, k6, k7, k8, k9, k10, k11, k12⟩ := hSw; go_simp; try with_reducible rfl)
    simp only [Act.put, rn1, rn2, rn3, rn4, rn5, rn6]
    refine reg_step (i := 1) (by kernel_rfl) rfl (by kernel_rfl) (fun K hK => ?_)
    go_simp
    refine (HM.out _).mono ?_
    rintro e w2 ⟨rfl, hu⟩
    have HS := HSK.out _ _ hHeld hu
    clear hu
    go_wp2_with fail
    refine hK.out _ _ HS (fun hHeld2 => ?_)
    clear hK hHeld2 hHeld; have hHeld := HS; clear HS
    try simp only [Act.put, rn1, rn2, rn3, rn4, rn5, rn6]
    refine rgn 2 (v := ?v2) hHeld ?y2 ?_
    case y2 => (intro w hSw; obtain ⟨k0, kB, k1, k2, k3, k4, k5, k6, k7, k8, k9, k10, k11, k12⟩ := hSw; go_simp; try with_reducible rfl)
    simp only [Act.put, rn1, rn2, rn3, rn4, rn5, rn6]
    refine rgn 3 (v := ?v3) hHeld ?y3 ?_
    case y3 => (intro w hSw; obtain ⟨k0, kB, k1, k2, k3, k4, k5, k6, k7, k8, k9, k10, k11, k12⟩ := hSw; go_simp; try with_reducible rfl)
    simp only [Act.put, rn1, rn2, rn3, rn4, rn5, rn6]
    refine reg_off (i := 4) rfl (by kernel_rfl) (by kernel_rfl) (by kernel_rfl) (fun _ _ _ h => h) (by kernel_rfl) hHeld ?_
    simp only [Act.put, rn1, rn2, rn3, rn4, rn5, rn6]
    refine reg_off (i := 5) rfl (by kernel_rfl) (by kernel_rfl) (by kernel_rfl) (fun _ _ _ h => h) (by kernel_rfl) hHeld ?_
    simp only [Act.put, rn1, rn2, rn3, rn4, rn5, rn6]
    refine reg_off (i := 6) rfl (by kernel_rfl) (by kernel_rfl) (by kernel_rfl) (fun _ _ _ h => h) (by kernel_rfl) hHeld ?_
    simp only [Act.put, rn1, rn2, rn3, rn4, rn5, rn6]
    refine reg_off (i := 7) rfl (by kernel_rfl) (by kernel_rfl) (by kernel_rfl) (fun _ _ _ h => h) (by kernel_rfl) hHeld ?_
    simp only [Act.put, rn1, rn2, rn3, rn4, rn5, rn6]
    refine reg_off (i := 8) rfl (by kernel_rfl) (by kernel_rfl) (by kernel_rfl) (fun _ _ _ h => h) (by kernel_rfl) hHeld ?_
    simp only [Act.put, rn1, rn2, rn3, rn4, rn5, rn6]
    refine reg_off (i := 9) rfl (by kernel_rfl) (by kernel_rfl) (by kernel_rfl) (fun _ _ _ h => h) (by kernel_rfl) hHeld ?_
    simp only [Act.put, rn1, rn2, rn3, rn4, rn5, rn6]
    refine reg_off (i := 10) rfl (by kernel_rfl) (by kernel_rfl) (by kernel_rfl) (fun _ _ _ h => h) (by kernel_rfl) hHeld ?_
    simp only [Act.put, rn1, rn2, rn3, rn4, rn5, rn6]
    refine reg_off (i := 11) rfl (by kernel_rfl) (by kernel_rfl) (by kernel_rfl) (fun _ _ _ h => h) (by kernel_rfl) hHeld ?_
    simp only [Act.put, rn1, rn2, rn3, rn4, rn5, rn6]
    refine reg_off (i := 12) rfl (by kernel_rfl) (by kernel_rfl) (by kernel_rfl) (fun _ _ _ h => h) (by kernel_rfl) hHeld ?_
    simp only [Act.put, rn1, rn2, rn3, rn4, rn5, rn6]
    refine reg_off (i := 13) rfl (by kernel_rfl) (by kernel_rfl) (by kernel_rfl) (fun _ _ _ h => h) (by kernel_rfl) hHeld ?_
    simp only [Act.put, rn1, rn2, rn3, rn4, rn5, rn6]
    refine reg_off (i := 14) rfl (by kernel_rfl) (by kernel_rfl) (by kernel_rfl) (fun _ _ _ h => h) (by kernel_rfl) hHeld ?_
    simp only [Act.put, rn1, rn2, rn3, rn4, rn5, rn6]
    refine rgn 15 (v := ?v15) hHeld ?y15 ?_
    case y15 => (intro w hSw; obtain ⟨k0, kB, k1, k2, k3, k4, k5, k6, k7, k8, k9, k10, k11, k12⟩ := hSw; go_simp; try with_reducible rfl)
    simp only [Act.put, rn1, rn2, rn3, rn4, rn5, rn6]
    refine rgn 16 (v := ?v16) hHeld ?y16 ?_
    case y16 => (intro w hSw; obtain ⟨k0, kB, k1, k2, k3, k4, k5, k6, k7, k8, k9, k10, k11, k12⟩ := hSw; go_simp; try with_reducible rfl)
    simp only [Act.put, rn1, rn2, rn3, rn4, rn5, rn6]
    refine reg_off (i := 17) rfl (by kernel_rfl) (by kernel_rfl) (by kernel_rfl) (fun _ _ _ h => h) (by kernel_rfl) hHeld ?_
    simp only [Act.put, rn1, rn2, rn3, rn4, rn5, rn6]
    refine reg_off (i := 18) rfl (by kernel_rfl) (by kernel_rfl) (by kernel_rfl) (fun _ _ _ h => h) (by kernel_rfl) hHeld ?_
    simp only [Act.put, rn1, rn2, rn3, rn4, rn5, rn6]
    refine reg_off (i := 19) rfl (by kernel_rfl) (by kernel_rfl) (by kernel_rfl) (fun _ _ _ h => h) (by kernel_rfl) hHeld ?_
    simp only [Act.put, rn1, rn2, rn3, rn4, rn5, rn6]
    refine reg_off (i := 20) rfl (by kernel_rfl) (by kernel_rfl) (by kernel_rfl) (fun _ _ _ h => h) (by kernel_rfl) hHeld ?_
    simp only [Act.put, rn1, rn2, rn3, rn4, rn5, rn6]
    refine reg_off (i := 21) rfl (by kernel_rfl) (by kernel_rfl) (by kernel_rfl) (fun _ _ _ h => h) (by kernel_rfl) hHeld ?_
    simp only [Act.put, rn1, rn2, rn3, rn4, rn5, rn6]
    refine reg_off (i := 22) rfl (by kernel_rfl) (by kernel_rfl) (by kernel_rfl) (fun _ _ _ h => h) (by kernel_rfl) hHeld ?_
    simp only [Act.put, rn1, rn2, rn3, rn4, rn5, rn6]
    refine reg_off (i := 23) rfl (by kernel_rfl) (by kernel_rfl) (by kernel_rfl) (fun _ _ _ h => h) (by kernel_rfl) hHeld ?_
    simp only [Act.put, rn1, rn2, rn3, rn4, rn5, rn6]
    refine reg_off (i := 24) rfl (by kernel_rfl) (by kernel_rfl) (by kernel_rfl) (fun _ _ _ h => h) (by kernel_rfl) hHeld ?_
    simp only [Act.put, rn1, rn2, rn3, rn4, rn5, rn6]
    refine rgn 25 (v := ?v25) hHeld ?y25 ?_
    case y25 => (intro w hSw; obtain ⟨k0, kB, k1, k2, k3, k4, k5, k6, k7, k8, k9, k10, k11, k12⟩ := hSw; go_simp; try with_reducible rfl)
    simp only [Act.put, rn1, rn2, rn3, rn4, rn5, rn6]
    refine rgn 26 (v := ?v26) hHeld ?y26 ?_
    case y26 => (intro w hSw; obtain ⟨k0, kB, k1, k2, k3, k4, k5, k6, k7, k8, k9, k10, k11, k12⟩ := hSw; go_simp; try with_reducible rfl)
    simp only [Act.put, rn1, rn2, rn3, rn4, rn5, rn6]
    refine wpAnyH_done (by kernel_rfl) ?_ _
    go_wp2
    go_ret
    exact ⟨rfl, hHeld.1⟩
  · rw [hm] at HM
    have hen := en hm
    have hmx : (if n.frm < n.too then n.too else n.frm) = max n.frm n.too := by split <;> omega
    obtain ⟨mx, hmx0⟩ : ∃ mx, (if n.frm < n.too then n.too else n.frm) = mx := ⟨_, rfl⟩
    have hmx2 : max n.frm n.too = mx := hmx.symm.trans hmx0
    have HMX := Lib.hid hmx0
    cases hmc : decide (max n.frm n.too < c.cores)
    · have hf : fitsN c n = false := by unfold fitsN; rw [hm, hmc]; rfl
      have hmc1 : decide (mx < c.cores) = false := by rw [hmx2] at hmc; exact hmc
      rw [hf]
      clear hf hm en hen hmc hmx hmx0 hmx2
      go_enter Try.func32, Try.ntmps32
      go_wp2_with fail
      rw [HV.out]
      refine wp_region_held_drew (S := (fun W => Upd NoF w W ∧ Blk W w.heap.size n.cells 37 ∧ (TNot.ld (.pointer (some ⟨w.heap.size, 0, none⟩))).run Try.prog W = .ok (.agg n.cells) W ∧ W.cell? ⟨w.heap.size, 1, none⟩ = some (.int .i64 n.frm) ∧ W.cell? ⟨w.heap.size, 2, none⟩ = some (.int .i64 n.too) ∧ W.cell? ⟨w.heap.size, 3, none⟩ = some (.int .i64 n.blk) ∧ W.cell? ⟨tb, 0, none⟩ = some (.int .i64 c.cores) ∧ W.cell? ⟨tb, 1, none⟩ = some (.int .i64 c.sets) ∧ W.cell? ⟨tb, 2, none⟩ = some (.int .i64 c.ways) ∧ W.cell? ⟨tb, 3, none⟩ = some (.int .i64 c.blocks) ∧ W.cell? ⟨tb, 4, none⟩ = some (.int .i64 c.logs) ∧ W.cell? ⟨tb, 5, none⟩ = some (.int .i64 c.backs) ∧ W.cell? ⟨tb, 6, none⟩ = some (.int .i64 c.nest) ∧ W.cell? ⟨tb, 7, none⟩ = some (.int .i64 c.tries))) (by kernel_rfl) (HST.out) (fun hHeld => ?_)
      refine rgn 0 (v := ?v0) hHeld ?y0 ?_
      case y0 => (intro w hSw; obtain ⟨k0, kB, k1, k2, k3, k4, k5, k6, k7, k8, k9, k10, k11, k12⟩ := hSw; go_simp; try with_reducible rfl)
      simp only [Act.put, rn1, rn2, rn3, rn4, rn5, rn6]
      refine reg_step (i := 1) (by kernel_rfl) rfl (by kernel_rfl) (fun K hK => ?_)
      go_simp
      refine (HM.out _).mono ?_
      rintro e w2 ⟨rfl, hu⟩
      have HS := HSK.out _ _ hHeld hu
      clear hu
      go_wp2_with fail
      refine hK.out _ _ HS (fun hHeld2 => ?_)
      clear hK hHeld2 hHeld; have hHeld := HS; clear HS
      try simp only [Act.put, rn1, rn2, rn3, rn4, rn5, rn6]
      refine rgn 2 (v := .bool true) hHeld ?y2 ?_
      case y2 => (intro w hSw; obtain ⟨k0, kB, k1, k2, k3, k4, k5, k6, k7, k8, k9, k10, k11, k12⟩ := hSw; go_simp; try with_reducible rfl)
      simp only [Act.put, rn1, rn2, rn3, rn4, rn5, rn6]
      refine rgn 3 (v := .bool true) hHeld ?y3 ?_
      case y3 => (intro w hSw; obtain ⟨k0, kB, k1, k2, k3, k4, k5, k6, k7, k8, k9, k10, k11, k12⟩ := hSw; go_simp; try with_reducible rfl)
      simp only [Act.put, rn1, rn2, rn3, rn4, rn5, rn6]
      refine rgn 4 (v := ?v4) hHeld ?y4 ?_
      case y4 => (intro w hSw; obtain ⟨k0, kB, k1, k2, k3, k4, k5, k6, k7, k8, k9, k10, k11, k12⟩ := hSw; go_simp; try with_reducible rfl)
      simp only [Act.put, rn1, rn2, rn3, rn4, rn5, rn6]
      refine rgn 5 (v := ?v5) hHeld ?y5 ?_
      case y5 => (intro w hSw; obtain ⟨k0, kB, k1, k2, k3, k4, k5, k6, k7, k8, k9, k10, k11, k12⟩ := hSw; go_simp; try with_reducible rfl)
      simp only [Act.put, rn1, rn2, rn3, rn4, rn5, rn6]
      refine rgn 6 (v := ?v6) hHeld ?y6 ?_
      case y6 => (intro w hSw; obtain ⟨k0, kB, k1, k2, k3, k4, k5, k6, k7, k8, k9, k10, k11, k12⟩ := hSw; go_simp; try with_reducible rfl)
      simp only [Act.put, rn1, rn2, rn3, rn4, rn5, rn6]
      refine rgn 7 (v := ?v7) hHeld ?y7 ?_
      case y7 => (intro w hSw; obtain ⟨k0, kB, k1, k2, k3, k4, k5, k6, k7, k8, k9, k10, k11, k12⟩ := hSw; go_simp; try with_reducible rfl)
      simp only [Act.put, rn1, rn2, rn3, rn4, rn5, rn6]
      refine rgn 8 (v := .int .i64 mx) hHeld ?y8 ?_
      case y8 => (intro w hSw; obtain ⟨k0, kB, k1, k2, k3, k4, k5, k6, k7, k8, k9, k10, k11, k12⟩ := hSw; have hmx0 := HMX.out; go_simp; try with_reducible rfl)
      simp only [Act.put, rn1, rn2, rn3, rn4, rn5, rn6]
      refine rgn 9 (v := ?v9) hHeld ?y9 ?_
      case y9 => (intro w hSw; obtain ⟨k0, kB, k1, k2, k3, k4, k5, k6, k7, k8, k9, k10, k11, k12⟩ := hSw; go_simp; try with_reducible rfl)
      simp only [Act.put, rn1, rn2, rn3, rn4, rn5, rn6]
      refine rgn 10 (v := ?v10) hHeld ?y10 ?_
      case y10 => (intro w hSw; obtain ⟨k0, kB, k1, k2, k3, k4, k5, k6, k7, k8, k9, k10, k11, k12⟩ := hSw; go_simp; try with_reducible rfl)
      simp only [Act.put, rn1, rn2, rn3, rn4, rn5, rn6]
      refine rgn 11 (v := ?v11) hHeld ?y11 ?_
      case y11 => (intro w hSw; obtain ⟨k0, kB, k1, k2, k3, k4, k5, k6, k7, k8, k9, k10, k11, k12⟩ := hSw; go_simp; try with_reducible rfl)
      simp only [Act.put, rn1, rn2, rn3, rn4, rn5, rn6]
      refine rgn 12 (v := ?v12) hHeld ?y12 ?_
      case y12 => (intro w hSw; obtain ⟨k0, kB, k1, k2, k3, k4, k5, k6, k7, k8, k9, k10, k11, k12⟩ := hSw; go_simp; try with_reducible rfl)
      simp only [Act.put, rn1, rn2, rn3, rn4, rn5, rn6]
      refine rgn 13 (v := ?v13) hHeld ?y13 ?_
      case y13 => (intro w hSw; obtain ⟨k0, kB, k1, k2, k3, k4, k5, k6, k7, k8, k9, k10, k11, k12⟩ := hSw; go_simp; try with_reducible rfl)
      simp only [Act.put, rn1, rn2, rn3, rn4, rn5, rn6]
      refine rgn 14 (v := .bool false) hHeld ?y14 ?_
      case y14 => (intro w hSw; obtain ⟨k0, kB, k1, k2, k3, k4, k5, k6, k7, k8, k9, k10, k11, k12⟩ := hSw; go_simp; try with_reducible rfl)
      simp only [Act.put, rn1, rn2, rn3, rn4, rn5, rn6]
      refine rgn 15 (v := .bool false) hHeld ?y15 ?_
      case y15 => (intro w hSw; obtain ⟨k0, kB, k1, k2, k3, k4, k5, k6, k7, k8, k9, k10, k11, k12⟩ := hSw; go_simp; try with_reducible rfl)
      simp only [Act.put, rn1, rn2, rn3, rn4, rn5, rn6]
      refine rgn 16 (v := .bool false) hHeld ?y16 ?_
      case y16 => (intro w hSw; obtain ⟨k0, kB, k1, k2, k3, k4, k5, k6, k7, k8, k9, k10, k11, k12⟩ := hSw; go_simp; try with_reducible rfl)
      simp only [Act.put, rn1, rn2, rn3, rn4, rn5, rn6]
      refine reg_off (i := 17) rfl (by kernel_rfl) (by kernel_rfl) (by kernel_rfl) (fun _ _ _ h => h) (by kernel_rfl) hHeld ?_
      simp only [Act.put, rn1, rn2, rn3, rn4, rn5, rn6]
      refine reg_off (i := 18) rfl (by kernel_rfl) (by kernel_rfl) (by kernel_rfl) (fun _ _ _ h => h) (by kernel_rfl) hHeld ?_
      simp only [Act.put, rn1, rn2, rn3, rn4, rn5, rn6]
      refine reg_off (i := 19) rfl (by kernel_rfl) (by kernel_rfl) (by kernel_rfl) (fun _ _ _ h => h) (by kernel_rfl) hHeld ?_
      simp only [Act.put, rn1, rn2, rn3, rn4, rn5, rn6]
      refine reg_off (i := 20) rfl (by kernel_rfl) (by kernel_rfl) (by kernel_rfl) (fun _ _ _ h => h) (by kernel_rfl) hHeld ?_
      simp only [Act.put, rn1, rn2, rn3, rn4, rn5, rn6]
      refine reg_off (i := 21) rfl (by kernel_rfl) (by kernel_rfl) (by kernel_rfl) (fun _ _ _ h => h) (by kernel_rfl) hHeld ?_
      simp only [Act.put, rn1, rn2, rn3, rn4, rn5, rn6]
      refine reg_off (i := 22) rfl (by kernel_rfl) (by kernel_rfl) (by kernel_rfl) (fun _ _ _ h => h) (by kernel_rfl) hHeld ?_
      simp only [Act.put, rn1, rn2, rn3, rn4, rn5, rn6]
      refine reg_off (i := 23) rfl (by kernel_rfl) (by kernel_rfl) (by kernel_rfl) (fun _ _ _ h => h) (by kernel_rfl) hHeld ?_
      simp only [Act.put, rn1, rn2, rn3, rn4, rn5, rn6]
      refine reg_off (i := 24) rfl (by kernel_rfl) (by kernel_rfl) (by kernel_rfl) (fun _ _ _ h => h) (by kernel_rfl) hHeld ?_
      simp only [Act.put, rn1, rn2, rn3, rn4, rn5, rn6]
      refine rgn 25 (v := .bool false) hHeld ?y25 ?_
      case y25 => (intro w hSw; obtain ⟨k0, kB, k1, k2, k3, k4, k5, k6, k7, k8, k9, k10, k11, k12⟩ := hSw; go_simp; try with_reducible rfl)
      simp only [Act.put, rn1, rn2, rn3, rn4, rn5, rn6]
      refine rgn 26 (v := .bool false) hHeld ?y26 ?_
      case y26 => (intro w hSw; obtain ⟨k0, kB, k1, k2, k3, k4, k5, k6, k7, k8, k9, k10, k11, k12⟩ := hSw; go_simp; try with_reducible rfl)
      simp only [Act.put, rn1, rn2, rn3, rn4, rn5, rn6]
      refine wpAnyH_done (by kernel_rfl) ?_ _
      go_wp2
      go_ret
      exact ⟨rfl, hHeld.1⟩
    · have hf : fitsN c n = decide (n.blk < data) := by unfold fitsN; rw [hm, hmc, hdata]; rfl
      have hmc1 : decide (mx < c.cores) = true := by rw [hmx2] at hmc; exact hmc
      rw [hf]
      clear hf hm en hen hmc hmx hmx0 hmx2
      go_enter Try.func32, Try.ntmps32
      go_wp2_with fail
      rw [HV.out]
      refine wp_region_held_drew (S := (fun W => Upd NoF w W ∧ Blk W w.heap.size n.cells 37 ∧ (TNot.ld (.pointer (some ⟨w.heap.size, 0, none⟩))).run Try.prog W = .ok (.agg n.cells) W ∧ W.cell? ⟨w.heap.size, 1, none⟩ = some (.int .i64 n.frm) ∧ W.cell? ⟨w.heap.size, 2, none⟩ = some (.int .i64 n.too) ∧ W.cell? ⟨w.heap.size, 3, none⟩ = some (.int .i64 n.blk) ∧ W.cell? ⟨tb, 0, none⟩ = some (.int .i64 c.cores) ∧ W.cell? ⟨tb, 1, none⟩ = some (.int .i64 c.sets) ∧ W.cell? ⟨tb, 2, none⟩ = some (.int .i64 c.ways) ∧ W.cell? ⟨tb, 3, none⟩ = some (.int .i64 c.blocks) ∧ W.cell? ⟨tb, 4, none⟩ = some (.int .i64 c.logs) ∧ W.cell? ⟨tb, 5, none⟩ = some (.int .i64 c.backs) ∧ W.cell? ⟨tb, 6, none⟩ = some (.int .i64 c.nest) ∧ W.cell? ⟨tb, 7, none⟩ = some (.int .i64 c.tries))) (by kernel_rfl) (HST.out) (fun hHeld => ?_)
      refine rgn 0 (v := ?v0) hHeld ?y0 ?_
      case y0 => (intro w hSw; obtain ⟨k0, kB, k1, k2, k3, k4, k5, k6, k7, k8, k9, k10, k11, k12⟩ := hSw; go_simp; try with_reducible rfl)
      simp only [Act.put, rn1, rn2, rn3, rn4, rn5, rn6]
      refine reg_step (i := 1) (by kernel_rfl) rfl (by kernel_rfl) (fun K hK => ?_)
      go_simp
      refine (HM.out _).mono ?_
      rintro e w2 ⟨rfl, hu⟩
      have HS := HSK.out _ _ hHeld hu
      clear hu
      go_wp2_with fail
      refine hK.out _ _ HS (fun hHeld2 => ?_)
      clear hK hHeld2 hHeld; have hHeld := HS; clear HS
      try simp only [Act.put, rn1, rn2, rn3, rn4, rn5, rn6]
      refine rgn 2 (v := .bool true) hHeld ?y2 ?_
      case y2 => (intro w hSw; obtain ⟨k0, kB, k1, k2, k3, k4, k5, k6, k7, k8, k9, k10, k11, k12⟩ := hSw; go_simp; try with_reducible rfl)
      simp only [Act.put, rn1, rn2, rn3, rn4, rn5, rn6]
      refine rgn 3 (v := .bool true) hHeld ?y3 ?_
      case y3 => (intro w hSw; obtain ⟨k0, kB, k1, k2, k3, k4, k5, k6, k7, k8, k9, k10, k11, k12⟩ := hSw; go_simp; try with_reducible rfl)
      simp only [Act.put, rn1, rn2, rn3, rn4, rn5, rn6]
      refine rgn 4 (v := ?v4) hHeld ?y4 ?_
      case y4 => (intro w hSw; obtain ⟨k0, kB, k1, k2, k3, k4, k5, k6, k7, k8, k9, k10, k11, k12⟩ := hSw; go_simp; try with_reducible rfl)
      simp only [Act.put, rn1, rn2, rn3, rn4, rn5, rn6]
      refine rgn 5 (v := ?v5) hHeld ?y5 ?_
      case y5 => (intro w hSw; obtain ⟨k0, kB, k1, k2, k3, k4, k5, k6, k7, k8, k9, k10, k11, k12⟩ := hSw; go_simp; try with_reducible rfl)
      simp only [Act.put, rn1, rn2, rn3, rn4, rn5, rn6]
      refine rgn 6 (v := ?v6) hHeld ?y6 ?_
      case y6 => (intro w hSw; obtain ⟨k0, kB, k1, k2, k3, k4, k5, k6, k7, k8, k9, k10, k11, k12⟩ := hSw; go_simp; try with_reducible rfl)
      simp only [Act.put, rn1, rn2, rn3, rn4, rn5, rn6]
      refine rgn 7 (v := ?v7) hHeld ?y7 ?_
      case y7 => (intro w hSw; obtain ⟨k0, kB, k1, k2, k3, k4, k5, k6, k7, k8, k9, k10, k11, k12⟩ := hSw; go_simp; try with_reducible rfl)
      simp only [Act.put, rn1, rn2, rn3, rn4, rn5, rn6]
      refine rgn 8 (v := .int .i64 mx) hHeld ?y8 ?_
      case y8 => (intro w hSw; obtain ⟨k0, kB, k1, k2, k3, k4, k5, k6, k7, k8, k9, k10, k11, k12⟩ := hSw; have hmx0 := HMX.out; go_simp; try with_reducible rfl)
      simp only [Act.put, rn1, rn2, rn3, rn4, rn5, rn6]
      refine rgn 9 (v := ?v9) hHeld ?y9 ?_
      case y9 => (intro w hSw; obtain ⟨k0, kB, k1, k2, k3, k4, k5, k6, k7, k8, k9, k10, k11, k12⟩ := hSw; go_simp; try with_reducible rfl)
      simp only [Act.put, rn1, rn2, rn3, rn4, rn5, rn6]
      refine rgn 10 (v := ?v10) hHeld ?y10 ?_
      case y10 => (intro w hSw; obtain ⟨k0, kB, k1, k2, k3, k4, k5, k6, k7, k8, k9, k10, k11, k12⟩ := hSw; go_simp; try with_reducible rfl)
      simp only [Act.put, rn1, rn2, rn3, rn4, rn5, rn6]
      refine rgn 11 (v := ?v11) hHeld ?y11 ?_
      case y11 => (intro w hSw; obtain ⟨k0, kB, k1, k2, k3, k4, k5, k6, k7, k8, k9, k10, k11, k12⟩ := hSw; go_simp; try with_reducible rfl)
      simp only [Act.put, rn1, rn2, rn3, rn4, rn5, rn6]
      refine rgn 12 (v := ?v12) hHeld ?y12 ?_
      case y12 => (intro w hSw; obtain ⟨k0, kB, k1, k2, k3, k4, k5, k6, k7, k8, k9, k10, k11, k12⟩ := hSw; go_simp; try with_reducible rfl)
      simp only [Act.put, rn1, rn2, rn3, rn4, rn5, rn6]
      refine rgn 13 (v := ?v13) hHeld ?y13 ?_
      case y13 => (intro w hSw; obtain ⟨k0, kB, k1, k2, k3, k4, k5, k6, k7, k8, k9, k10, k11, k12⟩ := hSw; go_simp; try with_reducible rfl)
      simp only [Act.put, rn1, rn2, rn3, rn4, rn5, rn6]
      refine rgn 14 (v := .bool true) hHeld ?y14 ?_
      case y14 => (intro w hSw; obtain ⟨k0, kB, k1, k2, k3, k4, k5, k6, k7, k8, k9, k10, k11, k12⟩ := hSw; go_simp; try with_reducible rfl)
      simp only [Act.put, rn1, rn2, rn3, rn4, rn5, rn6]
      refine rgn 15 (v := .bool true) hHeld ?y15 ?_
      case y15 => (intro w hSw; obtain ⟨k0, kB, k1, k2, k3, k4, k5, k6, k7, k8, k9, k10, k11, k12⟩ := hSw; go_simp; try with_reducible rfl)
      simp only [Act.put, rn1, rn2, rn3, rn4, rn5, rn6]
      refine rgn 16 (v := .bool true) hHeld ?y16 ?_
      case y16 => (intro w hSw; obtain ⟨k0, kB, k1, k2, k3, k4, k5, k6, k7, k8, k9, k10, k11, k12⟩ := hSw; go_simp; try with_reducible rfl)
      simp only [Act.put, rn1, rn2, rn3, rn4, rn5, rn6]
      refine rgn 17 (v := ?v17) hHeld ?y17 ?_
      case y17 => (intro w hSw; obtain ⟨k0, kB, k1, k2, k3, k4, k5, k6, k7, k8, k9, k10, k11, k12⟩ := hSw; go_simp; try with_reducible rfl)
      simp only [Act.put, rn1, rn2, rn3, rn4, rn5, rn6]
      refine rgn 18 (v := ?v18) hHeld ?y18 ?_
      case y18 => (intro w hSw; obtain ⟨k0, kB, k1, k2, k3, k4, k5, k6, k7, k8, k9, k10, k11, k12⟩ := hSw; go_simp; try with_reducible rfl)
      simp only [Act.put, rn1, rn2, rn3, rn4, rn5, rn6]
      refine rgn 19 (v := ?v19) hHeld ?y19 ?_
      case y19 => (intro w hSw; obtain ⟨k0, kB, k1, k2, k3, k4, k5, k6, k7, k8, k9, k10, k11, k12⟩ := hSw; go_simp; try with_reducible rfl)
      simp only [Act.put, rn1, rn2, rn3, rn4, rn5, rn6]
      refine rgn 20 (v := ?v20) hHeld ?y20 ?_
      case y20 => (intro w hSw; obtain ⟨k0, kB, k1, k2, k3, k4, k5, k6, k7, k8, k9, k10, k11, k12⟩ := hSw; go_simp; try with_reducible rfl)
      simp only [Act.put, rn1, rn2, rn3, rn4, rn5, rn6]
      refine rgn 21 (v := ?v21) hHeld ?y21 ?_
      case y21 => (intro w hSw; obtain ⟨k0, kB, k1, k2, k3, k4, k5, k6, k7, k8, k9, k10, k11, k12⟩ := hSw; go_simp; try with_reducible rfl)
      simp only [Act.put, rn1, rn2, rn3, rn4, rn5, rn6]
      refine rgn 22 (v := ?v22) hHeld ?y22 ?_
      case y22 => (intro w hSw; obtain ⟨k0, kB, k1, k2, k3, k4, k5, k6, k7, k8, k9, k10, k11, k12⟩ := hSw; go_simp; try with_reducible rfl)
      simp only [Act.put, rn1, rn2, rn3, rn4, rn5, rn6]
      refine reg_step (i := 23) (by kernel_rfl) rfl (by kernel_rfl) (fun K hK => ?_)
      go_simp
      refine (HD.out _).mono ?_
      rintro e w2 ⟨rfl, hu⟩
      have HS := HSK.out _ _ hHeld hu
      clear hu
      go_wp2_with fail
      refine hK.out _ _ HS (fun hHeld2 => ?_)
      clear hK hHeld2 hHeld; have hHeld := HS; clear HS
      try simp only [Act.put, rn1, rn2, rn3, rn4, rn5, rn6]
      refine rgn 24 (v := .bool (decide (n.blk < data))) hHeld ?y24 ?_
      case y24 => (intro w hSw; obtain ⟨k0, kB, k1, k2, k3, k4, k5, k6, k7, k8, k9, k10, k11, k12⟩ := hSw; go_simp; try with_reducible rfl)
      simp only [Act.put, rn1, rn2, rn3, rn4, rn5, rn6]
      refine rgn 25 (v := .bool (decide (n.blk < data))) hHeld ?y25 ?_
      case y25 => (intro w hSw; obtain ⟨k0, kB, k1, k2, k3, k4, k5, k6, k7, k8, k9, k10, k11, k12⟩ := hSw; go_simp; try with_reducible rfl)
      simp only [Act.put, rn1, rn2, rn3, rn4, rn5, rn6]
      refine rgn 26 (v := .bool (decide (n.blk < data))) hHeld ?y26 ?_
      case y26 => (intro w hSw; obtain ⟨k0, kB, k1, k2, k3, k4, k5, k6, k7, k8, k9, k10, k11, k12⟩ := hSw; go_simp; try with_reducible rfl)
      simp only [Act.put, rn1, rn2, rn3, rn4, rn5, rn6]
      refine wpAnyH_done (by kernel_rfl) ?_ _
      go_wp2
      go_ret
      exact ⟨rfl, hHeld.1⟩
end Go.Proofs.Ytmfhbobjambgaaa.NE
