/- The reference undertowref09: Fits (for seats without package net). -/
import Derived.Test.YtjgeflbhmhmjdaaGreatNoteM
import Derived.Test.YtjgeflbhmhmjdaaGreatPlan
import Derived.Test.YtjgeflbhmhmjdaaGreatNoteD
import Derived.Deep.QuietTactic
import Derived.BigQuiet
import Derived.Deep.CutBlock
set_option linter.unusedSimpArgs false
set_option linter.unusedVariables false
namespace Go.Proofs.YtjgeflbhmhmjdaaGreat.NE
open Go.RowKit
open BU (IsU words)
open PL (Cfg CC CV May)
attribute [local go_sem] Oper.semAt_some
attribute [local go_sem ↓] eqN_eq neN_eq eqB_eq neB_eq TNot.ld_eq TNot.st_eq TNot.al_eq TNot.bx_eq
attribute [local go_sem] TNot.al_run TNot.bx_run
def fitsN (c : Cfg) (n : Nt) : Bool := MayN n && (decide (max n.frm n.too < c.cores) && decide (n.blk < c.blocks - c.cores * c.logs))
set_option maxRecDepth 100000 in
set_option maxHeartbeats 2000000 in
theorem rfits_any (c : Cfg) (n : Nt) (hn : n.Ok) (hc : May c) (w : World) :
    Calls Tryz.prog 117 #[CV c, .agg n.cells] w fun e w' => e = .returned (.bool (fitsN c n)) ∧ Upd NoF w w' := by
  have hu := (Upd.alloc NoF w (.cells (CC c) 27)).trans (Upd.alloc NoF _ (.cells n.cells 37)) (fun _ _ h => h)
  have qc := (Blk.new w (CC c) 27).alloc (.cells n.cells 37)
  have q := Blk.new (w.alloc (.cells (CC c) 27)) n.cells 37
  rw [World.size_alloc] at q
  obtain ⟨V, hV⟩ : ∃ V, (w.alloc (.cells (CC c) 27)).alloc (.cells n.cells 37) = V := ⟨_, rfl⟩
  rw [hV] at hu q qc
  have HU := Lib.hid hu; have HV := Lib.hid hV; have HB := Lib.hid qc; have HQ := Lib.hid q
  have HM := Lib.hid (fun w => NC.rMay_any n hn w)
  have HD := Lib.hid (fun w => PL.rdata_any c hc.1 hc.2.2.1 hc.2.1 w)
  have hk : ∀ W W', ((fun W => Upd NoF w W ∧ Blk W (w.heap.size + 1) n.cells 37 ∧ (TNot.ld (.pointer (some ⟨w.heap.size + 1, 0, none⟩))).run Tryz.prog W = .ok (.agg n.cells) W ∧ W.cell? ⟨w.heap.size + 1, 1, none⟩ = some (.int .i64 n.frm) ∧ W.cell? ⟨w.heap.size + 1, 2, none⟩ = some (.int .i64 n.too) ∧ W.cell? ⟨w.heap.size + 1, 3, none⟩ = some (.int .i64 n.blk) ∧ W.cell? ⟨w.heap.size, 0, none⟩ = some (.int .i64 c.cores) ∧ W.cell? ⟨w.heap.size, 1, none⟩ = some (.int .i64 c.sets) ∧ W.cell? ⟨w.heap.size, 2, none⟩ = some (.int .i64 c.ways) ∧ W.cell? ⟨w.heap.size, 3, none⟩ = some (.int .i64 c.blocks) ∧ W.cell? ⟨w.heap.size, 4, none⟩ = some (.int .i64 c.logs) ∧ W.cell? ⟨w.heap.size, 5, none⟩ = some (.int .i64 c.backs) ∧ W.cell? ⟨w.heap.size, 6, none⟩ = some (.int .i64 c.nest) ∧ W.cell? ⟨w.heap.size, 7, none⟩ = some (.int .i64 c.tries))) W → Upd NoF W W' → ((fun W => Upd NoF w W ∧ Blk W (w.heap.size + 1) n.cells 37 ∧ (TNot.ld (.pointer (some ⟨w.heap.size + 1, 0, none⟩))).run Tryz.prog W = .ok (.agg n.cells) W ∧ W.cell? ⟨w.heap.size + 1, 1, none⟩ = some (.int .i64 n.frm) ∧ W.cell? ⟨w.heap.size + 1, 2, none⟩ = some (.int .i64 n.too) ∧ W.cell? ⟨w.heap.size + 1, 3, none⟩ = some (.int .i64 n.blk) ∧ W.cell? ⟨w.heap.size, 0, none⟩ = some (.int .i64 c.cores) ∧ W.cell? ⟨w.heap.size, 1, none⟩ = some (.int .i64 c.sets) ∧ W.cell? ⟨w.heap.size, 2, none⟩ = some (.int .i64 c.ways) ∧ W.cell? ⟨w.heap.size, 3, none⟩ = some (.int .i64 c.blocks) ∧ W.cell? ⟨w.heap.size, 4, none⟩ = some (.int .i64 c.logs) ∧ W.cell? ⟨w.heap.size, 5, none⟩ = some (.int .i64 c.backs) ∧ W.cell? ⟨w.heap.size, 6, none⟩ = some (.int .i64 c.nest) ∧ W.cell? ⟨w.heap.size, 7, none⟩ = some (.int .i64 c.tries))) W' := fun W W' hS hu => by
    obtain ⟨k0, kB, k1, k2, k3, k4, k5, k6, k7, k8, k9, k10, k11, k12⟩ := hS
    have hu0 := k0.trans hu (fun _ _ h => h)
    refine ⟨hu0, kB.upd hu (fun h => h), TNot.ld_at (Nt.Ok.isN hn.isU) (kB.upd hu (fun h => h)).whole, hu.cell k2 (fun h => h), hu.cell k3 (fun h => h), hu.cell k4 (fun h => h), hu.cell k5 (fun h => h), hu.cell k6 (fun h => h), hu.cell k7 (fun h => h), hu.cell k8 (fun h => h), hu.cell k9 (fun h => h), hu.cell k10 (fun h => h), hu.cell k11 (fun h => h), hu.cell k12 (fun h => h)⟩
  have hst : ((fun W => Upd NoF w W ∧ Blk W (w.heap.size + 1) n.cells 37 ∧ (TNot.ld (.pointer (some ⟨w.heap.size + 1, 0, none⟩))).run Tryz.prog W = .ok (.agg n.cells) W ∧ W.cell? ⟨w.heap.size + 1, 1, none⟩ = some (.int .i64 n.frm) ∧ W.cell? ⟨w.heap.size + 1, 2, none⟩ = some (.int .i64 n.too) ∧ W.cell? ⟨w.heap.size + 1, 3, none⟩ = some (.int .i64 n.blk) ∧ W.cell? ⟨w.heap.size, 0, none⟩ = some (.int .i64 c.cores) ∧ W.cell? ⟨w.heap.size, 1, none⟩ = some (.int .i64 c.sets) ∧ W.cell? ⟨w.heap.size, 2, none⟩ = some (.int .i64 c.ways) ∧ W.cell? ⟨w.heap.size, 3, none⟩ = some (.int .i64 c.blocks) ∧ W.cell? ⟨w.heap.size, 4, none⟩ = some (.int .i64 c.logs) ∧ W.cell? ⟨w.heap.size, 5, none⟩ = some (.int .i64 c.backs) ∧ W.cell? ⟨w.heap.size, 6, none⟩ = some (.int .i64 c.nest) ∧ W.cell? ⟨w.heap.size, 7, none⟩ = some (.int .i64 c.tries))) V.drew := by
    have hd := Upd.drew NoF V
    have hbd := HB.out.upd hd (fun h => h)
    have hqd := HQ.out.upd hd (fun h => h)
    exact ⟨HU.out.trans hd (fun _ _ h => h), hqd, TNot.ld_at (Nt.Ok.isN hn.isU) hqd.whole, (hqd.cell 1).trans n.get1, (hqd.cell 2).trans n.get2, (hqd.cell 3).trans n.get3, hbd.cell 0, hbd.cell 1, hbd.cell 2, hbd.cell 3, hbd.cell 4, hbd.cell 5, hbd.cell 6, hbd.cell 7⟩
  have HSK := Lib.hid hk; have HST := Lib.hid hst
  clear hk hst
  generalize hdata : c.blocks - c.cores * c.logs = data at HD
  clear hu q qc hV hc
  cases hm : MayN n
  · rw [hm] at HM
    have hf : fitsN c n = false := by unfold fitsN; rw [hm]; rfl
    rw [hf]
    clear hf hm
    go_enter Tryz.func117, Tryz.ntmps117
    go_wp2_with fail
    rw [HV.out]
    refine wp_region_held_drew (S := (fun W => Upd NoF w W ∧ Blk W (w.heap.size + 1) n.cells 37 ∧ (TNot.ld (.pointer (some ⟨w.heap.size + 1, 0, none⟩))).run Tryz.prog W = .ok (.agg n.cells) W ∧ W.cell? ⟨w.heap.size + 1, 1, none⟩ = some (.int .i64 n.frm) ∧ W.cell? ⟨w.heap.size + 1, 2, none⟩ = some (.int .i64 n.too) ∧ W.cell? ⟨w.heap.size + 1, 3, none⟩ = some (.int .i64 n.blk) ∧ W.cell? ⟨w.heap.size, 0, none⟩ = some (.int .i64 c.cores) ∧ W.cell? ⟨w.heap.size, 1, none⟩ = some (.int .i64 c.sets) ∧ W.cell? ⟨w.heap.size, 2, none⟩ = some (.int .i64 c.ways) ∧ W.cell? ⟨w.heap.size, 3, none⟩ = some (.int .i64 c.blocks) ∧ W.cell? ⟨w.heap.size, 4, none⟩ = some (.int .i64 c.logs) ∧ W.cell? ⟨w.heap.size, 5, none⟩ = some (.int .i64 c.backs) ∧ W.cell? ⟨w.heap.size, 6, none⟩ = some (.int .i64 c.nest) ∧ W.cell? ⟨w.heap.size, 7, none⟩ = some (.int .i64 c.tries))) (by kernel_rfl) (HST.out) (fun hHeld => ?_)
    refine rgn 0 (v := ?vr1_0) hHeld ?yr1_0 ?_
    case yr1_0 => (intro w hSw; obtain ⟨k0, kB, k1, k2, k3, k4, k5, k6, k7, k8, k9, k10, k11, k12⟩ := hSw; go_simp; try with_reducible rfl)
    simp only [Act.put, rns]
    refine reg_step (i := 1) (by kernel_rfl) rfl (by kernel_rfl) (fun K hK => ?_)
    go_simp
    refine (HM.out _).mono ?_
    rintro e w2 ⟨rfl, hu⟩
    have HS := HSK.out _ _ hHeld hu
    clear hu
    go_wp2_with fail
    refine hK.out _ _ HS (fun hHeld2 => ?_)
    clear hK hHeld2 hHeld; have hHeld := HS; clear HS
    try simp only [Act.put, rns]
    refine rgn 2 (v := .bool false) hHeld ?yr1_2 ?_
    case yr1_2 => (intro w hSw; obtain ⟨k0, kB, k1, k2, k3, k4, k5, k6, k7, k8, k9, k10, k11, k12⟩ := hSw; go_simp; try with_reducible rfl)
    simp only [Act.put, rns]
    refine reg_off (i := 3) rfl (by kernel_rfl) (by kernel_rfl) (by kernel_rfl) (fun _ _ _ h => h) (by kernel_rfl) hHeld ?_
    simp only [Act.put, rns]
    refine reg_off (i := 4) rfl (by kernel_rfl) (by kernel_rfl) (by kernel_rfl) (fun _ _ _ h => h) (by kernel_rfl) hHeld ?_
    simp only [Act.put, rns]
    refine reg_off (i := 5) rfl (by kernel_rfl) (by kernel_rfl) (by kernel_rfl) (fun _ _ _ h => h) (by kernel_rfl) hHeld ?_
    simp only [Act.put, rns]
    refine reg_off (i := 6) rfl (by kernel_rfl) (by kernel_rfl) (by kernel_rfl) (fun _ _ _ h => h) (by kernel_rfl) hHeld ?_
    simp only [Act.put, rns]
    refine reg_off (i := 7) rfl (by kernel_rfl) (by kernel_rfl) (by kernel_rfl) (fun _ _ _ h => h) (by kernel_rfl) hHeld ?_
    simp only [Act.put, rns]
    refine rgn 8 (v := .bool false) hHeld ?yr1_8 ?_
    case yr1_8 => (intro w hSw; obtain ⟨k0, kB, k1, k2, k3, k4, k5, k6, k7, k8, k9, k10, k11, k12⟩ := hSw; go_simp; try with_reducible rfl)
    simp only [Act.put, rns]
    refine rgn 9 (v := .bool false) hHeld ?yr1_9 ?_
    case yr1_9 => (intro w hSw; obtain ⟨k0, kB, k1, k2, k3, k4, k5, k6, k7, k8, k9, k10, k11, k12⟩ := hSw; go_simp; try with_reducible rfl)
    simp only [Act.put, rns]
    refine reg_off (i := 10) rfl (by kernel_rfl) (by kernel_rfl) (by kernel_rfl) (fun _ _ _ h => h) (by kernel_rfl) hHeld ?_
    simp only [Act.put, rns]
    refine reg_off (i := 11) rfl (by kernel_rfl) (by kernel_rfl) (by kernel_rfl) (fun _ _ _ h => h) (by kernel_rfl) hHeld ?_
    simp only [Act.put, rns]
    refine reg_off (i := 12) rfl (by kernel_rfl) (by kernel_rfl) (by kernel_rfl) (fun _ _ _ h => h) (by kernel_rfl) hHeld ?_
    simp only [Act.put, rns]
    refine reg_off (i := 13) rfl (by kernel_rfl) (by kernel_rfl) (by kernel_rfl) (fun _ _ _ h => h) (by kernel_rfl) hHeld ?_
    simp only [Act.put, rns]
    refine reg_off (i := 14) rfl (by kernel_rfl) (by kernel_rfl) (by kernel_rfl) (fun _ _ _ h => h) (by kernel_rfl) hHeld ?_
    simp only [Act.put, rns]
    refine rgn 15 (v := .bool false) hHeld ?yr1_15 ?_
    case yr1_15 => (intro w hSw; obtain ⟨k0, kB, k1, k2, k3, k4, k5, k6, k7, k8, k9, k10, k11, k12⟩ := hSw; go_simp; try with_reducible rfl)
    simp only [Act.put, rns]
    refine rgn 16 (v := .bool false) hHeld ?yr1_16 ?_
    case yr1_16 => (intro w hSw; obtain ⟨k0, kB, k1, k2, k3, k4, k5, k6, k7, k8, k9, k10, k11, k12⟩ := hSw; go_simp; try with_reducible rfl)
    simp only [Act.put, rns]
    refine reg_off (i := 17) rfl (by kernel_rfl) (by kernel_rfl) (by kernel_rfl) (fun _ _ _ h => h) (by kernel_rfl) hHeld ?_
    simp only [Act.put, rns]
    refine reg_off (i := 18) rfl (by kernel_rfl) (by kernel_rfl) (by kernel_rfl) (fun _ _ _ h => h) (by kernel_rfl) hHeld ?_
    simp only [Act.put, rns]
    refine reg_off (i := 19) rfl (by kernel_rfl) (by kernel_rfl) (by kernel_rfl) (fun _ _ _ h => h) (by kernel_rfl) hHeld ?_
    simp only [Act.put, rns]
    refine reg_off (i := 20) rfl (by kernel_rfl) (by kernel_rfl) (by kernel_rfl) (fun _ _ _ h => h) (by kernel_rfl) hHeld ?_
    simp only [Act.put, rns]
    refine reg_off (i := 21) rfl (by kernel_rfl) (by kernel_rfl) (by kernel_rfl) (fun _ _ _ h => h) (by kernel_rfl) hHeld ?_
    simp only [Act.put, rns]
    refine rgn 22 (v := .bool false) hHeld ?yr1_22 ?_
    case yr1_22 => (intro w hSw; obtain ⟨k0, kB, k1, k2, k3, k4, k5, k6, k7, k8, k9, k10, k11, k12⟩ := hSw; go_simp; try with_reducible rfl)
    simp only [Act.put, rns]
    refine rgn 23 (v := .bool false) hHeld ?yr1_23 ?_
    case yr1_23 => (intro w hSw; obtain ⟨k0, kB, k1, k2, k3, k4, k5, k6, k7, k8, k9, k10, k11, k12⟩ := hSw; go_simp; try with_reducible rfl)
    simp only [Act.put, rns]
    refine wpAnyH_done (by kernel_rfl) ?_ _
    go_wp2
    go_ret
    exact ⟨rfl, hHeld.1⟩
  · rw [hm] at HM
    cases h1 : decide (n.frm < c.cores)
    · have hf : fitsN c n = false := by unfold fitsN; rw [hm, show decide (max n.frm n.too < c.cores) = false from decide_eq_false (by have := of_decide_eq_false h1; omega)]; rfl
      rw [hf]
      clear hf hm
      go_enter Tryz.func117, Tryz.ntmps117
      go_wp2_with fail
      rw [HV.out]
      refine wp_region_held_drew (S := (fun W => Upd NoF w W ∧ Blk W (w.heap.size + 1) n.cells 37 ∧ (TNot.ld (.pointer (some ⟨w.heap.size + 1, 0, none⟩))).run Tryz.prog W = .ok (.agg n.cells) W ∧ W.cell? ⟨w.heap.size + 1, 1, none⟩ = some (.int .i64 n.frm) ∧ W.cell? ⟨w.heap.size + 1, 2, none⟩ = some (.int .i64 n.too) ∧ W.cell? ⟨w.heap.size + 1, 3, none⟩ = some (.int .i64 n.blk) ∧ W.cell? ⟨w.heap.size, 0, none⟩ = some (.int .i64 c.cores) ∧ W.cell? ⟨w.heap.size, 1, none⟩ = some (.int .i64 c.sets) ∧ W.cell? ⟨w.heap.size, 2, none⟩ = some (.int .i64 c.ways) ∧ W.cell? ⟨w.heap.size, 3, none⟩ = some (.int .i64 c.blocks) ∧ W.cell? ⟨w.heap.size, 4, none⟩ = some (.int .i64 c.logs) ∧ W.cell? ⟨w.heap.size, 5, none⟩ = some (.int .i64 c.backs) ∧ W.cell? ⟨w.heap.size, 6, none⟩ = some (.int .i64 c.nest) ∧ W.cell? ⟨w.heap.size, 7, none⟩ = some (.int .i64 c.tries))) (by kernel_rfl) (HST.out) (fun hHeld => ?_)
      refine rgn 0 (v := ?vr2_0) hHeld ?yr2_0 ?_
      case yr2_0 => (intro w hSw; obtain ⟨k0, kB, k1, k2, k3, k4, k5, k6, k7, k8, k9, k10, k11, k12⟩ := hSw; go_simp; try with_reducible rfl)
      simp only [Act.put, rns]
      refine reg_step (i := 1) (by kernel_rfl) rfl (by kernel_rfl) (fun K hK => ?_)
      go_simp
      refine (HM.out _).mono ?_
      rintro e w2 ⟨rfl, hu⟩
      have HS := HSK.out _ _ hHeld hu
      clear hu
      go_wp2_with fail
      refine hK.out _ _ HS (fun hHeld2 => ?_)
      clear hK hHeld2 hHeld; have hHeld := HS; clear HS
      try simp only [Act.put, rns]
      refine rgn 2 (v := .bool true) hHeld ?yr2_2 ?_
      case yr2_2 => (intro w hSw; obtain ⟨k0, kB, k1, k2, k3, k4, k5, k6, k7, k8, k9, k10, k11, k12⟩ := hSw; go_simp; try with_reducible rfl)
      simp only [Act.put, rns]
      refine rgn 3 (v := ?vr2_3) hHeld ?yr2_3 ?_
      case yr2_3 => (intro w hSw; obtain ⟨k0, kB, k1, k2, k3, k4, k5, k6, k7, k8, k9, k10, k11, k12⟩ := hSw; go_simp; try with_reducible rfl)
      simp only [Act.put, rns]
      refine rgn 4 (v := ?vr2_4) hHeld ?yr2_4 ?_
      case yr2_4 => (intro w hSw; obtain ⟨k0, kB, k1, k2, k3, k4, k5, k6, k7, k8, k9, k10, k11, k12⟩ := hSw; go_simp; try with_reducible rfl)
      simp only [Act.put, rns]
      refine rgn 5 (v := ?vr2_5) hHeld ?yr2_5 ?_
      case yr2_5 => (intro w hSw; obtain ⟨k0, kB, k1, k2, k3, k4, k5, k6, k7, k8, k9, k10, k11, k12⟩ := hSw; go_simp; try with_reducible rfl)
      simp only [Act.put, rns]
      refine rgn 6 (v := ?vr2_6) hHeld ?yr2_6 ?_
      case yr2_6 => (intro w hSw; obtain ⟨k0, kB, k1, k2, k3, k4, k5, k6, k7, k8, k9, k10, k11, k12⟩ := hSw; go_simp; try with_reducible rfl)
      simp only [Act.put, rns]
      refine rgn 7 (v := .bool false) hHeld ?yr2_7 ?_
      case yr2_7 => (intro w hSw; obtain ⟨k0, kB, k1, k2, k3, k4, k5, k6, k7, k8, k9, k10, k11, k12⟩ := hSw; go_simp; try with_reducible rfl)
      simp only [Act.put, rns]
      refine rgn 8 (v := .bool false) hHeld ?yr2_8 ?_
      case yr2_8 => (intro w hSw; obtain ⟨k0, kB, k1, k2, k3, k4, k5, k6, k7, k8, k9, k10, k11, k12⟩ := hSw; go_simp; try with_reducible rfl)
      simp only [Act.put, rns]
      refine rgn 9 (v := .bool false) hHeld ?yr2_9 ?_
      case yr2_9 => (intro w hSw; obtain ⟨k0, kB, k1, k2, k3, k4, k5, k6, k7, k8, k9, k10, k11, k12⟩ := hSw; go_simp; try with_reducible rfl)
      simp only [Act.put, rns]
      refine reg_off (i := 10) rfl (by kernel_rfl) (by kernel_rfl) (by kernel_rfl) (fun _ _ _ h => h) (by kernel_rfl) hHeld ?_
      simp only [Act.put, rns]
      refine reg_off (i := 11) rfl (by kernel_rfl) (by kernel_rfl) (by kernel_rfl) (fun _ _ _ h => h) (by kernel_rfl) hHeld ?_
      simp only [Act.put, rns]
      refine reg_off (i := 12) rfl (by kernel_rfl) (by kernel_rfl) (by kernel_rfl) (fun _ _ _ h => h) (by kernel_rfl) hHeld ?_
      simp only [Act.put, rns]
      refine reg_off (i := 13) rfl (by kernel_rfl) (by kernel_rfl) (by kernel_rfl) (fun _ _ _ h => h) (by kernel_rfl) hHeld ?_
      simp only [Act.put, rns]
      refine reg_off (i := 14) rfl (by kernel_rfl) (by kernel_rfl) (by kernel_rfl) (fun _ _ _ h => h) (by kernel_rfl) hHeld ?_
      simp only [Act.put, rns]
      refine rgn 15 (v := .bool false) hHeld ?yr2_15 ?_
      case yr2_15 => (intro w hSw; obtain ⟨k0, kB, k1, k2, k3, k4, k5, k6, k7, k8, k9, k10, k11, k12⟩ := hSw; go_simp; try with_reducible rfl)
      simp only [Act.put, rns]
      refine rgn 16 (v := .bool false) hHeld ?yr2_16 ?_
      case yr2_16 => (intro w hSw; obtain ⟨k0, kB, k1, k2, k3, k4, k5, k6, k7, k8, k9, k10, k11, k12⟩ := hSw; go_simp; try with_reducible rfl)
      simp only [Act.put, rns]
      refine reg_off (i := 17) rfl (by kernel_rfl) (by kernel_rfl) (by kernel_rfl) (fun _ _ _ h => h) (by kernel_rfl) hHeld ?_
      simp only [Act.put, rns]
      refine reg_off (i := 18) rfl (by kernel_rfl) (by kernel_rfl) (by kernel_rfl) (fun _ _ _ h => h) (by kernel_rfl) hHeld ?_
      simp only [Act.put, rns]
      refine reg_off (i := 19) rfl (by kernel_rfl) (by kernel_rfl) (by kernel_rfl) (fun _ _ _ h => h) (by kernel_rfl) hHeld ?_
      simp only [Act.put, rns]
      refine reg_off (i := 20) rfl (by kernel_rfl) (by kernel_rfl) (by kernel_rfl) (fun _ _ _ h => h) (by kernel_rfl) hHeld ?_
      simp only [Act.put, rns]
      refine reg_off (i := 21) rfl (by kernel_rfl) (by kernel_rfl) (by kernel_rfl) (fun _ _ _ h => h) (by kernel_rfl) hHeld ?_
      simp only [Act.put, rns]
      refine rgn 22 (v := .bool false) hHeld ?yr2_22 ?_
      case yr2_22 => (intro w hSw; obtain ⟨k0, kB, k1, k2, k3, k4, k5, k6, k7, k8, k9, k10, k11, k12⟩ := hSw; go_simp; try with_reducible rfl)
      simp only [Act.put, rns]
      refine rgn 23 (v := .bool false) hHeld ?yr2_23 ?_
      case yr2_23 => (intro w hSw; obtain ⟨k0, kB, k1, k2, k3, k4, k5, k6, k7, k8, k9, k10, k11, k12⟩ := hSw; go_simp; try with_reducible rfl)
      simp only [Act.put, rns]
      refine wpAnyH_done (by kernel_rfl) ?_ _
      go_wp2
      go_ret
      exact ⟨rfl, hHeld.1⟩
    · cases h2 : decide (n.too < c.cores)
      · have hf : fitsN c n = false := by unfold fitsN; rw [hm, show decide (max n.frm n.too < c.cores) = false from decide_eq_false (by have := of_decide_eq_false h2; omega)]; rfl
        rw [hf]
        clear hf hm
        go_enter Tryz.func117, Tryz.ntmps117
        go_wp2_with fail
        rw [HV.out]
        refine wp_region_held_drew (S := (fun W => Upd NoF w W ∧ Blk W (w.heap.size + 1) n.cells 37 ∧ (TNot.ld (.pointer (some ⟨w.heap.size + 1, 0, none⟩))).run Tryz.prog W = .ok (.agg n.cells) W ∧ W.cell? ⟨w.heap.size + 1, 1, none⟩ = some (.int .i64 n.frm) ∧ W.cell? ⟨w.heap.size + 1, 2, none⟩ = some (.int .i64 n.too) ∧ W.cell? ⟨w.heap.size + 1, 3, none⟩ = some (.int .i64 n.blk) ∧ W.cell? ⟨w.heap.size, 0, none⟩ = some (.int .i64 c.cores) ∧ W.cell? ⟨w.heap.size, 1, none⟩ = some (.int .i64 c.sets) ∧ W.cell? ⟨w.heap.size, 2, none⟩ = some (.int .i64 c.ways) ∧ W.cell? ⟨w.heap.size, 3, none⟩ = some (.int .i64 c.blocks) ∧ W.cell? ⟨w.heap.size, 4, none⟩ = some (.int .i64 c.logs) ∧ W.cell? ⟨w.heap.size, 5, none⟩ = some (.int .i64 c.backs) ∧ W.cell? ⟨w.heap.size, 6, none⟩ = some (.int .i64 c.nest) ∧ W.cell? ⟨w.heap.size, 7, none⟩ = some (.int .i64 c.tries))) (by kernel_rfl) (HST.out) (fun hHeld => ?_)
        refine rgn 0 (v := ?vr3_0) hHeld ?yr3_0 ?_
        case yr3_0 => (intro w hSw; obtain ⟨k0, kB, k1, k2, k3, k4, k5, k6, k7, k8, k9, k10, k11, k12⟩ := hSw; go_simp; try with_reducible rfl)
        simp only [Act.put, rns]
        refine reg_step (i := 1) (by kernel_rfl) rfl (by kernel_rfl) (fun K hK => ?_)
        go_simp
        refine (HM.out _).mono ?_
        rintro e w2 ⟨rfl, hu⟩
        have HS := HSK.out _ _ hHeld hu
        clear hu
        go_wp2_with fail
        refine hK.out _ _ HS (fun hHeld2 => ?_)
        clear hK hHeld2 hHeld; have hHeld := HS; clear HS
        try simp only [Act.put, rns]
        refine rgn 2 (v := .bool true) hHeld ?yr3_2 ?_
        case yr3_2 => (intro w hSw; obtain ⟨k0, kB, k1, k2, k3, k4, k5, k6, k7, k8, k9, k10, k11, k12⟩ := hSw; go_simp; try with_reducible rfl)
        simp only [Act.put, rns]
        refine rgn 3 (v := ?vr3_3) hHeld ?yr3_3 ?_
        case yr3_3 => (intro w hSw; obtain ⟨k0, kB, k1, k2, k3, k4, k5, k6, k7, k8, k9, k10, k11, k12⟩ := hSw; go_simp; try with_reducible rfl)
        simp only [Act.put, rns]
        refine rgn 4 (v := ?vr3_4) hHeld ?yr3_4 ?_
        case yr3_4 => (intro w hSw; obtain ⟨k0, kB, k1, k2, k3, k4, k5, k6, k7, k8, k9, k10, k11, k12⟩ := hSw; go_simp; try with_reducible rfl)
        simp only [Act.put, rns]
        refine rgn 5 (v := ?vr3_5) hHeld ?yr3_5 ?_
        case yr3_5 => (intro w hSw; obtain ⟨k0, kB, k1, k2, k3, k4, k5, k6, k7, k8, k9, k10, k11, k12⟩ := hSw; go_simp; try with_reducible rfl)
        simp only [Act.put, rns]
        refine rgn 6 (v := ?vr3_6) hHeld ?yr3_6 ?_
        case yr3_6 => (intro w hSw; obtain ⟨k0, kB, k1, k2, k3, k4, k5, k6, k7, k8, k9, k10, k11, k12⟩ := hSw; go_simp; try with_reducible rfl)
        simp only [Act.put, rns]
        refine rgn 7 (v := .bool true) hHeld ?yr3_7 ?_
        case yr3_7 => (intro w hSw; obtain ⟨k0, kB, k1, k2, k3, k4, k5, k6, k7, k8, k9, k10, k11, k12⟩ := hSw; go_simp; try with_reducible rfl)
        simp only [Act.put, rns]
        refine rgn 8 (v := .bool true) hHeld ?yr3_8 ?_
        case yr3_8 => (intro w hSw; obtain ⟨k0, kB, k1, k2, k3, k4, k5, k6, k7, k8, k9, k10, k11, k12⟩ := hSw; go_simp; try with_reducible rfl)
        simp only [Act.put, rns]
        refine rgn 9 (v := .bool true) hHeld ?yr3_9 ?_
        case yr3_9 => (intro w hSw; obtain ⟨k0, kB, k1, k2, k3, k4, k5, k6, k7, k8, k9, k10, k11, k12⟩ := hSw; go_simp; try with_reducible rfl)
        simp only [Act.put, rns]
        refine rgn 10 (v := ?vr3_10) hHeld ?yr3_10 ?_
        case yr3_10 => (intro w hSw; obtain ⟨k0, kB, k1, k2, k3, k4, k5, k6, k7, k8, k9, k10, k11, k12⟩ := hSw; go_simp; try with_reducible rfl)
        simp only [Act.put, rns]
        refine rgn 11 (v := ?vr3_11) hHeld ?yr3_11 ?_
        case yr3_11 => (intro w hSw; obtain ⟨k0, kB, k1, k2, k3, k4, k5, k6, k7, k8, k9, k10, k11, k12⟩ := hSw; go_simp; try with_reducible rfl)
        simp only [Act.put, rns]
        refine rgn 12 (v := ?vr3_12) hHeld ?yr3_12 ?_
        case yr3_12 => (intro w hSw; obtain ⟨k0, kB, k1, k2, k3, k4, k5, k6, k7, k8, k9, k10, k11, k12⟩ := hSw; go_simp; try with_reducible rfl)
        simp only [Act.put, rns]
        refine rgn 13 (v := ?vr3_13) hHeld ?yr3_13 ?_
        case yr3_13 => (intro w hSw; obtain ⟨k0, kB, k1, k2, k3, k4, k5, k6, k7, k8, k9, k10, k11, k12⟩ := hSw; go_simp; try with_reducible rfl)
        simp only [Act.put, rns]
        refine rgn 14 (v := .bool false) hHeld ?yr3_14 ?_
        case yr3_14 => (intro w hSw; obtain ⟨k0, kB, k1, k2, k3, k4, k5, k6, k7, k8, k9, k10, k11, k12⟩ := hSw; go_simp; try with_reducible rfl)
        simp only [Act.put, rns]
        refine rgn 15 (v := .bool false) hHeld ?yr3_15 ?_
        case yr3_15 => (intro w hSw; obtain ⟨k0, kB, k1, k2, k3, k4, k5, k6, k7, k8, k9, k10, k11, k12⟩ := hSw; go_simp; try with_reducible rfl)
        simp only [Act.put, rns]
        refine rgn 16 (v := .bool false) hHeld ?yr3_16 ?_
        case yr3_16 => (intro w hSw; obtain ⟨k0, kB, k1, k2, k3, k4, k5, k6, k7, k8, k9, k10, k11, k12⟩ := hSw; go_simp; try with_reducible rfl)
        simp only [Act.put, rns]
        refine reg_off (i := 17) rfl (by kernel_rfl) (by kernel_rfl) (by kernel_rfl) (fun _ _ _ h => h) (by kernel_rfl) hHeld ?_
        simp only [Act.put, rns]
        refine reg_off (i := 18) rfl (by kernel_rfl) (by kernel_rfl) (by kernel_rfl) (fun _ _ _ h => h) (by kernel_rfl) hHeld ?_
        simp only [Act.put, rns]
        refine reg_off (i := 19) rfl (by kernel_rfl) (by kernel_rfl) (by kernel_rfl) (fun _ _ _ h => h) (by kernel_rfl) hHeld ?_
        simp only [Act.put, rns]
        refine reg_off (i := 20) rfl (by kernel_rfl) (by kernel_rfl) (by kernel_rfl) (fun _ _ _ h => h) (by kernel_rfl) hHeld ?_
        simp only [Act.put, rns]
        refine reg_off (i := 21) rfl (by kernel_rfl) (by kernel_rfl) (by kernel_rfl) (fun _ _ _ h => h) (by kernel_rfl) hHeld ?_
        simp only [Act.put, rns]
        refine rgn 22 (v := .bool false) hHeld ?yr3_22 ?_
        case yr3_22 => (intro w hSw; obtain ⟨k0, kB, k1, k2, k3, k4, k5, k6, k7, k8, k9, k10, k11, k12⟩ := hSw; go_simp; try with_reducible rfl)
        simp only [Act.put, rns]
        refine rgn 23 (v := .bool false) hHeld ?yr3_23 ?_
        case yr3_23 => (intro w hSw; obtain ⟨k0, kB, k1, k2, k3, k4, k5, k6, k7, k8, k9, k10, k11, k12⟩ := hSw; go_simp; try with_reducible rfl)
        simp only [Act.put, rns]
        refine wpAnyH_done (by kernel_rfl) ?_ _
        go_wp2
        go_ret
        exact ⟨rfl, hHeld.1⟩
      · have hf : fitsN c n = decide (n.blk < data) := by unfold fitsN; rw [hm, show decide (max n.frm n.too < c.cores) = true from decide_eq_true (by have := of_decide_eq_true h1; have := of_decide_eq_true h2; omega), hdata]; rfl
        rw [hf]
        clear hf hm
        go_enter Tryz.func117, Tryz.ntmps117
        go_wp2_with fail
        rw [HV.out]
        refine wp_region_held_drew (S := (fun W => Upd NoF w W ∧ Blk W (w.heap.size + 1) n.cells 37 ∧ (TNot.ld (.pointer (some ⟨w.heap.size + 1, 0, none⟩))).run Tryz.prog W = .ok (.agg n.cells) W ∧ W.cell? ⟨w.heap.size + 1, 1, none⟩ = some (.int .i64 n.frm) ∧ W.cell? ⟨w.heap.size + 1, 2, none⟩ = some (.int .i64 n.too) ∧ W.cell? ⟨w.heap.size + 1, 3, none⟩ = some (.int .i64 n.blk) ∧ W.cell? ⟨w.heap.size, 0, none⟩ = some (.int .i64 c.cores) ∧ W.cell? ⟨w.heap.size, 1, none⟩ = some (.int .i64 c.sets) ∧ W.cell? ⟨w.heap.size, 2, none⟩ = some (.int .i64 c.ways) ∧ W.cell? ⟨w.heap.size, 3, none⟩ = some (.int .i64 c.blocks) ∧ W.cell? ⟨w.heap.size, 4, none⟩ = some (.int .i64 c.logs) ∧ W.cell? ⟨w.heap.size, 5, none⟩ = some (.int .i64 c.backs) ∧ W.cell? ⟨w.heap.size, 6, none⟩ = some (.int .i64 c.nest) ∧ W.cell? ⟨w.heap.size, 7, none⟩ = some (.int .i64 c.tries))) (by kernel_rfl) (HST.out) (fun hHeld => ?_)
        refine rgn 0 (v := ?vr4_0) hHeld ?yr4_0 ?_
        case yr4_0 => (intro w hSw; obtain ⟨k0, kB, k1, k2, k3, k4, k5, k6, k7, k8, k9, k10, k11, k12⟩ := hSw; go_simp; try with_reducible rfl)
        simp only [Act.put, rns]
        refine reg_step (i := 1) (by kernel_rfl) rfl (by kernel_rfl) (fun K hK => ?_)
        go_simp
        refine (HM.out _).mono ?_
        rintro e w2 ⟨rfl, hu⟩
        have HS := HSK.out _ _ hHeld hu
        clear hu
        go_wp2_with fail
        refine hK.out _ _ HS (fun hHeld2 => ?_)
        clear hK hHeld2 hHeld; have hHeld := HS; clear HS
        try simp only [Act.put, rns]
        refine rgn 2 (v := .bool true) hHeld ?yr4_2 ?_
        case yr4_2 => (intro w hSw; obtain ⟨k0, kB, k1, k2, k3, k4, k5, k6, k7, k8, k9, k10, k11, k12⟩ := hSw; go_simp; try with_reducible rfl)
        simp only [Act.put, rns]
        refine rgn 3 (v := ?vr4_3) hHeld ?yr4_3 ?_
        case yr4_3 => (intro w hSw; obtain ⟨k0, kB, k1, k2, k3, k4, k5, k6, k7, k8, k9, k10, k11, k12⟩ := hSw; go_simp; try with_reducible rfl)
        simp only [Act.put, rns]
        refine rgn 4 (v := ?vr4_4) hHeld ?yr4_4 ?_
        case yr4_4 => (intro w hSw; obtain ⟨k0, kB, k1, k2, k3, k4, k5, k6, k7, k8, k9, k10, k11, k12⟩ := hSw; go_simp; try with_reducible rfl)
        simp only [Act.put, rns]
        refine rgn 5 (v := ?vr4_5) hHeld ?yr4_5 ?_
        case yr4_5 => (intro w hSw; obtain ⟨k0, kB, k1, k2, k3, k4, k5, k6, k7, k8, k9, k10, k11, k12⟩ := hSw; go_simp; try with_reducible rfl)
        simp only [Act.put, rns]
        refine rgn 6 (v := ?vr4_6) hHeld ?yr4_6 ?_
        case yr4_6 => (intro w hSw; obtain ⟨k0, kB, k1, k2, k3, k4, k5, k6, k7, k8, k9, k10, k11, k12⟩ := hSw; go_simp; try with_reducible rfl)
        simp only [Act.put, rns]
        refine rgn 7 (v := .bool true) hHeld ?yr4_7 ?_
        case yr4_7 => (intro w hSw; obtain ⟨k0, kB, k1, k2, k3, k4, k5, k6, k7, k8, k9, k10, k11, k12⟩ := hSw; go_simp; try with_reducible rfl)
        simp only [Act.put, rns]
        refine rgn 8 (v := .bool true) hHeld ?yr4_8 ?_
        case yr4_8 => (intro w hSw; obtain ⟨k0, kB, k1, k2, k3, k4, k5, k6, k7, k8, k9, k10, k11, k12⟩ := hSw; go_simp; try with_reducible rfl)
        simp only [Act.put, rns]
        refine rgn 9 (v := .bool true) hHeld ?yr4_9 ?_
        case yr4_9 => (intro w hSw; obtain ⟨k0, kB, k1, k2, k3, k4, k5, k6, k7, k8, k9, k10, k11, k12⟩ := hSw; go_simp; try with_reducible rfl)
        simp only [Act.put, rns]
        refine rgn 10 (v := ?vr4_10) hHeld ?yr4_10 ?_
        case yr4_10 => (intro w hSw; obtain ⟨k0, kB, k1, k2, k3, k4, k5, k6, k7, k8, k9, k10, k11, k12⟩ := hSw; go_simp; try with_reducible rfl)
        simp only [Act.put, rns]
        refine rgn 11 (v := ?vr4_11) hHeld ?yr4_11 ?_
        case yr4_11 => (intro w hSw; obtain ⟨k0, kB, k1, k2, k3, k4, k5, k6, k7, k8, k9, k10, k11, k12⟩ := hSw; go_simp; try with_reducible rfl)
        simp only [Act.put, rns]
        refine rgn 12 (v := ?vr4_12) hHeld ?yr4_12 ?_
        case yr4_12 => (intro w hSw; obtain ⟨k0, kB, k1, k2, k3, k4, k5, k6, k7, k8, k9, k10, k11, k12⟩ := hSw; go_simp; try with_reducible rfl)
        simp only [Act.put, rns]
        refine rgn 13 (v := ?vr4_13) hHeld ?yr4_13 ?_
        case yr4_13 => (intro w hSw; obtain ⟨k0, kB, k1, k2, k3, k4, k5, k6, k7, k8, k9, k10, k11, k12⟩ := hSw; go_simp; try with_reducible rfl)
        simp only [Act.put, rns]
        refine rgn 14 (v := .bool true) hHeld ?yr4_14 ?_
        case yr4_14 => (intro w hSw; obtain ⟨k0, kB, k1, k2, k3, k4, k5, k6, k7, k8, k9, k10, k11, k12⟩ := hSw; go_simp; try with_reducible rfl)
        simp only [Act.put, rns]
        refine rgn 15 (v := .bool true) hHeld ?yr4_15 ?_
        case yr4_15 => (intro w hSw; obtain ⟨k0, kB, k1, k2, k3, k4, k5, k6, k7, k8, k9, k10, k11, k12⟩ := hSw; go_simp; try with_reducible rfl)
        simp only [Act.put, rns]
        refine rgn 16 (v := .bool true) hHeld ?yr4_16 ?_
        case yr4_16 => (intro w hSw; obtain ⟨k0, kB, k1, k2, k3, k4, k5, k6, k7, k8, k9, k10, k11, k12⟩ := hSw; go_simp; try with_reducible rfl)
        simp only [Act.put, rns]
        refine rgn 17 (v := ?vr4_17) hHeld ?yr4_17 ?_
        case yr4_17 => (intro w hSw; obtain ⟨k0, kB, k1, k2, k3, k4, k5, k6, k7, k8, k9, k10, k11, k12⟩ := hSw; go_simp; try with_reducible rfl)
        simp only [Act.put, rns]
        refine rgn 18 (v := ?vr4_18) hHeld ?yr4_18 ?_
        case yr4_18 => (intro w hSw; obtain ⟨k0, kB, k1, k2, k3, k4, k5, k6, k7, k8, k9, k10, k11, k12⟩ := hSw; go_simp; try with_reducible rfl)
        simp only [Act.put, rns]
        refine rgn 19 (v := ?vr4_19) hHeld ?yr4_19 ?_
        case yr4_19 => (intro w hSw; obtain ⟨k0, kB, k1, k2, k3, k4, k5, k6, k7, k8, k9, k10, k11, k12⟩ := hSw; go_simp; try with_reducible rfl)
        simp only [Act.put, rns]
        refine reg_step (i := 20) (by kernel_rfl) rfl (by kernel_rfl) (fun K hK => ?_)
        go_simp
        refine (HD.out _).mono ?_
        rintro e w2 ⟨rfl, hu⟩
        have HS := HSK.out _ _ hHeld hu
        clear hu
        go_wp2_with fail
        refine hK.out _ _ HS (fun hHeld2 => ?_)
        clear hK hHeld2 hHeld; have hHeld := HS; clear HS
        try simp only [Act.put, rns]
        refine rgn 21 (v := .bool (decide (n.blk < data))) hHeld ?yr4_21 ?_
        case yr4_21 => (intro w hSw; obtain ⟨k0, kB, k1, k2, k3, k4, k5, k6, k7, k8, k9, k10, k11, k12⟩ := hSw; go_simp; try with_reducible rfl)
        simp only [Act.put, rns]
        refine rgn 22 (v := .bool (decide (n.blk < data))) hHeld ?yr4_22 ?_
        case yr4_22 => (intro w hSw; obtain ⟨k0, kB, k1, k2, k3, k4, k5, k6, k7, k8, k9, k10, k11, k12⟩ := hSw; go_simp; try with_reducible rfl)
        simp only [Act.put, rns]
        refine rgn 23 (v := .bool (decide (n.blk < data))) hHeld ?yr4_23 ?_
        case yr4_23 => (intro w hSw; obtain ⟨k0, kB, k1, k2, k3, k4, k5, k6, k7, k8, k9, k10, k11, k12⟩ := hSw; go_simp; try with_reducible rfl)
        simp only [Act.put, rns]
        refine wpAnyH_done (by kernel_rfl) ?_ _
        go_wp2
        go_ret
        exact ⟨rfl, hHeld.1⟩
end Go.Proofs.YtjgeflbhmhmjdaaGreat.NE
