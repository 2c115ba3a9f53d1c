/- The reference of a core's side: asked. -/
import Derived.Test.YtjgeflbhmhmjdaaGreatNearRK
import Derived.Test.YtjgeflbhmhmjdaaGreatNearH
set_option linter.unusedSimpArgs false
set_option linter.unusedVariables false
namespace Go.Proofs.YtjgeflbhmhmjdaaGreat.NR
open Go.RowKit
open BU (IsU words)
open PL (Cfg CC CV May)
open KA (Kp CIs OkA LT UT)
open DL (DS CD stampE)
attribute [local go_sem] Oper.semAt_some
attribute [local go_sem ↓] TNot.ld_eq TNot.st_eq TNot.al_eq TNot.bx_eq TBlk.ld_eq TBlk.st_eq TBlk.al_eq TBlk.bx_eq TLin.ld_eq TLin.st_eq TLin.al_eq TLin.bx_eq bdN_eq bsN_eq bdL_eq
attribute [local go_sem] TNot.al_run TNot.bx_run TBlk.al_run TBlk.bx_run TLin.al_run TLin.bx_run
section
variable {w0 W W' V : World} {r : Rd} {S : Ns} {L : List Obj}
set_option maxRecDepth 100000 in
theorem bd_refuse (S : Ns) (n : Nt) (w : World) : (bdN #[(0, .int .u8 10), (1, .int .i64 S.core), (2, .int .i64 (-1)), (3, .int .i64 n.blk), (4, .int .u64 (stampE S.d))]).run Tryz.prog w = .ok (.agg (refuseN S n).cells) w := by
  refine build_run (pl := [(0, 1), (1, 1), (2, 1), (3, 1), (4, 1), (5, 1), (6, 1), (7, 1), (8, 16)]) Tryz.underlying37 TNot.infoZ ntPl _ _ ?_ w
  rw [fill_step (off := 0) (size := 1) rfl rfl (by (repeat rw [size_setMany]); decide), fill_step (off := 1) (size := 1) rfl rfl (by (repeat rw [size_setMany]); decide), fill_step (off := 2) (size := 1) rfl rfl (by (repeat rw [size_setMany]); decide), fill_step (off := 3) (size := 1) rfl rfl (by (repeat rw [size_setMany]); decide), fill_step (off := 4) (size := 1) rfl rfl (by (repeat rw [size_setMany]); decide), fill_nil]
  exact congrArg some (by kernel_rfl)
set_option maxRecDepth 100000 in
set_option maxHeartbeats 4000000 in
theorem rasked_no (h : RIs w0 W r S L) (n : Nt) (hn : n.Ok) (hno : DL.askedB S.d (meetsB S n) = true) : Calls Tryz.prog 121 #[ptr r.nb, .agg n.cells] W fun e W' => e = .returned (.agg (refuseN S n).cells) ∧ RIs w0 W' r (askedS1 S n) L := by
  have hnN := Nt.Ok.isN hn.isU
  have hst := hn.stamp.1
  have h1 := (h.alloc n.cells NT).alloc TNot.Z NT
  rw [World.size_alloc] at h1
  obtain ⟨xn, hxn⟩ : ∃ x, W.heap.size = x := ⟨_, rfl⟩
  obtain ⟨xr, hxr⟩ : ∃ x, xn + 1 = x := ⟨_, rfl⟩
  obtain ⟨V, hV⟩ : ∃ V, (W.alloc (.cells n.cells NT)).alloc (.cells TNot.Z NT) = V := ⟨_, rfl⟩
  rw [hxn, hV, hxr] at h1
  have HH := Lib.hid (h1.upd0 (Upd.drew NoF V))
  have HN := Lib.hid hnN
  have HST := Lib.hid hst
  have hno' : DL.askedB S.d (meetsB S n) = true := hno
  clear h h1 hnN hst hno
  go_enter Tryz.func121, Tryz.ntmps121
  go_upto_region 1 with fail
  clear hxn hxr hV
  refine wp_region_held_drew (S := (fun X : World => X.cell? ⟨r.nb, 11, none⟩ = some (ptr r.rb) ∧ X.cell? ⟨r.nb, 12, none⟩ = some (ptr r.db) ∧ X.cell? ⟨xn, 0, none⟩ = some (.int .u8 n.kind) ∧ X.cell? ⟨xn, 3, none⟩ = some (.int .i64 n.blk) ∧ X.cell? ⟨xn, 4, none⟩ = some (.int .u64 n.stamp))) (by kernel_rfl) (⟨HH.out.hd (by decide), HH.out.hd (by decide), ((HH.out.sep.box 10 rfl).cell 0).trans n.get0, ((HH.out.sep.box 10 rfl).cell 3).trans n.get3, ((HH.out.sep.box 10 rfl).cell 4).trans n.get4⟩) (fun hHeld => ?_)
  obtain ⟨V0, hV0⟩ : ∃ X, V.drew = X := ⟨_, rfl⟩
  rw [hV0] at hHeld HH ⊢
  clear hV0
  refine rgn 0 (v := ?vq1) hHeld ?yq1 ?_
  case yq1 => (intro w hSw; obtain ⟨k0, k1, k2, k3, k4⟩ := hSw; go_simp; try with_reducible rfl)
  simp only [Act.put, rns]
  refine rgn 1 (v := ?vq2) hHeld ?yq2 ?_
  case yq2 => (intro w hSw; obtain ⟨k0, k1, k2, k3, k4⟩ := hSw; go_simp; try with_reducible rfl)
  simp only [Act.put, rns]
  refine rgn 2 (v := ?vq3) hHeld ?yq3 ?_
  case yq3 => (intro w hSw; obtain ⟨k0, k1, k2, k3, k4⟩ := hSw; go_simp; try with_reducible rfl)
  simp only [Act.put, rns]
  refine rgn 3 (v := ?vq4) hHeld ?yq4 ?_
  case yq4 => (intro w hSw; obtain ⟨k0, k1, k2, k3, k4⟩ := hSw; go_simp; try with_reducible rfl)
  simp only [Act.put, rns]
  refine rgn 4 (v := ?vq5) hHeld ?yq5 ?_
  case yq5 => (intro w hSw; obtain ⟨k0, k1, k2, k3, k4⟩ := hSw; go_simp; try with_reducible rfl)
  simp only [Act.put, rns]
  refine rgn 5 (v := ?vq6) hHeld ?yq6 ?_
  case yq6 => (intro w hSw; obtain ⟨k0, k1, k2, k3, k4⟩ := hSw; go_simp; try with_reducible rfl)
  simp only [Act.put, rns]
  refine rgn 6 (v := ?vq7) hHeld ?yq7 ?_
  case yq7 => (intro w hSw; obtain ⟨k0, k1, k2, k3, k4⟩ := hSw; go_simp; try with_reducible rfl)
  simp only [Act.put, rns]
  refine rgn 7 (v := ?vq8) hHeld ?yq8 ?_
  case yq8 => (intro w hSw; obtain ⟨k0, k1, k2, k3, k4⟩ := hSw; go_simp; try with_reducible rfl)
  simp only [Act.put, rns]
  refine rgn 8 (v := ?vq9) hHeld ?yq9 ?_
  case yq9 => (intro w hSw; obtain ⟨k0, k1, k2, k3, k4⟩ := hSw; go_simp; try with_reducible rfl)
  simp only [Act.put, rns]
  refine rgn 9 (v := ?vq10) hHeld ?yq10 ?_
  case yq10 => (intro w hSw; obtain ⟨k0, k1, k2, k3, k4⟩ := hSw; go_simp; try with_reducible rfl)
  simp only [Act.put, rns]
  refine rgn 10 (v := ?vq11) hHeld ?yq11 ?_
  case yq11 => (intro w hSw; obtain ⟨k0, k1, k2, k3, k4⟩ := hSw; go_simp; try with_reducible rfl)
  simp only [Act.put, rns]
  refine rgn 11 (v := ?vq12) hHeld ?yq12 ?_
  case yq12 => (intro w hSw; obtain ⟨k0, k1, k2, k3, k4⟩ := hSw; go_simp; try with_reducible rfl)
  simp only [Act.put, rns]
  refine rgn 13 (v := ?vq13) hHeld ?yq13 ?_
  case yq13 => (intro w hSw; obtain ⟨k0, k1, k2, k3, k4⟩ := hSw; go_simp; try with_reducible rfl)
  simp only [Act.put, rns]
  refine rgn 14 (v := ?vq14) hHeld ?yq14 ?_
  case yq14 => (intro w hSw; obtain ⟨k0, k1, k2, k3, k4⟩ := hSw; go_simp; try with_reducible rfl)
  simp only [Act.put, rns]
  refine reg_step (i := 12) (by kernel_rfl) rfl (by kernel_rfl) (fun K hK => ?_)
  go_simp
  refine (rmmeets_is HH.out n.kind n.blk).mono ?_
  rintro e V1 ⟨rfl, hu⟩
  have HH1 := Lib.hid (HH.out.upd0 hu)
  have HS : (fun X : World => X.cell? ⟨r.nb, 11, none⟩ = some (ptr r.rb) ∧ X.cell? ⟨r.nb, 12, none⟩ = some (ptr r.db) ∧ X.cell? ⟨xn, 0, none⟩ = some (.int .u8 n.kind) ∧ X.cell? ⟨xn, 3, none⟩ = some (.int .i64 n.blk) ∧ X.cell? ⟨xn, 4, none⟩ = some (.int .u64 n.stamp)) V1 := ⟨HH1.out.hd (by decide), HH1.out.hd (by decide), ((HH1.out.sep.box 10 rfl).cell 0).trans n.get0, ((HH1.out.sep.box 10 rfl).cell 3).trans n.get3, ((HH1.out.sep.box 10 rfl).cell 4).trans n.get4⟩
  clear hu
  go_wp2_with fail
  refine hK.out _ _ HS (fun hHeld2 => ?_)
  clear hK hHeld2 hHeld; have hHeld := HS; clear HS
  try simp only [Act.put, rns]
  refine reg_step (i := 15) (by kernel_rfl) rfl (by kernel_rfl) (fun K hK => ?_)
  go_simp
  refine (rdasked_is HH1.out (meetsB S n) n.stamp HST.out).mono ?_
  rw [hno']
  rintro e V2 ⟨rfl, hN⟩
  have HH2 : Hid (RIs w0 V2 r (askedS1 S n) _) := Lib.hid hN
  have HS : (fun X : World => X.cell? ⟨r.nb, 11, none⟩ = some (ptr r.rb) ∧ X.cell? ⟨r.nb, 12, none⟩ = some (ptr r.db) ∧ X.cell? ⟨xn, 0, none⟩ = some (.int .u8 n.kind) ∧ X.cell? ⟨xn, 3, none⟩ = some (.int .i64 n.blk) ∧ X.cell? ⟨xn, 4, none⟩ = some (.int .u64 n.stamp)) V2 := ⟨HH2.out.hd (by decide), HH2.out.hd (by decide), ((HH2.out.sep.box 10 rfl).cell 0).trans n.get0, ((HH2.out.sep.box 10 rfl).cell 3).trans n.get3, ((HH2.out.sep.box 10 rfl).cell 4).trans n.get4⟩
  clear hN
  go_wp2_with fail
  refine hK.out _ _ HS (fun hHeld2 => ?_)
  clear hK hHeld2 hHeld; have hHeld := HS; clear HS
  try simp only [Act.put, rns]
  refine wpAnyH_done (by kernel_rfl) ?_ _
  clear hHeld HH HH1 hno'
  have HT := Lib.hid (HH2.out.upd0 (Upd.drew NoF V2))
  have y5 := fun w => bd_refuse S n w
  have HRN : Hid (IsN 24 (refuseN S n).cells) := Lib.hid (Nt.Ok.isN isUZ)
  go_upto_region 2 with fail
  refine wp_region_held_drew (S := (fun X : World => X.cell? ⟨r.nb, 8, none⟩ = some (.int .i64 S.core) ∧ X.cell? ⟨r.nb, 12, none⟩ = some (ptr r.db) ∧ X.cell? ⟨xn, 3, none⟩ = some (.int .i64 n.blk))) (by kernel_rfl) (⟨HT.out.hd (by decide), HT.out.hd (by decide), ((HT.out.sep.box 10 rfl).cell 3).trans n.get3⟩) (fun hHeld => ?_)
  obtain ⟨T0, hT0⟩ : ∃ X, V2.drew = X := ⟨_, rfl⟩
  rw [hT0] at hHeld HT ⊢
  clear hT0 HH2
  refine rgn 0 (v := ?vq15) hHeld ?yq15 ?_
  case yq15 => (intro w hSw; obtain ⟨k0, k1, k2⟩ := hSw; go_simp; try with_reducible rfl)
  simp only [Act.put, rns]
  refine rgn 1 (v := ?vq16) hHeld ?yq16 ?_
  case yq16 => (intro w hSw; obtain ⟨k0, k1, k2⟩ := hSw; go_simp; try with_reducible rfl)
  simp only [Act.put, rns]
  refine rgn 2 (v := ?vq17) hHeld ?yq17 ?_
  case yq17 => (intro w hSw; obtain ⟨k0, k1, k2⟩ := hSw; go_simp; try with_reducible rfl)
  simp only [Act.put, rns]
  refine rgn 3 (v := ?vq18) hHeld ?yq18 ?_
  case yq18 => (intro w hSw; obtain ⟨k0, k1, k2⟩ := hSw; go_simp; try with_reducible rfl)
  simp only [Act.put, rns]
  refine rgn 4 (v := ?vq19) hHeld ?yq19 ?_
  case yq19 => (intro w hSw; obtain ⟨k0, k1, k2⟩ := hSw; go_simp; try with_reducible rfl)
  simp only [Act.put, rns]
  refine rgn 5 (v := ?vq20) hHeld ?yq20 ?_
  case yq20 => (intro w hSw; obtain ⟨k0, k1, k2⟩ := hSw; go_simp; try with_reducible rfl)
  simp only [Act.put, rns]
  refine rgn 6 (v := ?vq21) hHeld ?yq21 ?_
  case yq21 => (intro w hSw; obtain ⟨k0, k1, k2⟩ := hSw; go_simp; try with_reducible rfl)
  simp only [Act.put, rns]
  refine rgn 7 (v := ?vq22) hHeld ?yq22 ?_
  case yq22 => (intro w hSw; obtain ⟨k0, k1, k2⟩ := hSw; go_simp; try with_reducible rfl)
  simp only [Act.put, rns]
  refine rgn 8 (v := ?vq23) hHeld ?yq23 ?_
  case yq23 => (intro w hSw; obtain ⟨k0, k1, k2⟩ := hSw; go_simp; try with_reducible rfl)
  simp only [Act.put, rns]
  refine rgn 9 (v := ?vq24) hHeld ?yq24 ?_
  case yq24 => (intro w hSw; obtain ⟨k0, k1, k2⟩ := hSw; go_simp; try with_reducible rfl)
  simp only [Act.put, rns]
  refine reg_step (i := 10) (by kernel_rfl) rfl (by kernel_rfl) (fun K hK => ?_)
  go_simp
  refine (rdstamp_is HT.out).mono ?_
  rintro e Wz ⟨rfl, rfl⟩
  have HS := hHeld
  go_wp2_with fail
  refine hK.out _ _ HS (fun hHeld2 => ?_)
  clear hK hHeld2 hHeld; have hHeld := HS; clear HS
  try simp only [Act.put, rns]
  have est : stampE (askedS1 S n).d = stampE S.d := rfl
  rw [est]
  clear est
  refine rgn 11 (v := ?vq25) hHeld ?yq25 ?_
  case yq25 => (intro w hSw; go_simp; try with_reducible rfl)
  simp only [Act.put, rns]
  refine reg_step (i := 12) (by kernel_rfl) rfl (by kernel_rfl) (fun K hK => ?_)
  have s5 := (TNot.st_at TNot.isZ HRN.out HT.out.lb).1
  have hT2 := HT.out.setAt 0 rfl (vs := (refuseN S n).cells) (HRN.out.1.trans TNot.size_Z.symm)
  go_simp
  obtain ⟨T2, hY⟩ : ∃ X, T0.setCells xr 0 (refuseN S n).cells.toList = X := ⟨_, rfl⟩
  rw [hY] at hT2 ⊢
  have hT3 : RIs w0 T2 r (askedS1 S n) (boxO xr (refuseN S n).cells NT :: boxO xn n.cells NT :: L) := hT2
  have HS : (fun X : World => X.cell? ⟨r.nb, 8, none⟩ = some (.int .i64 S.core) ∧ X.cell? ⟨r.nb, 12, none⟩ = some (ptr r.db) ∧ X.cell? ⟨xn, 3, none⟩ = some (.int .i64 n.blk)) T2 := ⟨hT3.hd (by decide), hT3.hd (by decide), ((hT3.sep.box 10 rfl).cell 3).trans n.get3⟩
  have HV := Lib.hid (TNot.ldV_at HRN.out hT3.lb.whole)
  have HU := Lib.hid hT3.pop.pop
  clear hT2 hT3 hY s5
  refine hK.out _ _ HS (fun hHeld2 => ?_)
  clear hK hHeld2 hHeld; have hHeld := HS; clear HS
  try simp only [Act.put, rns]
  refine wpAnyH_done (by kernel_rfl) ?_ _
  clear hHeld
  go_wp2
  have hv := HV.out
  refine bodyPost_ret (v := .agg (refuseN S n).cells) ?_ ?_ ?_
  · simp [results, Tryz.f121, asAddr, hv]
  · rfl
  exact ⟨rfl, HU.out⟩
set_option maxRecDepth 100000 in
set_option maxHeartbeats 4000000 in
theorem rasked_yes (h : RIs w0 W r S L) (n : Nt) (hn : n.Ok) (hk : n.kind = 4 ∨ n.kind = 5) (hap : ∀ b, bkI S.zs b = true → lnO r.p S.A b = none) (hno : DL.askedB S.d (meetsB S n) = false) : Calls Tryz.prog 121 #[ptr r.nb, .agg n.cells] W fun e W' => e = .returned (.agg (ackN2 r.p (askedS1 S n) n).cells) ∧ RIs w0 W' r (askedS2 r.p (askedS1 S n) n) L := by
  have HAP0 := Lib.hid hap
  clear hap
  obtain ⟨S1, hS1⟩ : ∃ s, askedS1 S n = s := ⟨_, rfl⟩
  rw [hS1]
  have HS1 := Lib.hid hS1
  clear hS1
  have hnN := Nt.Ok.isN hn.isU
  have hst := hn.stamp.1
  have h1 := (h.alloc n.cells NT).alloc TNot.Z NT
  rw [World.size_alloc] at h1
  obtain ⟨xn, hxn⟩ : ∃ x, W.heap.size = x := ⟨_, rfl⟩
  obtain ⟨xr, hxr⟩ : ∃ x, xn + 1 = x := ⟨_, rfl⟩
  obtain ⟨V, hV⟩ : ∃ V, (W.alloc (.cells n.cells NT)).alloc (.cells TNot.Z NT) = V := ⟨_, rfl⟩
  rw [hxn, hV, hxr] at h1
  have HH := Lib.hid (h1.upd0 (Upd.drew NoF V))
  have HN := Lib.hid hnN
  have HST := Lib.hid hst
  have hno' : DL.askedB S.d (meetsB S n) = false := hno
  clear h h1 hnN hst hno
  go_enter Tryz.func121, Tryz.ntmps121
  go_upto_region 1 with fail
  clear hxn hxr hV
  refine wp_region_held_drew (S := (fun X : World => X.cell? ⟨r.nb, 11, none⟩ = some (ptr r.rb) ∧ X.cell? ⟨r.nb, 12, none⟩ = some (ptr r.db) ∧ X.cell? ⟨xn, 0, none⟩ = some (.int .u8 n.kind) ∧ X.cell? ⟨xn, 3, none⟩ = some (.int .i64 n.blk) ∧ X.cell? ⟨xn, 4, none⟩ = some (.int .u64 n.stamp))) (by kernel_rfl) (⟨HH.out.hd (by decide), HH.out.hd (by decide), ((HH.out.sep.box 10 rfl).cell 0).trans n.get0, ((HH.out.sep.box 10 rfl).cell 3).trans n.get3, ((HH.out.sep.box 10 rfl).cell 4).trans n.get4⟩) (fun hHeld => ?_)
  obtain ⟨V0, hV0⟩ : ∃ X, V.drew = X := ⟨_, rfl⟩
  rw [hV0] at hHeld HH ⊢
  clear hV0
  refine rgn 0 (v := ?vq26) hHeld ?yq26 ?_
  case yq26 => (intro w hSw; obtain ⟨k0, k1, k2, k3, k4⟩ := hSw; go_simp; try with_reducible rfl)
  simp only [Act.put, rns]
  refine rgn 1 (v := ?vq27) hHeld ?yq27 ?_
  case yq27 => (intro w hSw; obtain ⟨k0, k1, k2, k3, k4⟩ := hSw; go_simp; try with_reducible rfl)
  simp only [Act.put, rns]
  refine rgn 2 (v := ?vq28) hHeld ?yq28 ?_
  case yq28 => (intro w hSw; obtain ⟨k0, k1, k2, k3, k4⟩ := hSw; go_simp; try with_reducible rfl)
  simp only [Act.put, rns]
  refine rgn 3 (v := ?vq29) hHeld ?yq29 ?_
  case yq29 => (intro w hSw; obtain ⟨k0, k1, k2, k3, k4⟩ := hSw; go_simp; try with_reducible rfl)
  simp only [Act.put, rns]
  refine rgn 4 (v := ?vq30) hHeld ?yq30 ?_
  case yq30 => (intro w hSw; obtain ⟨k0, k1, k2, k3, k4⟩ := hSw; go_simp; try with_reducible rfl)
  simp only [Act.put, rns]
  refine rgn 5 (v := ?vq31) hHeld ?yq31 ?_
  case yq31 => (intro w hSw; obtain ⟨k0, k1, k2, k3, k4⟩ := hSw; go_simp; try with_reducible rfl)
  simp only [Act.put, rns]
  refine rgn 6 (v := ?vq32) hHeld ?yq32 ?_
  case yq32 => (intro w hSw; obtain ⟨k0, k1, k2, k3, k4⟩ := hSw; go_simp; try with_reducible rfl)
  simp only [Act.put, rns]
  refine rgn 7 (v := ?vq33) hHeld ?yq33 ?_
  case yq33 => (intro w hSw; obtain ⟨k0, k1, k2, k3, k4⟩ := hSw; go_simp; try with_reducible rfl)
  simp only [Act.put, rns]
  refine rgn 8 (v := ?vq34) hHeld ?yq34 ?_
  case yq34 => (intro w hSw; obtain ⟨k0, k1, k2, k3, k4⟩ := hSw; go_simp; try with_reducible rfl)
  simp only [Act.put, rns]
  refine rgn 9 (v := ?vq35) hHeld ?yq35 ?_
  case yq35 => (intro w hSw; obtain ⟨k0, k1, k2, k3, k4⟩ := hSw; go_simp; try with_reducible rfl)
  simp only [Act.put, rns]
  refine rgn 10 (v := ?vq36) hHeld ?yq36 ?_
  case yq36 => (intro w hSw; obtain ⟨k0, k1, k2, k3, k4⟩ := hSw; go_simp; try with_reducible rfl)
  simp only [Act.put, rns]
  refine rgn 11 (v := ?vq37) hHeld ?yq37 ?_
  case yq37 => (intro w hSw; obtain ⟨k0, k1, k2, k3, k4⟩ := hSw; go_simp; try with_reducible rfl)
  simp only [Act.put, rns]
  refine rgn 13 (v := ?vq38) hHeld ?yq38 ?_
  case yq38 => (intro w hSw; obtain ⟨k0, k1, k2, k3, k4⟩ := hSw; go_simp; try with_reducible rfl)
  simp only [Act.put, rns]
  refine rgn 14 (v := ?vq39) hHeld ?yq39 ?_
  case yq39 => (intro w hSw; obtain ⟨k0, k1, k2, k3, k4⟩ := hSw; go_simp; try with_reducible rfl)
  simp only [Act.put, rns]
  refine reg_step (i := 12) (by kernel_rfl) rfl (by kernel_rfl) (fun K hK => ?_)
  go_simp
  refine (rmmeets_is HH.out n.kind n.blk).mono ?_
  rintro e V1 ⟨rfl, hu⟩
  have HH1 := Lib.hid (HH.out.upd0 hu)
  have HS : (fun X : World => X.cell? ⟨r.nb, 11, none⟩ = some (ptr r.rb) ∧ X.cell? ⟨r.nb, 12, none⟩ = some (ptr r.db) ∧ X.cell? ⟨xn, 0, none⟩ = some (.int .u8 n.kind) ∧ X.cell? ⟨xn, 3, none⟩ = some (.int .i64 n.blk) ∧ X.cell? ⟨xn, 4, none⟩ = some (.int .u64 n.stamp)) V1 := ⟨HH1.out.hd (by decide), HH1.out.hd (by decide), ((HH1.out.sep.box 10 rfl).cell 0).trans n.get0, ((HH1.out.sep.box 10 rfl).cell 3).trans n.get3, ((HH1.out.sep.box 10 rfl).cell 4).trans n.get4⟩
  clear hu
  go_wp2_with fail
  refine hK.out _ _ HS (fun hHeld2 => ?_)
  clear hK hHeld2 hHeld; have hHeld := HS; clear HS
  try simp only [Act.put, rns]
  refine reg_step (i := 15) (by kernel_rfl) rfl (by kernel_rfl) (fun K hK => ?_)
  go_simp
  refine (rdasked_is HH1.out (meetsB S n) n.stamp HST.out).mono ?_
  rw [hno']
  rintro e V2 ⟨rfl, hN⟩
  have HH2 : Hid (RIs w0 V2 r (askedS1 S n) _) := Lib.hid hN
  have HS : (fun X : World => X.cell? ⟨r.nb, 11, none⟩ = some (ptr r.rb) ∧ X.cell? ⟨r.nb, 12, none⟩ = some (ptr r.db) ∧ X.cell? ⟨xn, 0, none⟩ = some (.int .u8 n.kind) ∧ X.cell? ⟨xn, 3, none⟩ = some (.int .i64 n.blk) ∧ X.cell? ⟨xn, 4, none⟩ = some (.int .u64 n.stamp)) V2 := ⟨HH2.out.hd (by decide), HH2.out.hd (by decide), ((HH2.out.sep.box 10 rfl).cell 0).trans n.get0, ((HH2.out.sep.box 10 rfl).cell 3).trans n.get3, ((HH2.out.sep.box 10 rfl).cell 4).trans n.get4⟩
  clear hN
  go_wp2_with fail
  refine hK.out _ _ HS (fun hHeld2 => ?_)
  clear hK hHeld2 hHeld; have hHeld := HS; clear HS
  try simp only [Act.put, rns]
  refine wpAnyH_done (by kernel_rfl) ?_ _
  clear hHeld HH HH1 hno'
  have HT := Lib.hid (HH2.out.upd0 (Upd.drew NoF V2))
  have y5 := fun w => bd_note S 9 n.blk w
  have HYN : Hid (IsN 24 (noteP S 9 n.blk).cells) := Lib.hid (Nt.Ok.isN isUZ)
  go_upto_region 3 with fail
  refine wp_region_held_drew (S := (fun X : World => X.cell? ⟨r.nb, 8, none⟩ = some (.int .i64 S.core) ∧ X.cell? ⟨xn, 3, none⟩ = some (.int .i64 n.blk))) (by kernel_rfl) (⟨HT.out.hd (by decide), ((HT.out.sep.box 10 rfl).cell 3).trans n.get3⟩) (fun hHeld => ?_)
  obtain ⟨T0, hT0⟩ : ∃ X, V2.drew = X := ⟨_, rfl⟩
  rw [hT0] at hHeld HT ⊢
  clear hT0 HH2
  refine rgn 0 (v := ?vq40) hHeld ?yq40 ?_
  case yq40 => (intro w hSw; obtain ⟨k0, k1⟩ := hSw; go_simp; try with_reducible rfl)
  simp only [Act.put, rns]
  refine rgn 1 (v := ?vq41) hHeld ?yq41 ?_
  case yq41 => (intro w hSw; obtain ⟨k0, k1⟩ := hSw; go_simp; try with_reducible rfl)
  simp only [Act.put, rns]
  refine rgn 2 (v := ?vq42) hHeld ?yq42 ?_
  case yq42 => (intro w hSw; obtain ⟨k0, k1⟩ := hSw; go_simp; try with_reducible rfl)
  simp only [Act.put, rns]
  refine rgn 3 (v := ?vq43) hHeld ?yq43 ?_
  case yq43 => (intro w hSw; obtain ⟨k0, k1⟩ := hSw; go_simp; try with_reducible rfl)
  simp only [Act.put, rns]
  refine rgn 4 (v := ?vq44) hHeld ?yq44 ?_
  case yq44 => (intro w hSw; obtain ⟨k0, k1⟩ := hSw; go_simp; try with_reducible rfl)
  simp only [Act.put, rns]
  refine rgn 5 (v := ?vq45) hHeld ?yq45 ?_
  case yq45 => (intro w hSw; obtain ⟨k0, k1⟩ := hSw; go_simp; try with_reducible rfl)
  simp only [Act.put, rns]
  refine rgn 6 (v := ?vq46) hHeld ?yq46 ?_
  case yq46 => (intro w hSw; obtain ⟨k0, k1⟩ := hSw; go_simp; try with_reducible rfl)
  simp only [Act.put, rns]
  refine reg_step (i := 7) (by kernel_rfl) rfl (by kernel_rfl) (fun K hK => ?_)
  go_simp
  have HA1 := Lib.hid (HT.out.alloc TNot.Z NT)
  have HA2 := Lib.hid (HT.out.alloc (noteP S 9 n.blk).cells NT)
  have HS : (fun X : World => X.cell? ⟨r.nb, 8, none⟩ = some (.int .i64 S.core) ∧ X.cell? ⟨xn, 3, none⟩ = some (.int .i64 n.blk)) (T0.alloc (.cells TNot.Z NT)) := ⟨HA1.out.hd (by decide), ((HA1.out.sep.box 11 rfl).cell 3).trans n.get3⟩
  refine hK.out _ _ HS (fun hHeld2 => ?_)
  clear hK hHeld2 hHeld; have hHeld := HS; clear HS
  try simp only [Act.put, rns]
  refine reg_step (i := 8) (by kernel_rfl) rfl (by kernel_rfl) (fun K hK => ?_)
  have s5 := TNot.st_new HYN.out T0
  go_simp
  have HS : (fun X : World => X.cell? ⟨r.nb, 8, none⟩ = some (.int .i64 S.core) ∧ X.cell? ⟨xn, 3, none⟩ = some (.int .i64 n.blk)) (T0.alloc (.cells (noteP S 9 n.blk).cells NT)) := ⟨HA2.out.hd (by decide), ((HA2.out.sep.box 11 rfl).cell 3).trans n.get3⟩
  clear s5
  refine hK.out _ _ HS (fun hHeld2 => ?_)
  clear hK hHeld2 hHeld; have hHeld := HS; clear HS
  try simp only [Act.put, rns]
  refine wpAnyH_done (by kernel_rfl) ?_ _
  clear hHeld HA1 HT y5
  obtain ⟨y8, hy8⟩ : ∃ y8, T0.heap.size = y8 := ⟨_, rfl⟩
  obtain ⟨X5, hX5⟩ : ∃ X, T0.alloc (.cells (noteP S 9 n.blk).cells NT) = X := ⟨_, rfl⟩
  rw [hy8, hX5] at HA2
  obtain ⟨y0, hy0⟩ : ∃ y0, noteP S 9 n.blk = y0 := ⟨_, rfl⟩
  rw [hy0] at HA2 HYN
  have HY0 := Lib.hid hy0
  rw [HS1.out] at HA2
  have EH : Hid (∀ i : Nat, (S1.rhead r)[i]? = (S.rhead r)[i]?) := Lib.hid (by rw [← HS1.out]; exact fun _ => rfl)
  have EC : Hid (noteP S1 9 n.blk = y0) := Lib.hid (by rw [← HS1.out, ← hy0]; rfl)
  have HAP : Hid (∀ b, bkI S1.zs b = true → lnO r.p S1.A b = none) := Lib.hid (by rw [← HS1.out]; exact HAP0.out)
  clear hy0 HAP0
  go_upto_region 4 with fail
  rw [hy8, hX5]
  clear hy8 hX5
  go_cut [6, 7] from 46 to 56 (fun s6 s7 wx => ∃ (g6 : Nat), s6 = ptr g6 ∧ s7 = .bool (r.p.place S1.A n.blk).isSome ∧ Hid (RIs w0 wx r S1 (boxO g6 (r.p.fnd S1.A n.blk).cells LT :: boxO y8 y0.cells NT :: boxO xr TNot.Z NT :: boxO xn n.cells NT :: L)))
  case first =>
    have HD := Lib.hid (HA2.out.upd0 (Upd.drew NoF X5))
    have HLN := Lib.hid (Ln.Ok.isN (KA.fnd_ok (p := r.p) HA2.out.ok.ok.okA n.blk).isU)
    refine wp_region_held_drew (S := (fun X : World => X.cell? ⟨r.nb, 9, none⟩ = some (ptr r.p.kb) ∧ X.cell? ⟨xn, 3, none⟩ = some (.int .i64 n.blk))) (by kernel_rfl) (⟨(HD.out.hd (i := 9) (by decide)).trans ((EH.out 9).trans rfl), ((HD.out.sep.box 11 rfl).cell 3).trans n.get3⟩) (fun hHeld => ?_)
    obtain ⟨G0, hG0⟩ : ∃ X, X5.drew = X := ⟨_, rfl⟩
    rw [hG0] at hHeld HD ⊢
    clear hG0
    refine rgn 0 (v := ?vq47) hHeld ?yq47 ?_
    case yq47 => (intro w hSw; obtain ⟨k0, k1⟩ := hSw; go_simp; try with_reducible rfl)
    simp only [Act.put, rns]
    refine rgn 1 (v := ?vq48) hHeld ?yq48 ?_
    case yq48 => (intro w hSw; obtain ⟨k0, k1⟩ := hSw; go_simp; try with_reducible rfl)
    simp only [Act.put, rns]
    refine rgn 2 (v := ?vq49) hHeld ?yq49 ?_
    case yq49 => (intro w hSw; obtain ⟨k0, k1⟩ := hSw; go_simp; try with_reducible rfl)
    simp only [Act.put, rns]
    refine rgn 3 (v := ?vq50) hHeld ?yq50 ?_
    case yq50 => (intro w hSw; obtain ⟨k0, k1⟩ := hSw; go_simp; try with_reducible rfl)
    simp only [Act.put, rns]
    refine rgn 4 (v := ?vq51) hHeld ?yq51 ?_
    case yq51 => (intro w hSw; obtain ⟨k0, k1⟩ := hSw; go_simp; try with_reducible rfl)
    simp only [Act.put, rns]
    refine rgn 5 (v := ?vq52) hHeld ?yq52 ?_
    case yq52 => (intro w hSw; obtain ⟨k0, k1⟩ := hSw; go_simp; try with_reducible rfl)
    simp only [Act.put, rns]
    refine reg_two (i := 6) (j := 10) (by kernel_rfl) rfl rfl (by kernel_rfl) (by kernel_rfl) (fun K hK => ?_) (fun K hK => ?_)
    · go_simp
      refine (rcfind_is HD.out n.blk).mono ?_
      rintro e W2 ⟨rfl, hu⟩
      have HA2 := Lib.hid (HD.out.upd0 hu)
      have HS : (fun X : World => X.cell? ⟨r.nb, 9, none⟩ = some (ptr r.p.kb) ∧ X.cell? ⟨xn, 3, none⟩ = some (.int .i64 n.blk)) W2 := ⟨(HA2.out.hd (i := 9) (by decide)).trans ((EH.out 9).trans rfl), ((HA2.out.sep.box 11 rfl).cell 3).trans n.get3⟩
      clear hu
      go_wp2_with fail
      refine hK.out _ _ HS (fun hHeld2 => ?_)
      clear hK hHeld2 hHeld; have hHeld := HS; clear HS
      try simp only [Act.put, rns]
      refine rgn 7 (v := ?vq53) hHeld ?yq53 ?_
      case yq53 => (intro w hSw; go_simp; try with_reducible rfl)
      simp only [Act.put, rns]
      refine rgn 8 (v := ?vq54) hHeld ?yq54 ?_
      case yq54 => (intro w hSw; go_simp; try with_reducible rfl)
      simp only [Act.put, rns]
      refine rgn 9 (v := ?vq55) hHeld ?yq55 ?_
      case yq55 => (intro w hSw; go_simp; try with_reducible rfl)
      simp only [Act.put, rns]
      refine reg_step (i := 10) (by kernel_rfl) rfl (by kernel_rfl) (fun K hK => ?_)
      go_simp
      have s1 := TLin.st_new HLN.out W2
      have HA3 := Lib.hid (HA2.out.alloc TLin.Z LT)
      have HA4 := Lib.hid (HA2.out.alloc ((r.p.fnd S1.A n.blk).cells) LT)
      have HS : (fun X : World => X.cell? ⟨r.nb, 9, none⟩ = some (ptr r.p.kb) ∧ X.cell? ⟨xn, 3, none⟩ = some (.int .i64 n.blk)) (W2.alloc (.cells TLin.Z LT)) := ⟨(HA3.out.hd (i := 9) (by decide)).trans ((EH.out 9).trans rfl), ((HA3.out.sep.box 12 rfl).cell 3).trans n.get3⟩
      refine hK.out _ _ HS (fun hHeld2 => ?_)
      clear hK hHeld2 hHeld; have hHeld := HS; clear HS
      try simp only [Act.put, rns]
      refine reg_step (i := 11) (by kernel_rfl) rfl (by kernel_rfl) (fun K hK => ?_)
      go_simp
      have HS : (fun X : World => X.cell? ⟨r.nb, 9, none⟩ = some (ptr r.p.kb) ∧ X.cell? ⟨xn, 3, none⟩ = some (.int .i64 n.blk)) (W2.alloc (.cells ((r.p.fnd S1.A n.blk).cells) LT)) := ⟨(HA4.out.hd (i := 9) (by decide)).trans ((EH.out 9).trans rfl), ((HA4.out.sep.box 12 rfl).cell 3).trans n.get3⟩
      clear s1
      refine hK.out _ _ HS (fun hHeld2 => ?_)
      clear hK hHeld2 hHeld; have hHeld := HS; clear HS
      try simp only [Act.put, rns]
      refine rgn 12 (v := ?vq56) hHeld ?yq56 ?_
      case yq56 => (intro w hSw; go_simp; try with_reducible rfl)
      simp only [Act.put, rns]
      refine wpAnyH_done (by kernel_rfl) ?_ _
      go_wp2_with fail
      go_meet
      exact ⟨_, rfl, rfl, HA4⟩
    · go_simp
      have HB1 := Lib.hid (HD.out.alloc TLin.Z LT)
      have HS : (fun X : World => X.cell? ⟨r.nb, 9, none⟩ = some (ptr r.p.kb) ∧ X.cell? ⟨xn, 3, none⟩ = some (.int .i64 n.blk)) (G0.alloc (.cells TLin.Z LT)) := ⟨(HB1.out.hd (i := 9) (by decide)).trans ((EH.out 9).trans rfl), ((HB1.out.sep.box 12 rfl).cell 3).trans n.get3⟩
      refine hK.out _ _ HS (fun hHeld2 => ?_)
      clear hK hHeld2 hHeld; have hHeld := HS; clear HS
      try simp only [Act.put, rns]
      refine reg_step (i := 6) (by kernel_rfl) rfl (by kernel_rfl) (fun K hK => ?_)
      go_simp
      refine (rcfind_is HB1.out n.blk).mono ?_
      rintro e W2 ⟨rfl, hu⟩
      have HB2 := Lib.hid (HB1.out.upd0 hu)
      have HS : (fun X : World => X.cell? ⟨r.nb, 9, none⟩ = some (ptr r.p.kb) ∧ X.cell? ⟨xn, 3, none⟩ = some (.int .i64 n.blk)) W2 := ⟨(HB2.out.hd (i := 9) (by decide)).trans ((EH.out 9).trans rfl), ((HB2.out.sep.box 12 rfl).cell 3).trans n.get3⟩
      have s1 := (TLin.st_at TLin.isZ HLN.out HB2.out.lb).1
      have HB3 := Lib.hid (HB2.out.setAt 0 rfl (vs := (r.p.fnd S1.A n.blk).cells) (HLN.out.1.trans TLin.size_Z.symm))
      clear hu
      go_wp2_with fail
      refine hK.out _ _ HS (fun hHeld2 => ?_)
      clear hK hHeld2 hHeld; have hHeld := HS; clear HS
      try simp only [Act.put, rns]
      refine rgn 7 (v := ?vq57) hHeld ?yq57 ?_
      case yq57 => (intro w hSw; go_simp; try with_reducible rfl)
      simp only [Act.put, rns]
      refine rgn 8 (v := ?vq58) hHeld ?yq58 ?_
      case yq58 => (intro w hSw; go_simp; try with_reducible rfl)
      simp only [Act.put, rns]
      refine rgn 9 (v := ?vq59) hHeld ?yq59 ?_
      case yq59 => (intro w hSw; go_simp; try with_reducible rfl)
      simp only [Act.put, rns]
      refine reg_step (i := 11) (by kernel_rfl) rfl (by kernel_rfl) (fun K hK => ?_)
      go_simp
      have HS : (fun X : World => X.cell? ⟨r.nb, 9, none⟩ = some (ptr r.p.kb) ∧ X.cell? ⟨xn, 3, none⟩ = some (.int .i64 n.blk)) (W2.setCells G0.heap.size 0 ((r.p.fnd S1.A n.blk).cells).toList) := ⟨(HB3.out.hd (i := 9) (by decide)).trans ((EH.out 9).trans rfl), ((HB3.out.sep.box 12 rfl).cell 3).trans n.get3⟩
      clear s1
      refine hK.out _ _ HS (fun hHeld2 => ?_)
      clear hK hHeld2 hHeld; have hHeld := HS; clear HS
      try simp only [Act.put, rns]
      refine rgn 12 (v := ?vq60) hHeld ?yq60 ?_
      case yq60 => (intro w hSw; go_simp; try with_reducible rfl)
      simp only [Act.put, rns]
      refine wpAnyH_done (by kernel_rfl) ?_ _
      go_wp2_with fail
      go_meet
      exact ⟨_, rfl, rfl, HB3⟩
  case rest =>
  obtain ⟨g6, rfl, rfl, hN6⟩ := hcut
  clear HA2
  have HFS := Lib.hid (fun hp => fnd_st hN6.out.ok (b := n.blk) hp)
  have HLU := Lib.hid (KA.fnd_ok (p := r.p) hN6.out.ok.ok.okA n.blk).isU
  have HFL := Lib.hid (place_lnO (p := r.p) (A := S1.A) n.blk)
  have HY : ackN1 r.p S1 n = if (r.p.place S1.A n.blk).isSome && ((r.p.fnd S1.A n.blk).st != 1) then { noteP S1 9 n.blk with has := true, D := (r.p.fnd S1.A n.blk).D } else noteP S1 9 n.blk := rfl
  have HY2 : ackN2 r.p S1 n = if bkL S1.zs n.blk then { ackN1 r.p S1 n with has := true, D := bkD S1.zs n.blk } else ackN1 r.p S1 n := rfl
  rw [HY, EC.out] at HY2
  have HYY := Lib.hid HY2
  have HYU : Hid (IsU (ackN2 r.p S1 n).D) := Lib.hid (ackN2_isU hN6.out.ok.ok n)
  clear HY HY2
  generalize r.p.fnd S1.A n.blk = l at *
  go_upto_region 5 with fail
  go_cut [8, 9, 10] from 56 to 67 (fun s8 s9 s10 wx => ∃ (g8 : Nat), s8 = ptr g8 ∧ s9 = .bool (bkL S1.zs n.blk) ∧ s10 = .bool (bkI S1.zs n.blk) ∧ Hid (RIs w0 wx r S1 (boxO g8 (bkD S1.zs n.blk) BT :: boxO g6 l.cells LT :: boxO y8 y0.cells NT :: boxO xr TNot.Z NT :: boxO xn n.cells NT :: L)))
  case first =>
    have HD := Lib.hid (hN6.out.upd0 (Upd.drew NoF wc))
    have HLN := Lib.hid (isU_N (bkD_isU hN6.out.ok.ok.allU n.blk))
    refine wp_region_held_drew (S := (fun X : World => X.cell? ⟨r.nb, 10, none⟩ = some (ptr r.bb) ∧ X.cell? ⟨xn, 3, none⟩ = some (.int .i64 n.blk))) (by kernel_rfl) (⟨(HD.out.hd (i := 10) (by decide)).trans ((EH.out 10).trans rfl), ((HD.out.sep.box 12 rfl).cell 3).trans n.get3⟩) (fun hHeld => ?_)
    obtain ⟨G0, hG0⟩ : ∃ X, wc.drew = X := ⟨_, rfl⟩
    rw [hG0] at hHeld HD ⊢
    clear hG0
    refine rgn 0 (v := ?vq61) hHeld ?yq61 ?_
    case yq61 => (intro w hSw; obtain ⟨k0, k1⟩ := hSw; go_simp; try with_reducible rfl)
    simp only [Act.put, rns]
    refine rgn 1 (v := ?vq62) hHeld ?yq62 ?_
    case yq62 => (intro w hSw; obtain ⟨k0, k1⟩ := hSw; go_simp; try with_reducible rfl)
    simp only [Act.put, rns]
    refine rgn 2 (v := ?vq63) hHeld ?yq63 ?_
    case yq63 => (intro w hSw; obtain ⟨k0, k1⟩ := hSw; go_simp; try with_reducible rfl)
    simp only [Act.put, rns]
    refine rgn 3 (v := ?vq64) hHeld ?yq64 ?_
    case yq64 => (intro w hSw; obtain ⟨k0, k1⟩ := hSw; go_simp; try with_reducible rfl)
    simp only [Act.put, rns]
    refine rgn 4 (v := ?vq65) hHeld ?yq65 ?_
    case yq65 => (intro w hSw; obtain ⟨k0, k1⟩ := hSw; go_simp; try with_reducible rfl)
    simp only [Act.put, rns]
    refine rgn 5 (v := ?vq66) hHeld ?yq66 ?_
    case yq66 => (intro w hSw; obtain ⟨k0, k1⟩ := hSw; go_simp; try with_reducible rfl)
    simp only [Act.put, rns]
    refine reg_two (i := 6) (j := 11) (by kernel_rfl) rfl rfl (by kernel_rfl) (by kernel_rfl) (fun K hK => ?_) (fun K hK => ?_)
    · go_simp
      refine (rbfind_is HD.out n.blk).mono ?_
      rintro e W2 ⟨rfl, hu⟩
      have HA2 := Lib.hid (HD.out.upd0 hu)
      have HS : (fun X : World => X.cell? ⟨r.nb, 10, none⟩ = some (ptr r.bb) ∧ X.cell? ⟨xn, 3, none⟩ = some (.int .i64 n.blk)) W2 := ⟨(HA2.out.hd (i := 10) (by decide)).trans ((EH.out 10).trans rfl), ((HA2.out.sep.box 12 rfl).cell 3).trans n.get3⟩
      clear hu
      go_wp2_with fail
      refine hK.out _ _ HS (fun hHeld2 => ?_)
      clear hK hHeld2 hHeld; have hHeld := HS; clear HS
      try simp only [Act.put, rns]
      refine rgn 7 (v := ?vq67) hHeld ?yq67 ?_
      case yq67 => (intro w hSw; go_simp; try with_reducible rfl)
      simp only [Act.put, rns]
      refine rgn 8 (v := ?vq68) hHeld ?yq68 ?_
      case yq68 => (intro w hSw; go_simp; try with_reducible rfl)
      simp only [Act.put, rns]
      refine rgn 9 (v := ?vq69) hHeld ?yq69 ?_
      case yq69 => (intro w hSw; go_simp; try with_reducible rfl)
      simp only [Act.put, rns]
      refine rgn 10 (v := ?vq70) hHeld ?yq70 ?_
      case yq70 => (intro w hSw; go_simp; try with_reducible rfl)
      simp only [Act.put, rns]
      refine reg_step (i := 11) (by kernel_rfl) rfl (by kernel_rfl) (fun K hK => ?_)
      go_simp
      have s1 := TBlk.st_new HLN.out W2
      have HA3 := Lib.hid (HA2.out.alloc TBlk.Z BT)
      have HA4 := Lib.hid (HA2.out.alloc (bkD S1.zs n.blk) BT)
      have HS : (fun X : World => X.cell? ⟨r.nb, 10, none⟩ = some (ptr r.bb) ∧ X.cell? ⟨xn, 3, none⟩ = some (.int .i64 n.blk)) (W2.alloc (.cells TBlk.Z BT)) := ⟨(HA3.out.hd (i := 10) (by decide)).trans ((EH.out 10).trans rfl), ((HA3.out.sep.box 13 rfl).cell 3).trans n.get3⟩
      refine hK.out _ _ HS (fun hHeld2 => ?_)
      clear hK hHeld2 hHeld; have hHeld := HS; clear HS
      try simp only [Act.put, rns]
      refine reg_step (i := 12) (by kernel_rfl) rfl (by kernel_rfl) (fun K hK => ?_)
      go_simp
      have HS : (fun X : World => X.cell? ⟨r.nb, 10, none⟩ = some (ptr r.bb) ∧ X.cell? ⟨xn, 3, none⟩ = some (.int .i64 n.blk)) (W2.alloc (.cells (bkD S1.zs n.blk) BT)) := ⟨(HA4.out.hd (i := 10) (by decide)).trans ((EH.out 10).trans rfl), ((HA4.out.sep.box 13 rfl).cell 3).trans n.get3⟩
      clear s1
      refine hK.out _ _ HS (fun hHeld2 => ?_)
      clear hK hHeld2 hHeld; have hHeld := HS; clear HS
      try simp only [Act.put, rns]
      refine rgn 13 (v := ?vq71) hHeld ?yq71 ?_
      case yq71 => (intro w hSw; go_simp; try with_reducible rfl)
      simp only [Act.put, rns]
      refine rgn 14 (v := ?vq72) hHeld ?yq72 ?_
      case yq72 => (intro w hSw; go_simp; try with_reducible rfl)
      simp only [Act.put, rns]
      refine wpAnyH_done (by kernel_rfl) ?_ _
      go_wp2_with fail
      go_meet
      exact ⟨_, rfl, rfl, rfl, HA4⟩
    · go_simp
      have HB1 := Lib.hid (HD.out.alloc TBlk.Z BT)
      have HS : (fun X : World => X.cell? ⟨r.nb, 10, none⟩ = some (ptr r.bb) ∧ X.cell? ⟨xn, 3, none⟩ = some (.int .i64 n.blk)) (G0.alloc (.cells TBlk.Z BT)) := ⟨(HB1.out.hd (i := 10) (by decide)).trans ((EH.out 10).trans rfl), ((HB1.out.sep.box 13 rfl).cell 3).trans n.get3⟩
      refine hK.out _ _ HS (fun hHeld2 => ?_)
      clear hK hHeld2 hHeld; have hHeld := HS; clear HS
      try simp only [Act.put, rns]
      refine reg_step (i := 6) (by kernel_rfl) rfl (by kernel_rfl) (fun K hK => ?_)
      go_simp
      refine (rbfind_is HB1.out n.blk).mono ?_
      rintro e W2 ⟨rfl, hu⟩
      have HB2 := Lib.hid (HB1.out.upd0 hu)
      have HS : (fun X : World => X.cell? ⟨r.nb, 10, none⟩ = some (ptr r.bb) ∧ X.cell? ⟨xn, 3, none⟩ = some (.int .i64 n.blk)) W2 := ⟨(HB2.out.hd (i := 10) (by decide)).trans ((EH.out 10).trans rfl), ((HB2.out.sep.box 13 rfl).cell 3).trans n.get3⟩
      have s1 := (TBlk.st_at TBlk.isZ HLN.out HB2.out.lb).1
      have HB3 := Lib.hid (HB2.out.setAt 0 rfl (vs := bkD S1.zs n.blk) (HLN.out.1.trans TBlk.size_Z.symm))
      clear hu
      go_wp2_with fail
      refine hK.out _ _ HS (fun hHeld2 => ?_)
      clear hK hHeld2 hHeld; have hHeld := HS; clear HS
      try simp only [Act.put, rns]
      refine rgn 7 (v := ?vq73) hHeld ?yq73 ?_
      case yq73 => (intro w hSw; go_simp; try with_reducible rfl)
      simp only [Act.put, rns]
      refine rgn 8 (v := ?vq74) hHeld ?yq74 ?_
      case yq74 => (intro w hSw; go_simp; try with_reducible rfl)
      simp only [Act.put, rns]
      refine rgn 9 (v := ?vq75) hHeld ?yq75 ?_
      case yq75 => (intro w hSw; go_simp; try with_reducible rfl)
      simp only [Act.put, rns]
      refine rgn 10 (v := ?vq76) hHeld ?yq76 ?_
      case yq76 => (intro w hSw; go_simp; try with_reducible rfl)
      simp only [Act.put, rns]
      refine reg_step (i := 12) (by kernel_rfl) rfl (by kernel_rfl) (fun K hK => ?_)
      go_simp
      have HS : (fun X : World => X.cell? ⟨r.nb, 10, none⟩ = some (ptr r.bb) ∧ X.cell? ⟨xn, 3, none⟩ = some (.int .i64 n.blk)) (W2.setCells G0.heap.size 0 (bkD S1.zs n.blk).toList) := ⟨(HB3.out.hd (i := 10) (by decide)).trans ((EH.out 10).trans rfl), ((HB3.out.sep.box 13 rfl).cell 3).trans n.get3⟩
      clear s1
      refine hK.out _ _ HS (fun hHeld2 => ?_)
      clear hK hHeld2 hHeld; have hHeld := HS; clear HS
      try simp only [Act.put, rns]
      refine rgn 13 (v := ?vq77) hHeld ?yq77 ?_
      case yq77 => (intro w hSw; go_simp; try with_reducible rfl)
      simp only [Act.put, rns]
      refine rgn 14 (v := ?vq78) hHeld ?yq78 ?_
      case yq78 => (intro w hSw; go_simp; try with_reducible rfl)
      simp only [Act.put, rns]
      refine wpAnyH_done (by kernel_rfl) ?_ _
      go_wp2_with fail
      go_meet
      exact ⟨_, rfl, rfl, rfl, HB3⟩
  case rest =>
  obtain ⟨g8, rfl, rfl, rfl, hN8⟩ := hcut
  clear hN6
  have HLI : Hid (bkL S1.zs n.blk = true → bkI S1.zs n.blk = true) := Lib.hid (fun h => by unfold bkL at h; unfold bkI; cases hf : BK.findB S1.zs n.blk with | none => rw [hf] at h; cases h | some z => rfl)
  go_step
  go_step
  go_cut [7, 9] from 67 to 88 (fun s7 s9 wx => s7 = .bool (r.p.place S1.A n.blk).isSome ∧ Hid (RIs w0 wx r { S1 with zs := BK.killS S1.zs n.blk } (boxO g8 (bkD S1.zs n.blk) BT :: boxO g6 l.cells LT :: boxO y8 (ackN2 r.p S1 n).cells NT :: boxO xr TNot.Z NT :: boxO xn n.cells NT :: L)))
  case first =>
    have c1 := (hN8.out.lb2.cell 1).trans l.get1
    have HDU := Lib.hid (bkD_isU hN8.out.ok.ok.allU n.blk)
    cases hp : (r.p.place S1.A n.blk).isSome
    · cases hlv : bkL S1.zs n.blk
      · have hk := Lib.hid (kill_dead hlv)
        go_wp2_with fail
        go_meet
        rw [HYY.out, hp, hlv, hk.out]
        exact ⟨rfl, hN8⟩
      · have c6 := ((hN8.out.lbAt 2 rfl).cell 6).trans y0.get6
        have f6 : _ = false := (hN8.out.lbAt 2 rfl).frozen 6
        have hN9 := hN8.out.set1 2 rfl 6 (.bool true)
        obtain ⟨Wa, hWa⟩ : ∃ X, wc.setCell ⟨y8, 6, none⟩ (.bool true) = X := ⟨_, rfl⟩
        rw [hWa] at hN9
        have l1 : (TBlk.ld (.pointer (some ⟨g8, 0, none⟩))).run Tryz.prog Wa = .ok (.agg (bkD S1.zs n.blk)) Wa := TBlk.ld_at (isU_N HDU.out) (hN9.lbAt 0 rfl).whole
        have hY0U : IsU y0.D := by rw [← HY0.out]; exact isUZ
        have s8 : (TBlk.st (.pointer (some ⟨y8, 8, none⟩)) (.agg (bkD S1.zs n.blk))).run Tryz.prog Wa = .ok () (Wa.setCells y8 8 (bkD S1.zs n.blk).toList) := bst_mid (isU_N HDU.out) (hN9.lbAt 2 rfl) (o := 8) (by rw [Array.size_setIfInBounds, (Nt.Ok.isN hY0U).1]; decide)
        have hN10 := hN9.setIn 2 rfl 8 (bkD S1.zs n.blk).toList
        rw [set_has, set_data { y0 with has := true } hY0U.1 HDU.out.1] at hN10
        obtain ⟨Wb, hWb⟩ : ∃ X, Wa.setCells y8 8 (bkD S1.zs n.blk).toList = X := ⟨_, rfl⟩
        rw [hWb] at hN10 s8
        have HN10 := Lib.hid (hN10.upd0 (Upd.drew NoF Wb))
        have HLV := Lib.hid hlv
        have HP := Lib.hid hp
        clear hN10 hN9 hlv hY0U hp hWb
        generalize bkD S1.zs n.blk = D at *
        go_upto_region 12 with fail
        clear l1 s8 c6 f6 hWa
        refine wp_region_held_drew (S := (fun X : World => X.cell? ⟨r.nb, 10, none⟩ = some (ptr r.bb) ∧ X.cell? ⟨xn, 3, none⟩ = some (.int .i64 n.blk))) (by kernel_rfl) (⟨(HN10.out.hd (i := 10) (by decide)).trans ((EH.out 10).trans rfl), ((HN10.out.lbAt 4 rfl).cell 3).trans n.get3⟩) (fun hHeld => ?_)
        obtain ⟨Wd, hWd⟩ : ∃ X, Wb.drew = X := ⟨_, rfl⟩
        rw [hWd] at hHeld HN10 ⊢
        clear hWd
        refine rgn 0 (v := ?vq79) hHeld ?yq79 ?_
        case yq79 => (intro w hSw; obtain ⟨k0, k1⟩ := hSw; go_simp; try with_reducible rfl)
        simp only [Act.put, rns]
        refine rgn 1 (v := ?vq80) hHeld ?yq80 ?_
        case yq80 => (intro w hSw; obtain ⟨k0, k1⟩ := hSw; go_simp; try with_reducible rfl)
        simp only [Act.put, rns]
        refine rgn 2 (v := ?vq81) hHeld ?yq81 ?_
        case yq81 => (intro w hSw; obtain ⟨k0, k1⟩ := hSw; go_simp; try with_reducible rfl)
        simp only [Act.put, rns]
        refine rgn 3 (v := ?vq82) hHeld ?yq82 ?_
        case yq82 => (intro w hSw; obtain ⟨k0, k1⟩ := hSw; go_simp; try with_reducible rfl)
        simp only [Act.put, rns]
        refine rgn 4 (v := ?vq83) hHeld ?yq83 ?_
        case yq83 => (intro w hSw; obtain ⟨k0, k1⟩ := hSw; go_simp; try with_reducible rfl)
        simp only [Act.put, rns]
        refine rgn 5 (v := ?vq84) hHeld ?yq84 ?_
        case yq84 => (intro w hSw; obtain ⟨k0, k1⟩ := hSw; go_simp; try with_reducible rfl)
        simp only [Act.put, rns]
        refine reg_step (i := 6) (by kernel_rfl) rfl (by kernel_rfl) (fun K hK => ?_)
        go_simp
        refine (rbkill_is HN10.out n.blk).mono ?_
        rintro e We ⟨rfl, hN2⟩
        have HS : (fun X : World => X.cell? ⟨r.nb, 10, none⟩ = some (ptr r.bb) ∧ X.cell? ⟨xn, 3, none⟩ = some (.int .i64 n.blk)) We := ⟨(hN2.hd (i := 10) (by decide)).trans ((EH.out 10).trans rfl), ((hN2.lbAt 4 rfl).cell 3).trans n.get3⟩
        have HN11 := Lib.hid hN2
        clear hN2
        go_wp2_with fail
        refine hK.out _ _ HS (fun hHeld2 => ?_)
        clear hK hHeld2 hHeld; have hHeld := HS; clear HS
        try simp only [Act.put, rns]
        refine wpAnyH_done (by kernel_rfl) ?_ _
        clear hHeld
        go_wp2_with fail
        go_meet
        rw [HYY.out, HP.out, HLV.out]
        exact ⟨rfl, HN11⟩
    · cases hs : (l.st != 1)
      · have hst2 : ¬ (2 : Int) ≤ l.st := by
          have h3 : l.st = 1 := by simpa using hs
          omega
        have hlv : bkL S1.zs n.blk = false := by
          cases hq : bkL S1.zs n.blk with
          | false => rfl
          | true =>
            have h1 := HAP.out _ (HLI.out hq)
            have h2 := HFL.out
            rw [hp, h1] at h2
            cases h2
        have hk := Lib.hid (kill_dead hlv)
        rw [hlv]
        go_wp2_with fail
        go_meet
        rw [HYY.out, hp, hs, hlv, hk.out]
        exact ⟨rfl, hN8⟩
      · have hst2 : (2 : Int) ≤ l.st := by
          have h2 := HFS.out hp
          have h3 : l.st ≠ 1 := by simpa using hs
          omega
        have hlv : bkL S1.zs n.blk = false := by
          cases hq : bkL S1.zs n.blk with
          | false => rfl
          | true =>
            have h1 := HAP.out _ (HLI.out hq)
            have h2 := HFL.out
            rw [hp, h1] at h2
            cases h2
        have hk := Lib.hid (kill_dead hlv)
        have c6 := ((hN8.out.lbAt 2 rfl).cell 6).trans y0.get6
        have f6 : _ = false := (hN8.out.lbAt 2 rfl).frozen 6
        have hN9 := hN8.out.set1 2 rfl 6 (.bool true)
        obtain ⟨Wa, hWa⟩ : ∃ X, wc.setCell ⟨y8, 6, none⟩ (.bool true) = X := ⟨_, rfl⟩
        rw [hWa] at hN9
        have l1 : (TBlk.ld (.pointer (some ⟨g6, 2, none⟩))).run Tryz.prog Wa = .ok (.agg l.D) Wa := TBlk.ld_at (isU_N HLU.out) ((hN9.lbAt 1 rfl).range 2 _ (fun j v hv => (l.getD j).trans (by simpa using hv)))
        have hY0U : IsU y0.D := by rw [← HY0.out]; exact isUZ
        have s8 : (TBlk.st (.pointer (some ⟨y8, 8, none⟩)) (.agg l.D)).run Tryz.prog Wa = .ok () (Wa.setCells y8 8 l.D.toList) := bst_mid (isU_N HLU.out) (hN9.lbAt 2 rfl) (o := 8) (by rw [Array.size_setIfInBounds, (Nt.Ok.isN hY0U).1]; decide)
        have hN10 := hN9.setIn 2 rfl 8 l.D.toList
        rw [set_has, set_data { y0 with has := true } hY0U.1 HLU.out.1] at hN10
        have HN10 := Lib.hid hN10
        have HS_ := Lib.hid hs
        clear hN10 hN9 hs hY0U
        rw [hlv]
        go_wp2_with fail
        go_meet
        rw [HYY.out, hp, HS_.out, hlv, hk.out]
        exact ⟨rfl, HN10⟩
  case rest =>
  obtain ⟨rfl, hN9⟩ := hcut
  generalize hy2 : ackN2 r.p S1 n = y2 at hN9 HYU ⊢
  have HY2 := Lib.hid hy2
  have HAA : Hid (askedS2 r.p S1 n = { S1 with zs := BK.killS S1.zs n.blk, A := if n.kind = 5 then r.p.drpA S1.A n.blk else if (r.p.place S1.A n.blk).isSome then r.p.trnA S1.A n.blk 1 else S1.A }) := Lib.hid rfl
  clear hy2 hN8 HYY HAP HLI HFL HFS
  generalize bkD S1.zs n.blk = D at *
  obtain ⟨S2, hS2⟩ : ∃ s, askedS2 r.p S1 n = s := ⟨_, rfl⟩
  rw [hS2] at HAA
  have HS2 := Lib.hid hS2
  clear hS2
  go_step
  go_step
  go_cut [7] from 88 to 98 (fun s7 wx => s7 = .bool (r.p.place S1.A n.blk).isSome ∧ Hid (RIs w0 wx r { S1 with zs := BK.killS S1.zs n.blk, A := if n.kind = 5 then r.p.drpA S1.A n.blk else S1.A } (boxO g8 D BT :: boxO g6 l.cells LT :: boxO y8 y2.cells NT :: boxO xr TNot.Z NT :: boxO xn n.cells NT :: L)))
  case first =>
    have k0 := ((hN9.out.lbAt 4 rfl).cell 0).trans n.get0
    by_cases h5 : n.kind = 5
    · have hk5 : (n.kind == 5) = true := by simp [h5]
      have H5 := Lib.hid h5
      have HN10 := Lib.hid (hN9.out.upd0 (Upd.drew NoF wc))
      clear h5
      go_upto_region 14 with fail
      refine wp_region_held_drew (S := (fun X : World => X.cell? ⟨r.nb, 9, none⟩ = some (ptr r.p.kb) ∧ X.cell? ⟨xn, 3, none⟩ = some (.int .i64 n.blk))) (by kernel_rfl) (⟨(HN10.out.hd (i := 9) (by decide)).trans ((EH.out 9).trans rfl), ((HN10.out.lbAt 4 rfl).cell 3).trans n.get3⟩) (fun hHeld => ?_)
      obtain ⟨Wd, hWd⟩ : ∃ X, wc.drew = X := ⟨_, rfl⟩
      rw [hWd] at hHeld HN10 ⊢
      clear hWd
      refine rgn 0 (v := ?vq85) hHeld ?yq85 ?_
      case yq85 => (intro w hSw; obtain ⟨k0, k1⟩ := hSw; go_simp; try with_reducible rfl)
      simp only [Act.put, rns]
      refine rgn 1 (v := ?vq86) hHeld ?yq86 ?_
      case yq86 => (intro w hSw; obtain ⟨k0, k1⟩ := hSw; go_simp; try with_reducible rfl)
      simp only [Act.put, rns]
      refine rgn 2 (v := ?vq87) hHeld ?yq87 ?_
      case yq87 => (intro w hSw; obtain ⟨k0, k1⟩ := hSw; go_simp; try with_reducible rfl)
      simp only [Act.put, rns]
      refine rgn 3 (v := ?vq88) hHeld ?yq88 ?_
      case yq88 => (intro w hSw; obtain ⟨k0, k1⟩ := hSw; go_simp; try with_reducible rfl)
      simp only [Act.put, rns]
      refine rgn 4 (v := ?vq89) hHeld ?yq89 ?_
      case yq89 => (intro w hSw; obtain ⟨k0, k1⟩ := hSw; go_simp; try with_reducible rfl)
      simp only [Act.put, rns]
      refine rgn 5 (v := ?vq90) hHeld ?yq90 ?_
      case yq90 => (intro w hSw; obtain ⟨k0, k1⟩ := hSw; go_simp; try with_reducible rfl)
      simp only [Act.put, rns]
      refine reg_step (i := 6) (by kernel_rfl) rfl (by kernel_rfl) (fun K hK => ?_)
      go_simp
      refine (rcdrop_is HN10.out n.blk).mono ?_
      rintro e We ⟨rfl, hN2⟩
      have HS : (fun X : World => X.cell? ⟨r.nb, 9, none⟩ = some (ptr r.p.kb) ∧ X.cell? ⟨xn, 3, none⟩ = some (.int .i64 n.blk)) We := ⟨(hN2.hd (i := 9) (by decide)).trans ((EH.out 9).trans rfl), ((hN2.lbAt 4 rfl).cell 3).trans n.get3⟩
      have HN11 := Lib.hid hN2
      clear hN2
      go_wp2_with fail
      refine hK.out _ _ HS (fun hHeld2 => ?_)
      clear hK hHeld2 hHeld; have hHeld := HS; clear HS
      try simp only [Act.put, rns]
      refine wpAnyH_done (by kernel_rfl) ?_ _
      clear hHeld
      go_wp2_with fail
      go_meet
      rw [if_pos H5.out]
      exact ⟨rfl, HN11⟩
    · have hk5 : (n.kind == 5) = false := by simp [h5]
      have H5 := Lib.hid h5
      clear h5
      go_wp2_with fail
      go_meet
      rw [if_neg H5.out]
      exact ⟨rfl, hN9⟩
  case rest =>
  obtain ⟨rfl, hNA⟩ := hcut
  clear hN9
  have k0 := ((hNA.out.lbAt 4 rfl).cell 0).trans n.get0
  rcases hk with h4 | h5
  · have hk4 : (n.kind == 4) = true := by simp [h4]
    have hk5 : ¬ n.kind = 5 := by omega
    rw [if_neg hk5] at hNA
    have HA4 := HAA.out
    rw [if_neg hk5] at HA4
    have HA4 := Lib.hid HA4
    clear h4 hk5 HAA
    cases hp : (r.p.place S1.A n.blk).isSome
    · rw [hp] at HA4
      have EA : Hid (S2 = { S1 with zs := BK.killS S1.zs n.blk }) := Lib.hid HA4.out
      have HE : Hid (RIs w0 wc r S2 _) := Lib.hid (by rw [EA.out]; exact hNA.out)
      have l2 := TNot.ld_at (Nt.Ok.isN HYU.out) (HE.out.lbAt 2 rfl).whole
      have s2 := (TNot.st_at TNot.isZ (Nt.Ok.isN HYU.out) (HE.out.lbAt 3 rfl)).1
      have hF := HE.out.setAt 3 rfl (vs := y2.cells) ((Nt.Ok.isN HYU.out).1.trans TNot.size_Z.symm)
      obtain ⟨WF, hWF⟩ : ∃ X, (wc).setCells xr 0 y2.cells.toList = X := ⟨_, rfl⟩
      rw [hWF] at s2 hF
      have HV := Lib.hid (TNot.ldV_at (Nt.Ok.isN HYU.out) (hF.lbAt 3 rfl).whole)
      have HU := Lib.hid hF.pop.pop.pop.pop.pop
      clear hF hWF
      obtain ⟨x, hx⟩ : ∃ x, y2.cells = x := ⟨_, rfl⟩
      rw [hx] at l2 s2 HV
      have HX := Lib.hid hx
      clear hx
      go_wp2
      have hv := HV.out
      refine bodyPost_ret (v := .agg x) ?_ ?_ ?_
      · simp [results, Tryz.f121, asAddr, hv]
      · rfl
      exact ⟨by rw [HY2.out, HX.out], by rw [HS2.out]; exact HU.out⟩
    · rw [hp] at HA4
      have EA : Hid (S2 = { S1 with zs := BK.killS S1.zs n.blk, A := r.p.trnA S1.A n.blk 1 }) := Lib.hid HA4.out
      have HN10 := Lib.hid (hNA.out.upd0 (Upd.drew NoF wc))
      go_upto_region 16 with fail
      refine wp_region_held_drew (S := (fun X : World => X.cell? ⟨r.nb, 9, none⟩ = some (ptr r.p.kb) ∧ X.cell? ⟨xn, 3, none⟩ = some (.int .i64 n.blk))) (by kernel_rfl) (⟨(HN10.out.hd (i := 9) (by decide)).trans ((EH.out 9).trans rfl), ((HN10.out.lbAt 4 rfl).cell 3).trans n.get3⟩) (fun hHeld => ?_)
      obtain ⟨Wd, hWd⟩ : ∃ X, wc.drew = X := ⟨_, rfl⟩
      rw [hWd] at hHeld HN10 ⊢
      clear hWd
      refine rgn 0 (v := ?vq91) hHeld ?yq91 ?_
      case yq91 => (intro w hSw; obtain ⟨k0, k1⟩ := hSw; go_simp; try with_reducible rfl)
      simp only [Act.put, rns]
      refine rgn 1 (v := ?vq92) hHeld ?yq92 ?_
      case yq92 => (intro w hSw; obtain ⟨k0, k1⟩ := hSw; go_simp; try with_reducible rfl)
      simp only [Act.put, rns]
      refine rgn 2 (v := ?vq93) hHeld ?yq93 ?_
      case yq93 => (intro w hSw; obtain ⟨k0, k1⟩ := hSw; go_simp; try with_reducible rfl)
      simp only [Act.put, rns]
      refine rgn 3 (v := ?vq94) hHeld ?yq94 ?_
      case yq94 => (intro w hSw; obtain ⟨k0, k1⟩ := hSw; go_simp; try with_reducible rfl)
      simp only [Act.put, rns]
      refine rgn 4 (v := ?vq95) hHeld ?yq95 ?_
      case yq95 => (intro w hSw; obtain ⟨k0, k1⟩ := hSw; go_simp; try with_reducible rfl)
      simp only [Act.put, rns]
      refine rgn 5 (v := ?vq96) hHeld ?yq96 ?_
      case yq96 => (intro w hSw; obtain ⟨k0, k1⟩ := hSw; go_simp; try with_reducible rfl)
      simp only [Act.put, rns]
      refine reg_step (i := 6) (by kernel_rfl) rfl (by kernel_rfl) (fun K hK => ?_)
      go_simp
      refine (rcturn_is HN10.out n.blk 1 (by decide)).mono ?_
      rintro e We ⟨rfl, hN2⟩
      have HS : (fun X : World => X.cell? ⟨r.nb, 9, none⟩ = some (ptr r.p.kb) ∧ X.cell? ⟨xn, 3, none⟩ = some (.int .i64 n.blk)) We := ⟨(hN2.hd (i := 9) (by decide)).trans ((EH.out 9).trans rfl), ((hN2.lbAt 4 rfl).cell 3).trans n.get3⟩
      have HN11 := Lib.hid hN2
      clear hN2
      go_wp2_with fail
      refine hK.out _ _ HS (fun hHeld2 => ?_)
      clear hK hHeld2 hHeld; have hHeld := HS; clear HS
      try simp only [Act.put, rns]
      refine wpAnyH_done (by kernel_rfl) ?_ _
      clear hHeld
      have HE : Hid (RIs w0 We r S2 _) := Lib.hid (by rw [EA.out]; exact HN11.out)
      have l2 := TNot.ld_at (Nt.Ok.isN HYU.out) (HE.out.lbAt 2 rfl).whole
      have s2 := (TNot.st_at TNot.isZ (Nt.Ok.isN HYU.out) (HE.out.lbAt 3 rfl)).1
      have hF := HE.out.setAt 3 rfl (vs := y2.cells) ((Nt.Ok.isN HYU.out).1.trans TNot.size_Z.symm)
      obtain ⟨WF, hWF⟩ : ∃ X, (We).setCells xr 0 y2.cells.toList = X := ⟨_, rfl⟩
      rw [hWF] at s2 hF
      have HV := Lib.hid (TNot.ldV_at (Nt.Ok.isN HYU.out) (hF.lbAt 3 rfl).whole)
      have HU := Lib.hid hF.pop.pop.pop.pop.pop
      clear hF hWF
      obtain ⟨x, hx⟩ : ∃ x, y2.cells = x := ⟨_, rfl⟩
      rw [hx] at l2 s2 HV
      have HX := Lib.hid hx
      clear hx
      go_wp2
      have hv := HV.out
      refine bodyPost_ret (v := .agg x) ?_ ?_ ?_
      · simp [results, Tryz.f121, asAddr, hv]
      · rfl
      exact ⟨by rw [HY2.out, HX.out], by rw [HS2.out]; exact HU.out⟩
  · have hk4 : (n.kind == 4) = false := by simp [h5]
    rw [if_pos h5] at hNA
    have EA := HAA.out
    rw [if_pos h5] at EA
    have EA := Lib.hid EA
    have HE : Hid (RIs w0 wc r S2 _) := Lib.hid (by rw [EA.out]; exact hNA.out)
    clear h5 HAA
    have l2 := TNot.ld_at (Nt.Ok.isN HYU.out) (HE.out.lbAt 2 rfl).whole
    have s2 := (TNot.st_at TNot.isZ (Nt.Ok.isN HYU.out) (HE.out.lbAt 3 rfl)).1
    have hF := HE.out.setAt 3 rfl (vs := y2.cells) ((Nt.Ok.isN HYU.out).1.trans TNot.size_Z.symm)
    obtain ⟨WF, hWF⟩ : ∃ X, (wc).setCells xr 0 y2.cells.toList = X := ⟨_, rfl⟩
    rw [hWF] at s2 hF
    have HV := Lib.hid (TNot.ldV_at (Nt.Ok.isN HYU.out) (hF.lbAt 3 rfl).whole)
    have HU := Lib.hid hF.pop.pop.pop.pop.pop
    clear hF hWF
    obtain ⟨x, hx⟩ : ∃ x, y2.cells = x := ⟨_, rfl⟩
    rw [hx] at l2 s2 HV
    have HX := Lib.hid hx
    clear hx
    go_wp2
    have hv := HV.out
    refine bodyPost_ret (v := .agg x) ?_ ?_ ?_
    · simp [results, Tryz.f121, asAddr, hv]
    · rfl
    exact ⟨by rw [HY2.out, HX.out], by rw [HS2.out]; exact HU.out⟩
def askedO (p : Kp) (S : Ns) (n : Nt) : Nt := if DL.askedB S.d (meetsB S n) then refuseN S n else ackN2 p (askedS1 S n) n
theorem rnasked_is (h : RIs w0 W r S L) (n : Nt) (hn : n.Ok) (hk : n.kind = 4 ∨ n.kind = 5) (hap : ∀ b, bkI S.zs b = true → lnO r.p S.A b = none) : Calls Tryz.prog 121 #[ptr r.nb, .agg n.cells] W fun e W' => e = .returned (.agg (askedO r.p S n).cells) ∧ (askedR r.p S n).out = [askedO r.p S n] ∧ IsU (askedO r.p S n).D ∧ RIs w0 W' r (askedR r.p S n).S L := by
  unfold askedR askedO
  cases hc : DL.askedB S.d (meetsB S n)
  · exact (rasked_yes h n hn hk hap hc).mono fun e W' ⟨he, hs⟩ => ⟨he, rfl, ackN2_isU (Ns.Ok.asked1 h.ok.ok n) n, hs⟩
  · exact (rasked_no h n hn hc).mono fun e W' ⟨he, hs⟩ => ⟨he, rfl, isUZ, hs⟩
end
end Go.Proofs.YtjgeflbhmhmjdaaGreat.NR
