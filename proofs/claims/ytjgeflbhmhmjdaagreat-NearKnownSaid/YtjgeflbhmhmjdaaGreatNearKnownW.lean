/- NearKnown: the document's examples; no near. -/
import Derived.Test.YtjgeflbhmhmjdaaGreatNearKn
import Derived.Test.YtjgeflbhmhmjdaaGreatCacheGd
set_option linter.unusedSimpArgs false
set_option linter.unusedVariables false
namespace Go.Proofs.YtjgeflbhmhmjdaaGreat.NR
open Go.RowKit
open BU (IsU words)
open PL (Cfg CC CV May)
open KA (Kp CIs OkA LT UT KT)
open DL (DS CD SV stampE)
attribute [local go_sem] Oper.semAt_some
attribute [local go_sem ↓] TNot.ld_eq TNot.st_eq TNot.al_eq TNot.bx_eq TBlk.ld_eq TBlk.st_eq TBlk.al_eq TBlk.bx_eq TLin.ld_eq TLin.st_eq TLin.al_eq TLin.bx_eq bsN_eq bsM_eq bdB_eq
attribute [local go_sem] TNot.al_run TNot.bx_run TBlk.al_run TBlk.bx_run TLin.al_run TLin.bx_run
theorem known_head (w : World) : Calls Tryz.prog 7 #[] w fun e W' => e = .returned (.bool true) ∧ Sep NoF w W' [] := works_is (Sep.zero NoF w)
set_option maxRecDepth 100000 in
set_option maxHeartbeats 16000000 in
theorem known_is (w0 W : World) (h : Sep NoF w0 W []) : Calls Tryz.prog 3 #[] W fun e W' => e = .returned (.bool true) ∧ Sep NoF w0 W' [] := by
  have HS0 := Lib.hid h
  clear h
  go_enter Tryz.func3, Tryz.ntmps3
  go_wp2_with fail
  refine (two_any _).mono ?_
  rintro e w1 ⟨rfl, hu⟩
  have HS1 := Lib.hid (HS0.out.upd0 hu)
  clear hu
  go_wp2_with fail
  refine (near_new HS1.out twoC may_two 0 (by decide) (by decide)).mono ?_
  rintro e w2 ⟨a, rfl, hs⟩
  have HS2 : Hid (NIs w0 w2 a N0 []) := Lib.hid hs
  have HF : Hid (a.p.Fits twoC) := Lib.hid hs.ok.fits
  clear hs
  go_wp2_with fail
  refine (works_is HS2.out.sep).mono ?_
  rintro e w3 ⟨rfl, hs⟩
  have HS3 : Hid (NIs w0 w3 a N0 []) := Lib.hid ⟨hs, HS2.out.ok⟩
  clear hs
  go_wp2_with fail
  refine (up_any 2 3 _).mono ?_
  rintro e w4 ⟨rfl, hu⟩
  have hs := (HS3.out.upd0 hu).alloc (upN 2 3).cells NT
  have y3 := bsN_run (Nt.Ok.isN (n := upN 2 3) isUZ).1 w4
  have HS4 : Hid (NIs w0 _ a N0 (outO (sl w4.heap.size 1 1) [upN 2 3] :: [])) := Lib.hid (hs.toOut isUZ)
  clear hs hu
  go_wp2_with fail
  refine (asks_is HS4.out 3 true _ [upN 2 3] 0 rfl (fun m hm => by simp at hm; subst hm; exact isUZ) (n1 HF.out) (nogo HF.out 3)).mono ?_
  rintro e w5 ⟨rfl, hs⟩
  have HS5 : Hid (NIs w0 w5 a (N1 a.p) []) := Lib.hid hs.pop
  clear hs y3
  go_wp2_with fail
  refine (gv_any 3 3 _).mono ?_
  rintro e w6 ⟨rfl, hu⟩
  have HS6 := Lib.hid (HS5.out.upd0 hu)
  clear hu
  go_wp2_with fail
  refine (up_any 11 3 _).mono ?_
  rintro e w7 ⟨rfl, hu⟩
  have hs := (HS6.out.upd0 hu).alloc (upN 11 3).cells NT
  have y3 := bsN_run (Nt.Ok.isN (n := upN 11 3) isUZ).1 w7
  have HS7 : Hid (NIs w0 _ a (N1 a.p) (outO (sl w7.heap.size 1 1) [upN 11 3] :: [])) := Lib.hid (hs.toOut isUZ)
  clear hs hu
  go_wp2_with fail
  refine (takes_is HS7.out (gvN 3 3) (gv_ok 3 3 (by decide)) fit3 _ [upN 11 3] 0 rfl (fun m hm => by simp at hm; subst hm; exact isUZ) (n2 HF.out)).mono ?_
  rintro e w8 ⟨rfl, hs⟩
  have HS8 : Hid (NIs w0 w8 a (N2 a.p) []) := Lib.hid hs.pop
  clear hs y3
  go_wp2_with fail
  refine (store_is HS8.out (by rw [(n3 HF.out).2.2]; decide) 3 0 7 fit3).mono ?_
  rw [(n3 HF.out).1, (n3 HF.out).2.1]
  rintro e w9 ⟨rfl, hs⟩
  have HS9 : Hid (NIs w0 w9 a (N3 a.p) []) := Lib.hid hs
  clear hs
  go_wp2_with fail
  refine (up_any 3 3 _).mono ?_
  rintro e wa ⟨rfl, hu⟩
  have HSa := Lib.hid (HS9.out.upd0 hu)
  clear hu
  go_wp2_with fail
  refine (up_any 9 3 _).mono ?_
  rintro e wb ⟨rfl, hu⟩
  have HSb := Lib.hid (HSa.out.upd0 hu)
  clear hu
  have na : IsN 24 (upN 3 3).cells := Nt.Ok.isN isUZ
  have nb : IsN 24 (upN 9 3).cells := Nt.Ok.isN isUZ
  have hs := (HSb.out.alloc TNot.Z NT).alloc TNot.Z NT
  rw [World.size_alloc] at hs
  obtain ⟨xa, hxa⟩ : ∃ x, wb.heap.size = x := ⟨_, rfl⟩
  obtain ⟨V, hV⟩ : ∃ V, (wb.alloc (.cells TNot.Z NT)).alloc (.cells TNot.Z NT) = V := ⟨_, rfl⟩
  rw [hxa, hV] at hs
  obtain ⟨xc, hxc⟩ : ∃ x, xa + 1 = x := ⟨_, rfl⟩
  rw [hxc] at hs
  have r1 := (TNot.st_at TNot.isZ na hs.lb2).1
  have hs5 := hs.setA2 (vs := (upN 3 3).cells) (by rw [na.1, TNot.size_Z])
  obtain ⟨V1, hV1⟩ : ∃ X, V.setCells xa 0 (upN 3 3).cells.toList = X := ⟨_, rfl⟩
  rw [hV1] at r1 hs5
  have r2 := (TNot.st_at TNot.isZ nb hs5.lb).1
  have hs6 := hs5.setA (vs := (upN 9 3).cells) (by rw [nb.1, TNot.size_Z])
  obtain ⟨V2, hV2⟩ : ∃ X, V1.setCells xc 0 (upN 9 3).cells.toList = X := ⟨_, rfl⟩
  rw [hV2] at r2 hs6
  have HSc := Lib.hid hs6
  clear hs hs5 hs6 hV1 hV2
  go_upto_region 6 with fail
  clear r1 r2 hxa hV
  have yb := fun w => bdB_run w
  have c0 : V2.cell? ⟨xa, 6, none⟩ = some (.bool false) := (HSc.out.lb2.cell 6).trans (by kernel_rfl)
  have f0 : V2.frozen? ⟨xa, 6, none⟩ = false := HSc.out.lb2.frozen 6
  have s0 := HSc.out.setL2 6 (.bool true)
  obtain ⟨V3, hV3⟩ : ∃ X, V2.setCell ⟨xa, 6, none⟩ (.bool true) = X := ⟨_, rfl⟩
  rw [hV3] at s0
  have r3 := bst_mid (isU_N isU_7) s0.lb2 (o := 8) (by rw [Array.size_setIfInBounds, na.1]; decide)
  have s1 := s0.setM2 8 D7.toList
  obtain ⟨V4, hV4⟩ : ∃ X, V3.setCells xa 8 D7.toList = X := ⟨_, rfl⟩
  rw [hV4] at r3 s1
  have c1 : V4.cell? ⟨xc, 6, none⟩ = some (.bool false) := (s1.lb.cell 6).trans (by kernel_rfl)
  have f1 : V4.frozen? ⟨xc, 6, none⟩ = false := s1.lb.frozen 6
  have s2 := s1.setL 6 (.bool true)
  obtain ⟨V5, hV5⟩ : ∃ X, V4.setCell ⟨xc, 6, none⟩ (.bool true) = X := ⟨_, rfl⟩
  rw [hV5] at s2
  have r4 := bst_mid (isU_N isU_7) s2.lb (o := 8) (by rw [Array.size_setIfInBounds, nb.1]; decide)
  have s3 := s2.setM 8 D7.toList
  obtain ⟨V6, hV6⟩ : ∃ X, V5.setCells xc 8 D7.toList = X := ⟨_, rfl⟩
  rw [hV6] at r4 s3
  rw [pt_cells, ac_cells] at s3
  have HSd := Lib.hid s3
  clear s0 s1 s2 s3 hV4 hV6 na nb HSa HSb HSc
  go_upto_region 7 with fail
  clear r3 r4 c0 c1 f0 f1 hV3 hV5 yb
  (try simp only [hxc])
  clear hxc
  have HPN := Lib.hid (Nt.Ok.isN pt_ok.isU)
  have HAN := Lib.hid (Nt.Ok.isN ac_ok.isU)
  have HSk1 := Lib.hid (HSd.out.upd0 (Upd.drew NoF V6))
  refine wp_region_held_drew (S := (fun X => Blk X xa pt7.cells NT ∧ Blk X xc ac7.cells NT)) (by kernel_rfl) (⟨HSk1.out.sep.box 9 rfl, HSk1.out.sep.box 8 rfl⟩) (fun hHeld => ?_)
  obtain ⟨z1, hX0⟩ : ∃ X, V6.drew = X := ⟨_, rfl⟩
  rw [hX0] at hHeld HSk1 ⊢
  clear hX0
  refine rgn 0 (v := ?vq1) hHeld ?yq1 ?_
  case yq1 => (intro w hSw; go_simp; try with_reducible rfl)
  simp only [Act.put, rn1, rn2, rn3, rn4, rn5, rn6]
  refine rgn 1 (v := ?vq2) hHeld ?yq2 ?_
  case yq2 => (intro w hSw; (try dsimp only at hSw); have l0 := TNot.ld_at HPN.out hSw.1.whole; go_simp; try with_reducible rfl)
  simp only [Act.put, rn1, rn2, rn3, rn4, rn5, rn6]
  refine reg_step (i := 2) (by kernel_rfl) rfl (by kernel_rfl) (fun K hK => ?_)
  go_simp
  refine (up_any 1 5 _).mono ?_
  rintro e z2 ⟨rfl, hu⟩
  have HSk2 := Lib.hid (HSk1.out.upd0 hu)
  have HS : (fun X => Blk X xa pt7.cells NT ∧ Blk X xc ac7.cells NT) z2 := ⟨HSk2.out.sep.box 9 rfl, HSk2.out.sep.box 8 rfl⟩
  clear hu
  go_wp2_with fail
  refine hK.out _ _ HS (fun hHeld2 => ?_)
  clear hK hHeld2 hHeld; have hHeld := HS; clear HS
  try simp only [Act.put, rn1, rn2, rn3, rn4, rn5, rn6]
  refine reg_step (i := 3) (by kernel_rfl) rfl (by kernel_rfl) (fun K hK => ?_)
  have bs := bsM_run (Nt.Ok.isN (n := pt7) isU_7).1 (Nt.Ok.isN (n := (upN 1 5)) isUZ).1 z2
  go_simp
  have hs := (HSk2.out.alloc (pt7.cells ++ (upN 1 5).cells) NT).toOut2 (m := pt7) (n := (upN 1 5)) isU_7 isUZ
  obtain ⟨z3, hy⟩ : ∃ X, (z2).alloc (.cells (pt7.cells ++ (upN 1 5).cells) NT) = X := ⟨_, rfl⟩
  obtain ⟨gz3, hz⟩ : ∃ g, (z2).heap.size = g := ⟨_, rfl⟩
  rw [hy, hz] at hs
  have HSk3 := Lib.hid hs
  have HS : (fun X => Blk X xa pt7.cells NT ∧ Blk X xc ac7.cells NT) z3 := ⟨HSk3.out.sep.box 10 rfl, HSk3.out.sep.box 9 rfl⟩
  simp only [hy, hz]
  clear hs bs hy hz
  refine hK.out _ _ HS (fun hHeld2 => ?_)
  clear hK hHeld2 hHeld; have hHeld := HS; clear HS
  try simp only [Act.put, rn1, rn2, rn3, rn4, rn5, rn6]
  refine reg_step (i := 4) (by kernel_rfl) rfl (by kernel_rfl) (fun K hK => ?_)
  go_simp
  refine (asks_is HSk3.out 5 false _ [pt7, upN 1 5] 0 rfl (fun m hm => by simp at hm; rcases hm with rfl | rfl; exact isU_7; exact isUZ) (m4 HF.out) (fun _ => by rw [g4 HF.out]; exact fit3)).mono ?_
  rintro e z4 ⟨rfl, hs⟩
  have HSk4 := Lib.hid hs
  have HS : (fun X => Blk X xa pt7.cells NT ∧ Blk X xc ac7.cells NT) z4 := ⟨HSk4.out.sep.box 10 rfl, HSk4.out.sep.box 9 rfl⟩
  clear hs
  go_wp2_with fail
  refine hK.out _ _ HS (fun hHeld2 => ?_)
  clear hK hHeld2 hHeld; have hHeld := HS; clear HS
  try simp only [Act.put, rn1, rn2, rn3, rn4, rn5, rn6]
  refine rgn 5 (v := .bool false) hHeld ?yq3 ?_
  case yq3 => (intro w hSw; go_simp; try with_reducible rfl)
  simp only [Act.put, rn1, rn2, rn3, rn4, rn5, rn6]
  refine rgn 6 (v := .bool false) hHeld ?yq4 ?_
  case yq4 => (intro w hSw; go_simp; try with_reducible rfl)
  simp only [Act.put, rn1, rn2, rn3, rn4, rn5, rn6]
  refine rgn 7 (v := ?vq5) hHeld ?yq5 ?_
  case yq5 => (intro w hSw; go_simp; try with_reducible rfl)
  simp only [Act.put, rn1, rn2, rn3, rn4, rn5, rn6]
  refine reg_step (i := 8) (by kernel_rfl) rfl (by kernel_rfl) (fun K hK => ?_)
  go_simp
  refine (gv_any 5 1 _).mono ?_
  rintro e z5 ⟨rfl, hu⟩
  have HSk5 := Lib.hid (HSk4.out.upd0 hu)
  have HS : (fun X => Blk X xa pt7.cells NT ∧ Blk X xc ac7.cells NT) z5 := ⟨HSk5.out.sep.box 10 rfl, HSk5.out.sep.box 9 rfl⟩
  clear hu
  go_wp2_with fail
  refine hK.out _ _ HS (fun hHeld2 => ?_)
  clear hK hHeld2 hHeld; have hHeld := HS; clear HS
  try simp only [Act.put, rn1, rn2, rn3, rn4, rn5, rn6]
  refine reg_step (i := 9) (by kernel_rfl) rfl (by kernel_rfl) (fun K hK => ?_)
  go_simp
  refine (up_any 11 5 _).mono ?_
  rintro e z6 ⟨rfl, hu⟩
  have HSk6 := Lib.hid (HSk5.out.upd0 hu)
  have HS : (fun X => Blk X xa pt7.cells NT ∧ Blk X xc ac7.cells NT) z6 := ⟨HSk6.out.sep.box 10 rfl, HSk6.out.sep.box 9 rfl⟩
  clear hu
  go_wp2_with fail
  refine hK.out _ _ HS (fun hHeld2 => ?_)
  clear hK hHeld2 hHeld; have hHeld := HS; clear HS
  try simp only [Act.put, rn1, rn2, rn3, rn4, rn5, rn6]
  refine reg_step (i := 10) (by kernel_rfl) rfl (by kernel_rfl) (fun K hK => ?_)
  have bs := bsN_run (Nt.Ok.isN (n := (upN 11 5)) isUZ).1 z6
  go_simp
  have hs := (HSk6.out.alloc ((upN 11 5).cells) NT).toOut (n := (upN 11 5)) isUZ
  obtain ⟨z7, hy⟩ : ∃ X, (z6).alloc (.cells ((upN 11 5).cells) NT) = X := ⟨_, rfl⟩
  obtain ⟨gz7, hz⟩ : ∃ g, (z6).heap.size = g := ⟨_, rfl⟩
  rw [hy, hz] at hs
  have HSk7 := Lib.hid hs
  have HS : (fun X => Blk X xa pt7.cells NT ∧ Blk X xc ac7.cells NT) z7 := ⟨HSk7.out.sep.box 11 rfl, HSk7.out.sep.box 10 rfl⟩
  simp only [hy, hz]
  clear hs bs hy hz
  refine hK.out _ _ HS (fun hHeld2 => ?_)
  clear hK hHeld2 hHeld; have hHeld := HS; clear HS
  try simp only [Act.put, rn1, rn2, rn3, rn4, rn5, rn6]
  refine reg_step (i := 11) (by kernel_rfl) rfl (by kernel_rfl) (fun K hK => ?_)
  go_simp
  refine (takes_is HSk7.out (gvN 5 1) (gv_ok 5 1 (by decide)) fit5 _ [upN 11 5] 0 rfl (fun m hm => by simp at hm; subst hm; exact isUZ) (m5 HF.out)).mono ?_
  rintro e z8 ⟨rfl, hs⟩
  have HSk8 := Lib.hid hs
  have HS : (fun X => Blk X xa pt7.cells NT ∧ Blk X xc ac7.cells NT) z8 := ⟨HSk8.out.sep.box 11 rfl, HSk8.out.sep.box 10 rfl⟩
  clear hs
  go_wp2_with fail
  refine hK.out _ _ HS (fun hHeld2 => ?_)
  clear hK hHeld2 hHeld; have hHeld := HS; clear HS
  try simp only [Act.put, rn1, rn2, rn3, rn4, rn5, rn6]
  refine rgn 12 (v := .bool false) hHeld ?yq6 ?_
  case yq6 => (intro w hSw; go_simp; try with_reducible rfl)
  simp only [Act.put, rn1, rn2, rn3, rn4, rn5, rn6]
  refine rgn 13 (v := .bool false) hHeld ?yq7 ?_
  case yq7 => (intro w hSw; go_simp; try with_reducible rfl)
  simp only [Act.put, rn1, rn2, rn3, rn4, rn5, rn6]
  refine wpAnyH_done (by kernel_rfl) ?_ _
  clear hHeld
  have ht := ask_is HSk8.out 3 false (fun _ => by rw [g5 HF.out]; exact fit5)
  rw [e5 HF.out] at ht
  have ht : Calls Tryz.prog 13 #[ptr a.nb, .int .i64 3, .bool false] z8 fun e W' => ∃ v, e = .returned (.tuple #[.bool false, v, .int .i64 110]) ∧ NIs w0 W' a (N5 a.p) (outO v [] :: _) := ht
  have HT := Lib.hid ht
  clear ht
  go_wp2_with fail
  refine HT.out.mono ?_
  rintro e z9 ⟨va, rfl, hs⟩
  have HSk9 := Lib.hid hs.pop
  clear hs HT
  go_upto_region 10 with fail
  have HSk10 := Lib.hid (HSk9.out.upd0 (Upd.drew NoF z9))
  refine wp_region_held_drew (S := (fun X => Blk X xa pt7.cells NT ∧ Blk X xc ac7.cells NT)) (by kernel_rfl) (⟨HSk10.out.sep.box 11 rfl, HSk10.out.sep.box 10 rfl⟩) (fun hHeld => ?_)
  obtain ⟨z10, hX0⟩ : ∃ X, z9.drew = X := ⟨_, rfl⟩
  rw [hX0] at hHeld HSk10 ⊢
  clear hX0
  refine rgn 0 (v := ?vq8) hHeld ?yq8 ?_
  case yq8 => (intro w hSw; go_simp; try with_reducible rfl)
  simp only [Act.put, rn1, rn2, rn3, rn4, rn5, rn6]
  refine rgn 1 (v := .bool false) hHeld ?yq9 ?_
  case yq9 => (intro w hSw; go_simp; try with_reducible rfl)
  simp only [Act.put, rn1, rn2, rn3, rn4, rn5, rn6]
  refine rgn 2 (v := .bool false) hHeld ?yq10 ?_
  case yq10 => (intro w hSw; go_simp; try with_reducible rfl)
  simp only [Act.put, rn1, rn2, rn3, rn4, rn5, rn6]
  refine rgn 3 (v := ?vq11) hHeld ?yq11 ?_
  case yq11 => (intro w hSw; go_simp; try with_reducible rfl)
  simp only [Act.put, rn1, rn2, rn3, rn4, rn5, rn6]
  refine rgn 5 (v := ?vq12) hHeld ?yq12 ?_
  case yq12 => (intro w hSw; (try dsimp only at hSw); have l0 := TNot.ld_at HAN.out hSw.2.whole; go_simp; try with_reducible rfl)
  simp only [Act.put, rn1, rn2, rn3, rn4, rn5, rn6]
  refine reg_two (i := 4) (j := 6) (by kernel_rfl) rfl rfl (by kernel_rfl) (by kernel_rfl) (fun K hK => ?_) (fun K hK => ?_)
  · go_simp
    refine (dn_any 5 3 _).mono ?_
    rintro e z11 ⟨rfl, hu⟩
    have HSk11 := Lib.hid (HSk10.out.upd0 hu)
    have HS : (fun X => Blk X xa pt7.cells NT ∧ Blk X xc ac7.cells NT) z11 := ⟨HSk11.out.sep.box 11 rfl, HSk11.out.sep.box 10 rfl⟩
    clear hu
    go_wp2_with fail
    refine hK.out _ _ HS (fun hHeld2 => ?_)
    clear hK hHeld2 hHeld; have hHeld := HS; clear HS
    try simp only [Act.put, rn1, rn2, rn3, rn4, rn5, rn6]
    refine reg_step (i := 6) (by kernel_rfl) rfl (by kernel_rfl) (fun K hK => ?_)
    have bs := bsN_run (Nt.Ok.isN (n := ac7) isU_7).1 z11
    go_simp
    have hs := (HSk11.out.alloc (ac7.cells) NT).toOut (n := ac7) isU_7
    obtain ⟨z12, hy⟩ : ∃ X, (z11).alloc (.cells (ac7.cells) NT) = X := ⟨_, rfl⟩
    obtain ⟨gz12, hz⟩ : ∃ g, (z11).heap.size = g := ⟨_, rfl⟩
    rw [hy, hz] at hs
    have HSk12 := Lib.hid hs
    have HS : (fun X => Blk X xa pt7.cells NT ∧ Blk X xc ac7.cells NT) z12 := ⟨HSk12.out.sep.box 12 rfl, HSk12.out.sep.box 11 rfl⟩
    simp only [hy, hz]
    clear hs bs hy hz
    refine hK.out _ _ HS (fun hHeld2 => ?_)
    clear hK hHeld2 hHeld; have hHeld := HS; clear HS
    try simp only [Act.put, rn1, rn2, rn3, rn4, rn5, rn6]
    refine reg_step (i := 7) (by kernel_rfl) rfl (by kernel_rfl) (fun K hK => ?_)
    go_simp
    refine (takes_is HSk12.out (dnN 5 3) (dn_ok 5 3 (by decide)) fit3 _ [ac7] 0 rfl (fun m hm => by simp at hm; subst hm; exact isU_7) (m6 HF.out)).mono ?_
    rintro e z13 ⟨rfl, hs⟩
    have HSk13 := Lib.hid hs
    have HS : (fun X => Blk X xa pt7.cells NT ∧ Blk X xc ac7.cells NT) z13 := ⟨HSk13.out.sep.box 12 rfl, HSk13.out.sep.box 11 rfl⟩
    clear hs
    go_wp2_with fail
    refine hK.out _ _ HS (fun hHeld2 => ?_)
    clear hK hHeld2 hHeld; have hHeld := HS; clear HS
    try simp only [Act.put, rn1, rn2, rn3, rn4, rn5, rn6]
    refine rgn 8 (v := .bool false) hHeld ?yq13 ?_
    case yq13 => (intro w hSw; go_simp; try with_reducible rfl)
    simp only [Act.put, rn1, rn2, rn3, rn4, rn5, rn6]
    refine rgn 9 (v := .bool false) hHeld ?yq14 ?_
    case yq14 => (intro w hSw; go_simp; try with_reducible rfl)
    simp only [Act.put, rn1, rn2, rn3, rn4, rn5, rn6]
    refine rgn 10 (v := .bool false) hHeld ?yq15 ?_
    case yq15 => (intro w hSw; go_simp; try with_reducible rfl)
    simp only [Act.put, rn1, rn2, rn3, rn4, rn5, rn6]
    refine rgn 11 (v := ?vq16) hHeld ?yq16 ?_
    case yq16 => (intro w hSw; go_simp; try with_reducible rfl)
    simp only [Act.put, rn1, rn2, rn3, rn4, rn5, rn6]
    refine reg_step (i := 12) (by kernel_rfl) rfl (by kernel_rfl) (fun K hK => ?_)
    go_simp
    refine (dn_any 8 3 _).mono ?_
    rintro e z14 ⟨rfl, hu⟩
    have HSk14 := Lib.hid (HSk13.out.upd0 hu)
    have HS : (fun X => Blk X xa pt7.cells NT ∧ Blk X xc ac7.cells NT) z14 := ⟨HSk14.out.sep.box 12 rfl, HSk14.out.sep.box 11 rfl⟩
    clear hu
    go_wp2_with fail
    refine hK.out _ _ HS (fun hHeld2 => ?_)
    clear hK hHeld2 hHeld; have hHeld := HS; clear HS
    try simp only [Act.put, rn1, rn2, rn3, rn4, rn5, rn6]
    refine reg_step (i := 13) (by kernel_rfl) rfl (by kernel_rfl) (fun K hK => ?_)
    go_simp
    refine (takes_is HSk14.out.outNil (dnN 8 3) (dn_ok 8 3 (by decide)) fit3 nilV [] 0 rfl (fun m hm => by cases hm) (m7 HF.out)).mono ?_
    rintro e z15 ⟨rfl, hs⟩
    have HSk15 := Lib.hid hs.pop
    have HS : (fun X => Blk X xa pt7.cells NT ∧ Blk X xc ac7.cells NT) z15 := ⟨HSk15.out.sep.box 12 rfl, HSk15.out.sep.box 11 rfl⟩
    clear hs
    go_wp2_with fail
    refine hK.out _ _ HS (fun hHeld2 => ?_)
    clear hK hHeld2 hHeld; have hHeld := HS; clear HS
    try simp only [Act.put, rn1, rn2, rn3, rn4, rn5, rn6]
    refine rgn 14 (v := .bool false) hHeld ?yq17 ?_
    case yq17 => (intro w hSw; go_simp; try with_reducible rfl)
    simp only [Act.put, rn1, rn2, rn3, rn4, rn5, rn6]
    refine rgn 15 (v := .bool false) hHeld ?yq18 ?_
    case yq18 => (intro w hSw; go_simp; try with_reducible rfl)
    simp only [Act.put, rn1, rn2, rn3, rn4, rn5, rn6]
    refine rgn 16 (v := .bool false) hHeld ?yq19 ?_
    case yq19 => (intro w hSw; go_simp; try with_reducible rfl)
    simp only [Act.put, rn1, rn2, rn3, rn4, rn5, rn6]
    refine rgn 17 (v := ?vq20) hHeld ?yq20 ?_
    case yq20 => (intro w hSw; go_simp; try with_reducible rfl)
    simp only [Act.put, rn1, rn2, rn3, rn4, rn5, rn6]
    refine reg_step (i := 18) (by kernel_rfl) rfl (by kernel_rfl) (fun K hK => ?_)
    go_simp
    refine (up_any 1 3 _).mono ?_
    rintro e z16 ⟨rfl, hu⟩
    have HSk16 := Lib.hid (HSk15.out.upd0 hu)
    have HS : (fun X => Blk X xa pt7.cells NT ∧ Blk X xc ac7.cells NT) z16 := ⟨HSk16.out.sep.box 12 rfl, HSk16.out.sep.box 11 rfl⟩
    clear hu
    go_wp2_with fail
    refine hK.out _ _ HS (fun hHeld2 => ?_)
    clear hK hHeld2 hHeld; have hHeld := HS; clear HS
    try simp only [Act.put, rn1, rn2, rn3, rn4, rn5, rn6]
    refine reg_step (i := 19) (by kernel_rfl) rfl (by kernel_rfl) (fun K hK => ?_)
    have bs := bsN_run (Nt.Ok.isN (n := (upN 1 3)) isUZ).1 z16
    go_simp
    have hs := (HSk16.out.alloc ((upN 1 3).cells) NT).toOut (n := (upN 1 3)) isUZ
    obtain ⟨z17, hy⟩ : ∃ X, (z16).alloc (.cells ((upN 1 3).cells) NT) = X := ⟨_, rfl⟩
    obtain ⟨gz17, hz⟩ : ∃ g, (z16).heap.size = g := ⟨_, rfl⟩
    rw [hy, hz] at hs
    have HSk17 := Lib.hid hs
    have HS : (fun X => Blk X xa pt7.cells NT ∧ Blk X xc ac7.cells NT) z17 := ⟨HSk17.out.sep.box 13 rfl, HSk17.out.sep.box 12 rfl⟩
    simp only [hy, hz]
    clear hs bs hy hz
    refine hK.out _ _ HS (fun hHeld2 => ?_)
    clear hK hHeld2 hHeld; have hHeld := HS; clear HS
    try simp only [Act.put, rn1, rn2, rn3, rn4, rn5, rn6]
    refine reg_step (i := 20) (by kernel_rfl) rfl (by kernel_rfl) (fun K hK => ?_)
    go_simp
    refine (asks_is HSk17.out 3 false _ [upN 1 3] 0 rfl (fun m hm => by simp at hm; subst hm; exact isUZ) (m8 HF.out) (fun _ => by rw [g8 HF.out]; exact fit5)).mono ?_
    rintro e z18 ⟨rfl, hs⟩
    have HSk18 := Lib.hid hs
    have HS : (fun X => Blk X xa pt7.cells NT ∧ Blk X xc ac7.cells NT) z18 := ⟨HSk18.out.sep.box 13 rfl, HSk18.out.sep.box 12 rfl⟩
    clear hs
    go_wp2_with fail
    refine hK.out _ _ HS (fun hHeld2 => ?_)
    clear hK hHeld2 hHeld; have hHeld := HS; clear HS
    try simp only [Act.put, rn1, rn2, rn3, rn4, rn5, rn6]
    refine rgn 21 (v := .bool false) hHeld ?yq21 ?_
    case yq21 => (intro w hSw; go_simp; try with_reducible rfl)
    simp only [Act.put, rn1, rn2, rn3, rn4, rn5, rn6]
    refine rgn 22 (v := .bool false) hHeld ?yq22 ?_
    case yq22 => (intro w hSw; go_simp; try with_reducible rfl)
    simp only [Act.put, rn1, rn2, rn3, rn4, rn5, rn6]
    refine wpAnyH_done (by kernel_rfl) ?_ _
    clear hHeld
    go_wp2_with fail
    refine (clear_nil _).mono ?_
    rintro e z19 ⟨rfl, hu⟩
    have HSk19 := Lib.hid (HSk18.out.upd0 hu)
    clear hu
    go_wp2_with fail
    refine (ask_nil 0 false _).mono ?_
    rintro e z20 ⟨rfl, hu⟩
    have HSk20 := Lib.hid (HSk19.out.upd0 hu)
    clear hu
    go_wp2_with fail
    refine (load_nil 0 0 _).mono ?_
    rintro e z21 ⟨rfl, hu⟩
    have HSk21 := Lib.hid (HSk20.out.upd0 hu)
    clear hu
    go_wp2_with fail
    refine (store_nil 0 0 0 _).mono ?_
    rintro e z22 ⟨rfl, hu⟩
    have HSk22 := Lib.hid (HSk21.out.upd0 hu)
    clear hu
    have l0 := TNot.ld_at HPN.out (HSk22.out.sep.box 13 rfl).whole
    go_wp2_with fail
    refine (take_nil pt7 _).mono ?_
    rintro e z23 ⟨rfl, hu⟩
    have HSk23 := Lib.hid (HSk22.out.upd0 hu)
    clear hu
    clear l0
    go_wp2_with fail
    refine (line_nil 0 _).mono ?_
    rintro e z24 ⟨rfl, hu⟩
    have HSk24 := Lib.hid (HSk23.out.upd0 hu)
    clear hu
    have sl := TLin.st_new TLin.isZ z24
    have HSk25 := Lib.hid (HSk24.out.alloc TLin.Z LT)
    go_wp2_with fail
    refine (waits_nil _).mono ?_
    rintro e z26 ⟨rfl, hu⟩
    have HSk26 := Lib.hid (HSk25.out.upd0 hu)
    clear hu
    clear sl
    have sl := TNot.st_new (Nt.Ok.isN (n := Nt.nil) Nt.nil_ok.isU) z26
    have HSk27 := Lib.hid (HSk26.out.alloc Nt.nil.cells NT)
    go_wp2_with fail
    refine (back_nil 0 _).mono ?_
    rintro e z28 ⟨rfl, hu⟩
    have HSk28 := Lib.hid (HSk27.out.upd0 hu)
    clear hu
    clear sl
    have sl := TBlk.st_new TBlk.isZ z28
    have HSk29 := Lib.hid (HSk28.out.alloc TBlk.Z BT)
    go_wp2_with fail
    refine (deal_nil _).mono ?_
    rintro e z30 ⟨rfl, hu⟩
    have HSk30 := Lib.hid (HSk29.out.upd0 hu)
    clear hu
    go_wp2_with fail
    refine (copy_nil _).mono ?_
    rintro e z31 ⟨rfl, hu⟩
    have HSk31 := Lib.hid (HSk30.out.upd0 hu)
    clear hu
    go_wp2
    go_ret
    have he := HSk31.out.objs
    refine ⟨rfl, he.upd, ?_⟩
    trivial
  · have bs := bsN_run (Nt.Ok.isN (n := ac7) isU_7).1 z10
    go_simp
    have hs := (HSk10.out.alloc (ac7.cells) NT).toOut (n := ac7) isU_7
    obtain ⟨z32, hy⟩ : ∃ X, (z10).alloc (.cells (ac7.cells) NT) = X := ⟨_, rfl⟩
    obtain ⟨gz32, hz⟩ : ∃ g, (z10).heap.size = g := ⟨_, rfl⟩
    rw [hy, hz] at hs
    have HSk32 := Lib.hid hs
    have HS : (fun X => Blk X xa pt7.cells NT ∧ Blk X xc ac7.cells NT) z32 := ⟨HSk32.out.sep.box 12 rfl, HSk32.out.sep.box 11 rfl⟩
    simp only [hy, hz]
    clear hs bs hy hz
    refine hK.out _ _ HS (fun hHeld2 => ?_)
    clear hK hHeld2 hHeld; have hHeld := HS; clear HS
    try simp only [Act.put, rn1, rn2, rn3, rn4, rn5, rn6]
    refine reg_step (i := 4) (by kernel_rfl) rfl (by kernel_rfl) (fun K hK => ?_)
    go_simp
    refine (dn_any 5 3 _).mono ?_
    rintro e z33 ⟨rfl, hu⟩
    have HSk33 := Lib.hid (HSk32.out.upd0 hu)
    have HS : (fun X => Blk X xa pt7.cells NT ∧ Blk X xc ac7.cells NT) z33 := ⟨HSk33.out.sep.box 12 rfl, HSk33.out.sep.box 11 rfl⟩
    clear hu
    go_wp2_with fail
    refine hK.out _ _ HS (fun hHeld2 => ?_)
    clear hK hHeld2 hHeld; have hHeld := HS; clear HS
    try simp only [Act.put, rn1, rn2, rn3, rn4, rn5, rn6]
    refine reg_step (i := 7) (by kernel_rfl) rfl (by kernel_rfl) (fun K hK => ?_)
    go_simp
    refine (takes_is HSk33.out (dnN 5 3) (dn_ok 5 3 (by decide)) fit3 _ [ac7] 0 rfl (fun m hm => by simp at hm; subst hm; exact isU_7) (m6 HF.out)).mono ?_
    rintro e z34 ⟨rfl, hs⟩
    have HSk34 := Lib.hid hs
    have HS : (fun X => Blk X xa pt7.cells NT ∧ Blk X xc ac7.cells NT) z34 := ⟨HSk34.out.sep.box 12 rfl, HSk34.out.sep.box 11 rfl⟩
    clear hs
    go_wp2_with fail
    refine hK.out _ _ HS (fun hHeld2 => ?_)
    clear hK hHeld2 hHeld; have hHeld := HS; clear HS
    try simp only [Act.put, rn1, rn2, rn3, rn4, rn5, rn6]
    refine rgn 8 (v := .bool false) hHeld ?yq23 ?_
    case yq23 => (intro w hSw; go_simp; try with_reducible rfl)
    simp only [Act.put, rn1, rn2, rn3, rn4, rn5, rn6]
    refine rgn 9 (v := .bool false) hHeld ?yq24 ?_
    case yq24 => (intro w hSw; go_simp; try with_reducible rfl)
    simp only [Act.put, rn1, rn2, rn3, rn4, rn5, rn6]
    refine rgn 10 (v := .bool false) hHeld ?yq25 ?_
    case yq25 => (intro w hSw; go_simp; try with_reducible rfl)
    simp only [Act.put, rn1, rn2, rn3, rn4, rn5, rn6]
    refine rgn 11 (v := ?vq26) hHeld ?yq26 ?_
    case yq26 => (intro w hSw; go_simp; try with_reducible rfl)
    simp only [Act.put, rn1, rn2, rn3, rn4, rn5, rn6]
    refine reg_step (i := 12) (by kernel_rfl) rfl (by kernel_rfl) (fun K hK => ?_)
    go_simp
    refine (dn_any 8 3 _).mono ?_
    rintro e z35 ⟨rfl, hu⟩
    have HSk35 := Lib.hid (HSk34.out.upd0 hu)
    have HS : (fun X => Blk X xa pt7.cells NT ∧ Blk X xc ac7.cells NT) z35 := ⟨HSk35.out.sep.box 12 rfl, HSk35.out.sep.box 11 rfl⟩
    clear hu
    go_wp2_with fail
    refine hK.out _ _ HS (fun hHeld2 => ?_)
    clear hK hHeld2 hHeld; have hHeld := HS; clear HS
    try simp only [Act.put, rn1, rn2, rn3, rn4, rn5, rn6]
    refine reg_step (i := 13) (by kernel_rfl) rfl (by kernel_rfl) (fun K hK => ?_)
    go_simp
    refine (takes_is HSk35.out.outNil (dnN 8 3) (dn_ok 8 3 (by decide)) fit3 nilV [] 0 rfl (fun m hm => by cases hm) (m7 HF.out)).mono ?_
    rintro e z36 ⟨rfl, hs⟩
    have HSk36 := Lib.hid hs.pop
    have HS : (fun X => Blk X xa pt7.cells NT ∧ Blk X xc ac7.cells NT) z36 := ⟨HSk36.out.sep.box 12 rfl, HSk36.out.sep.box 11 rfl⟩
    clear hs
    go_wp2_with fail
    refine hK.out _ _ HS (fun hHeld2 => ?_)
    clear hK hHeld2 hHeld; have hHeld := HS; clear HS
    try simp only [Act.put, rn1, rn2, rn3, rn4, rn5, rn6]
    refine rgn 14 (v := .bool false) hHeld ?yq27 ?_
    case yq27 => (intro w hSw; go_simp; try with_reducible rfl)
    simp only [Act.put, rn1, rn2, rn3, rn4, rn5, rn6]
    refine rgn 15 (v := .bool false) hHeld ?yq28 ?_
    case yq28 => (intro w hSw; go_simp; try with_reducible rfl)
    simp only [Act.put, rn1, rn2, rn3, rn4, rn5, rn6]
    refine rgn 16 (v := .bool false) hHeld ?yq29 ?_
    case yq29 => (intro w hSw; go_simp; try with_reducible rfl)
    simp only [Act.put, rn1, rn2, rn3, rn4, rn5, rn6]
    refine rgn 17 (v := ?vq30) hHeld ?yq30 ?_
    case yq30 => (intro w hSw; go_simp; try with_reducible rfl)
    simp only [Act.put, rn1, rn2, rn3, rn4, rn5, rn6]
    refine reg_step (i := 18) (by kernel_rfl) rfl (by kernel_rfl) (fun K hK => ?_)
    go_simp
    refine (up_any 1 3 _).mono ?_
    rintro e z37 ⟨rfl, hu⟩
    have HSk37 := Lib.hid (HSk36.out.upd0 hu)
    have HS : (fun X => Blk X xa pt7.cells NT ∧ Blk X xc ac7.cells NT) z37 := ⟨HSk37.out.sep.box 12 rfl, HSk37.out.sep.box 11 rfl⟩
    clear hu
    go_wp2_with fail
    refine hK.out _ _ HS (fun hHeld2 => ?_)
    clear hK hHeld2 hHeld; have hHeld := HS; clear HS
    try simp only [Act.put, rn1, rn2, rn3, rn4, rn5, rn6]
    refine reg_step (i := 19) (by kernel_rfl) rfl (by kernel_rfl) (fun K hK => ?_)
    have bs := bsN_run (Nt.Ok.isN (n := (upN 1 3)) isUZ).1 z37
    go_simp
    have hs := (HSk37.out.alloc ((upN 1 3).cells) NT).toOut (n := (upN 1 3)) isUZ
    obtain ⟨z38, hy⟩ : ∃ X, (z37).alloc (.cells ((upN 1 3).cells) NT) = X := ⟨_, rfl⟩
    obtain ⟨gz38, hz⟩ : ∃ g, (z37).heap.size = g := ⟨_, rfl⟩
    rw [hy, hz] at hs
    have HSk38 := Lib.hid hs
    have HS : (fun X => Blk X xa pt7.cells NT ∧ Blk X xc ac7.cells NT) z38 := ⟨HSk38.out.sep.box 13 rfl, HSk38.out.sep.box 12 rfl⟩
    simp only [hy, hz]
    clear hs bs hy hz
    refine hK.out _ _ HS (fun hHeld2 => ?_)
    clear hK hHeld2 hHeld; have hHeld := HS; clear HS
    try simp only [Act.put, rn1, rn2, rn3, rn4, rn5, rn6]
    refine reg_step (i := 20) (by kernel_rfl) rfl (by kernel_rfl) (fun K hK => ?_)
    go_simp
    refine (asks_is HSk38.out 3 false _ [upN 1 3] 0 rfl (fun m hm => by simp at hm; subst hm; exact isUZ) (m8 HF.out) (fun _ => by rw [g8 HF.out]; exact fit5)).mono ?_
    rintro e z39 ⟨rfl, hs⟩
    have HSk39 := Lib.hid hs
    have HS : (fun X => Blk X xa pt7.cells NT ∧ Blk X xc ac7.cells NT) z39 := ⟨HSk39.out.sep.box 13 rfl, HSk39.out.sep.box 12 rfl⟩
    clear hs
    go_wp2_with fail
    refine hK.out _ _ HS (fun hHeld2 => ?_)
    clear hK hHeld2 hHeld; have hHeld := HS; clear HS
    try simp only [Act.put, rn1, rn2, rn3, rn4, rn5, rn6]
    refine rgn 21 (v := .bool false) hHeld ?yq31 ?_
    case yq31 => (intro w hSw; go_simp; try with_reducible rfl)
    simp only [Act.put, rn1, rn2, rn3, rn4, rn5, rn6]
    refine rgn 22 (v := .bool false) hHeld ?yq32 ?_
    case yq32 => (intro w hSw; go_simp; try with_reducible rfl)
    simp only [Act.put, rn1, rn2, rn3, rn4, rn5, rn6]
    refine wpAnyH_done (by kernel_rfl) ?_ _
    clear hHeld
    go_wp2_with fail
    refine (clear_nil _).mono ?_
    rintro e z40 ⟨rfl, hu⟩
    have HSk40 := Lib.hid (HSk39.out.upd0 hu)
    clear hu
    go_wp2_with fail
    refine (ask_nil 0 false _).mono ?_
    rintro e z41 ⟨rfl, hu⟩
    have HSk41 := Lib.hid (HSk40.out.upd0 hu)
    clear hu
    go_wp2_with fail
    refine (load_nil 0 0 _).mono ?_
    rintro e z42 ⟨rfl, hu⟩
    have HSk42 := Lib.hid (HSk41.out.upd0 hu)
    clear hu
    go_wp2_with fail
    refine (store_nil 0 0 0 _).mono ?_
    rintro e z43 ⟨rfl, hu⟩
    have HSk43 := Lib.hid (HSk42.out.upd0 hu)
    clear hu
    have l0 := TNot.ld_at HPN.out (HSk43.out.sep.box 13 rfl).whole
    go_wp2_with fail
    refine (take_nil pt7 _).mono ?_
    rintro e z44 ⟨rfl, hu⟩
    have HSk44 := Lib.hid (HSk43.out.upd0 hu)
    clear hu
    clear l0
    go_wp2_with fail
    refine (line_nil 0 _).mono ?_
    rintro e z45 ⟨rfl, hu⟩
    have HSk45 := Lib.hid (HSk44.out.upd0 hu)
    clear hu
    have sl := TLin.st_new TLin.isZ z45
    have HSk46 := Lib.hid (HSk45.out.alloc TLin.Z LT)
    go_wp2_with fail
    refine (waits_nil _).mono ?_
    rintro e z47 ⟨rfl, hu⟩
    have HSk47 := Lib.hid (HSk46.out.upd0 hu)
    clear hu
    clear sl
    have sl := TNot.st_new (Nt.Ok.isN (n := Nt.nil) Nt.nil_ok.isU) z47
    have HSk48 := Lib.hid (HSk47.out.alloc Nt.nil.cells NT)
    go_wp2_with fail
    refine (back_nil 0 _).mono ?_
    rintro e z49 ⟨rfl, hu⟩
    have HSk49 := Lib.hid (HSk48.out.upd0 hu)
    clear hu
    clear sl
    have sl := TBlk.st_new TBlk.isZ z49
    have HSk50 := Lib.hid (HSk49.out.alloc TBlk.Z BT)
    go_wp2_with fail
    refine (deal_nil _).mono ?_
    rintro e z51 ⟨rfl, hu⟩
    have HSk51 := Lib.hid (HSk50.out.upd0 hu)
    clear hu
    go_wp2_with fail
    refine (copy_nil _).mono ?_
    rintro e z52 ⟨rfl, hu⟩
    have HSk52 := Lib.hid (HSk51.out.upd0 hu)
    clear hu
    go_wp2
    go_ret
    have he := HSk52.out.objs
    refine ⟨rfl, he.upd, ?_⟩
    trivial
theorem known_law (w : World) : Calls Tryz.prog 3 #[] w fun e w' => e = .returned (.bool true) ∧ Below w.heap.size w w' :=
  (known_is w w (Sep.zero NoF w)).mono (fun _ _ ⟨he, hs⟩ => ⟨he, hs.below⟩)
end Go.Proofs.YtjgeflbhmhmjdaaGreat.NR
