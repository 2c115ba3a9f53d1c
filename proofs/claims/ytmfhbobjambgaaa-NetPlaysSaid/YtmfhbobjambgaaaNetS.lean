/- The contracts of package net: Send, Take. -/
import Derived.Test.YtmfhbobjambgaaaNetH
set_option linter.unusedSimpArgs false
set_option linter.unusedVariables false
namespace Go.Proofs.Ytmfhbobjambgaaa.NE
open Go.RowKit
open BU (IsU words)
open PL (Cfg CC CV May)
open GR (hopsN)
attribute [local go_sem] Oper.semAt_some
attribute [local go_sem ↓] eqN_eq neN_eq eqB_eq neB_eq TNot.ld_eq TNot.st_eq TNot.al_eq TNot.bx_eq
attribute [local go_sem] TNot.al_run TNot.bx_run

set_option maxRecDepth 100000 in
theorem send_no (w : World) (F : Nat → Prop) (tb : Nat) (c : Cfg) (room : Int) (ns : List Nt) (hops : Int) (n : Nt) (hn : n.Ok) (hc : May c) (h : (To tb c room ns hops).is w F) (hfit : fitsN c n = false) :
    Calls Try.prog 11 #[ptr tb, .agg n.cells] w fun e w' => e = .returned (.int .i64 2) ∧ Upd NoF w w' := by
  have hu := Upd.alloc NoF w (.cells n.cells 37)
  have q := Blk.new w n.cells 37
  have l1 := TNot.ld_new (Nt.Ok.isN hn.isU) w
  obtain ⟨V, hV⟩ : ∃ V, w.alloc (.cells n.cells 37) = V := ⟨_, rfl⟩
  rw [hV] at hu q
  have HFIT := Lib.hid (fits_any V F tb c room ns hops n hn hc ((To tb c room ns hops).keep h (hu.kept (fun _ _ _ h => h))))
  have HU := Lib.hid hu; have HV := Lib.hid hV; have HQ := Lib.hid q; have HT := Lib.hid h; have HNO := Lib.hid hn
  clear hu q hV h
  rw [hfit] at HFIT
  go_enter Try.func11, Try.ntmps11
  go_wp2_with fail
  rw [HV.out]
  refine HFIT.out.mono ?_
  rintro e w2 ⟨rfl, hu2⟩
  have HU2 := Lib.hid (HU.out.trans hu2 (fun _ _ h => h))
  have HQ2 := Lib.hid (HQ.out.upd hu2 (fun h => h))
  clear hu2 l1
  go_wp2
  go_ret
  exact ⟨rfl, HU2.out⟩
set_option maxRecDepth 100000 in
set_option maxHeartbeats 1000000 in
theorem send_full (w : World) (F : Nat → Prop) (tb : Nat) (c : Cfg) (room : Int) (ns : List Nt) (hops : Int) (n : Nt) (hn : n.Ok) (hc : May c) (h : (To tb c room ns hops).is w F) (hfit : fitsN c n = true) (hlen : ns.length ≤ 65536) (hr1 : 1 ≤ room) (hr2 : room ≤ 1024) (hrm : roomN c room ns n.too (netN n.kind) = 0) :
    Calls Try.prog 11 #[ptr tb, .agg n.cells] w fun e w' => e = .returned (.int .i64 7) ∧ Upd NoF w w' := by
  have hu := Upd.alloc NoF w (.cells n.cells 37)
  have q := Blk.new w n.cells 37
  have l1 := TNot.ld_new (Nt.Ok.isN hn.isU) w
  obtain ⟨V, hV⟩ : ∃ V, w.alloc (.cells n.cells 37) = V := ⟨_, rfl⟩
  rw [hV] at hu q
  have HFIT := Lib.hid (fits_any V F tb c room ns hops n hn hc ((To tb c room ns hops).keep h (hu.kept (fun _ _ _ h => h))))
  have HU := Lib.hid hu; have HV := Lib.hid hV; have HQ := Lib.hid q; have HT := Lib.hid h; have HNO := Lib.hid hn
  clear hu q hV h
  rw [hfit] at HFIT
  go_enter Try.func11, Try.ntmps11
  go_wp2_with fail
  rw [HV.out]
  refine HFIT.out.mono ?_
  rintro e w2 ⟨rfl, hu2⟩
  have HU2 := Lib.hid (HU.out.trans hu2 (fun _ _ h => h))
  have HQ2 := Lib.hid (HQ.out.upd hu2 (fun h => h))
  clear hu2 l1
  have HNET := Lib.hid (fun w => NC.net_any n.kind w)
  have HRM := Lib.hid (fun (W : World) (hu : Upd NoF w W) => room_any W F tb c room ns hops n.too (netN n.kind) ((To tb c room ns hops).keep HT.out (hu.kept (fun _ _ _ h => h))) hlen hr1 hr2)
  rw [hrm] at HRM
  generalize netN n.kind = nk at *
  clear hrm hfit
  go_wp2_with fail
  refine wp_region_held_drew (S := (fun W => Upd NoF w W ∧ Blk W w.heap.size n.cells 37 ∧ W.cell? ⟨w.heap.size, 2, none⟩ = some (.int .i64 n.too) ∧ W.cell? ⟨w.heap.size, 0, none⟩ = some (.int .u8 n.kind))) (by kernel_rfl) (⟨HU2.out.trans (Upd.drew NoF w2) (fun _ _ h => h), HQ2.out.upd (Upd.drew NoF w2) (fun h => h), ((HQ2.out.upd (Upd.drew NoF w2) (fun h => h)).cell 2).trans n.get2, ((HQ2.out.upd (Upd.drew NoF w2) (fun h => h)).cell 0).trans n.get0⟩) (fun hHeld => ?_)
  refine rgn 0 (v := ?vr1_0) hHeld ?yr1_0 ?_
  case yr1_0 => (intro w hSw; obtain ⟨k0, k1, k2, k3⟩ := hSw; go_simp; try with_reducible rfl)
  simp only [Act.put, rn1, rn2, rn3, rn4, rn5, rn6]
  refine rgn 1 (v := ?vr1_1) hHeld ?yr1_1 ?_
  case yr1_1 => (intro w hSw; obtain ⟨k0, k1, k2, k3⟩ := hSw; go_simp; try with_reducible rfl)
  simp only [Act.put, rn1, rn2, rn3, rn4, rn5, rn6]
  refine rgn 2 (v := ?vr1_2) hHeld ?yr1_2 ?_
  case yr1_2 => (intro w hSw; obtain ⟨k0, k1, k2, k3⟩ := hSw; go_simp; try with_reducible rfl)
  simp only [Act.put, rn1, rn2, rn3, rn4, rn5, rn6]
  refine rgn 3 (v := ?vr1_3) hHeld ?yr1_3 ?_
  case yr1_3 => (intro w hSw; obtain ⟨k0, k1, k2, k3⟩ := hSw; go_simp; try with_reducible rfl)
  simp only [Act.put, rn1, rn2, rn3, rn4, rn5, rn6]
  refine rgn 4 (v := ?vr1_4) hHeld ?yr1_4 ?_
  case yr1_4 => (intro w hSw; obtain ⟨k0, k1, k2, k3⟩ := hSw; go_simp; try with_reducible rfl)
  simp only [Act.put, rn1, rn2, rn3, rn4, rn5, rn6]
  refine reg_step (i := 5) (by kernel_rfl) rfl (by kernel_rfl) (fun K hK => ?_)
  go_simp
  refine (HNET.out _).mono ?_
  rintro e w9 ⟨rfl, rfl⟩
  have HS := hHeld
  go_wp2_with fail
  refine hK.out _ _ HS (fun hHeld2 => ?_)
  clear hK hHeld2 hHeld; have hHeld := HS; clear HS
  try simp only [Act.put, rn1, rn2, rn3, rn4, rn5, rn6]
  refine reg_step (i := 6) (by kernel_rfl) rfl (by kernel_rfl) (fun K hK => ?_)
  go_simp
  refine (HRM.out _ hHeld.1).mono ?_
  rintro e w9 ⟨rfl, hu⟩
  have HS : (fun W => Upd NoF w W ∧ Blk W w.heap.size n.cells 37 ∧ W.cell? ⟨w.heap.size, 2, none⟩ = some (.int .i64 n.too) ∧ W.cell? ⟨w.heap.size, 0, none⟩ = some (.int .u8 n.kind)) w9 := ⟨hHeld.1.trans hu (fun _ _ h => h), hHeld.2.1.upd hu (fun h => h), hu.cell hHeld.2.2.1 (fun h => h), hu.cell hHeld.2.2.2 (fun h => h)⟩
  clear hu
  go_wp2_with fail
  refine hK.out _ _ HS (fun hHeld2 => ?_)
  clear hK hHeld2 hHeld; have hHeld := HS; clear HS
  try simp only [Act.put, rn1, rn2, rn3, rn4, rn5, rn6]
  refine rgn 7 (v := .bool true) hHeld ?yr1_7 ?_
  case yr1_7 => (intro w hSw; obtain ⟨k0, k1, k2, k3⟩ := hSw; go_simp; try with_reducible rfl)
  simp only [Act.put, rn1, rn2, rn3, rn4, rn5, rn6]
  refine rgn 8 (v := .bool true) hHeld ?yr1_8 ?_
  case yr1_8 => (intro w hSw; obtain ⟨k0, k1, k2, k3⟩ := hSw; go_simp; try with_reducible rfl)
  simp only [Act.put, rn1, rn2, rn3, rn4, rn5, rn6]
  refine wpAnyH_done (by kernel_rfl) ?_ _
  go_wp2
  go_ret
  exact ⟨rfl, hHeld.1⟩
set_option maxRecDepth 100000 in
set_option maxHeartbeats 1000000 in
theorem send_ok (w : World) (F : Nat → Prop) (tb : Nat) (c : Cfg) (room : Int) (ns : List Nt) (hops : Int) (n : Nt) (hn : n.Ok) (hc : May c) (h : (To tb c room ns hops).is w F) (hfit : fitsN c n = true) (hlen : ns.length ≤ 65536) (hr1 : 1 ≤ room) (hr2 : room ≤ 1024) (hrm : roomN c room ns n.too (netN n.kind) ≠ 0) (hput : ns.length < 52224) :
    Calls Try.prog 11 #[ptr tb, .agg n.cells] w fun e w' => e = .returned (.int .i64 0) ∧ Upd F w w' ∧ (To tb c room (ns ++ [n]) hops).is w' (AndNew F w) := by
  have hu := Upd.alloc NoF w (.cells n.cells 37)
  have q := Blk.new w n.cells 37
  have l1 := TNot.ld_new (Nt.Ok.isN hn.isU) w
  obtain ⟨V, hV⟩ : ∃ V, w.alloc (.cells n.cells 37) = V := ⟨_, rfl⟩
  rw [hV] at hu q
  have HFIT := Lib.hid (fits_any V F tb c room ns hops n hn hc ((To tb c room ns hops).keep h (hu.kept (fun _ _ _ h => h))))
  have HU := Lib.hid hu; have HV := Lib.hid hV; have HQ := Lib.hid q; have HT := Lib.hid h; have HNO := Lib.hid hn
  clear hu q hV h
  rw [hfit] at HFIT
  go_enter Try.func11, Try.ntmps11
  go_wp2_with fail
  rw [HV.out]
  refine HFIT.out.mono ?_
  rintro e w2 ⟨rfl, hu2⟩
  have HU2 := Lib.hid (HU.out.trans hu2 (fun _ _ h => h))
  have HQ2 := Lib.hid (HQ.out.upd hu2 (fun h => h))
  clear hu2 l1
  have HNET := Lib.hid (fun w => NC.net_any n.kind w)
  have HRM := Lib.hid (fun (W : World) (hu : Upd NoF w W) => room_any W F tb c room ns hops n.too (netN n.kind) ((To tb c room ns hops).keep HT.out (hu.kept (fun _ _ _ h => h))) hlen hr1 hr2)
  have hrm0 : decide (roomN c room ns n.too (netN n.kind) = 0) = false := by simpa using hrm
  have hrmb : (roomN c room ns n.too (netN n.kind) == 0) = false := by simpa using hrm
  generalize roomN c room ns n.too (netN n.kind) = rr at *
  generalize netN n.kind = nk at *
  clear hrm hfit
  go_wp2_with fail
  refine wp_region_held_drew (S := (fun W => Upd NoF w W ∧ Blk W w.heap.size n.cells 37 ∧ W.cell? ⟨w.heap.size, 2, none⟩ = some (.int .i64 n.too) ∧ W.cell? ⟨w.heap.size, 0, none⟩ = some (.int .u8 n.kind))) (by kernel_rfl) (⟨HU2.out.trans (Upd.drew NoF w2) (fun _ _ h => h), HQ2.out.upd (Upd.drew NoF w2) (fun h => h), ((HQ2.out.upd (Upd.drew NoF w2) (fun h => h)).cell 2).trans n.get2, ((HQ2.out.upd (Upd.drew NoF w2) (fun h => h)).cell 0).trans n.get0⟩) (fun hHeld => ?_)
  refine rgn 0 (v := ?vr2_0) hHeld ?yr2_0 ?_
  case yr2_0 => (intro w hSw; obtain ⟨k0, k1, k2, k3⟩ := hSw; go_simp; try with_reducible rfl)
  simp only [Act.put, rn1, rn2, rn3, rn4, rn5, rn6]
  refine rgn 1 (v := ?vr2_1) hHeld ?yr2_1 ?_
  case yr2_1 => (intro w hSw; obtain ⟨k0, k1, k2, k3⟩ := hSw; go_simp; try with_reducible rfl)
  simp only [Act.put, rn1, rn2, rn3, rn4, rn5, rn6]
  refine rgn 2 (v := ?vr2_2) hHeld ?yr2_2 ?_
  case yr2_2 => (intro w hSw; obtain ⟨k0, k1, k2, k3⟩ := hSw; go_simp; try with_reducible rfl)
  simp only [Act.put, rn1, rn2, rn3, rn4, rn5, rn6]
  refine rgn 3 (v := ?vr2_3) hHeld ?yr2_3 ?_
  case yr2_3 => (intro w hSw; obtain ⟨k0, k1, k2, k3⟩ := hSw; go_simp; try with_reducible rfl)
  simp only [Act.put, rn1, rn2, rn3, rn4, rn5, rn6]
  refine rgn 4 (v := ?vr2_4) hHeld ?yr2_4 ?_
  case yr2_4 => (intro w hSw; obtain ⟨k0, k1, k2, k3⟩ := hSw; go_simp; try with_reducible rfl)
  simp only [Act.put, rn1, rn2, rn3, rn4, rn5, rn6]
  refine reg_step (i := 5) (by kernel_rfl) rfl (by kernel_rfl) (fun K hK => ?_)
  go_simp
  refine (HNET.out _).mono ?_
  rintro e w9 ⟨rfl, rfl⟩
  have HS := hHeld
  go_wp2_with fail
  refine hK.out _ _ HS (fun hHeld2 => ?_)
  clear hK hHeld2 hHeld; have hHeld := HS; clear HS
  try simp only [Act.put, rn1, rn2, rn3, rn4, rn5, rn6]
  refine reg_step (i := 6) (by kernel_rfl) rfl (by kernel_rfl) (fun K hK => ?_)
  go_simp
  refine (HRM.out _ hHeld.1).mono ?_
  rintro e w9 ⟨rfl, hu⟩
  have HS : (fun W => Upd NoF w W ∧ Blk W w.heap.size n.cells 37 ∧ W.cell? ⟨w.heap.size, 2, none⟩ = some (.int .i64 n.too) ∧ W.cell? ⟨w.heap.size, 0, none⟩ = some (.int .u8 n.kind)) w9 := ⟨hHeld.1.trans hu (fun _ _ h => h), hHeld.2.1.upd hu (fun h => h), hu.cell hHeld.2.2.1 (fun h => h), hu.cell hHeld.2.2.2 (fun h => h)⟩
  clear hu
  go_wp2_with fail
  refine hK.out _ _ HS (fun hHeld2 => ?_)
  clear hK hHeld2 hHeld; have hHeld := HS; clear HS
  try simp only [Act.put, rn1, rn2, rn3, rn4, rn5, rn6]
  refine rgn 7 (v := .bool false) hHeld ?yr2_7 ?_
  case yr2_7 => (intro w hSw; obtain ⟨k0, k1, k2, k3⟩ := hSw; go_simp; try with_reducible rfl)
  simp only [Act.put, rn1, rn2, rn3, rn4, rn5, rn6]
  refine rgn 8 (v := .bool false) hHeld ?yr2_8 ?_
  case yr2_8 => (intro w hSw; obtain ⟨k0, k1, k2, k3⟩ := hSw; go_simp; try with_reducible rfl)
  simp only [Act.put, rn1, rn2, rn3, rn4, rn5, rn6]
  refine wpAnyH_done (by kernel_rfl) ?_ _
  have hU9 := hHeld.1
  have hB9 := hHeld.2.1
  clear hHeld hrm0 hrmb
  obtain ⟨l, F2, hN, hb, hFt, hF2, hnt, hp⟩ := open_to HT.out
  obtain ⟨F3, hp3, hF3⟩ := (PN.Po (ptr l) (ns.map Nt.cells) 52224).tight hp
  have hnw : ¬ F3 w.heap.size := fun h => by have := (hF3 _ h).2; omega
  have hdr := Upd.drew NoF w9
  have hUd := hU9.trans hdr (fun _ _ h => h)
  have hbd := hb.upd hUd (fun h => h)
  have hpd := (PN.Po (ptr l) (ns.map Nt.cells) 52224).keep hp3 (hUd.kept (fun _ _ _ h => h))
  have hBd := hB9.upd hdr (fun h => h)
  have HPUT := Lib.hid (PN.put_ok _ F3 l (ns.map Nt.cells) 52224 n.cells (Nt.Ok.isN HNO.out.isU) hpd (by rw [List.length_map]; omega) (by omega))
  have hlt := hb.lt
  have HUD := Lib.hid hUd; have HBD := Lib.hid hBd; have HbD := Lib.hid hbd; have HN := Lib.hid hN; have HFT := Lib.hid (And.intro hFt (And.intro hF2 hnt)); have HF3 := Lib.hid hF3; have Hhb := Lib.hid hb
  have hst : (fun W => Blk W w.heap.size n.cells 37 ∧ (TNot.ld (.pointer (some ⟨w.heap.size, 0, none⟩))).run Try.prog W = .ok (.agg n.cells) W ∧ W.cell? ⟨tb, 9, none⟩ = some (ptr l)) w9.drew := ⟨hBd, TNot.ld_at (Nt.Ok.isN HNO.out.isU) hBd.whole, hbd.cell 9⟩
  have HST := Lib.hid hst
  clear hst hUd hBd hbd hpd hdr hN hFt hF2 hnt hp hp3 hF3 hb hlt hU9 hB9
  go_wp2_with fail
  refine wp_region_held_drew (S := (fun W => Blk W w.heap.size n.cells 37 ∧ (TNot.ld (.pointer (some ⟨w.heap.size, 0, none⟩))).run Try.prog W = .ok (.agg n.cells) W ∧ W.cell? ⟨tb, 9, none⟩ = some (ptr l))) (by kernel_rfl) (HST.out) (fun hHeld => ?_)
  refine rgn 0 (v := ?vr3_0) hHeld ?yr3_0 ?_
  case yr3_0 => (intro w hSw; obtain ⟨k0, k1, k2⟩ := hSw; go_simp; try with_reducible rfl)
  simp only [Act.put, rn1, rn2, rn3, rn4, rn5, rn6]
  refine rgn 1 (v := ?vr3_1) hHeld ?yr3_1 ?_
  case yr3_1 => (intro w hSw; obtain ⟨k0, k1, k2⟩ := hSw; go_simp; try with_reducible rfl)
  simp only [Act.put, rn1, rn2, rn3, rn4, rn5, rn6]
  refine rgn 2 (v := ?vr3_2) hHeld ?yr3_2 ?_
  case yr3_2 => (intro w hSw; obtain ⟨k0, k1, k2⟩ := hSw; go_simp; try with_reducible rfl)
  simp only [Act.put, rn1, rn2, rn3, rn4, rn5, rn6]
  refine rgn 3 (v := ?vr3_3) hHeld ?yr3_3 ?_
  case yr3_3 => (intro w hSw; obtain ⟨k0, k1, k2⟩ := hSw; go_simp; try with_reducible rfl)
  simp only [Act.put, rn1, rn2, rn3, rn4, rn5, rn6]
  refine rgn 4 (v := ?vr3_4) hHeld ?yr3_4 ?_
  case yr3_4 => (intro w hSw; obtain ⟨k0, k1, k2⟩ := hSw; go_simp; try with_reducible rfl)
  simp only [Act.put, rn1, rn2, rn3, rn4, rn5, rn6]
  refine reg_step (i := 5) (by kernel_rfl) rfl (by kernel_rfl) (fun K hK => ?_)
  go_simp
  refine HPUT.out.mono ?_
  rintro e w10 ⟨rfl, hu, hpn⟩
  have HS : (fun W => Blk W w.heap.size n.cells 37 ∧ (TNot.ld (.pointer (some ⟨w.heap.size, 0, none⟩))).run Try.prog W = .ok (.agg n.cells) W ∧ W.cell? ⟨tb, 9, none⟩ = some (ptr l)) w10 := ⟨HBD.out.upd hu hnw, TNot.ld_at (Nt.Ok.isN HNO.out.isU) (HBD.out.upd hu hnw).whole, (HbD.out.upd hu (fun hf => HFT.out.2.2 (HF3.out _ hf).1)).cell 9⟩
  have HU10 := Lib.hid hu; have HP10 := Lib.hid hpn
  clear hu hpn
  go_wp2_with fail
  refine hK.out _ _ HS (fun hHeld2 => ?_)
  clear hK hHeld2 hHeld; have hHeld := HS; clear HS
  try simp only [Act.put, rn1, rn2, rn3, rn4, rn5, rn6]
  refine rgn 6 (v := ?vr3_6) hHeld ?yr3_6 ?_
  case yr3_6 => (intro w hSw; obtain ⟨k0, k1, k2⟩ := hSw; go_simp; try with_reducible rfl)
  simp only [Act.put, rn1, rn2, rn3, rn4, rn5, rn6]
  refine wpAnyH_done (by kernel_rfl) ?_ _
  go_wp2
  go_ret
  have hU9 := HUD.out
  refine ⟨rfl, (HUD.out.mono (G := F) (fun _ _ h => h.elim)).trans HU10.out (fun k _ hk => HFT.out.2.1 k (HF3.out k hk).1), l, fun m hm => ?_, (fun k => k = tb), AndNew F3 w, fun k hk => by subst hk; exact .inl HFT.out.1, fun k hk => hk.imp (fun hk => HFT.out.2.1 k (HF3.out k hk).1) id, fun k hk hf => ?_, ⟨HbD.out.upd HU10.out (fun hf => HFT.out.2.2 (HF3.out _ hf).1), rfl⟩, ?_⟩
  · rcases List.mem_append.1 hm with hm | hm
    · exact HN.out m hm
    · simp at hm; subst hm; exact HNO.out
  · subst hk
    rcases hf with hf | hf
    · exact HFT.out.2.2 (HF3.out _ hf).1
    · have := Hhb.out.lt; omega
  · have := HP10.out
    rw [List.map_append]
    exact (PN.Po (ptr l) (ns.map Nt.cells ++ [n.cells]) 52224).mono this (AndNew.le hU9.size)
end Go.Proofs.Ytmfhbobjambgaaa.NE
