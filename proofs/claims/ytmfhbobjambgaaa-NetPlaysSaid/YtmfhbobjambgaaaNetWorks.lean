/- undertowlaw09.works: notes are sent and taken. -/
import Derived.Test.YtmfhbobjambgaaaNetI
set_option linter.unusedSimpArgs false
set_option linter.unusedVariables false
namespace Go.Proofs.Ytmfhbobjambgaaa.NE
open Go.RowKit
open BU (IsU words)
open PL (Cfg CC CV May)
open GR (hopsN)
attribute [local go_sem] Oper.semAt_some
attribute [local go_sem ↓] eqN_eq neN_eq eqB_eq neB_eq TNot.ld_eq TNot.st_eq TNot.al_eq TNot.bx_eq
attribute [local go_sem] TNot.al_run TNot.bx_run
def twoC : Cfg := ⟨2, 2, 2, 10, 1, 1, 1, 0⟩
theorem may_two : May twoC := by decide
theorem two_any (w : World) : Calls Try.prog 18 #[] w fun e w' => e = .returned (CV twoC) ∧ Upd NoF w w' := by
  show Calls Try.prog 18 #[] w fun e w' => e = .returned (.agg #[.int .i64 2, .int .i64 2, .int .i64 2, .int .i64 10, .int .i64 1, .int .i64 1, .int .i64 1, .int .i64 0]) ∧ Upd NoF w w'
  go_enter Try.func18, Try.ntmps18
  go_wp2
  exact bodyPost_ret (v := .agg #[.int .i64 2, .int .i64 2, .int .i64 2, .int .i64 10, .int .i64 1, .int .i64 1, .int .i64 1, .int .i64 0]) (by simp [results, Try.f18, go_sem]) rfl ⟨rfl, Upd.alloc NoF w _⟩
def upN (k core blk : Int) : Nt := ⟨k, core, -1, blk, 0, 0, false, false, TBlk.Z⟩
abbrev upA (k core blk : Int) : Array Value := #[.int .u8 k, .int .i64 core, .int .i64 (-1), .int .i64 blk, .int .u64 0, .int .u8 0, .bool false, .bool false, .int .u32 0, .int .u32 0, .int .u32 0, .int .u32 0, .int .u32 0, .int .u32 0, .int .u32 0, .int .u32 0, .int .u32 0, .int .u32 0, .int .u32 0, .int .u32 0, .int .u32 0, .int .u32 0, .int .u32 0, .int .u32 0]
theorem up_cells (k core blk : Int) : (upN k core blk).cells = upA k core blk := by kernel_rfl
theorem up_ok (k core blk : Int) (h : 0 ≤ k ∧ k ≤ 255) : (upN k core blk).Ok := ⟨h, by show (0:Int) ≤ 0 ∧ (0:Int) ≤ _; omega, by show (0:Int) ≤ 0 ∧ (0:Int) ≤ 255; omega, BU.isU_Z⟩
set_option maxRecDepth 100000 in
theorem up_any (k core blk : Int) (w : World) : Calls Try.prog 19 #[.int .u8 k, .int .i64 core, .int .i64 blk] w fun e w' => e = .returned (.agg (upN k core blk).cells) ∧ Upd NoF w w' := by
  rw [up_cells]
  have hA : IsN 24 (upA k core blk) := by rw [← up_cells]; exact Nt.Ok.isN BU.isU_Z
  have s1 := TNot.st_new hA w
  have HV := Lib.hid (TNot.ldV_at hA (Blk.new w (upA k core blk) 37).whole)
  clear hA
  go_enter Try.func19, Try.ntmps19
  go_wp2
  have hv := HV.out
  refine bodyPost_ret (v := .agg (upA k core blk)) ?_ ?_ ?_
  · simp [results, Try.f19, asAddr, hv]
  · rfl
  exact ⟨rfl, Upd.alloc NoF w _⟩
abbrev nA : Nt := upN 1 1 5
abbrev nB : Nt := upN 2 0 6
abbrev nC : Nt := upN 11 0 6
theorem w1 : sendE twoC 1 [] nA = 0 ∧ sendS twoC 1 [] nA = [nA] := by
  have h : sendE twoC 1 [] nA = 0 := by decide
  exact ⟨h, by unfold sendS; rw [if_pos h]; rfl⟩
theorem w2 : sendE twoC 1 [nA] nB = 7 ∧ sendS twoC 1 [nA] nB = [nA] := by
  have h : sendE twoC 1 [nA] nB = 7 := by decide
  exact ⟨h, by unfold sendS; rw [h]; rfl⟩
theorem w3 : sendE twoC 1 [nA] nC = 0 ∧ sendS twoC 1 [nA] nC = [nA, nC] := by
  have h : sendE twoC 1 [nA] nC = 0 := by decide
  exact ⟨h, by unfold sendS; rw [if_pos h]; rfl⟩
theorem s_len {G : Nat → Prop} {w0 W : World} {L : List Obj} {tb : Nat} {c : Cfg} {room hops : Int} {ns : List Nt} (h : Sep G w0 W L) (i : Nat) (hi : L[i]? = some (To tb c room ns hops)) :
    Calls Try.prog 12 #[ptr tb] W fun e W' => e = .returned (.int .i64 ns.length) ∧ W = W' := h.looks (E := fun e => e = _) i hi (fun F hF => len_any W F tb c room ns hops hF)
set_option maxRecDepth 100000 in
set_option maxHeartbeats 2000000 in
theorem works_any (w : World) : Calls Try.prog 9 #[] w fun e w' => e = .returned (.bool true) ∧ Upd NoF w w' := by
  have i0 := InvT.nil twoC 1 (by decide)
  have okA := up_ok 1 1 5 (by decide)
  have okB := up_ok 2 0 6 (by decide)
  have okC := up_ok 11 0 6 (by decide)
  have i1 := i0.send (by decide) okA
  rw [w1.2] at i1
  have i2 := i1.send (by decide) okC
  rw [w3.2] at i2
  have I0 := Lib.hid i0; have I1 := Lib.hid i1; have I2 := Lib.hid i2
  clear i0 i1 i2 okA okB okC
  go_enter Try.func9, Try.ntmps9
  go_wp2_with fail
  refine (two_any w).mono ?_
  rintro e v1 ⟨rfl, hu⟩
  have HS1 := Lib.hid ((Sep.zero NoF w).upd0 hu)
  clear hu
  go_wp2_with fail
  refine (new_yes twoC may_two 1 (by decide) (by decide) v1).mono ?_
  rintro e v2 ⟨tb, rfl, hu, ht⟩
  have HS2 := Lib.hid (HS1.out.push hu ht)
  clear hu ht
  go_wp2_with fail
  refine (up_any 1 1 5 _).mono ?_
  rintro e x1 ⟨rfl, hu⟩
  have HSu := Lib.hid (HS2.out.upd0 hu)
  clear hu
  have hsd := s_send HSu.out 0 rfl may_two I0.out (by decide) (upN 1 1 5) (up_ok 1 1 5 (by decide))
  rw [w1.1, w1.2] at hsd
  have HSD := Lib.hid hsd
  clear hsd
  go_wp2_with fail
  refine HSD.out.mono ?_
  rintro e x2 ⟨rfl, hs⟩
  have HS3 := Lib.hid hs
  clear hs HSu HSD
  go_wp2_with fail
  refine (up_any 2 0 6 _).mono ?_
  rintro e x1 ⟨rfl, hu⟩
  have HSu := Lib.hid (HS3.out.upd0 hu)
  clear hu
  have hsd := s_send HSu.out 0 rfl may_two I1.out (by decide) (upN 2 0 6) (up_ok 2 0 6 (by decide))
  rw [w2.1, w2.2] at hsd
  have HSD := Lib.hid hsd
  clear hsd
  go_wp2_with fail
  refine HSD.out.mono ?_
  rintro e x2 ⟨rfl, hs⟩
  have HS4 := Lib.hid hs
  clear hs HSu HSD
  go_wp2_with fail
  refine (up_any 11 0 6 _).mono ?_
  rintro e x1 ⟨rfl, hu⟩
  have HSu := Lib.hid (HS4.out.upd0 hu)
  clear hu
  have hsd := s_send HSu.out 0 rfl may_two I1.out (by decide) (upN 11 0 6) (up_ok 11 0 6 (by decide))
  rw [w3.1, w3.2] at hsd
  have HSD := Lib.hid hsd
  clear hsd
  go_wp2_with fail
  refine HSD.out.mono ?_
  rintro e x2 ⟨rfl, hs⟩
  have HS5 := Lib.hid hs
  clear hs HSu HSD
  go_wp2_with fail
  refine (s_len HS5.out 0 rfl).mono ?_
  rintro e x3 ⟨rfl, rfl⟩
  go_wp2_with fail
  have htk := s_take HS5.out 0 rfl (by decide) I2.out (by decide) (by decide) (by decide) 1 nC rfl
  have HTK := Lib.hid htk
  clear htk
  refine HTK.out.mono ?_
  rintro e x4 ⟨rfl, hs⟩
  have hD : IsU nC.D := BU.isU_Z
  have s9 := TNot.st_new (Nt.Ok.isN hD) x4
  have HS6 : Hid (Sep NoF w (x4.alloc (.cells nC.cells 37)) [boxO x4.heap.size nC.cells 37, To tb twoC 1 [nA] (0 + hopsN nC.frm nC.too)]) := Lib.hid (hs.alloc _ _)
  obtain ⟨x5, hx5⟩ : ∃ W, x4.alloc (.cells nC.cells 37) = W := ⟨_, rfl⟩
  rw [hx5] at HS6
  have HX := Lib.hid hx5
  clear hs hx5
  go_upto_region 5 with fail
  rw [HX.out]
  clear s9 HX
  obtain ⟨nb, hnb⟩ : ∃ b, x4.heap.size = b := ⟨_, rfl⟩
  rw [hnb] at HS6 ⊢
  clear hnb
  have hHS := HS6.out
  have hq := fun (W : World) => eqN_run (n := nC) (m := upN 11 0 6) BU.isU_Z BU.isU_Z W
  have hss : nC.same (upN 11 0 6) = true := Nt.same_self _
  rw [hss] at hq
  refine wp_region_held_drew (S := (fun W => Sep NoF w W [boxO nb nC.cells 37, To tb twoC 1 [nA] (0 + hopsN nC.frm nC.too)] ∧ (TNot.ld (.pointer (some ⟨nb, 0, none⟩))).run Try.prog W = .ok (.agg nC.cells) W)) (by kernel_rfl) (⟨hHS.upd0 (Upd.drew NoF x5), TNot.ld_at (Nt.Ok.isN BU.isU_Z) ((hHS.upd0 (Upd.drew NoF x5)).box 0 rfl).whole⟩) (fun hHeld => ?_)
  refine rgn 0 (v := ?vr1_0) hHeld ?yr1_0 ?_
  case yr1_0 => (intro w hSw; obtain ⟨k0, k1⟩ := hSw; clear k0; go_simp; try with_reducible rfl)
  simp only [Act.put, rn1, rn2, rn3, rn4, rn5, rn6]
  refine reg_step (i := 1) (by kernel_rfl) rfl (by kernel_rfl) (fun K hK => ?_)
  go_simp
  refine (up_any 11 0 6 _).mono ?_
  rintro e y1 ⟨rfl, hu⟩
  have HS : (fun W => Sep NoF w W [boxO nb nC.cells 37, To tb twoC 1 [nA] (0 + hopsN nC.frm nC.too)] ∧ (TNot.ld (.pointer (some ⟨nb, 0, none⟩))).run Try.prog W = .ok (.agg nC.cells) W) y1 := ⟨hHeld.1.upd0 hu, TNot.ld_at (Nt.Ok.isN BU.isU_Z) ((hHeld.1.upd0 hu).box 0 rfl).whole⟩
  clear hu
  go_wp2_with fail
  refine hK.out _ _ HS (fun hHeld2 => ?_)
  clear hK hHeld2 hHeld; have hHeld := HS; clear HS
  try simp only [Act.put, rn1, rn2, rn3, rn4, rn5, rn6]
  refine rgn 2 (v := .bool true) hHeld ?yr1_2 ?_
  case yr1_2 => (intro w hSw; obtain ⟨k0, k1⟩ := hSw; clear k0; go_simp; try with_reducible rfl)
  simp only [Act.put, rn1, rn2, rn3, rn4, rn5, rn6]
  refine rgn 3 (v := .bool true) hHeld ?yr1_3 ?_
  case yr1_3 => (intro w hSw; obtain ⟨k0, k1⟩ := hSw; clear k0; go_simp; try with_reducible rfl)
  simp only [Act.put, rn1, rn2, rn3, rn4, rn5, rn6]
  refine rgn 4 (v := ?vr1_4) hHeld ?yr1_4 ?_
  case yr1_4 => (intro w hSw; obtain ⟨k0, k1⟩ := hSw; clear k0; go_simp; try with_reducible rfl)
  simp only [Act.put, rn1, rn2, rn3, rn4, rn5, rn6]
  refine rgn 5 (v := .bool true) hHeld ?yr1_5 ?_
  case yr1_5 => (intro w hSw; obtain ⟨k0, k1⟩ := hSw; clear k0; go_simp; try with_reducible rfl)
  simp only [Act.put, rn1, rn2, rn3, rn4, rn5, rn6]
  refine rgn 6 (v := .bool true) hHeld ?yr1_6 ?_
  case yr1_6 => (intro w hSw; obtain ⟨k0, k1⟩ := hSw; clear k0; go_simp; try with_reducible rfl)
  simp only [Act.put, rn1, rn2, rn3, rn4, rn5, rn6]
  refine rgn 7 (v := .bool true) hHeld ?yr1_7 ?_
  case yr1_7 => (intro w hSw; obtain ⟨k0, k1⟩ := hSw; clear k0; go_simp; try with_reducible rfl)
  simp only [Act.put, rn1, rn2, rn3, rn4, rn5, rn6]
  refine rgn 8 (v := ?vr1_8) hHeld ?yr1_8 ?_
  case yr1_8 => (intro w hSw; obtain ⟨k0, k1⟩ := hSw; clear k0; go_simp; try with_reducible rfl)
  simp only [Act.put, rn1, rn2, rn3, rn4, rn5, rn6]
  refine reg_step (i := 9) (by kernel_rfl) rfl (by kernel_rfl) (fun K hK => ?_)
  go_simp
  have hln := s_len hHeld.1 1 rfl
  refine hln.mono ?_
  rintro e y1 ⟨rfl, rfl⟩
  have HS := hHeld
  clear hln
  go_wp2_with fail
  refine hK.out _ _ HS (fun hHeld2 => ?_)
  clear hK hHeld2 hHeld; have hHeld := HS; clear HS
  try simp only [Act.put, rn1, rn2, rn3, rn4, rn5, rn6]
  refine rgn 10 (v := .bool true) hHeld ?yr1_10 ?_
  case yr1_10 => (intro w hSw; obtain ⟨k0, k1⟩ := hSw; clear k0; go_simp; try with_reducible rfl)
  simp only [Act.put, rn1, rn2, rn3, rn4, rn5, rn6]
  refine rgn 11 (v := .bool true) hHeld ?yr1_11 ?_
  case yr1_11 => (intro w hSw; obtain ⟨k0, k1⟩ := hSw; clear k0; go_simp; try with_reducible rfl)
  simp only [Act.put, rn1, rn2, rn3, rn4, rn5, rn6]
  refine rgn 12 (v := .bool true) hHeld ?yr1_12 ?_
  case yr1_12 => (intro w hSw; obtain ⟨k0, k1⟩ := hSw; clear k0; go_simp; try with_reducible rfl)
  simp only [Act.put, rn1, rn2, rn3, rn4, rn5, rn6]
  refine wpAnyH_done (by kernel_rfl) ?_ _
  go_wp2
  go_ret
  exact ⟨rfl, hHeld.1.upd⟩
end Go.Proofs.Ytmfhbobjambgaaa.NE
