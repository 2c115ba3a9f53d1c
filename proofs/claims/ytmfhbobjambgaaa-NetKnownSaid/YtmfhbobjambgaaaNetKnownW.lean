/- NetKnown: what the Go function does. -/
import Derived.Test.YtmfhbobjambgaaaNetWorks
set_option linter.unusedSimpArgs false
set_option linter.unusedVariables false
namespace Go.Proofs.Ytmfhbobjambgaaa.NE
open Go.RowKit
open BU (IsU words)
open PL (Cfg CC CV May)
open GR (hopsN)
attribute [local go_sem] Oper.semAt_some
attribute [local go_sem ↓] eqN_eq neN_eq eqB_eq neB_eq TNot.ld_eq TNot.st_eq TNot.al_eq TNot.bx_eq
attribute [local go_sem] TNot.al_run TNot.bx_run
set_option maxRecDepth 100000 in
theorem take_nil (w : World) : Calls Try.prog 17 #[.pointer none, .int .i64 0] w fun e w' => e = .returned (.tuple #[.agg Nt.nil.cells, .int .i64 1]) ∧ Upd NoF w w' := by
  rw [Nt.nil_cells]
  obtain ⟨s4, q4⟩ := TNot.st_at TNot.isZ TNot.isZ (Blk.new w TNot.Z 37)
  have s4' : (TNot.st (.pointer (some ⟨w.heap.size, 0, none⟩)) (.agg #[.int .u8 0, .int .i64 0, .int .i64 0, .int .i64 0, .int .u64 0, .int .u8 0, .bool false, .bool false, .int .u32 0, .int .u32 0, .int .u32 0, .int .u32 0, .int .u32 0, .int .u32 0, .int .u32 0, .int .u32 0, .int .u32 0, .int .u32 0, .int .u32 0, .int .u32 0, .int .u32 0, .int .u32 0, .int .u32 0, .int .u32 0])).run Try.prog (w.alloc (.cells TNot.Z 37)) = .ok () ((w.alloc (.cells TNot.Z 37)).setCells w.heap.size 0 TNot.Z.toList) := s4
  have HV := Lib.hid (TNot.ldV_at TNot.isZ q4.whole)
  have HU := Lib.hid ((Upd.alloc NoF w (.cells TNot.Z 37)).trans (upd_setCells (b := w.heap.size) TNot.Z.toList 0 _) (fun i hi h => by have : i = w.heap.size := h; omega))
  clear s4 q4
  go_enter Try.func17, Try.ntmps17
  go_wp2
  have hv := HV.out
  refine bodyPost_ret (v := .tuple #[.agg TNot.Z, .int .i64 1]) ?_ ?_ ?_
  · simp [results, Try.f17, asAddr, hv]
  · rfl
  exact ⟨rfl, HU.out⟩
set_option maxRecDepth 100000 in
theorem at_nil (w : World) : Calls Try.prog 21 #[.pointer none, .int .i64 0] w fun e w' => e = .returned (.tuple #[.agg Nt.nil.cells, .int .i64 1]) ∧ Upd NoF w w' := by
  rw [Nt.nil_cells]
  obtain ⟨s4, q4⟩ := TNot.st_at TNot.isZ TNot.isZ (Blk.new w TNot.Z 37)
  have s4' : (TNot.st (.pointer (some ⟨w.heap.size, 0, none⟩)) (.agg #[.int .u8 0, .int .i64 0, .int .i64 0, .int .i64 0, .int .u64 0, .int .u8 0, .bool false, .bool false, .int .u32 0, .int .u32 0, .int .u32 0, .int .u32 0, .int .u32 0, .int .u32 0, .int .u32 0, .int .u32 0, .int .u32 0, .int .u32 0, .int .u32 0, .int .u32 0, .int .u32 0, .int .u32 0, .int .u32 0, .int .u32 0])).run Try.prog (w.alloc (.cells TNot.Z 37)) = .ok () ((w.alloc (.cells TNot.Z 37)).setCells w.heap.size 0 TNot.Z.toList) := s4
  have HV := Lib.hid (TNot.ldV_at TNot.isZ q4.whole)
  have HU := Lib.hid ((Upd.alloc NoF w (.cells TNot.Z 37)).trans (upd_setCells (b := w.heap.size) TNot.Z.toList 0 _) (fun i hi h => by have : i = w.heap.size := h; omega))
  clear s4 q4
  go_enter Try.func21, Try.ntmps21
  go_wp2
  have hv := HV.out
  refine bodyPost_ret (v := .tuple #[.agg TNot.Z, .int .i64 1]) ?_ ?_ ?_
  · simp [results, Try.f21, asAddr, hv]
  · rfl
  exact ⟨rfl, HU.out⟩
set_option maxRecDepth 100000 in
theorem send_nil (x : Array Value) (w : World) : Calls Try.prog 11 #[.pointer none, .agg x] w fun e w' => e = .returned (.int .i64 1) ∧ Upd NoF w w' := by
  go_enter Try.func11, Try.ntmps11
  go_wp2
  go_ret
  exact ⟨rfl, Upd.alloc NoF w _⟩
set_option maxRecDepth 100000 in
theorem len_nil (w : World) : Calls Try.prog 12 #[.pointer none] w fun e w' => e = .returned (.int .i64 0) ∧ Upd NoF w w' := by
  go_enter Try.func12, Try.ntmps12
  go_wp2
  go_ret
  exact ⟨rfl, Upd.refl _ _⟩
set_option maxRecDepth 100000 in
theorem hops_nil (w : World) : Calls Try.prog 20 #[.pointer none] w fun e w' => e = .returned (.int .i64 0) ∧ Upd NoF w w' := by
  go_enter Try.func20, Try.ntmps20
  go_wp2
  go_ret
  exact ⟨rfl, Upd.refl _ _⟩
set_option maxRecDepth 100000 in
theorem copy_nil (w : World) : Calls Try.prog 22 #[.pointer none] w fun e w' => e = .returned (.pointer none) ∧ Upd NoF w w' := by
  go_enter Try.func22, Try.ntmps22
  go_wp2
  go_ret
  exact ⟨rfl, Upd.refl _ _⟩
set_option maxRecDepth 100000 in
theorem room_nil (node net : Int) (w : World) : Calls Try.prog 16 #[.pointer none, .int .i64 node, .int .i64 net] w fun e w' => e = .returned (.int .i64 0) ∧ Upd NoF w w' := by
  have HU := Lib.hid ((Upd.alloc NoF w (.cells #[.int .i64 node] 3)).trans (Upd.alloc NoF _ (.cells #[.int .i64 net] 3)) (fun _ _ h => h))
  refine calls_of_wp_marks Try.func16 rfl ?_
  simp only [Try.ntmps16, List.size_toArray, List.length_cons, List.length_nil, Nat.reduceAdd, Nat.reduceSub, Array.replicate_succ, Array.replicate_zero, List.push_toArray, List.append_toArray, List.nil_append, List.cons_append]
  go_wp2_with fail
  go_quiet (fail)
  go_wp2
  exact postM_ret0 (v := .int .i64 0) (by simp [results, Try.f16, go_sem]) ⟨rfl, HU.out.trans (Upd.drewN NoF _ _) (fun _ _ h => h)⟩
abbrev nD : Nt := upN 1 2 0
abbrev nE : Nt := upN 1 0 8
theorem w4 : sendE twoC 1 [nA] nD = 2 ∧ sendS twoC 1 [nA] nD = [nA] := by
  have h : sendE twoC 1 [nA] nD = 2 := by decide
  exact ⟨h, by unfold sendS; rw [h]; rfl⟩
theorem w5 : sendE twoC 1 [nA] nE = 2 ∧ sendS twoC 1 [nA] nE = [nA] := by
  have h : sendE twoC 1 [nA] nE = 2 := by decide
  exact ⟨h, by unfold sendS; rw [h]; rfl⟩
theorem hopsC : hopsN nC.frm nC.too = 1 := by decide
set_option maxRecDepth 100000 in
set_option maxHeartbeats 4000000 in
theorem known_any (w : World) : Calls Try.prog 6 #[] w fun e w' => e = .returned (.bool true) ∧ Below w.heap.size w w' := by
  have i0 := InvT.nil twoC 1 (by decide)
  have okA := up_ok 1 1 5 (by decide)
  have okC := up_ok 11 0 6 (by decide)
  have i1 := i0.send (by decide) okA
  rw [w1.2] at i1
  have i2 := i1.send (by decide) okC
  rw [w3.2] at i2
  have I0 := Lib.hid i0; have I1 := Lib.hid i1; have I2 := Lib.hid i2
  clear i0 i1 i2 okA okC
  go_enter Try.func6, Try.ntmps6
  go_wp2_with fail
  refine (two_any w).mono ?_
  rintro e v1 ⟨rfl, hu⟩
  have HS1 := Lib.hid ((Sep.zero NoF w).upd0 hu)
  clear hu
  go_wp2_with fail
  refine (new_yes twoC may_two 1 (by decide) (by decide) v1).mono ?_
  rintro e v2 ⟨tb, rfl, hu, ht⟩
  have HS2 := Lib.hid (HS1.out.push hu ht)
  clear hu ht
  go_wp2_with fail
  refine (works_any v2).mono ?_
  rintro e v3 ⟨rfl, hu⟩
  have HS3 := Lib.hid (HS2.out.upd0 hu)
  clear hu
  go_wp2_with fail
  refine (up_any 1 1 5 _).mono ?_
  rintro e x1 ⟨rfl, hu⟩
  have HSu := Lib.hid (HS3.out.upd0 hu)
  clear hu
  have hsd := s_send HSu.out 0 rfl may_two I0.out (by decide) (upN 1 1 5) (up_ok 1 1 5 (by decide))
  rw [w1.1, w1.2] at hsd
  have HSD := Lib.hid hsd
  clear hsd
  go_wp2_with fail
  refine HSD.out.mono ?_
  rintro e x2 ⟨rfl, hs⟩
  have HS4 := Lib.hid hs
  clear hs HSu HSD
  go_wp2_with fail
  refine (up_any 11 0 6 _).mono ?_
  rintro e x1 ⟨rfl, hu⟩
  have HSu := Lib.hid (HS4.out.upd0 hu)
  clear hu
  have hsd := s_send HSu.out 0 rfl may_two I1.out (by decide) (upN 11 0 6) (up_ok 11 0 6 (by decide))
  rw [w3.1, w3.2] at hsd
  have HSD := Lib.hid hsd
  clear hsd
  go_wp2_with fail
  refine HSD.out.mono ?_
  rintro e x2 ⟨rfl, hs⟩
  have HS5 := Lib.hid hs
  clear hs HSu HSD
  go_wp2_with fail
  have htk := s_take HS5.out 0 rfl (by decide) I2.out (by decide) (by decide) (by decide) 1 nC rfl
  rw [hopsC] at htk
  have HTK := Lib.hid htk
  clear htk
  refine HTK.out.mono ?_
  rintro e x4 ⟨rfl, hs⟩
  have s9 := TNot.st_new (Nt.Ok.isN (n := nC) BU.isU_Z) x4
  obtain ⟨x5, hx5⟩ : ∃ W, x4.alloc (.cells nC.cells 37) = W := ⟨_, rfl⟩
  have HS6 : Hid (Sep NoF w x5 [To tb twoC 1 [nA] 1]) := Lib.hid (by rw [← hx5]; exact hs.upd0 (Upd.alloc NoF _ _))
  have HX := Lib.hid hx5
  clear hs hx5
  go_upto_region 5 with fail
  rw [HX.out]
  clear s9 HX
  have HTB := Lib.hid (s_take_bad HS6.out 0 rfl 1 (.inr (by decide)))
  go_wp2_with fail
  refine HTB.out.mono ?_
  rintro e x6 ⟨rfl, hs⟩
  have s9 := TNot.st_new (Nt.Ok.isN (n := Nt.nil) BU.isU_Z) x6
  obtain ⟨x7, hx7⟩ : ∃ W, x6.alloc (.cells Nt.nil.cells 37) = W := ⟨_, rfl⟩
  have HS7 : Hid (Sep NoF w x7 [To tb twoC 1 [nA] 1]) := Lib.hid (by rw [← hx7]; exact hs.upd0 (Upd.alloc NoF _ _))
  have HX := Lib.hid hx7
  clear hs hx7
  go_upto_region 6 with fail
  rw [HX.out]
  clear s9 HX
  go_wp2_with fail
  refine (HS7.out.looks (E := fun e => e = _) 0 rfl (fun F hF => hops_any x7 F tb twoC 1 [nA] 1 hF)).mono ?_
  rintro e x8 ⟨rfl, rfl⟩
  go_wp2_with fail
  refine (up_any 1 2 0 _).mono ?_
  rintro e x1 ⟨rfl, hu⟩
  have HSu := Lib.hid (HS7.out.upd0 hu)
  clear hu
  have hsd := s_send HSu.out 0 rfl may_two I1.out (by decide) (upN 1 2 0) (up_ok 1 2 0 (by decide))
  rw [w4.1, w4.2] at hsd
  have HSD := Lib.hid hsd
  clear hsd
  go_wp2_with fail
  refine HSD.out.mono ?_
  rintro e x2 ⟨rfl, hs⟩
  have HS8 := Lib.hid hs
  clear hs HSu HSD
  go_wp2_with fail
  refine (up_any 1 0 8 _).mono ?_
  rintro e x1 ⟨rfl, hu⟩
  have HSu := Lib.hid (HS8.out.upd0 hu)
  clear hu
  have hsd := s_send HSu.out 0 rfl may_two I1.out (by decide) (upN 1 0 8) (up_ok 1 0 8 (by decide))
  rw [w5.1, w5.2] at hsd
  have HSD := Lib.hid hsd
  clear hsd
  go_wp2_with fail
  refine HSD.out.mono ?_
  rintro e x2 ⟨rfl, hs⟩
  have HS9 := Lib.hid hs
  clear hs HSu HSD
  go_wp2_with fail
  refine (take_nil _).mono ?_
  rintro e z10 ⟨rfl, hu⟩
  have HT10 := Lib.hid (HS9.out.upd0 hu)
  clear hu
  go_wp2_with fail
  refine (at_nil _).mono ?_
  rintro e z11 ⟨rfl, hu⟩
  have HT11 := Lib.hid (HT10.out.upd0 hu)
  clear hu
  go_wp2_with fail
  refine (send_nil _ _).mono ?_
  rintro e z12 ⟨rfl, hu⟩
  have HT12 := Lib.hid (HT11.out.upd0 hu)
  clear hu
  go_wp2_with fail
  refine (len_nil _).mono ?_
  rintro e z13 ⟨rfl, hu⟩
  have HT13 := Lib.hid (HT12.out.upd0 hu)
  clear hu
  go_wp2_with fail
  refine (hops_nil _).mono ?_
  rintro e z14 ⟨rfl, hu⟩
  have HT14 := Lib.hid (HT13.out.upd0 hu)
  clear hu
  go_wp2_with fail
  refine (room_nil 0 0 _).mono ?_
  rintro e z15 ⟨rfl, hu⟩
  have HT15 := Lib.hid (HT14.out.upd0 hu)
  clear hu
  go_wp2_with fail
  refine (copy_nil _).mono ?_
  rintro e z16 ⟨rfl, hu⟩
  have HT16 := Lib.hid (HT15.out.upd0 hu)
  clear hu
  go_wp2
  go_ret
  exact ⟨rfl, HT16.out.below⟩
end Go.Proofs.Ytmfhbobjambgaaa.NE
