/- BacksKnown: what the Go function does. -/
import Derived.Test.YtoddipfgkbaeaaaBacksLaws
set_option linter.unusedSimpArgs false
set_option linter.unusedVariables false
namespace Go.Proofs.Ytoddipfgkbaeaaa.BK
open Go.RowKit
open PL (Cfg CC CV May)
attribute [local go_sem] Oper.semAt_some
attribute [local go_sem ↓] TBlk.ld_eq TBlk.st_eq TBlk.al_eq TBlk.bx_eq
attribute [local go_sem] TBlk.al_run TBlk.bx_run

set_option maxRecDepth 100000 in
theorem find_nil (b : Int) (w : World) : Calls Try.prog 10 #[.pointer none, .int .i64 b] w fun e w' => e = .returned (.tuple #[.agg TBlk.Z, .bool false, .bool false]) ∧ Upd NoF w w' := by
  have q1 := Lib.hid (Blk.new w TBlk.Z 32)
  have HA := Lib.hid (at_nil b (w.alloc (.cells TBlk.Z 32)))
  have HU1 := Lib.hid (Upd.alloc NoF w (.cells TBlk.Z 32))
  go_enter Try.func10, Try.ntmps10
  go_wp2_with fail
  refine HA.out.mono ?_
  rintro e w2 ⟨rfl, hu2⟩
  obtain ⟨s4, q4⟩ := TBlk.st_at TBlk.isZ TBlk.isZ (q1.out.upd hu2 (fun h => h))
  have HV := Lib.hid (blkV _ TBlk.isZ _ _ _ q4)
  have HU := Lib.hid ((HU1.out.trans hu2 (fun _ _ h => h)).trans (upd_setCells (b := w.heap.size) TBlk.Z.toList 0 _) (fun i hi h => by have : i = w.heap.size := h; omega))
  have s4' : (TBlk.st (.pointer (some ⟨w.heap.size, 0, none⟩)) (.agg #[.int .u32 0, .int .u32 0, .int .u32 0, .int .u32 0, .int .u32 0, .int .u32 0, .int .u32 0, .int .u32 0, .int .u32 0, .int .u32 0, .int .u32 0, .int .u32 0, .int .u32 0, .int .u32 0, .int .u32 0, .int .u32 0])).run Try.prog w2 = .ok () (w2.setCells w.heap.size 0 TBlk.Z.toList) := s4
  clear q4 hu2 s4
  go_wp2
  have hv := HV.out
  refine bodyPost_ret (v := .tuple #[.agg TBlk.Z, .bool false, .bool false]) ?_ ?_ ?_
  · simp [results, Try.f10, asAddr, hv]
  · rfl
  exact ⟨rfl, HU.out⟩
theorem put_nil (b : Int) (D : Array Value) (w : World) : Calls Try.prog 12 #[.pointer none, .int .i64 b, .agg D] w fun e w' => e = .returned (.int .i64 1) ∧ Upd NoF w w' := by
  go_enter Try.func12, Try.ntmps12
  go_wp2
  go_ret
  exact ⟨rfl, Upd.alloc NoF w _⟩
theorem kill_nil (b : Int) (w : World) : Calls Try.prog 15 #[.pointer none, .int .i64 b] w fun e w' => e = .returned (.bool false) ∧ Upd NoF w w' := by
  go_enter Try.func15, Try.ntmps15
  go_wp2_with fail
  refine (find_nil b w).mono ?_
  rintro e w2 ⟨rfl, hu⟩
  have s5 := TBlk.st_new TBlk.isZ w2
  have HU := Lib.hid (hu.trans (Upd.alloc NoF w2 (.cells TBlk.Z 32)) (fun _ _ h => h))
  clear hu
  go_wp2
  go_ret
  exact ⟨rfl, HU.out⟩
theorem drop_nil (b : Int) (w : World) : Calls Try.prog 16 #[.pointer none, .int .i64 b] w fun e w' => e = .returned (.bool false) ∧ Upd NoF w w' := by
  go_enter Try.func16, Try.ntmps16
  go_wp2_with fail
  refine (at_nil b w).mono ?_
  rintro e w2 ⟨rfl, hu⟩
  have HU := Lib.hid hu
  clear hu
  go_wp2
  go_ret
  exact ⟨rfl, HU.out⟩
theorem len_nil (w : World) : Calls Try.prog 14 #[.pointer none] w fun e w' => e = .returned (.int .i64 0) ∧ w = w' := by
  go_enter Try.func14, Try.ntmps14
  go_wp2
  go_ret
  exact ⟨rfl, rfl⟩
theorem room_nil (w : World) : Calls Try.prog 11 #[.pointer none] w fun e w' => e = .returned (.int .i64 0) ∧ w = w' := by
  go_enter Try.func11, Try.ntmps11
  go_wp2
  go_ret
  exact ⟨rfl, rfl⟩
theorem copy_nil (w : World) : Calls Try.prog 18 #[.pointer none] w fun e w' => e = .returned (.pointer none) ∧ w = w' := by
  go_enter Try.func18, Try.ntmps18
  go_wp2
  go_ret
  exact ⟨rfl, rfl⟩
theorem isU_D5 : IsU D5 := ⟨by kernel_rfl, fun u hu => by
  simp only [D5, List.mem_toArray, List.mem_cons, List.not_mem_nil, or_false, or_self] at hu
  rcases hu with hu | hu
  · exact ⟨5, hu⟩
  · exact ⟨0, hu⟩⟩

set_option maxRecDepth 100000 in
set_option maxHeartbeats 4000000 in
theorem known_any (w : World) : Calls Try.prog 6 #[] w fun e w' => e = .returned (.bool true) ∧ Below w.heap.size w w' := by
  go_enter Try.func6, Try.ntmps6
  go_wp2_with fail
  refine (eight_any _).mono ?_
  rintro e w1 ⟨rfl, hu⟩
  have HU1 := Lib.hid hu
  clear hu
  go_wp2_with fail
  refine (new_yes E8 may8 w1).mono ?_
  rintro e w2 ⟨kb, rfl, hu, hb⟩
  have HS2 : Hid (Sep NoF w w2 [Bo kb 8 [] 1]) := Lib.hid (((Sep.zero NoF w).upd0 HU1.out).push hu hb)
  clear hu hb
  go_wp2_with fail
  refine (works_any _).mono ?_
  rintro e w3 ⟨rfl, hu⟩
  have HS3 := Lib.hid (HS2.out.upd0 hu)
  clear hu
  go_wp2_with fail
  refine (HS3.out.call (Φ' := Bo kb 8 [⟨3, D5, true⟩] 1) (E := fun e => e = _) 0 rfl (fun F hF => put_ok w3 F kb 8 [] 1 3 D5 isD5 hF (by decide) (by decide) rfl (by decide) (by decide))).mono ?_
  rintro e w4 ⟨rfl, hs⟩
  have HS4 : Hid (Sep NoF w w4 [Bo kb 8 [⟨3, D5, true⟩] 1]) := Lib.hid hs
  clear hs
  go_wp2_with fail
  refine (HS4.out.call (Φ' := Bo kb 8 [⟨3, D5, false⟩] 1) (E := fun e => e = _) 0 rfl (fun F hF => kill_yes w4 F kb 8 [⟨3, D5, true⟩] 1 3 0 D5 hF rfl rfl (by decide) (by decide))).mono ?_
  rintro e w5 ⟨rfl, hs⟩
  have HS5 : Hid (Sep NoF w w5 [Bo kb 8 [⟨3, D5, false⟩] 1]) := Lib.hid hs
  clear hs
  go_wp2_with fail
  refine (HS5.out.reads (E := fun e => e = _) 0 rfl (fun F hF => kill_dead w5 F kb 8 [⟨3, D5, false⟩] 1 3 0 ⟨3, D5, false⟩ hF rfl rfl rfl)).mono ?_
  rintro e w6 ⟨rfl, hs⟩
  have HS6 := Lib.hid hs
  clear hs
  go_wp2_with fail
  refine (HS6.out.reads (E := fun e => e = _) 0 rfl (fun F hF => find_yes w6 F kb 8 _ 1 3 0 ⟨3, D5, false⟩ hF rfl rfl)).mono ?_
  rintro e w7 ⟨rfl, hs⟩
  have s3 := TBlk.st_new isD5 w7
  have l3 := TBlk.ld_new isD5 w7
  have hne := neqU isU_D5 (w7.alloc (.cells D5 32))
  have HS7 : Hid (Sep NoF w (w7.alloc (.cells D5 32)) [boxO w7.heap.size D5 32, Bo kb 8 [⟨3, D5, false⟩] 1]) := Lib.hid (hs.alloc _ _)
  clear hs
  go_wp2_with fail
  obtain ⟨db, hdb⟩ : ∃ db, w7.heap.size = db := ⟨_, rfl⟩
  rw [hdb] at HS7 ⊢
  refine (HS7.out.call (Φ' := Bo kb 8 [] 1) (E := fun e => e = _) 1 rfl (fun F hF => drop_yes _ F kb 8 [⟨3, D5, false⟩] 1 3 0 ⟨3, D5, false⟩ hF rfl rfl (by decide))).mono ?_
  rintro e w8 ⟨rfl, hs⟩
  have HS8 : Hid (Sep NoF w w8 [boxO db D5 32, Bo kb 8 [] 1]) := Lib.hid hs
  clear hs
  go_wp2_with fail
  refine (HS8.out.reads (E := fun e => e = _) 1 rfl (fun F hF => room_any _ F kb 8 [] 1 hF (by decide) (by decide) (by decide))).mono ?_
  rintro e w9 ⟨rfl, hs⟩
  have HS9 := Lib.hid hs
  clear hs
  go_wp2_with fail
  refine (find_nil 0 _).mono ?_
  rintro e w10 ⟨rfl, hu⟩
  have HS10 := Lib.hid (HS9.out.upd0 hu)
  clear hu
  go_wp2_with fail
  refine (new_no ⟨0, 0, 0, 0, 0, 0, 0, 0⟩ (by decide) _).mono ?_
  rintro e w11 ⟨rfl, hu⟩
  have HS11 := Lib.hid (HS10.out.upd0 hu)
  clear hu
  have l11 := TBlk.ld_at isD5 (HS11.out.box 0 rfl).whole
  go_wp2_with fail
  refine (put_nil 0 _ _).mono ?_
  rintro e w12 ⟨rfl, hu⟩
  have HS12 := Lib.hid (HS11.out.upd0 hu)
  clear hu
  go_wp2_with fail
  refine (kill_nil 0 _).mono ?_
  rintro e w13 ⟨rfl, hu⟩
  have HS13 := Lib.hid (HS12.out.upd0 hu)
  clear hu
  go_wp2_with fail
  refine (drop_nil 0 _).mono ?_
  rintro e w14 ⟨rfl, hu⟩
  have HS14 := Lib.hid (HS13.out.upd0 hu)
  clear hu
  go_wp2_with (first | (go_at_call 14; refine (len_nil _).mono ?_; rintro e w' ⟨rfl, rfl⟩) | (go_at_call 11; refine (room_nil _).mono ?_; rintro e w' ⟨rfl, rfl⟩) | (go_at_call 18; refine (copy_nil _).mono ?_; rintro e w' ⟨rfl, rfl⟩))
  go_ret
  exact ⟨rfl, HS14.out.below⟩
end Go.Proofs.Ytoddipfgkbaeaaa.BK
