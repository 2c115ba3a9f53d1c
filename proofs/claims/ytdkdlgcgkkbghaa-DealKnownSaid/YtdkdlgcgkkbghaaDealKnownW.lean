/- The walk of the statement DealKnown. -/
import Derived.Test.YtdkdlgcgkkbghaaDealInv
import Derived.Test.YtdkdlgcgkkbghaaDealNil
import Derived.Deep.RegionHeld3
set_option linter.unusedSimpArgs false
set_option linter.unusedVariables false
namespace Go.Proofs.Ytdkdlgcgkkbghaa.DL
open Go.RowKit
open Go.Proofs.Ytdkdlgcgkkbghaa.Ord
attribute [local go_sem ↓] ldS_eq stS_eq

theorem neq_save1 (w : World) : (binOp .neq 36 (SV 1) (SV 1)).run Try.prog w = .ok (.bool false) w := by kernel_rfl
attribute [local go_sem ↓] neq_save1
theorem save_rangeAt {w : World} {g : Nat} {n : Int} {T : TypeId} (h : Blk w g (SC n) T) : w.rangeAt g 0 (SC n).toList := by
  have h' := World.rangeAt_of_block h 0 17
  have e : ((SC n).extract 0 (0 + 17)).toList = (SC n).toList := by kernel_rfl
  exact Eq.mp (congrArg (fun x => w.rangeAt g 0 x) e) h'

set_option maxRecDepth 100000 in
set_option maxHeartbeats 4000000 in
theorem known_law (w : World) : Calls Try.prog 6 #[] w fun e w' => e = .returned (.bool true) ∧ Below w.heap.size w w' := by
  go_enter Try.func6, Try.ntmps6
  go_wp2_with fail
  refine (new_any 2 (by decide) (by decide) w).mono ?_
  rintro e w1 ⟨rfl, hd1, hu1⟩
  have HD1 := Lib.hid hd1; have HU1 := Lib.hid (hu1.toFrom (B := w.heap.size)); clear hd1 hu1
  obtain ⟨b, hb⟩ : ∃ b, w.heap.size = b := ⟨_, rfl⟩
  have HBL : Hid (w.heap.size ≤ b) := Lib.hid (by omega)
  rw [hb] at HD1 ⊢
  clear hb
  go_wp2_with fail
  refine (works_any w1).mono ?_
  rintro e w2 ⟨rfl, hu⟩
  have HD2 := Lib.hid (HD1.out.upd hu (fun h => by have : w1.heap.size ≤ b := h; have := HD1.out.lt; omega))
  have HU2 := Lib.hid (HU1.out.from (hu.mono (fun q _ h => by have := HU1.out.size; unfold From at *; omega)))
  clear hu
  go_wp2_with fail
  refine (save_any 1 w2).mono ?_
  rintro e w3 ⟨rfl, hu⟩
  have HU3 := Lib.hid (HU2.out.from hu.toFrom)
  have HD3 := Lib.hid (HD2.out.upd hu (fun h => h))
  clear hu
  go_wp2_with fail
  refine (works_at w w3 b 2 1 7 0 ⟨0, 0, 0, false, false, 0⟩ ⟨1, 1, 7, false, false, 0⟩ (by decide) (by kernel_rfl) (by kernel_rfl) HD3.out HU3.out HBL.out).mono ?_
  rintro e w4 ⟨rfl, hd, hu⟩
  have HU4 := Lib.hid hu; have HD4 := Lib.hid hd; clear hu hd
  go_wp2_with fail
  refine (save_any 2 w4).mono ?_
  rintro e w5 ⟨rfl, hu⟩
  have HU5 := Lib.hid (HU4.out.from hu.toFrom)
  have HD5 := Lib.hid (HD4.out.upd hu (fun h => h))
  clear hu
  go_wp2_with fail
  refine (works_at w w5 b 2 2 8 0 ⟨1, 1, 7, false, false, 0⟩ ⟨2, 1, 7, false, false, 0⟩ (by decide) (by kernel_rfl) (by kernel_rfl) HD5.out HU5.out HBL.out).mono ?_
  rintro e w6 ⟨rfl, hd, hu⟩
  have HU6 := Lib.hid hu; have HD6 := Lib.hid hd; clear hu hd
  go_wp2_with fail
  refine (end_at w w6 b 2 0 false ⟨2, 1, 7, false, false, 0⟩ ⟨1, 1, 7, false, false, 0⟩ (by decide) (by kernel_rfl) (by kernel_rfl) (by kernel_rfl) HD6.out HU6.out HBL.out).mono ?_
  rintro e w7 ⟨rfl, hd, hu⟩
  have HU7 := Lib.hid hu; have HD7 := Lib.hid hd; clear hu hd
  go_wp2_with fail
  refine (end_at w w7 b 2 0 true ⟨1, 1, 7, false, false, 0⟩ ⟨0, 1, 0, false, false, 0⟩ (by decide) (by kernel_rfl) (by kernel_rfl) (by kernel_rfl) HD7.out HU7.out HBL.out).mono ?_
  rintro e w8 ⟨rfl, hd, hu⟩
  have HU8 := Lib.hid hu; have HD8 := Lib.hid hd; clear hu hd
  go_wp2_with fail
  refine (end_at w w8 b 2 8 false ⟨0, 1, 0, false, false, 0⟩ ⟨0, 1, 0, false, false, 0⟩ (by decide) (by kernel_rfl) (by kernel_rfl) (by kernel_rfl) HD8.out HU8.out HBL.out).mono ?_
  rintro e w9 ⟨rfl, hd, hu⟩
  have HU9 := Lib.hid hu; have HD9 := Lib.hid hd; clear hu hd
  go_wp2_with (go_at_call 16; refine (stamp_any b 2 ⟨0, 1, 0, false, false, 0⟩ _ HD9.out).mono ?_; rintro e w' ⟨rfl, rfl⟩; rw [show stampE ⟨0, 1, 0, false, false, 0⟩ = 0 from by kernel_rfl])
  refine (save_any 1 w9).mono ?_
  rintro e w10 ⟨rfl, hu⟩
  have HU10 := Lib.hid (HU9.out.from hu.toFrom)
  have HD10 := Lib.hid (HD9.out.upd hu (fun h => h))
  clear hu
  go_wp2_with fail
  refine (works_at w w10 b 2 1 3 0 ⟨0, 1, 0, false, false, 0⟩ ⟨1, 1, 3, false, false, 0⟩ (by decide) (by kernel_rfl) (by kernel_rfl) HD10.out HU10.out HBL.out).mono ?_
  rintro e w11 ⟨rfl, hd, hu⟩
  have HU11 := Lib.hid hu; have HD11 := Lib.hid hd; clear hu hd
  go_wp2_with fail
  refine (fail_at w w11 b 2 1 0 ⟨1, 1, 3, false, false, 0⟩ ⟨1, 1, 3, false, true, 1⟩ (by decide) (by kernel_rfl) (by kernel_rfl) HD11.out HU11.out HBL.out).mono ?_
  rintro e w12 ⟨rfl, hd, hu⟩
  have HU12 := Lib.hid hu; have HD12 := Lib.hid hd; clear hu hd
  go_wp2_with fail
  refine (over_at w w12 b 2 (.tuple #[SV 1, .int .u32 1, .int .i64 0]) ⟨1, 1, 3, false, true, 1⟩ ⟨0, 1, 3, false, false, 1⟩ (by decide) (by kernel_rfl) (by kernel_rfl) HD12.out HU12.out HBL.out).mono ?_
  rintro e w13 ⟨rfl, hd, hu⟩
  have HU13 := Lib.hid hu; have HD13 := Lib.hid hd; clear hu hd
  obtain ⟨h1, h2⟩ := save_new w13 1 36
  have s0 : (stS (.pointer (some ⟨w13.heap.size, 0, none⟩)) (SV 1)).run Try.prog (w13.alloc (.cells #[.int .u32 0, .int .u32 0, .int .u32 0, .int .u32 0, .int .u32 0, .int .u32 0, .int .u32 0, .int .u32 0, .int .u32 0, .int .u32 0, .int .u32 0, .int .u32 0, .int .u32 0, .int .u32 0, .int .u32 0, .int .u32 0, .int .i64 0] 36)) = .ok () ((w13.alloc (.cells SZ 36)).setCells w13.heap.size 0 (SC 1).toList) := stS_run 1 (save_newthere w13 _)
  generalize (w13.alloc (.cells SZ 36)).setCells w13.heap.size 0 (SC 1).toList = w14 at *
  have HU14 := Lib.hid (HU13.out.from h1.toFrom); have HD14 := Lib.hid (HD13.out.upd h1 (fun h => h)); have HS14 := Lib.hid h2
  have l14 := ldS_run (save_rangeAt HS14.out)
  clear h1 h2
  go_wp2_with fail
  have hgb : w13.heap.size ≠ b := by have := HD13.out.lt; omega
  go_region_held3 (fun W => Upd (From w.heap.size) w W ∧ Blk W w13.heap.size (SC 1) 36 ∧ (ldS (.pointer (some ⟨w13.heap.size, 0, none⟩))).run Try.prog W = .ok (SV 1) W) (first | assumption | exact ⟨HU14.out.from (Upd.drew _ w14), HS14.out.upd (Upd.drew NoF w14) (fun h => h), ldS_run (save_rangeAt (HS14.out.upd (Upd.drew NoF w14) (fun h => h)))⟩) (first | (go_at_call_of 12 (1 : Int); have hS : Upd (From w.heap.size) w _ ∧ _ := ‹_›; refine (save_any 1 _).mono ?_; rintro e wa ⟨rfl, hu⟩; have hDa := Lib.hid ((HD14.out.upd (Upd.drew NoF w14) (fun h => h)).upd hu (fun h => h)); have hQ' := hS.2.1.upd hu (fun h => h); have hS' : (fun W => Upd (From w.heap.size) w W ∧ Blk W w13.heap.size (SC 1) 36 ∧ (ldS (.pointer (some ⟨w13.heap.size, 0, none⟩))).run Try.prog W = .ok (SV 1) W) wa := ⟨hS.1.from hu.toFrom, hQ', ldS_run (save_rangeAt hQ')⟩; clear hu hS hQ') | (go_at_call_of 12 (2 : Int); have hS : Upd (From w.heap.size) w _ ∧ _ := ‹_›; refine (save_any 2 _).mono ?_; rintro e wb ⟨rfl, hu⟩; have hDb := Lib.hid (hDa.out.upd hu (fun h => h)); have hQ' := hS.2.1.upd hu (fun h => h); have hS' : (fun W => Upd (From w.heap.size) w W ∧ Blk W w13.heap.size (SC 1) 36 ∧ (ldS (.pointer (some ⟨w13.heap.size, 0, none⟩))).run Try.prog W = .ok (SV 1) W) wb := ⟨hS.1.from hu.toFrom, hQ', ldS_run (save_rangeAt hQ')⟩; clear hu hS hQ') | (go_at_call 11; have hS : Upd (From w.heap.size) w _ ∧ _ := ‹_›; refine (begin_any b 2 ⟨0, 1, 3, false, false, 1⟩ 2 9 (by decide) _ hDb.out).mono ?_; rintro e wc ⟨rfl, hd, hu⟩; have hDc : Hid (DAt wc b 2 ⟨1, 2, 3, false, false, 1⟩) := Lib.hid hd; have hQ' := hS.2.1.upd hu hgb; have hS' : (fun W => Upd (From w.heap.size) w W ∧ Blk W w13.heap.size (SC 1) 36 ∧ (ldS (.pointer (some ⟨w13.heap.size, 0, none⟩))).run Try.prog W = .ok (SV 1) W) wc := ⟨hS.1.from (fromOnly hu HBL.out), hQ', ldS_run (save_rangeAt hQ')⟩; clear hu hS hQ' hd; rw [show beginE 2 ⟨0, 1, 3, false, false, 1⟩ 9 = 0 from by kernel_rfl]) | (go_at_call 16; refine (stamp_any b 2 ⟨1, 2, 3, false, false, 1⟩ _ hDc.out).mono ?_; rintro e w' ⟨rfl, rfl⟩; rw [show stampE ⟨1, 2, 3, false, false, 1⟩ = 3 from by kernel_rfl]))
  obtain ⟨hUc, hQc, lc⟩ : Upd (From w.heap.size) w wc ∧ _ ∧ _ := ‹Upd (From w.heap.size) w wc ∧ _›
  go_wp2_with (go_at_call 13; refine (nil_end _).mono ?_; rintro e w' ⟨rfl, rfl⟩)
  refine (nil_over wc).mono ?_
  rintro e wo ⟨rfl, hu⟩
  have HUo := Lib.hid (hUc.from hu.toFrom); have HQo := Lib.hid (hQc.upd hu (fun h => h))
  have lo := ldS_run (save_rangeAt HQo.out)
  clear hu hUc hQc lc
  go_wp2_with fail
  refine (new_none 0 (by decide) wo).mono ?_
  rintro e w' ⟨rfl, rfl⟩
  go_wp2_with fail
  refine (nil_begin 1 1 wo).mono ?_
  rintro e wp ⟨rfl, hu⟩
  have HUp := Lib.hid (HUo.out.from hu.toFrom)
  clear hu
  go_wp2_with (first | (go_at_call 14; refine (nil_fail 1 _).mono ?_; rintro e w' ⟨rfl, rfl⟩) | (go_at_call 18; refine (nil_asked true 1 _).mono ?_; rintro e w' ⟨rfl, rfl⟩) | (go_at_call 10; refine (nil_depth _).mono ?_; rintro e w' ⟨rfl, rfl⟩) | (go_at_call 17; refine (nil_failing _).mono ?_; rintro e w' ⟨rfl, rfl⟩) | (go_at_call 16; refine (nil_stamp _).mono ?_; rintro e w' ⟨rfl, rfl⟩) | (go_at_call 20; refine (nil_flag _).mono ?_; rintro e w' ⟨rfl, rfl⟩) | (go_at_call 21; refine (nil_copy _).mono ?_; rintro e w' ⟨rfl, rfl⟩))
  refine (nil_refused 1 wp).mono ?_
  rintro e wq ⟨rfl, hu⟩
  have HUe := Lib.hid (HUp.out.from hu.toFrom)
  clear hu
  go_wp2_with (first | (go_at_call 14; refine (nil_fail 1 _).mono ?_; rintro e w' ⟨rfl, rfl⟩) | (go_at_call 18; refine (nil_asked true 1 _).mono ?_; rintro e w' ⟨rfl, rfl⟩) | (go_at_call 10; refine (nil_depth _).mono ?_; rintro e w' ⟨rfl, rfl⟩) | (go_at_call 17; refine (nil_failing _).mono ?_; rintro e w' ⟨rfl, rfl⟩) | (go_at_call 16; refine (nil_stamp _).mono ?_; rintro e w' ⟨rfl, rfl⟩) | (go_at_call 20; refine (nil_flag _).mono ?_; rintro e w' ⟨rfl, rfl⟩) | (go_at_call 21; refine (nil_copy _).mono ?_; rintro e w' ⟨rfl, rfl⟩))
  go_ret
  exact ⟨rfl, HUe.out.belowFrom (Nat.le_refl _)⟩
end Go.Proofs.Ytdkdlgcgkkbghaa.DL
