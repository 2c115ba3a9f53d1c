/- The contracts of End, Fail, Over, Asked, Refused. -/
import Derived.Test.YtjgeflbhmhmjdaaGreatRowF
import Derived.Deep.RegionHeld3
import Derived.Test.YtjgeflbhmhmjdaaGreatSep
set_option linter.unusedSimpArgs false
set_option linter.unusedVariables false
namespace Go.Proofs.YtjgeflbhmhmjdaaGreat.DL
open Go.RowKit
open Go.Proofs.YtjgeflbhmhmjdaaGreat.Ord

theorem bits_and_nat (a b : Nat) (ha : a < 4294967296) (hb : b < 4294967296) : bits .and .u32 (a : Int) (b : Int) = ((a &&& b : Nat) : Int) := by
  show IntKind.u32.wrap ((BitVec.ofInt 32 (a : Int) &&& BitVec.ofInt 32 (b : Int)).toNat : Int) = _
  have hab : a &&& b < 4294967296 := Nat.lt_of_le_of_lt Nat.and_le_left ha
  rw [BitVec.ofInt_natCast, BitVec.ofInt_natCast, BitVec.toNat_and, BitVec.toNat_ofNat, BitVec.toNat_ofNat, Nat.mod_eq_of_lt (by omega), Nat.mod_eq_of_lt (by omega), IntKind.wrap_u32]
  omega
theorem and255 {x : Int} (h0 : 0 ≤ x) (h1 : x ≤ 4294967295) : bits .and .u32 x 255 = x % 256 := by
  obtain ⟨m, rfl⟩ : ∃ m : Nat, x = m := ⟨x.toNat, by omega⟩
  have := bits_and_nat m 255 (by omega) (by decide)
  rw [show ((255 : Nat) : Int) = 255 from rfl] at this
  rw [this, show (255 : Nat) = 2 ^ 8 - 1 from rfl, Nat.and_two_pow_sub_one_eq_mod]
  rfl

set_option maxRecDepth 100000 in
set_option maxHeartbeats 1000000 in
theorem end_any (b : Nat) (nest : Int) (d : DS) (hd : 0 ≤ d.depth ∧ d.depth ≤ 8) (w : World) (hb : DAt w b nest d) :
    Calls Tryz.prog 73 #[.pointer (some ⟨b, 0, none⟩)] w fun e w' => e = .returned (.tuple #[.bool (endB d), .int .i64 (openE d)]) ∧ DAt w' b nest (endS d) ∧ Upd (OnlyAt b) w w' := by
  obtain ⟨hd0, hd8⟩ := hd
  have HB := Lib.hid hb
  obtain ⟨depth, n, st, fl, fa, ca⟩ := d
  replace hd0 : 0 ≤ depth := hd0
  replace hd8 : depth ≤ 8 := hd8
  have c0 : w.cell? ⟨b, 0, none⟩ = some (.int .i64 nest) := hb.cell 0
  have c1 : w.cell? ⟨b, 1, none⟩ = some (.int .i64 depth) := hb.cell 1
  have c18 : w.cell? ⟨b, 18, none⟩ = some (.int .i64 n) := hb.cell 18
  have c19 : w.cell? ⟨b, 19, none⟩ = some (.int .u64 st) := hb.cell 19
  have c20 : w.cell? ⟨b, 20, none⟩ = some (.bool fl) := hb.cell 20
  have c21 : w.cell? ⟨b, 21, none⟩ = some (.bool fa) := hb.cell 21
  have c22 : w.cell? ⟨b, 22, none⟩ = some (.int .u32 ca) := hb.cell 22
  have fz : ∀ i, w.frozen? ⟨b, i, none⟩ = false := fun i => hb.frozen i
  clear hb
  cases fa
  · by_cases h0 : depth = 0
    · subst h0
      have hoe : openE ⟨0, n, st, fl, false, ca⟩ = 8 := by simp [openE]
      have hO := fun W (h : DAt W b nest ⟨0, n, st, fl, false, ca⟩) => open_any b nest ⟨0, n, st, fl, false, ca⟩ W h
      rw [hoe] at hO
      have HO := Lib.hid hO
      have HE := Lib.hid hoe
      clear hO hoe
      go_enter Tryz.func73, Tryz.ntmps73
      go_wp2_with (go_at_call 122; refine (HO.out _ HB.out).mono ?_; rintro e w' ⟨rfl, rfl⟩)
      go_ret2
      exact ⟨by rw [HE.out]; simp [endB, openE], by unfold endS; rw [HE.out]; exact HB.out, Upd.refl _ w⟩
    · have hoe : openE ⟨depth, n, st, fl, false, ca⟩ = 0 := by simp [openE, h0]
      have hO := fun W (h : DAt W b nest ⟨depth, n, st, fl, false, ca⟩) => open_any b nest ⟨depth, n, st, fl, false, ca⟩ W h
      rw [hoe] at hO
      have HO := Lib.hid hO
      have HE := Lib.hid hoe
      clear hO hoe
      by_cases h1 : depth = 1
      · subst h1
        go_enter Tryz.func73, Tryz.ntmps73
        go_wp2_with (go_at_call 122; refine (HO.out _ HB.out).mono ?_; rintro e w' ⟨rfl, rfl⟩)
        go_ret2
        refine ⟨by rw [HE.out]; simp [endB, openE], ?_, ?_⟩
        · unfold endS; rw [HE.out]; simp only [if_true]
          exact blk_eq (((HB.out.set 1 (.int .i64 0)).set 19 (.int .u64 0)).set 20 (.bool false)) (by kernel_rfl)
        · exact only_trans (only_trans (only_trans (Upd.refl _ w) (set_only _ _)) (set_only _ _)) (set_only _ _)
      · have h1b : decide (0 < depth - 1) = true := by simp; omega
        go_enter Tryz.func73, Tryz.ntmps73
        go_wp2_with (go_at_call 122; refine (HO.out _ HB.out).mono ?_; rintro e w' ⟨rfl, rfl⟩)
        go_ret2
        refine ⟨by rw [HE.out]; simp [endB, openE, h1], ?_, ?_⟩
        · unfold endS; rw [HE.out]; simp only [if_true, h1, if_false]
          exact blk_eq (HB.out.set 1 (.int .i64 (depth - 1))) (by kernel_rfl)
        · exact only_trans (Upd.refl _ w) (set_only _ _)
  · have hoe : openE ⟨depth, n, st, fl, true, ca⟩ = 8 := by simp [openE]
    have hO := fun W (h : DAt W b nest ⟨depth, n, st, fl, true, ca⟩) => open_any b nest ⟨depth, n, st, fl, true, ca⟩ W h
    rw [hoe] at hO
    have HO := Lib.hid hO
    have HE := Lib.hid hoe
    clear hO hoe
    go_enter Tryz.func73, Tryz.ntmps73
    go_wp2_with (go_at_call 122; refine (HO.out _ HB.out).mono ?_; rintro e w' ⟨rfl, rfl⟩)
    go_ret2
    exact ⟨by rw [HE.out]; simp [endB, openE], by unfold endS; rw [HE.out]; exact HB.out, Upd.refl _ w⟩

set_option maxRecDepth 100000 in
set_option maxHeartbeats 1000000 in
theorem fail_any (b : Nat) (nest : Int) (d : DS) (c : Int) (hd : 0 ≤ d.depth ∧ d.depth ≤ 8) (w : World) (hb : DAt w b nest d) :
    Calls Tryz.prog 75 #[.pointer (some ⟨b, 0, none⟩), .int .u32 c] w fun e w' => e = .returned (.int .i64 (openE d)) ∧ DAt w' b nest (failS d c) ∧ Upd (OnlyAt b) w w' := by
  obtain ⟨hd0, hd8⟩ := hd
  have HB := Lib.hid hb
  obtain ⟨depth, n, st, fl, fa, ca⟩ := d
  replace hd0 : 0 ≤ depth := hd0
  replace hd8 : depth ≤ 8 := hd8
  have c0 : w.cell? ⟨b, 0, none⟩ = some (.int .i64 nest) := hb.cell 0
  have c1 : w.cell? ⟨b, 1, none⟩ = some (.int .i64 depth) := hb.cell 1
  have c18 : w.cell? ⟨b, 18, none⟩ = some (.int .i64 n) := hb.cell 18
  have c19 : w.cell? ⟨b, 19, none⟩ = some (.int .u64 st) := hb.cell 19
  have c20 : w.cell? ⟨b, 20, none⟩ = some (.bool fl) := hb.cell 20
  have c21 : w.cell? ⟨b, 21, none⟩ = some (.bool fa) := hb.cell 21
  have c22 : w.cell? ⟨b, 22, none⟩ = some (.int .u32 ca) := hb.cell 22
  have fz : ∀ i, w.frozen? ⟨b, i, none⟩ = false := fun i => hb.frozen i
  clear hb
  cases fa
  · by_cases h0 : depth = 0
    · subst h0
      have hoe : openE ⟨0, n, st, fl, false, ca⟩ = 8 := by simp [openE]
      have hO := fun W (h : DAt W b nest ⟨0, n, st, fl, false, ca⟩) => open_any b nest ⟨0, n, st, fl, false, ca⟩ W h
      rw [hoe] at hO
      have HO := Lib.hid hO
      have HE := Lib.hid hoe
      clear hO hoe
      go_enter Tryz.func75, Tryz.ntmps75
      go_wp2_with (go_at_call 122; refine (HO.out _ HB.out).mono ?_; rintro e w' ⟨rfl, rfl⟩)
      go_ret
      exact ⟨by rw [HE.out]; rfl, by unfold failS; rw [HE.out]; exact HB.out, Upd.refl _ w⟩
    · have hoe : openE ⟨depth, n, st, fl, false, ca⟩ = 0 := by simp [openE, h0]
      have hO := fun W (h : DAt W b nest ⟨depth, n, st, fl, false, ca⟩) => open_any b nest ⟨depth, n, st, fl, false, ca⟩ W h
      rw [hoe] at hO
      have HO := Lib.hid hO
      have HE := Lib.hid hoe
      clear hO hoe
      go_enter Tryz.func75, Tryz.ntmps75
      go_wp2_with (go_at_call 122; refine (HO.out _ HB.out).mono ?_; rintro e w' ⟨rfl, rfl⟩)
      go_ret
      refine ⟨by rw [HE.out]; rfl, ?_, ?_⟩
      · unfold failS; rw [HE.out]; simp only [if_true]
        exact blk_eq ((HB.out.set 21 (.bool true)).set 22 (.int .u32 c)) (by kernel_rfl)
      · exact only_trans (only_trans (Upd.refl _ w) (set_only _ _)) (set_only _ _)
  · have hoe : openE ⟨depth, n, st, fl, true, ca⟩ = 8 := by simp [openE]
    have hO := fun W (h : DAt W b nest ⟨depth, n, st, fl, true, ca⟩) => open_any b nest ⟨depth, n, st, fl, true, ca⟩ W h
    rw [hoe] at hO
    have HO := Lib.hid hO
    have HE := Lib.hid hoe
    clear hO hoe
    go_enter Tryz.func75, Tryz.ntmps75
    go_wp2_with (go_at_call 122; refine (HO.out _ HB.out).mono ?_; rintro e w' ⟨rfl, rfl⟩)
    go_ret
    exact ⟨by rw [HE.out]; rfl, by unfold failS; rw [HE.out]; exact HB.out, Upd.refl _ w⟩

end Go.Proofs.YtjgeflbhmhmjdaaGreat.DL
namespace Go.Proofs.YtjgeflbhmhmjdaaGreat.DL
open Go.RowKit
open Go.Proofs.YtjgeflbhmhmjdaaGreat.Ord

attribute [local go_sem ↓] ldS_eq stS_eq
set_option maxRecDepth 100000 in
set_option maxHeartbeats 1000000 in
theorem over_any (b : Nat) (nest : Int) (d : DS) (hca : 0 ≤ d.ca ∧ d.ca ≤ 4294967295) (w : World) (hb : DAt w b nest d) :
    Calls Tryz.prog 77 #[.pointer (some ⟨b, 0, none⟩)] w fun e w' => e = .returned (overV d) ∧ DAt w' b nest (overS d) ∧ Upd (OnlyAt b) w w' := by
  have hlt := hb.lt
  have hb1 : DAt (w.alloc (.cells #[.int .u32 0, .int .u32 0, .int .u32 0, .int .u32 0, .int .u32 0, .int .u32 0, .int .u32 0, .int .u32 0, .int .u32 0, .int .u32 0, .int .u32 0, .int .u32 0, .int .u32 0, .int .u32 0, .int .u32 0, .int .u32 0, .int .i64 0] 76)) b nest d := hb.alloc _
  obtain ⟨depth, n, st, fl, fa, ca⟩ := d
  replace hca : 0 ≤ ca ∧ ca ≤ 4294967295 := hca
  have h255 := and255 hca.1 hca.2
  clear hca
  have c0 : (w.alloc (.cells #[.int .u32 0, .int .u32 0, .int .u32 0, .int .u32 0, .int .u32 0, .int .u32 0, .int .u32 0, .int .u32 0, .int .u32 0, .int .u32 0, .int .u32 0, .int .u32 0, .int .u32 0, .int .u32 0, .int .u32 0, .int .u32 0, .int .i64 0] 76)).cell? ⟨b, 0, none⟩ = some (.int .i64 nest) := hb1.cell 0
  have c1 : (w.alloc (.cells #[.int .u32 0, .int .u32 0, .int .u32 0, .int .u32 0, .int .u32 0, .int .u32 0, .int .u32 0, .int .u32 0, .int .u32 0, .int .u32 0, .int .u32 0, .int .u32 0, .int .u32 0, .int .u32 0, .int .u32 0, .int .u32 0, .int .i64 0] 76)).cell? ⟨b, 1, none⟩ = some (.int .i64 depth) := hb1.cell 1
  have c18 : (w.alloc (.cells #[.int .u32 0, .int .u32 0, .int .u32 0, .int .u32 0, .int .u32 0, .int .u32 0, .int .u32 0, .int .u32 0, .int .u32 0, .int .u32 0, .int .u32 0, .int .u32 0, .int .u32 0, .int .u32 0, .int .u32 0, .int .u32 0, .int .i64 0] 76)).cell? ⟨b, 18, none⟩ = some (.int .i64 n) := hb1.cell 18
  have c19 : (w.alloc (.cells #[.int .u32 0, .int .u32 0, .int .u32 0, .int .u32 0, .int .u32 0, .int .u32 0, .int .u32 0, .int .u32 0, .int .u32 0, .int .u32 0, .int .u32 0, .int .u32 0, .int .u32 0, .int .u32 0, .int .u32 0, .int .u32 0, .int .i64 0] 76)).cell? ⟨b, 19, none⟩ = some (.int .u64 st) := hb1.cell 19
  have c20 : (w.alloc (.cells #[.int .u32 0, .int .u32 0, .int .u32 0, .int .u32 0, .int .u32 0, .int .u32 0, .int .u32 0, .int .u32 0, .int .u32 0, .int .u32 0, .int .u32 0, .int .u32 0, .int .u32 0, .int .u32 0, .int .u32 0, .int .u32 0, .int .i64 0] 76)).cell? ⟨b, 20, none⟩ = some (.bool fl) := hb1.cell 20
  have c21 : (w.alloc (.cells #[.int .u32 0, .int .u32 0, .int .u32 0, .int .u32 0, .int .u32 0, .int .u32 0, .int .u32 0, .int .u32 0, .int .u32 0, .int .u32 0, .int .u32 0, .int .u32 0, .int .u32 0, .int .u32 0, .int .u32 0, .int .u32 0, .int .i64 0] 76)).cell? ⟨b, 21, none⟩ = some (.bool fa) := hb1.cell 21
  have c22 : (w.alloc (.cells #[.int .u32 0, .int .u32 0, .int .u32 0, .int .u32 0, .int .u32 0, .int .u32 0, .int .u32 0, .int .u32 0, .int .u32 0, .int .u32 0, .int .u32 0, .int .u32 0, .int .u32 0, .int .u32 0, .int .u32 0, .int .u32 0, .int .i64 0] 76)).cell? ⟨b, 22, none⟩ = some (.int .u32 ca) := hb1.cell 22
  have fz : ∀ i, (w.alloc (.cells #[.int .u32 0, .int .u32 0, .int .u32 0, .int .u32 0, .int .u32 0, .int .u32 0, .int .u32 0, .int .u32 0, .int .u32 0, .int .u32 0, .int .u32 0, .int .u32 0, .int .u32 0, .int .u32 0, .int .u32 0, .int .u32 0, .int .i64 0] 76)).frozen? ⟨b, i, none⟩ = false := fun i => hb1.frozen i
  have HB := Lib.hid hb1
  have hz0 : Blk (w.alloc (.cells #[.int .u32 0, .int .u32 0, .int .u32 0, .int .u32 0, .int .u32 0, .int .u32 0, .int .u32 0, .int .u32 0, .int .u32 0, .int .u32 0, .int .u32 0, .int .u32 0, .int .u32 0, .int .u32 0, .int .u32 0, .int .u32 0, .int .i64 0] 76)) w.heap.size (SC 0) 76 := Blk.new w _ _
  have hne : b ≠ w.heap.size := by omega
  have hne2 : w.heap.size ≠ b := by omega
  clear hb hb1 hlt
  cases fa
  · have hth := save_nthere hz0
    have hBz := hz0
    obtain ⟨W2, hW2⟩ : ∃ W2, (w.alloc (.cells #[.int .u32 0, .int .u32 0, .int .u32 0, .int .u32 0, .int .u32 0, .int .u32 0, .int .u32 0, .int .u32 0, .int .u32 0, .int .u32 0, .int .u32 0, .int .u32 0, .int .u32 0, .int .u32 0, .int .u32 0, .int .u32 0, .int .i64 0] 76)).setCells w.heap.size 0 (SC 0).toList = W2 := ⟨_, rfl⟩
    have hZ2 : Blk W2 w.heap.size (SC 0) 76 := by rw [← hW2]; exact save_store hz0 0
    have HB2 : Hid (DAt W2 b nest ⟨depth, n, st, fl, false, ca⟩) := Lib.hid (by rw [← hW2]; exact blk_other_setCells hne _ _ _ HB.out)
    have HU2 : Hid (Upd (OnlyAt b) w W2) := Lib.hid (by rw [← hW2]; exact (Upd.alloc (OnlyAt b) w _).trans (upd_setCells _ _ _) (fun i hi h => by have : i = w.heap.size := h; omega))
    have s0 : (stS (.pointer (some ⟨w.heap.size, 0, none⟩)) (.agg #[.int .u32 0, .int .u32 0, .int .u32 0, .int .u32 0, .int .u32 0, .int .u32 0, .int .u32 0, .int .u32 0, .int .u32 0, .int .u32 0, .int .u32 0, .int .u32 0, .int .u32 0, .int .u32 0, .int .u32 0, .int .u32 0, .int .i64 0])).run Tryz.prog (w.alloc (.cells #[.int .u32 0, .int .u32 0, .int .u32 0, .int .u32 0, .int .u32 0, .int .u32 0, .int .u32 0, .int .u32 0, .int .u32 0, .int .u32 0, .int .u32 0, .int .u32 0, .int .u32 0, .int .u32 0, .int .u32 0, .int .u32 0, .int .i64 0] 76)) = .ok () W2 := by rw [← hW2]; exact stS_run 0 hth
    have HZ2 := Lib.hid hZ2
    clear hW2 hZ2 hth hBz hz0
    go_enter Tryz.func77, Tryz.ntmps77
    go_wp2
    have hl0 := ldV_run HZ2.out
    refine bodyPost_ret (v := .tuple #[SV 0, .int .u32 0, .int .i64 8]) ?_ ?_ ?_
    · simp [results, Tryz.f77, asAddr, hl0]
    · rfl
    exact ⟨rfl, HB2.out, HU2.out⟩
  · by_cases hk : ca % 256 = 1
    · have hkb : (bits .and .u32 ca 255 != 1) = false := by rw [h255]; simp [hk]
      clear h255
      go_enter Tryz.func77, Tryz.ntmps77
      go_wp2
      obtain ⟨W1, hW1⟩ : ∃ W1, ((((w.alloc (.cells #[.int .u32 0, .int .u32 0, .int .u32 0, .int .u32 0, .int .u32 0, .int .u32 0, .int .u32 0, .int .u32 0, .int .u32 0, .int .u32 0, .int .u32 0, .int .u32 0, .int .u32 0, .int .u32 0, .int .u32 0, .int .u32 0, .int .i64 0] 76)).setCell ⟨b, 1, none⟩ (.int .i64 0)).setCell ⟨b, 21, none⟩ (.bool false)).setCell ⟨b, 20, none⟩ (.bool false)) = W1 := ⟨_, rfl⟩
      have hB1 : DAt W1 b nest ⟨0, n, st, false, false, ca⟩ := by rw [← hW1]; exact blk_eq (((HB.out.set 1 (.int .i64 0)).set 21 (.bool false)).set 20 (.bool false)) (by kernel_rfl)
      have hZ1 : Blk W1 w.heap.size (SC 0) 76 := by rw [← hW1]; exact blk_eq (((hz0.other 1 (.int .i64 0) hne2).other 21 (.bool false) hne2).other 20 (.bool false) hne2) (by kernel_rfl)
      have hU1 : Upd (OnlyAt b) w W1 := by rw [← hW1]; exact only_trans (only_trans (only_trans (Upd.alloc _ w _) (set_only _ _)) (set_only _ _)) (set_only _ _)
      rw [hW1]
      clear hW1 hz0 c0 c1 c18 c19 c20 c21 c22 fz
      have hd := Upd.drew NoF W1
      have hBd := hB1.upd hd (fun h => h)
      have hZd := hZ1.upd hd (fun h => h)
      obtain ⟨W2, hW2⟩ : ∃ W2, W1.drew.setCells w.heap.size 0 (SC n).toList = W2 := ⟨_, rfl⟩
      have hB2 : DAt W2 b nest ⟨0, n, st, false, false, ca⟩ := by rw [← hW2]; exact blk_other_setCells hne _ _ _ hBd
      have hZ2 : Blk W2 w.heap.size (SC n) 76 := by rw [← hW2]; exact save_store hZd n
      have hU2 : Upd (OnlyAt b) w W2 := by rw [← hW2]; exact (hU1.trans hd (fun _ _ h => h.elim)).trans (upd_setCells _ _ _) (fun i hi h => by have : i = w.heap.size := h; omega)
      have l1 := ldS_run (save_range hBd)
      have l2 := ldS_run (save_range hB2)
      have s1 := stS_run n (save_nthere hZd)
      rw [hW2] at s1
      have y1 : W1.cell? ⟨b, 22, none⟩ = some (.int .u32 ca) := hB1.cell 22
      have y2 : W2.cell? ⟨b, 22, none⟩ = some (.int .u32 ca) := hB2.cell 22
      have HB2 := Lib.hid hB2; have HZ2 := Lib.hid hZ2; have HU2 := Lib.hid hU2
      clear hB1 hZ1 hU1 hd hBd hZd hW2 hB2 hZ2 hU2
      go_region_with (fail)
      all_goals
        go_wp2
        have hl2 := ldV_run HZ2.out
        refine bodyPost_ret (v := .tuple #[SV n, .int .u32 ca, .int .i64 0]) ?_ ?_ ?_
        · simp [results, Tryz.f77, asAddr, hl2]
        · rfl
        refine ⟨rfl, ?_, HU2.out⟩
        unfold overS
        simp only [if_true, hk]
        exact HB2.out
    · have hkb : (bits .and .u32 ca 255 != 1) = true := by rw [h255]; simp [hk]
      clear h255
      go_enter Tryz.func77, Tryz.ntmps77
      go_wp2
      obtain ⟨W1, hW1⟩ : ∃ W1, (((((w.alloc (.cells #[.int .u32 0, .int .u32 0, .int .u32 0, .int .u32 0, .int .u32 0, .int .u32 0, .int .u32 0, .int .u32 0, .int .u32 0, .int .u32 0, .int .u32 0, .int .u32 0, .int .u32 0, .int .u32 0, .int .u32 0, .int .u32 0, .int .i64 0] 76)).setCell ⟨b, 1, none⟩ (.int .i64 0)).setCell ⟨b, 21, none⟩ (.bool false)).setCell ⟨b, 20, none⟩ (.bool false)).setCell ⟨b, 19, none⟩ (.int .u64 0)) = W1 := ⟨_, rfl⟩
      have hB1 : DAt W1 b nest ⟨0, n, 0, false, false, ca⟩ := by rw [← hW1]; exact blk_eq ((((HB.out.set 1 (.int .i64 0)).set 21 (.bool false)).set 20 (.bool false)).set 19 (.int .u64 0)) (by kernel_rfl)
      have hZ1 : Blk W1 w.heap.size (SC 0) 76 := by rw [← hW1]; exact blk_eq ((((hz0.other 1 (.int .i64 0) hne2).other 21 (.bool false) hne2).other 20 (.bool false) hne2).other 19 (.int .u64 0) hne2) (by kernel_rfl)
      have hU1 : Upd (OnlyAt b) w W1 := by rw [← hW1]; exact only_trans (only_trans (only_trans (only_trans (Upd.alloc _ w _) (set_only _ _)) (set_only _ _)) (set_only _ _)) (set_only _ _)
      rw [hW1]
      clear hW1 hz0 c0 c1 c18 c19 c20 c21 c22 fz
      have hd := Upd.drew NoF W1
      have hBd := hB1.upd hd (fun h => h)
      have hZd := hZ1.upd hd (fun h => h)
      obtain ⟨W2, hW2⟩ : ∃ W2, W1.drew.setCells w.heap.size 0 (SC n).toList = W2 := ⟨_, rfl⟩
      have hB2 : DAt W2 b nest ⟨0, n, 0, false, false, ca⟩ := by rw [← hW2]; exact blk_other_setCells hne _ _ _ hBd
      have hZ2 : Blk W2 w.heap.size (SC n) 76 := by rw [← hW2]; exact save_store hZd n
      have hU2 : Upd (OnlyAt b) w W2 := by rw [← hW2]; exact (hU1.trans hd (fun _ _ h => h.elim)).trans (upd_setCells _ _ _) (fun i hi h => by have : i = w.heap.size := h; omega)
      have l1 := ldS_run (save_range hBd)
      have l2 := ldS_run (save_range hB2)
      have s1 := stS_run n (save_nthere hZd)
      rw [hW2] at s1
      have y1 : W1.cell? ⟨b, 22, none⟩ = some (.int .u32 ca) := hB1.cell 22
      have y2 : W2.cell? ⟨b, 22, none⟩ = some (.int .u32 ca) := hB2.cell 22
      have HB2 := Lib.hid hB2; have HZ2 := Lib.hid hZ2; have HU2 := Lib.hid hU2
      clear hB1 hZ1 hU1 hd hBd hZd hW2 hB2 hZ2 hU2
      go_region_with (fail)
      all_goals
        go_wp2
        have hl2 := ldV_run HZ2.out
        refine bodyPost_ret (v := .tuple #[SV n, .int .u32 ca, .int .i64 0]) ?_ ?_ ?_
        · simp [results, Tryz.f77, asAddr, hl2]
        · rfl
        refine ⟨rfl, ?_, HU2.out⟩
        unfold overS
        simp only [if_true, hk, if_false]
        exact HB2.out

end Go.Proofs.YtjgeflbhmhmjdaaGreat.DL
namespace Go.Proofs.YtjgeflbhmhmjdaaGreat.DL
open Go.RowKit
open Go.Proofs.YtjgeflbhmhmjdaaGreat.Ord

set_option maxRecDepth 100000 in
set_option maxHeartbeats 1000000 in
theorem dasked_any (b : Nat) (nest : Int) (d : DS) (meets : Bool) (stamp : Int) (w : World) (hb : DAt w b nest d) :
    Calls Tryz.prog 96 #[.pointer (some ⟨b, 0, none⟩), .bool meets, .int .u64 stamp] w fun e w' => e = .returned (.bool (askedB d meets)) ∧ DAt w' b nest (askedS d meets stamp) ∧ Upd (OnlyAt b) w w' := by
  have hS := fun W (h : DAt W b nest d) => stamp_any b nest d W h
  have hA := fun W => asked_any (stampE d) d.fl meets stamp W
  have hR : askedB d meets = (stampE d != 0 && meets) := rfl
  have hN : askedS d meets stamp = ⟨d.depth, d.n, d.st, d.fl || stampE d != 0 && meets && older stamp (stampE d), d.fa, d.ca⟩ := rfl
  rw [hR, hN]
  clear hR hN
  generalize (d.fl || stampE d != 0 && meets && older stamp (stampE d)) = nb at *
  generalize (stampE d != 0 && meets) = rb at *
  generalize stampE d = own at *
  obtain ⟨depth, n, st, fl, fa, ca⟩ := d
  have HS := Lib.hid hS; have HA := Lib.hid hA; have HB := Lib.hid hb
  clear hS hA
  have c20 : w.cell? ⟨b, 20, none⟩ = some (.bool fl) := hb.cell 20
  have fz : ∀ i, w.frozen? ⟨b, i, none⟩ = false := fun i => hb.frozen i
  clear hb
  go_enter Tryz.func96, Tryz.ntmps96
  go_wp2_with fail
  go_quiet (first | (go_at_call 25; exact Calls.quiet_of_same ((HS.out _ (by first | exact HB.out | exact HB.out.upd (Upd.drew NoF w) (fun h => h) | exact HB.out.upd (Upd.drewN NoF w _) (fun h => h))).mono (fun _ _ h => ⟨h.1, h.2.symm⟩))) | (go_at_call 131; exact Calls.quiet_of_same ((HA.out _).mono (fun _ _ h => ⟨h.1, h.2.symm⟩))))
  rename_i nq
  obtain ⟨W2, hW2⟩ : ∃ W2, w.drewN nq = W2 := ⟨_, rfl⟩
  have HU2 : Hid (Upd (OnlyAt b) w W2) := Lib.hid (by rw [← hW2]; exact Upd.drewN _ w nq)
  have HB2 : Hid (DAt W2 b nest ⟨depth, n, st, fl, fa, ca⟩) := Lib.hid (by rw [← hW2]; exact HB.out.upd (Upd.drewN NoF w nq) (fun h => h))
  rw [hW2]
  clear hW2 c20 fz
  have c20 : W2.cell? ⟨b, 20, none⟩ = some (.bool fl) := HB2.out.cell 20
  have fz : ∀ i, W2.frozen? ⟨b, i, none⟩ = false := fun i => HB2.out.frozen i
  go_wp2
  go_ret
  exact ⟨rfl, blk_eq (HB2.out.set 20 (.bool nb)) (by kernel_rfl), only_trans HU2.out (set_only _ _)⟩

set_option maxRecDepth 100000 in
set_option maxHeartbeats 1000000 in
theorem refused_any (b : Nat) (nest : Int) (d : DS) (stamp : Int) (w : World) (hb : DAt w b nest d) :
    Calls Tryz.prog 102 #[.pointer (some ⟨b, 0, none⟩), .int .u64 stamp] w fun e w' => e = .returned (.bool (refusedB d stamp)) ∧ Upd NoF w w' := by
  have hO := fun W (h : DAt W b nest d) => open_any b nest d W h
  have hG := fun W => gives_any d.st d.fl stamp W
  have hR : refusedB d stamp = (decide (openE d = 0) && (d.fl && older stamp d.st)) := rfl
  rw [hR]
  clear hR
  generalize (d.fl && older stamp d.st) = gb at *
  have ho : openE d = 0 ∨ openE d = 8 := by unfold openE; split <;> simp
  generalize openE d = oe at *
  obtain ⟨depth, n, st, fl, fa, ca⟩ := d
  have HO := Lib.hid hO; have HG := Lib.hid hG; have HB := Lib.hid hb
  clear hO hG
  have c19 : w.cell? ⟨b, 19, none⟩ = some (.int .u64 st) := hb.cell 19
  have c20 : w.cell? ⟨b, 20, none⟩ = some (.bool fl) := hb.cell 20
  have fz : ∀ i, w.frozen? ⟨b, i, none⟩ = false := fun i => hb.frozen i
  clear hb
  rcases ho with rfl | rfl
  all_goals
    go_enter Tryz.func102, Tryz.ntmps102
    go_wp2_with fail
    go_quiet (first | (go_at_call 122; exact Calls.quiet_of_same ((HO.out _ (by first | exact HB.out | exact HB.out.upd (Upd.drew NoF w) (fun h => h) | exact HB.out.upd (Upd.drewN NoF w _) (fun h => h))).mono (fun _ _ h => ⟨h.1, h.2.symm⟩))) | (go_at_call 132; exact Calls.quiet_of_same ((HG.out _).mono (fun _ _ h => ⟨h.1, h.2.symm⟩))))
    go_wp2
    go_ret
    exact ⟨by simp, Upd.drewN _ _ _⟩

end Go.Proofs.YtjgeflbhmhmjdaaGreat.DL
namespace Go.Proofs.YtjgeflbhmhmjdaaGreat.DL
open Go.RowKit
open Go.Proofs.YtjgeflbhmhmjdaaGreat.Ord

def ldD (v : Value) : Sem Value := Instr.loadAt 120 v
def stD (p v : Value) : Sem Unit := Instr.storeAt 120 p v
theorem ldD_eq (v : Value) : Instr.loadAt 120 v = ldD v := rfl
theorem stD_eq (p v : Value) : Instr.storeAt 120 p v = stD p v := rfl
abbrev ZD : Array Value := #[.int .i64 0, .int .i64 0, .int .u32 0, .int .u32 0, .int .u32 0, .int .u32 0, .int .u32 0, .int .u32 0, .int .u32 0, .int .u32 0, .int .u32 0, .int .u32 0, .int .u32 0, .int .u32 0, .int .u32 0, .int .u32 0, .int .u32 0, .int .u32 0, .int .i64 0, .int .u64 0, .bool false, .bool false, .int .u32 0]
theorem ldD_run {w : World} {b : Nat} {nest : Int} {d : DS} (h : DAt w b nest d) : (ldD (.pointer (some ⟨b, 0, none⟩))).run Tryz.prog w = .ok (.agg (CD nest d)) w := by
  have h' := World.rangeAt_of_block h 0 23
  have e : ((CD nest d).extract 0 (0 + 23)).toList = (CD nest d).toList := by kernel_rfl
  have hr : w.rangeAt b 0 (CD nest d).toList := Eq.mp (congrArg (fun x => w.rangeAt b 0 x) e) h'
  exact run_loadAt_mid w b 0 120 (CD nest d).toList _ hr Tryz.underlying120 rfl (by kernel_rfl)
theorem stD_run (w : World) (nest : Int) (d : DS) : (stD (.pointer (some ⟨w.heap.size, 0, none⟩)) (.agg (CD nest d))).run Tryz.prog (w.alloc (.cells ZD 120)) = .ok () ((w.alloc (.cells ZD 120)).setCells w.heap.size 0 (CD nest d).toList) := by
  have e : (CD nest d).size = ZD.size := by kernel_rfl
  have ht : (w.alloc (.cells ZD 120)).there w.heap.size 0 (CD nest d).size := there_of (Blk.new w ZD _) (Nat.le_of_eq (by rw [e]; exact Nat.zero_add _))
  exact run_storeAt_mid _ w.heap.size 0 120 (CD nest d) ht (by kernel_rfl) (by kernel_rfl)
attribute [local go_sem ↓] ldD_eq stD_eq

set_option maxRecDepth 100000 in
set_option maxHeartbeats 1000000 in
theorem copy_any (b : Nat) (nest : Int) (d : DS) (w : World) (hb : DAt w b nest d) :
    Calls Tryz.prog 62 #[.pointer (some ⟨b, 0, none⟩)] w fun e w' => e = .returned (.pointer (some ⟨w.heap.size, 0, none⟩)) ∧ DAt w' w.heap.size nest d ∧ Upd NoF w w' := by
  have l1 := ldD_run hb
  have s1 := stD_run w nest d
  obtain ⟨h1, h2⟩ := new_store w ZD 120 (CD nest d).toList
  have e : setMany ZD 0 (CD nest d).toList = CD nest d := by kernel_rfl
  have h3 := blk_eq h2 e
  generalize (w.alloc (.cells ZD 120)).setCells w.heap.size 0 (CD nest d).toList = W2 at *
  have H1 := Lib.hid h1; have H3 := Lib.hid h3
  clear h1 h2 h3 e hb
  generalize hcd : Value.agg (CD nest d) = vd at *
  go_enter Tryz.func62, Tryz.ntmps62
  go_wp2
  go_ret
  exact ⟨rfl, H3.out, H1.out⟩

end Go.Proofs.YtjgeflbhmhmjdaaGreat.DL
namespace Go.Proofs.YtjgeflbhmhmjdaaGreat.TNot
open Go.RowKit
def Z : Array Value := #[.int .u8 0, .int .i64 0, .int .i64 0, .int .i64 0, .int .u64 0, .int .u8 0, .bool false, .bool false, .int .u32 0, .int .u32 0, .int .u32 0, .int .u32 0, .int .u32 0, .int .u32 0, .int .u32 0, .int .u32 0, .int .u32 0, .int .u32 0, .int .u32 0, .int .u32 0, .int .u32 0, .int .u32 0, .int .u32 0, .int .u32 0]
theorem size_Z : Z.size = 24 := by kernel_rfl
theorem isZ : IsN 24 Z := ⟨size_Z, Array.all_eq_true_iff_forall_mem.1 (by kernel_rfl)⟩
theorem infoZ : (Tryz.prog.info? 37).map (fun i => (i.zero, i.size)) = some (some (.agg Z), 24) := by kernel_rfl
theorem infoS : (Tryz.prog.info? 37).map (·.size) = some 24 := by kernel_rfl
theorem infoSZ : (Tryz.prog.info? 37).map (·.size) = some Z.size := by kernel_rfl
def ld (v : Value) : Sem Value := Instr.loadAt 37 v
def st (p v : Value) : Sem Unit := Instr.storeAt 37 p v
def bx (v : Value) : Sem Value := Instr.box 37 v
def al : Sem Value := Instr.alloc 37 true (.tuple #[])
theorem ld_eq (v : Value) : Instr.loadAt 37 v = ld v := rfl
theorem st_eq (p v : Value) : Instr.storeAt 37 p v = st p v := rfl
theorem bx_eq (v : Value) : Instr.box 37 v = bx v := rfl
theorem al_eq : Instr.alloc 37 true (.tuple #[]) = al := rfl
theorem al_run (w : World) : al.run Tryz.prog w = .ok (.pointer (some ⟨w.heap.size, 0, none⟩)) (w.alloc (.cells Z 37)) := agg_alloc (agg_zero infoZ) w
theorem bx_run (x : Array Value) (w : World) : (bx (.agg x)).run Tryz.prog w = .ok (.pointer (some ⟨w.heap.size, 0, none⟩)) (w.alloc (.cells x 37)) := agg_box x w
theorem st_new {x : Array Value} (hx : IsN 24 x) (w : World) : (st (.pointer (some ⟨w.heap.size, 0, none⟩)) (.agg x)).run Tryz.prog (w.alloc (.cells Z 37)) = .ok () (w.alloc (.cells x 37)) := agg_st_new infoSZ size_Z hx w
theorem ld_at {x : Array Value} (hx : IsN 24 x) {w : World} {b o : Nat} (h : w.rangeAt b o x.toList) : (ld (.pointer (some ⟨b, o, none⟩))).run Tryz.prog w = .ok (.agg x) w := agg_ld Tryz.underlying37 rfl infoS hx h
theorem ld_new {x : Array Value} (hx : IsN 24 x) (w : World) : (ld (.pointer (some ⟨w.heap.size, 0, none⟩))).run Tryz.prog (w.alloc (.cells x 37)) = .ok (.agg x) (w.alloc (.cells x 37)) := ld_at hx (Blk.new w x _).whole
theorem st_at {x y : Array Value} (hx : IsN 24 x) (hy : IsN 24 y) {w : World} {b : Nat} {T : TypeId} (h : Blk w b x T) : (st (.pointer (some ⟨b, 0, none⟩)) (.agg y)).run Tryz.prog w = .ok () (w.setCells b 0 y.toList) ∧ Blk (w.setCells b 0 y.toList) b y T := by
  refine ⟨run_storeAt_mid w b 0 37 y (there_of h (by rw [hx.1, hy.1]; exact Nat.le_refl _)) (by rw [infoS, hy.1]) hy.all, ?_⟩
  have h' := blk_setCells y.toList 0 w _ h
  rwa [setMany_all x y (by rw [hx.1, hy.1])] at h'
theorem ldV_at {x : Array Value} (hx : IsN 24 x) {w : World} {b o : Nat} (h : w.rangeAt b o x.toList) : (loadVar 37 ⟨b, o, none⟩).run Tryz.prog w = .ok (.agg x) w := agg_ldV Tryz.underlying37 rfl infoS hx h
end Go.Proofs.YtjgeflbhmhmjdaaGreat.TNot
namespace Go.Proofs.YtjgeflbhmhmjdaaGreat
open Go.RowKit
open BU (IsU words)

structure Nt where
  kind : Int
  frm : Int
  too : Int
  blk : Int
  stamp : Int
  state : Int
  has : Bool
  stick : Bool
  D : Array Value
namespace Nt
def head (n : Nt) : Array Value := #[.int .u8 n.kind, .int .i64 n.frm, .int .i64 n.too, .int .i64 n.blk, .int .u64 n.stamp, .int .u8 n.state, .bool n.has, .bool n.stick]
def cells (n : Nt) : Array Value := n.head ++ n.D
structure Ok (n : Nt) : Prop where
  kind : 0 ≤ n.kind ∧ n.kind ≤ 255
  stamp : 0 ≤ n.stamp ∧ n.stamp ≤ 18446744073709551615
  state : 0 ≤ n.state ∧ n.state ≤ 255
  isU : IsU n.D
theorem Ok.isN {n : Nt} (h : IsU n.D) : IsN 24 n.cells := by
  refine ⟨by simp [cells, head, h.1], fun u hu => ?_⟩
  unfold cells at hu
  rcases Array.mem_append.1 hu with hu | hu
  · simp only [head, List.mem_toArray, List.mem_cons, List.not_mem_nil, or_false] at hu
    rcases hu with rfl | rfl | rfl | rfl | rfl | rfl | rfl | rfl <;> rfl
  · obtain ⟨z, rfl⟩ := h.2 u hu; rfl
theorem get0 (n : Nt) : n.cells[0]? = some (.int .u8 n.kind) := by unfold cells; rw [Array.getElem?_append_left (by simp [head])]; rfl
theorem get1 (n : Nt) : n.cells[1]? = some (.int .i64 n.frm) := by unfold cells; rw [Array.getElem?_append_left (by simp [head])]; rfl
theorem get2 (n : Nt) : n.cells[2]? = some (.int .i64 n.too) := by unfold cells; rw [Array.getElem?_append_left (by simp [head])]; rfl
theorem get3 (n : Nt) : n.cells[3]? = some (.int .i64 n.blk) := by unfold cells; rw [Array.getElem?_append_left (by simp [head])]; rfl
theorem get4 (n : Nt) : n.cells[4]? = some (.int .u64 n.stamp) := by unfold cells; rw [Array.getElem?_append_left (by simp [head])]; rfl
theorem get5 (n : Nt) : n.cells[5]? = some (.int .u8 n.state) := by unfold cells; rw [Array.getElem?_append_left (by simp [head])]; rfl
theorem get6 (n : Nt) : n.cells[6]? = some (.bool n.has) := by unfold cells; rw [Array.getElem?_append_left (by simp [head])]; rfl
theorem get7 (n : Nt) : n.cells[7]? = some (.bool n.stick) := by unfold cells; rw [Array.getElem?_append_left (by simp [head])]; rfl
theorem getD (n : Nt) (j : Nat) : n.cells[8 + j]? = n.D[j]? := by unfold cells; rw [Array.getElem?_append_right (by simp [head])]; simp [head]
theorem ext8 {n : Nt} (h : n.D.size = 16) : n.cells.extract 8 24 = n.D := by
  apply Array.ext_getElem?
  intro j
  rw [Array.getElem?_extract]
  have hs : n.cells.size = 24 := by simp [cells, head, h]
  split
  · rw [n.getD]
  · rw [Array.getElem?_eq_none (by omega)]
def nil : Nt := ⟨0, 0, 0, 0, 0, 0, false, false, TBlk.Z⟩
theorem nil_cells : nil.cells = TNot.Z := by kernel_rfl
theorem nil_ok : nil.Ok := ⟨by decide, by decide, by decide, BU.isU_Z⟩
def same (n m : Nt) : Bool := n.kind == m.kind && (n.frm == m.frm && (n.too == m.too && (n.blk == m.blk && (n.stamp == m.stamp && (n.state == m.state && (n.has == m.has && (n.stick == m.stick && (words n.D == words m.D))))))))
theorem same_self (n : Nt) : n.same n = true := by simp [same]
end Nt

set_option maxRecDepth 100000 in
theorem eqNote {n m : Nt} (hn : IsU n.D) (hm : IsU m.D) (w : World) : (Op.equalIn 10000 37 (.agg n.cells) (.agg m.cells)).run Tryz.prog w = .ok (n.same m) w := by
  have hp : Tryz.prog.stoodInHeld 37 = false := by kernel_rfl
  rw [run_equalIn_struct w 9999 37 n.cells m.cells Tryz.underlying37 hp]
  have hf : (Tryz.prog.fieldsOf 37).toList = [{ name := "Kind", type := 5, offset := 0, embedded := false, tag := "", pkgPath := "", byteOffset := 0 },
        { name := "From", type := 3, offset := 1, embedded := false, tag := "", pkgPath := "", byteOffset := 8 },
        { name := "To", type := 3, offset := 2, embedded := false, tag := "", pkgPath := "", byteOffset := 16 },
        { name := "Block", type := 3, offset := 3, embedded := false, tag := "", pkgPath := "", byteOffset := 24 },
        { name := "Stamp", type := 31, offset := 4, embedded := false, tag := "", pkgPath := "", byteOffset := 32 },
        { name := "State", type := 32, offset := 5, embedded := false, tag := "", pkgPath := "", byteOffset := 40 },
        { name := "Has", type := 4, offset := 6, embedded := false, tag := "", pkgPath := "", byteOffset := 41 },
        { name := "Stick", type := 4, offset := 7, embedded := false, tag := "", pkgPath := "", byteOffset := 42 },
        { name := "Data", type := 35, offset := 8, embedded := false, tag := "", pkgPath := "", byteOffset := 44 }] := by kernel_rfl
  rw [hf]
  have q : ∀ (n : Nt), IsU n.D → (part 5 n.cells 0).run Tryz.prog w = .ok (.int .u8 n.kind) w ∧ (part 3 n.cells 1).run Tryz.prog w = .ok (.int .i64 n.frm) w ∧ (part 3 n.cells 2).run Tryz.prog w = .ok (.int .i64 n.too) w ∧
      (part 3 n.cells 3).run Tryz.prog w = .ok (.int .i64 n.blk) w ∧ (part 31 n.cells 4).run Tryz.prog w = .ok (.int .u64 n.stamp) w ∧ (part 32 n.cells 5).run Tryz.prog w = .ok (.int .u8 n.state) w ∧
      (part 4 n.cells 6).run Tryz.prog w = .ok (.bool n.has) w ∧ (part 4 n.cells 7).run Tryz.prog w = .ok (.bool n.stick) w ∧ (part 35 n.cells 8).run Tryz.prog w = .ok (.agg n.D) w := fun n hn => by
    refine ⟨?_, ?_, ?_, ?_, ?_, ?_, ?_, ?_, ?_⟩
    · simp [part, Tryz.isAgg5, n.get0]
    · simp [part, Tryz.isAgg3, n.get1]
    · simp [part, Tryz.isAgg3, n.get2]
    · simp [part, Tryz.isAgg3, n.get3]
    · simp [part, Tryz.isAgg31, n.get4]
    · simp [part, Tryz.isAgg32, n.get5]
    · simp [part, Tryz.isAgg4, n.get6]
    · simp [part, Tryz.isAgg4, n.get7]
    · simp [part, Tryz.isAgg35, Tryz.sizeOf35, Nt.ext8 hn.1]
  obtain ⟨a0, a1, a2, a3, a4, a5, a6, a7, a8⟩ := q n hn
  obtain ⟨b0, b1, b2, b3, b4, b5, b6, b7, b8⟩ := q m hm
  have step : ∀ (f : Field) (fs : List Field) (x y : Value) (r s : Bool), (f.name == "_") = false → (part f.type n.cells f.offset).run Tryz.prog w = .ok x w → (part f.type m.cells f.offset).run Tryz.prog w = .ok y w → (Op.equalIn 9999 f.type x y).run Tryz.prog w = .ok r w →
      (Op.eqFields 9999 n.cells m.cells fs).run Tryz.prog w = .ok s w → (Op.eqFields 9999 n.cells m.cells (f :: fs)).run Tryz.prog w = .ok (r && s) w := fun f fs x y r s h0 h1 h2 h3 h4 => by
    have h0' : f.name ≠ "_" := by simpa using h0
    simp only [Op.eqFields, if_pos h0', Sem.run_bind, h1, h2, h3, Result.andThen_ok]
    cases r
    · simp [Sem.run_pure]
    · simpa using h4
  unfold Nt.same
  refine step _ _ _ _ _ _ rfl a0 b0 (run_equalIn_int w 9998 _ .u8 .u8 _ _ Tryz.underlying5) ?_
  refine step _ _ _ _ _ _ rfl a1 b1 (run_equalIn_int w 9998 _ .i64 .i64 _ _ Tryz.underlying3) ?_
  refine step _ _ _ _ _ _ rfl a2 b2 (run_equalIn_int w 9998 _ .i64 .i64 _ _ Tryz.underlying3) ?_
  refine step _ _ _ _ _ _ rfl a3 b3 (run_equalIn_int w 9998 _ .i64 .i64 _ _ Tryz.underlying3) ?_
  refine step _ _ _ _ _ _ rfl a4 b4 (run_equalIn_int w 9998 _ .u64 .u64 _ _ Tryz.underlying31) ?_
  refine step _ _ _ _ _ _ rfl a5 b5 (run_equalIn_int w 9998 _ .u8 .u8 _ _ Tryz.underlying32) ?_
  refine step _ _ _ _ _ _ rfl a6 b6 (run_equalIn_bool' w 9998 _ _ _ Tryz.underlying4) ?_
  refine step _ _ _ _ _ _ rfl a7 b7 (run_equalIn_bool' w 9998 _ _ _ Tryz.underlying4) ?_
  have e8 : (words n.D == words m.D) = ((words n.D == words m.D) && true) := by simp
  rw [e8]
  exact step _ _ _ _ _ _ rfl a8 b8 (BU.eq_run hn hm 9997 w) rfl

theorem guardNote (op : BinOp) (x y : Operand) (xs ys : Array Value) (w : World) : (eqGuard op 37 x y (.agg xs) (.agg ys)).run Tryz.prog w = .ok () w := run_eqGuard_agg (P := Tryz.prog) w op 37 x y xs ys (by kernel_rfl)
theorem guardBlk (op : BinOp) (x y : Operand) (xs ys : Array Value) (w : World) : (eqGuard op 35 x y (.agg xs) (.agg ys)).run Tryz.prog w = .ok () w := run_eqGuard_agg (P := Tryz.prog) w op 35 x y xs ys (by kernel_rfl)
def eqN (a b : Value) : Sem Value := binOp .eql 37 a b
def neN (a b : Value) : Sem Value := binOp .neq 37 a b
def eqB (a b : Value) : Sem Value := binOp .eql 35 a b
def neB (a b : Value) : Sem Value := binOp .neq 35 a b
theorem eqN_eq (a b : Value) : binOp .eql 37 a b = eqN a b := rfl
theorem neN_eq (a b : Value) : binOp .neq 37 a b = neN a b := rfl
theorem eqB_eq (a b : Value) : binOp .eql 35 a b = eqB a b := rfl
theorem neB_eq (a b : Value) : binOp .neq 35 a b = neB a b := rfl
theorem eqN_run {n m : Nt} (hn : IsU n.D) (hm : IsU m.D) (w : World) : (eqN (.agg n.cells) (.agg m.cells)).run Tryz.prog w = .ok (.bool (n.same m)) w := by
  have h := eqNote hn hm w
  generalize n.cells = a at *
  generalize m.cells = b at *
  unfold eqN
  simp only [binOp]
  simp [Op.equal, Op.maxDepth, h]
theorem neN_run {n m : Nt} (hn : IsU n.D) (hm : IsU m.D) (w : World) : (neN (.agg n.cells) (.agg m.cells)).run Tryz.prog w = .ok (.bool (!n.same m)) w := by
  have h := eqNote hn hm w
  generalize n.cells = a at *
  generalize m.cells = b at *
  unfold neN
  simp only [binOp]
  simp [Op.equal, Op.maxDepth, h]
theorem eqB_run {D E : Array Value} (hn : IsU D) (hm : IsU E) (w : World) : (eqB (.agg D) (.agg E)).run Tryz.prog w = .ok (.bool (words D == words E)) w := by
  have h := BU.eq_run hn hm 9998 w
  unfold eqB
  simp only [binOp]
  simp [Op.equal, Op.maxDepth, h]
theorem neB_run {D E : Array Value} (hn : IsU D) (hm : IsU E) (w : World) : (neB (.agg D) (.agg E)).run Tryz.prog w = .ok (.bool (!(words D == words E))) w := by
  have h := BU.eq_run hn hm 9998 w
  unfold neB
  simp only [binOp]
  simp [Op.equal, Op.maxDepth, h]
def kindB (k : Int) : Bool := decide (1 ≤ k) && decide (k ≤ 11)
def coreB (x : Int) : Bool := decide (0 ≤ x) && decide (x < 16)
def netN (k : Int) : Int := if kindB k = false then -1 else if k ≤ 3 then 0 else if k ≤ 5 then 1 else 2
def toHome (k : Int) : Bool := k == 1 || k == 2 || k == 3 || k == 9 || k == 10 || k == 11
def stamped (k : Int) : Bool := k == 1 || k == 2 || k == 4 || k == 5 || k == 7 || k == 10
def MayN (n : Nt) : Bool :=
  kindB n.kind && (decide (0 ≤ n.blk) && decide (n.blk ≤ 255)) && coreB (if toHome n.kind then n.frm else n.too) && ((if toHome n.kind then n.too else n.frm) == -1) && (stamped n.kind || n.stamp == 0) &&
  (if n.kind == 6 then decide (1 ≤ n.state) && decide (n.state ≤ 3) else n.state == 0) && (n.kind == 3 || !n.stick) && (!(n.kind == 3 || n.kind == 6) || n.has) && (!n.has || (n.kind == 3 || n.kind == 6 || n.kind == 9)) && (n.has || words n.D == words TBlk.Z)
end Go.Proofs.YtjgeflbhmhmjdaaGreat
namespace Go.Proofs.YtjgeflbhmhmjdaaGreat.TI12
open Go.RowKit
def Z : Array Value := #[.int .i64 0, .int .i64 0, .int .i64 0, .int .i64 0, .int .i64 0, .int .i64 0, .int .i64 0, .int .i64 0, .int .i64 0, .int .i64 0, .int .i64 0, .int .i64 0]
theorem size_Z : Z.size = 12 := by kernel_rfl
theorem infoZ : (Tryz.prog.info? 201).map (fun i => (i.zero, i.size)) = some (some (.agg Z), 12) := by kernel_rfl
theorem infoS : (Tryz.prog.info? 201).map (·.size) = some 12 := by kernel_rfl
theorem infoSZ : (Tryz.prog.info? 201).map (·.size) = some Z.size := by kernel_rfl
def ld (v : Value) : Sem Value := Instr.loadAt 201 v
def st (p v : Value) : Sem Unit := Instr.storeAt 201 p v
def bx (v : Value) : Sem Value := Instr.box 201 v
def al : Sem Value := Instr.alloc 201 true (.tuple #[])
theorem ld_eq (v : Value) : Instr.loadAt 201 v = ld v := rfl
theorem st_eq (p v : Value) : Instr.storeAt 201 p v = st p v := rfl
theorem bx_eq (v : Value) : Instr.box 201 v = bx v := rfl
theorem al_eq : Instr.alloc 201 true (.tuple #[]) = al := rfl
theorem al_run (w : World) : al.run Tryz.prog w = .ok (.pointer (some ⟨w.heap.size, 0, none⟩)) (w.alloc (.cells Z 201)) := agg_alloc (agg_zero infoZ) w
theorem bx_run (x : Array Value) (w : World) : (bx (.agg x)).run Tryz.prog w = .ok (.pointer (some ⟨w.heap.size, 0, none⟩)) (w.alloc (.cells x 201)) := agg_box x w
theorem st_new {x : Array Value} (hx : IsN 12 x) (w : World) : (st (.pointer (some ⟨w.heap.size, 0, none⟩)) (.agg x)).run Tryz.prog (w.alloc (.cells Z 201)) = .ok () (w.alloc (.cells x 201)) := agg_st_new infoSZ size_Z hx w
end Go.Proofs.YtjgeflbhmhmjdaaGreat.TI12
