/- The contracts of End, Fail, Over, Asked, Refused. -/
import Derived.Test.YtdkdlgcgkkbghaaDeal
set_option linter.unusedSimpArgs false
set_option linter.unusedVariables false
namespace Go.Proofs.Ytdkdlgcgkkbghaa.DL
open Go.RowKit
open Go.Proofs.Ytdkdlgcgkkbghaa.Ord

theorem bits_and_nat (a b : Nat) (ha : a < 4294967296) (hb : b < 4294967296) : bits .and .u32 (a : Int) (b : Int) = ((a &&& b : Nat) : Int) := by
  show IntKind.u32.wrap ((BitVec.ofInt 32 (a : Int) &&& BitVec.ofInt 32 (b : Int)).toNat : Int) = _
  have hab : a &&& b < 4294967296 := Nat.lt_of_le_of_lt Nat.and_le_left ha
  rw [BitVec.ofInt_natCast, BitVec.ofInt_natCast, BitVec.toNat_and, BitVec.toNat_ofNat, BitVec.toNat_ofNat, Nat.mod_eq_of_lt (by omega), Nat.mod_eq_of_lt (by omega), IntKind.wrap_u32]
  omega
theorem and255 {x : Int} (h0 : 0 ≤ x) (h1 : x ≤ 4294967295) : bits .and .u32 x 255 = x % 256 := by
  obtain ⟨m, rfl⟩ : ∃ m : Nat, x = m := ⟨x.toNat, by omega⟩
  have := bits_and_nat m 255 (by omega) (by decide)
  rw [show ((255 : Nat) : Int) = 255 from rfl] at this
  rw [this, show (255 : Nat) = 2 ^ 8 - 1 from rfl, Nat.and_two_pow_sub_one_eq_mod]
  rfl

set_option maxRecDepth 100000 in
set_option maxHeartbeats 1000000 in
theorem end_any (b : Nat) (nest : Int) (d : DS) (hd : 0 ≤ d.depth ∧ d.depth ≤ 8) (w : World) (hb : DAt w b nest d) :
    Calls Try.prog 13 #[.pointer (some ⟨b, 0, none⟩)] w fun e w' => e = .returned (.tuple #[.bool (endB d), .int .i64 (openE d)]) ∧ DAt w' b nest (endS d) ∧ Upd (OnlyAt b) w w' := by
  obtain ⟨hd0, hd8⟩ := hd
  have HB := Lib.hid hb
  obtain ⟨depth, n, st, fl, fa, ca⟩ := d
  replace hd0 : 0 ≤ depth := hd0
  replace hd8 : depth ≤ 8 := hd8
  have c0 : w.cell? ⟨b, 0, none⟩ = some (.int .i64 nest) := hb.cell 0
  have c1 : w.cell? ⟨b, 1, none⟩ = some (.int .i64 depth) := hb.cell 1
  have c18 : w.cell? ⟨b, 18, none⟩ = some (.int .i64 n) := hb.cell 18
  have c19 : w.cell? ⟨b, 19, none⟩ = some (.int .u64 st) := hb.cell 19
  have c20 : w.cell? ⟨b, 20, none⟩ = some (.bool fl) := hb.cell 20
  have c21 : w.cell? ⟨b, 21, none⟩ = some (.bool fa) := hb.cell 21
  have c22 : w.cell? ⟨b, 22, none⟩ = some (.int .u32 ca) := hb.cell 22
  have fz : ∀ i, w.frozen? ⟨b, i, none⟩ = false := fun i => hb.frozen i
  clear hb
  cases fa
  · by_cases h0 : depth = 0
    · subst h0
      have hoe : openE ⟨0, n, st, fl, false, ca⟩ = 8 := by simp [openE]
      have hO := fun W (h : DAt W b nest ⟨0, n, st, fl, false, ca⟩) => open_any b nest ⟨0, n, st, fl, false, ca⟩ W h
      rw [hoe] at hO
      have HO := Lib.hid hO
      have HE := Lib.hid hoe
      clear hO hoe
      go_enter Try.func13, Try.ntmps13
      go_wp2_with (go_at_call 29; refine (HO.out _ HB.out).mono ?_; rintro e w' ⟨rfl, rfl⟩)
      go_ret2
      exact ⟨by rw [HE.out]; simp [endB, openE], by unfold endS; rw [HE.out]; exact HB.out, Upd.refl _ w⟩
    · have hoe : openE ⟨depth, n, st, fl, false, ca⟩ = 0 := by simp [openE, h0]
      have hO := fun W (h : DAt W b nest ⟨depth, n, st, fl, false, ca⟩) => open_any b nest ⟨depth, n, st, fl, false, ca⟩ W h
      rw [hoe] at hO
      have HO := Lib.hid hO
      have HE := Lib.hid hoe
      clear hO hoe
      by_cases h1 : depth = 1
      · subst h1
        go_enter Try.func13, Try.ntmps13
        go_wp2_with (go_at_call 29; refine (HO.out _ HB.out).mono ?_; rintro e w' ⟨rfl, rfl⟩)
        go_ret2
        refine ⟨by rw [HE.out]; simp [endB, openE], ?_, ?_⟩
        · unfold endS; rw [HE.out]; simp only [if_true]
          exact blk_eq (((HB.out.set 1 (.int .i64 0)).set 19 (.int .u64 0)).set 20 (.bool false)) (by kernel_rfl)
        · exact only_trans (only_trans (only_trans (Upd.refl _ w) (set_only _ _)) (set_only _ _)) (set_only _ _)
      · have h1b : decide (0 < depth - 1) = true := by simp; omega
        go_enter Try.func13, Try.ntmps13
        go_wp2_with (go_at_call 29; refine (HO.out _ HB.out).mono ?_; rintro e w' ⟨rfl, rfl⟩)
        go_ret2
        refine ⟨by rw [HE.out]; simp [endB, openE, h1], ?_, ?_⟩
        · unfold endS; rw [HE.out]; simp only [if_true, h1, if_false]
          exact blk_eq (HB.out.set 1 (.int .i64 (depth - 1))) (by kernel_rfl)
        · exact only_trans (Upd.refl _ w) (set_only _ _)
  · have hoe : openE ⟨depth, n, st, fl, true, ca⟩ = 8 := by simp [openE]
    have hO := fun W (h : DAt W b nest ⟨depth, n, st, fl, true, ca⟩) => open_any b nest ⟨depth, n, st, fl, true, ca⟩ W h
    rw [hoe] at hO
    have HO := Lib.hid hO
    have HE := Lib.hid hoe
    clear hO hoe
    go_enter Try.func13, Try.ntmps13
    go_wp2_with (go_at_call 29; refine (HO.out _ HB.out).mono ?_; rintro e w' ⟨rfl, rfl⟩)
    go_ret2
    exact ⟨by rw [HE.out]; simp [endB, openE], by unfold endS; rw [HE.out]; exact HB.out, Upd.refl _ w⟩

set_option maxRecDepth 100000 in
set_option maxHeartbeats 1000000 in
theorem fail_any (b : Nat) (nest : Int) (d : DS) (c : Int) (hd : 0 ≤ d.depth ∧ d.depth ≤ 8) (w : World) (hb : DAt w b nest d) :
    Calls Try.prog 14 #[.pointer (some ⟨b, 0, none⟩), .int .u32 c] w fun e w' => e = .returned (.int .i64 (openE d)) ∧ DAt w' b nest (failS d c) ∧ Upd (OnlyAt b) w w' := by
  obtain ⟨hd0, hd8⟩ := hd
  have HB := Lib.hid hb
  obtain ⟨depth, n, st, fl, fa, ca⟩ := d
  replace hd0 : 0 ≤ depth := hd0
  replace hd8 : depth ≤ 8 := hd8
  have c0 : w.cell? ⟨b, 0, none⟩ = some (.int .i64 nest) := hb.cell 0
  have c1 : w.cell? ⟨b, 1, none⟩ = some (.int .i64 depth) := hb.cell 1
  have c18 : w.cell? ⟨b, 18, none⟩ = some (.int .i64 n) := hb.cell 18
  have c19 : w.cell? ⟨b, 19, none⟩ = some (.int .u64 st) := hb.cell 19
  have c20 : w.cell? ⟨b, 20, none⟩ = some (.bool fl) := hb.cell 20
  have c21 : w.cell? ⟨b, 21, none⟩ = some (.bool fa) := hb.cell 21
  have c22 : w.cell? ⟨b, 22, none⟩ = some (.int .u32 ca) := hb.cell 22
  have fz : ∀ i, w.frozen? ⟨b, i, none⟩ = false := fun i => hb.frozen i
  clear hb
  cases fa
  · by_cases h0 : depth = 0
    · subst h0
      have hoe : openE ⟨0, n, st, fl, false, ca⟩ = 8 := by simp [openE]
      have hO := fun W (h : DAt W b nest ⟨0, n, st, fl, false, ca⟩) => open_any b nest ⟨0, n, st, fl, false, ca⟩ W h
      rw [hoe] at hO
      have HO := Lib.hid hO
      have HE := Lib.hid hoe
      clear hO hoe
      go_enter Try.func14, Try.ntmps14
      go_wp2_with (go_at_call 29; refine (HO.out _ HB.out).mono ?_; rintro e w' ⟨rfl, rfl⟩)
      go_ret
      exact ⟨by rw [HE.out]; rfl, by unfold failS; rw [HE.out]; exact HB.out, Upd.refl _ w⟩
    · have hoe : openE ⟨depth, n, st, fl, false, ca⟩ = 0 := by simp [openE, h0]
      have hO := fun W (h : DAt W b nest ⟨depth, n, st, fl, false, ca⟩) => open_any b nest ⟨depth, n, st, fl, false, ca⟩ W h
      rw [hoe] at hO
      have HO := Lib.hid hO
      have HE := Lib.hid hoe
      clear hO hoe
      go_enter Try.func14, Try.ntmps14
      go_wp2_with (go_at_call 29; refine (HO.out _ HB.out).mono ?_; rintro e w' ⟨rfl, rfl⟩)
      go_ret
      refine ⟨by rw [HE.out]; rfl, ?_, ?_⟩
      · unfold failS; rw [HE.out]; simp only [if_true]
        exact blk_eq ((HB.out.set 21 (.bool true)).set 22 (.int .u32 c)) (by kernel_rfl)
      · exact only_trans (only_trans (Upd.refl _ w) (set_only _ _)) (set_only _ _)
  · have hoe : openE ⟨depth, n, st, fl, true, ca⟩ = 8 := by simp [openE]
    have hO := fun W (h : DAt W b nest ⟨depth, n, st, fl, true, ca⟩) => open_any b nest ⟨depth, n, st, fl, true, ca⟩ W h
    rw [hoe] at hO
    have HO := Lib.hid hO
    have HE := Lib.hid hoe
    clear hO hoe
    go_enter Try.func14, Try.ntmps14
    go_wp2_with (go_at_call 29; refine (HO.out _ HB.out).mono ?_; rintro e w' ⟨rfl, rfl⟩)
    go_ret
    exact ⟨by rw [HE.out]; rfl, by unfold failS; rw [HE.out]; exact HB.out, Upd.refl _ w⟩

end Go.Proofs.Ytdkdlgcgkkbghaa.DL
