/- The contracts of the reference: Stamp, End, Fail, Asked, Refused. -/
import Derived.Test.YtjgeflbhmhmjdaaGreatDealOps
import Derived.Test.YtjgeflbhmhmjdaaGreatDealBegin
import Derived.Deep.RegionHeld3
import Derived.Test.YtjgeflbhmhmjdaaGreatNoteD
import Derived.WalkLawsBesides
set_option linter.unusedSimpArgs false
set_option linter.unusedVariables false
namespace Go.Proofs.YtjgeflbhmhmjdaaGreat.DL
open Go.RowKit
open Go.Proofs.YtjgeflbhmhmjdaaGreat.Ord

attribute [local go_sem ↓] ldS_eq stS_eq
set_option maxRecDepth 100000 in
set_option maxHeartbeats 1000000 in
theorem rstamp_any (b : Nat) (nest : Int) (d : DS) (w : World) (hb : RAt w b nest d) :
    Calls Tryz.prog 26 #[.pointer (some ⟨b, 0, none⟩)] w fun e w' => e = .returned (.int .u64 (stampE d)) ∧ w = w' := by
  obtain ⟨depth, n, st, fl, fa, ca⟩ := d
  have c1 : w.cell? ⟨b, 1, none⟩ = some (.int .i64 depth) := hb.cell 1
  have c19 : w.cell? ⟨b, 19, none⟩ = some (.int .u64 st) := hb.cell 19
  have fz : ∀ i, w.frozen? ⟨b, i, none⟩ = false := fun i => hb.frozen i
  clear hb fz
  by_cases h0 : depth = 0
  · subst h0
    go_enter Tryz.func26, Tryz.ntmps26
    go_wp2
    go_ret
    exact ⟨by simp [stampE], rfl⟩
  · have h0b : (depth == 0) = false := by simpa using h0
    go_enter Tryz.func26, Tryz.ntmps26
    go_wp2
    go_ret
    exact ⟨by simp [stampE, h0], rfl⟩

set_option maxRecDepth 100000 in
set_option maxHeartbeats 1000000 in
theorem rend_any (b : Nat) (nest : Int) (d : DS) (hd : 0 ≤ d.depth ∧ d.depth ≤ 8) (w : World) (hb : RAt w b nest d) :
    Calls Tryz.prog 74 #[.pointer (some ⟨b, 0, none⟩)] w fun e w' => e = .returned (.tuple #[.bool (endB d), .int .i64 (openE d)]) ∧ RAt w' b nest (endS d) ∧ Upd (OnlyAt b) w w' := by
  obtain ⟨hd0, hd8⟩ := hd
  have HB := Lib.hid hb
  obtain ⟨depth, n, st, fl, fa, ca⟩ := d
  replace hd0 : 0 ≤ depth := hd0
  replace hd8 : depth ≤ 8 := hd8
  have c0 : w.cell? ⟨b, 0, none⟩ = some (.int .i64 nest) := hb.cell 0
  have c1 : w.cell? ⟨b, 1, none⟩ = some (.int .i64 depth) := hb.cell 1
  have c18 : w.cell? ⟨b, 18, none⟩ = some (.int .i64 n) := hb.cell 18
  have c19 : w.cell? ⟨b, 19, none⟩ = some (.int .u64 st) := hb.cell 19
  have c20 : w.cell? ⟨b, 20, none⟩ = some (.bool fl) := hb.cell 20
  have c21 : w.cell? ⟨b, 21, none⟩ = some (.bool fa) := hb.cell 21
  have c22 : w.cell? ⟨b, 22, none⟩ = some (.int .u32 ca) := hb.cell 22
  have fz : ∀ i, w.frozen? ⟨b, i, none⟩ = false := fun i => hb.frozen i
  clear hb
  by_cases h0 : depth = 0
  · subst h0
    have HE := Lib.hid (show openE ⟨0, n, st, fl, fa, ca⟩ = 8 from by simp [openE])
    go_enter Tryz.func74, Tryz.ntmps74
    go_wp2
    go_ret2
    exact ⟨by rw [HE.out]; simp [endB, openE], by unfold endS; rw [HE.out]; exact HB.out, Upd.refl _ w⟩
  · have h0b : (depth == 0) = false := by simpa using h0
    cases fa
    · have HE := Lib.hid (show openE ⟨depth, n, st, fl, false, ca⟩ = 0 from by simp [openE, h0])
      by_cases h1 : depth = 1
      · subst h1
        go_enter Tryz.func74, Tryz.ntmps74
        go_wp2
        go_ret2
        refine ⟨by rw [HE.out]; simp [endB, openE], ?_, ?_⟩
        · unfold endS; rw [HE.out]; simp only [if_true]
          exact blk_eq (((HB.out.set 1 (.int .i64 0)).set 19 (.int .u64 0)).set 20 (.bool false)) (by kernel_rfl)
        · exact only_trans (only_trans (only_trans (Upd.refl _ w) (set_only _ _)) (set_only _ _)) (set_only _ _)
      · have h1b : (depth - 1 == 0) = false := by simp; omega
        go_enter Tryz.func74, Tryz.ntmps74
        go_wp2
        go_ret2
        refine ⟨by rw [HE.out]; simp [endB, openE, h1], ?_, ?_⟩
        · unfold endS; rw [HE.out]; simp only [if_true, h1, if_false]
          exact blk_eq (HB.out.set 1 (.int .i64 (depth - 1))) (by kernel_rfl)
        · exact only_trans (Upd.refl _ w) (set_only _ _)
    · have HE := Lib.hid (show openE ⟨depth, n, st, fl, true, ca⟩ = 8 from by simp [openE])
      go_enter Tryz.func74, Tryz.ntmps74
      go_wp2
      go_ret2
      exact ⟨by rw [HE.out]; simp [endB, openE], by unfold endS; rw [HE.out]; exact HB.out, Upd.refl _ w⟩

set_option maxRecDepth 100000 in
set_option maxHeartbeats 1000000 in
theorem rfail_any (b : Nat) (nest : Int) (d : DS) (c : Int) (hd : 0 ≤ d.depth ∧ d.depth ≤ 8) (w : World) (hb : RAt w b nest d) :
    Calls Tryz.prog 76 #[.pointer (some ⟨b, 0, none⟩), .int .u32 c] w fun e w' => e = .returned (.int .i64 (openE d)) ∧ RAt w' b nest (failS d c) ∧ Upd (OnlyAt b) w w' := by
  obtain ⟨hd0, hd8⟩ := hd
  have HB := Lib.hid hb
  obtain ⟨depth, n, st, fl, fa, ca⟩ := d
  replace hd0 : 0 ≤ depth := hd0
  replace hd8 : depth ≤ 8 := hd8
  have c0 : w.cell? ⟨b, 0, none⟩ = some (.int .i64 nest) := hb.cell 0
  have c1 : w.cell? ⟨b, 1, none⟩ = some (.int .i64 depth) := hb.cell 1
  have c18 : w.cell? ⟨b, 18, none⟩ = some (.int .i64 n) := hb.cell 18
  have c19 : w.cell? ⟨b, 19, none⟩ = some (.int .u64 st) := hb.cell 19
  have c20 : w.cell? ⟨b, 20, none⟩ = some (.bool fl) := hb.cell 20
  have c21 : w.cell? ⟨b, 21, none⟩ = some (.bool fa) := hb.cell 21
  have c22 : w.cell? ⟨b, 22, none⟩ = some (.int .u32 ca) := hb.cell 22
  have fz : ∀ i, w.frozen? ⟨b, i, none⟩ = false := fun i => hb.frozen i
  clear hb
  by_cases h0 : depth = 0
  · subst h0
    have HE := Lib.hid (show openE ⟨0, n, st, fl, fa, ca⟩ = 8 from by simp [openE])
    go_enter Tryz.func76, Tryz.ntmps76
    go_wp2
    go_ret
    exact ⟨by rw [HE.out]; rfl, by unfold failS; rw [HE.out]; exact HB.out, Upd.refl _ w⟩
  · have h0b : (depth == 0) = false := by simpa using h0
    cases fa
    · have HE := Lib.hid (show openE ⟨depth, n, st, fl, false, ca⟩ = 0 from by simp [openE, h0])
      go_enter Tryz.func76, Tryz.ntmps76
      go_wp2
      go_ret
      refine ⟨by rw [HE.out]; rfl, ?_, ?_⟩
      · unfold failS; rw [HE.out]; simp only [if_true]
        exact blk_eq ((HB.out.set 21 (.bool true)).set 22 (.int .u32 c)) (by kernel_rfl)
      · exact only_trans (only_trans (Upd.refl _ w) (set_only _ _)) (set_only _ _)
    · have HE := Lib.hid (show openE ⟨depth, n, st, fl, true, ca⟩ = 8 from by simp [openE])
      go_enter Tryz.func76, Tryz.ntmps76
      go_wp2
      go_ret
      exact ⟨by rw [HE.out]; rfl, by unfold failS; rw [HE.out]; exact HB.out, Upd.refl _ w⟩

set_option maxRecDepth 100000 in
set_option maxHeartbeats 1000000 in
theorem rasked_any (b : Nat) (nest : Int) (d : DS) (meets : Bool) (stamp : Int) (hse : 0 ≤ stampE d) (hst : 0 ≤ stamp) (w : World) (hb : RAt w b nest d) :
    Calls Tryz.prog 143 #[.pointer (some ⟨b, 0, none⟩), .bool meets, .int .u64 stamp] w fun e w' => e = .returned (.bool (askedB d meets)) ∧ RAt w' b nest (askedS d meets stamp) ∧ Upd (OnlyAt b) w w' := by
  have hS := fun W (h : RAt W b nest d) => rstamp_any b nest d W h
  have hA := fun W => refAsked_any (stampE d) d.fl meets stamp hse hst W
  have hR : askedB d meets = (stampE d != 0 && meets) := rfl
  have hN : askedS d meets stamp = ⟨d.depth, d.n, d.st, d.fl || stampE d != 0 && meets && older stamp (stampE d), d.fa, d.ca⟩ := rfl
  rw [hR, hN]
  clear hR hN hse hst
  generalize (d.fl || stampE d != 0 && meets && older stamp (stampE d)) = nb at *
  generalize (stampE d != 0 && meets) = rb at *
  generalize stampE d = own at *
  obtain ⟨depth, n, st, fl, fa, ca⟩ := d
  have HS := Lib.hid hS; have HA := Lib.hid hA; have HB := Lib.hid hb
  clear hS hA
  have c20 : w.cell? ⟨b, 20, none⟩ = some (.bool fl) := hb.cell 20
  have fz : ∀ i, w.frozen? ⟨b, i, none⟩ = false := fun i => hb.frozen i
  clear hb
  go_enter Tryz.func143, Tryz.ntmps143
  go_wp2_with fail
  go_quiet (first | (go_at_call 26; exact Calls.quiet_of_same ((HS.out _ (by first | exact HB.out | exact HB.out.upd (Upd.drew NoF w) (fun h => h) | exact HB.out.upd (Upd.drewN NoF w _) (fun h => h))).mono (fun _ _ h => ⟨h.1, h.2.symm⟩))) | (go_at_call 160; exact Calls.quiet_of_same ((HA.out _).mono (fun _ _ h => ⟨h.1, h.2.symm⟩))))
  rename_i nq
  obtain ⟨W2, hW2⟩ : ∃ W2, w.drewN nq = W2 := ⟨_, rfl⟩
  have HU2 : Hid (Upd (OnlyAt b) w W2) := Lib.hid (by rw [← hW2]; exact Upd.drewN _ w nq)
  have HB2 : Hid (RAt W2 b nest ⟨depth, n, st, fl, fa, ca⟩) := Lib.hid (by rw [← hW2]; exact HB.out.upd (Upd.drewN NoF w nq) (fun h => h))
  rw [hW2]
  clear hW2 c20 fz
  have c20 : W2.cell? ⟨b, 20, none⟩ = some (.bool fl) := HB2.out.cell 20
  have fz : ∀ i, W2.frozen? ⟨b, i, none⟩ = false := fun i => HB2.out.frozen i
  go_wp2
  go_ret
  exact ⟨rfl, blk_eq (HB2.out.set 20 (.bool nb)) (by kernel_rfl), only_trans HU2.out (set_only _ _)⟩

end Go.Proofs.YtjgeflbhmhmjdaaGreat.DL
namespace Go.Proofs.YtjgeflbhmhmjdaaGreat.DL
open Go.RowKit
open Go.Proofs.YtjgeflbhmhmjdaaGreat.Ord

attribute [local go_sem ↓] ldS_eq stS_eq
theorem save_rangeAtR {w : World} {g : Nat} {n : Int} {T : TypeId} (h : Blk w g (SC n) T) : w.rangeAt g 0 (SC n).toList := by
  have h' := World.rangeAt_of_block h 0 17
  have e : ((SC n).extract 0 (0 + 17)).toList = (SC n).toList := by kernel_rfl
  exact Eq.mp (congrArg (fun x => w.rangeAt g 0 x) e) h'

set_option maxRecDepth 100000 in
set_option maxHeartbeats 1000000 in
theorem rrefused_any (b : Nat) (nest : Int) (d : DS) (stamp : Int) (hd0 : 0 ≤ d.depth) (hse : 0 ≤ d.st) (hst : 0 ≤ stamp) (w : World) (hb : RAt w b nest d) :
    Calls Tryz.prog 119 #[.pointer (some ⟨b, 0, none⟩), .int .u64 stamp] w fun e w' => e = .returned (.bool (refusedB d stamp)) ∧ Upd NoF w w' := by
  have hG := fun W => refGives_any d.st d.fl stamp hse hst W
  have hR : refusedB d stamp = (decide (openE d = 0) && (d.fl && older stamp d.st)) := rfl
  rw [hR]
  clear hR hse hst
  generalize (d.fl && older stamp d.st) = gb at *
  obtain ⟨depth, n, st, fl, fa, ca⟩ := d
  replace hd0 : 0 ≤ depth := hd0
  have HG := Lib.hid hG
  clear hG
  have c1 : w.cell? ⟨b, 1, none⟩ = some (.int .i64 depth) := hb.cell 1
  have c19 : w.cell? ⟨b, 19, none⟩ = some (.int .u64 st) := hb.cell 19
  have c20 : w.cell? ⟨b, 20, none⟩ = some (.bool fl) := hb.cell 20
  have c21 : w.cell? ⟨b, 21, none⟩ = some (.bool fa) := hb.cell 21
  have fz : ∀ i, w.frozen? ⟨b, i, none⟩ = false := fun i => hb.frozen i
  clear hb fz
  by_cases h0 : depth = 0
  · have hp : decide (0 < depth) = false := by simp; omega
    have HE := Lib.hid (show openE ⟨depth, n, st, fl, fa, ca⟩ = 8 from by simp [openE, h0])
    clear h0
    go_enter Tryz.func119, Tryz.ntmps119
    go_wp2_with fail
    go_quiet (fail)
    go_wp2
    go_ret
    exact ⟨by rw [HE.out]; rfl, Upd.drewN _ _ _⟩
  · have hp : decide (0 < depth) = true := by simp; omega
    cases fa
    · have HE := Lib.hid (show openE ⟨depth, n, st, fl, false, ca⟩ = 0 from by simp [openE, h0])
      clear h0
      go_enter Tryz.func119, Tryz.ntmps119
      go_wp2_with fail
      go_quiet ((go_at_call 142; exact Calls.quiet_of_same ((HG.out _).mono (fun _ _ h => ⟨h.1, h.2.symm⟩))))
      go_wp2
      go_ret
      exact ⟨by rw [HE.out]; simp, Upd.drewN _ _ _⟩
    · have HE := Lib.hid (show openE ⟨depth, n, st, fl, true, ca⟩ = 8 from by simp [openE])
      clear h0
      go_enter Tryz.func119, Tryz.ntmps119
      go_wp2_with fail
      go_quiet (fail)
      go_wp2
      go_ret
      exact ⟨by rw [HE.out]; rfl, Upd.drewN _ _ _⟩

set_option maxRecDepth 100000 in
set_option maxHeartbeats 1000000 in
theorem rover_any (b : Nat) (nest : Int) (d : DS) (hca : 0 ≤ d.ca ∧ d.ca ≤ 4294967295) (w : World) (hb : RAt w b nest d) :
    Calls Tryz.prog 78 #[.pointer (some ⟨b, 0, none⟩)] w fun e w' => e = .returned (overV d) ∧ RAt w' b nest (overS d) ∧ Upd (OnlyAt b) w w' := by
  have hlt := hb.lt
  have hb1 : RAt (w.alloc (.cells #[.int .u32 0, .int .u32 0, .int .u32 0, .int .u32 0, .int .u32 0, .int .u32 0, .int .u32 0, .int .u32 0, .int .u32 0, .int .u32 0, .int .u32 0, .int .u32 0, .int .u32 0, .int .u32 0, .int .u32 0, .int .u32 0, .int .i64 0] 76)) b nest d := hb.alloc _
  obtain ⟨depth, n, st, fl, fa, ca⟩ := d
  replace hca : 0 ≤ ca ∧ ca ≤ 4294967295 := hca
  have htm : ca.tmod 256 = ca % 256 := by rw [Int.tmod_eq_emod_of_nonneg hca.1]
  clear hca
  have c0 : (w.alloc (.cells #[.int .u32 0, .int .u32 0, .int .u32 0, .int .u32 0, .int .u32 0, .int .u32 0, .int .u32 0, .int .u32 0, .int .u32 0, .int .u32 0, .int .u32 0, .int .u32 0, .int .u32 0, .int .u32 0, .int .u32 0, .int .u32 0, .int .i64 0] 76)).cell? ⟨b, 0, none⟩ = some (.int .i64 nest) := hb1.cell 0
  have c1 : (w.alloc (.cells #[.int .u32 0, .int .u32 0, .int .u32 0, .int .u32 0, .int .u32 0, .int .u32 0, .int .u32 0, .int .u32 0, .int .u32 0, .int .u32 0, .int .u32 0, .int .u32 0, .int .u32 0, .int .u32 0, .int .u32 0, .int .u32 0, .int .i64 0] 76)).cell? ⟨b, 1, none⟩ = some (.int .i64 depth) := hb1.cell 1
  have c18 : (w.alloc (.cells #[.int .u32 0, .int .u32 0, .int .u32 0, .int .u32 0, .int .u32 0, .int .u32 0, .int .u32 0, .int .u32 0, .int .u32 0, .int .u32 0, .int .u32 0, .int .u32 0, .int .u32 0, .int .u32 0, .int .u32 0, .int .u32 0, .int .i64 0] 76)).cell? ⟨b, 18, none⟩ = some (.int .i64 n) := hb1.cell 18
  have c19 : (w.alloc (.cells #[.int .u32 0, .int .u32 0, .int .u32 0, .int .u32 0, .int .u32 0, .int .u32 0, .int .u32 0, .int .u32 0, .int .u32 0, .int .u32 0, .int .u32 0, .int .u32 0, .int .u32 0, .int .u32 0, .int .u32 0, .int .u32 0, .int .i64 0] 76)).cell? ⟨b, 19, none⟩ = some (.int .u64 st) := hb1.cell 19
  have c20 : (w.alloc (.cells #[.int .u32 0, .int .u32 0, .int .u32 0, .int .u32 0, .int .u32 0, .int .u32 0, .int .u32 0, .int .u32 0, .int .u32 0, .int .u32 0, .int .u32 0, .int .u32 0, .int .u32 0, .int .u32 0, .int .u32 0, .int .u32 0, .int .i64 0] 76)).cell? ⟨b, 20, none⟩ = some (.bool fl) := hb1.cell 20
  have c21 : (w.alloc (.cells #[.int .u32 0, .int .u32 0, .int .u32 0, .int .u32 0, .int .u32 0, .int .u32 0, .int .u32 0, .int .u32 0, .int .u32 0, .int .u32 0, .int .u32 0, .int .u32 0, .int .u32 0, .int .u32 0, .int .u32 0, .int .u32 0, .int .i64 0] 76)).cell? ⟨b, 21, none⟩ = some (.bool fa) := hb1.cell 21
  have c22 : (w.alloc (.cells #[.int .u32 0, .int .u32 0, .int .u32 0, .int .u32 0, .int .u32 0, .int .u32 0, .int .u32 0, .int .u32 0, .int .u32 0, .int .u32 0, .int .u32 0, .int .u32 0, .int .u32 0, .int .u32 0, .int .u32 0, .int .u32 0, .int .i64 0] 76)).cell? ⟨b, 22, none⟩ = some (.int .u32 ca) := hb1.cell 22
  have fz : ∀ i, (w.alloc (.cells #[.int .u32 0, .int .u32 0, .int .u32 0, .int .u32 0, .int .u32 0, .int .u32 0, .int .u32 0, .int .u32 0, .int .u32 0, .int .u32 0, .int .u32 0, .int .u32 0, .int .u32 0, .int .u32 0, .int .u32 0, .int .u32 0, .int .i64 0] 76)).frozen? ⟨b, i, none⟩ = false := fun i => hb1.frozen i
  have HB := Lib.hid hb1
  have hz0 : Blk (w.alloc (.cells #[.int .u32 0, .int .u32 0, .int .u32 0, .int .u32 0, .int .u32 0, .int .u32 0, .int .u32 0, .int .u32 0, .int .u32 0, .int .u32 0, .int .u32 0, .int .u32 0, .int .u32 0, .int .u32 0, .int .u32 0, .int .u32 0, .int .i64 0] 76)) w.heap.size (SC 0) 76 := Blk.new w _ _
  have hne : b ≠ w.heap.size := by omega
  have hne2 : w.heap.size ≠ b := by omega
  clear hb hb1 hlt
  cases fa
  · have hth := save_nthere hz0
    obtain ⟨W2, hW2⟩ : ∃ W2, (w.alloc (.cells #[.int .u32 0, .int .u32 0, .int .u32 0, .int .u32 0, .int .u32 0, .int .u32 0, .int .u32 0, .int .u32 0, .int .u32 0, .int .u32 0, .int .u32 0, .int .u32 0, .int .u32 0, .int .u32 0, .int .u32 0, .int .u32 0, .int .i64 0] 76)).setCells w.heap.size 0 (SC 0).toList = W2 := ⟨_, rfl⟩
    have hZ2 : Blk W2 w.heap.size (SC 0) 76 := by rw [← hW2]; exact save_store hz0 0
    have HB2 : Hid (RAt W2 b nest ⟨depth, n, st, fl, false, ca⟩) := Lib.hid (by rw [← hW2]; exact blk_other_setCells hne _ _ _ HB.out)
    have HU2 : Hid (Upd (OnlyAt b) w W2) := Lib.hid (by rw [← hW2]; exact (Upd.alloc (OnlyAt b) w _).trans (upd_setCells _ _ _) (fun i hi h => by have : i = w.heap.size := h; omega))
    have s0 : (stS (.pointer (some ⟨w.heap.size, 0, none⟩)) (.agg #[.int .u32 0, .int .u32 0, .int .u32 0, .int .u32 0, .int .u32 0, .int .u32 0, .int .u32 0, .int .u32 0, .int .u32 0, .int .u32 0, .int .u32 0, .int .u32 0, .int .u32 0, .int .u32 0, .int .u32 0, .int .u32 0, .int .i64 0])).run Tryz.prog (w.alloc (.cells #[.int .u32 0, .int .u32 0, .int .u32 0, .int .u32 0, .int .u32 0, .int .u32 0, .int .u32 0, .int .u32 0, .int .u32 0, .int .u32 0, .int .u32 0, .int .u32 0, .int .u32 0, .int .u32 0, .int .u32 0, .int .u32 0, .int .i64 0] 76)) = .ok () W2 := by rw [← hW2]; exact stS_run 0 hth
    have HZ2 := Lib.hid hZ2
    clear hW2 hZ2 hth hz0
    go_enter Tryz.func78, Tryz.ntmps78
    go_wp2
    have hl0 := ldV_run HZ2.out
    refine bodyPost_ret (v := .tuple #[SV 0, .int .u32 0, .int .i64 8]) ?_ ?_ ?_
    · simp [results, Tryz.f78, asAddr, hl0]
    · rfl
    exact ⟨rfl, HB2.out, HU2.out⟩
  · by_cases hk : ca % 256 = 1
    · have hkb : (ca % 256 != 1) = false := by simp [hk]
      go_enter Tryz.func78, Tryz.ntmps78
      go_wp2
      obtain ⟨W1, hW1⟩ : ∃ W1, ((((w.alloc (.cells #[.int .u32 0, .int .u32 0, .int .u32 0, .int .u32 0, .int .u32 0, .int .u32 0, .int .u32 0, .int .u32 0, .int .u32 0, .int .u32 0, .int .u32 0, .int .u32 0, .int .u32 0, .int .u32 0, .int .u32 0, .int .u32 0, .int .i64 0] 76)).setCell ⟨b, 21, none⟩ (.bool false)).setCell ⟨b, 1, none⟩ (.int .i64 0)).setCell ⟨b, 20, none⟩ (.bool false)) = W1 := ⟨_, rfl⟩
      have hB1 : RAt W1 b nest ⟨0, n, st, false, false, ca⟩ := by rw [← hW1]; exact blk_eq (((HB.out.set 21 (.bool false)).set 1 (.int .i64 0)).set 20 (.bool false)) (by kernel_rfl)
      have hZ1 : Blk W1 w.heap.size (SC 0) 76 := by rw [← hW1]; exact blk_eq (((hz0.other 21 (.bool false) hne2).other 1 (.int .i64 0) hne2).other 20 (.bool false) hne2) (by kernel_rfl)
      have hU1 : Upd (OnlyAt b) w W1 := by rw [← hW1]; exact only_trans (only_trans (only_trans (Upd.alloc _ w _) (set_only _ _)) (set_only _ _)) (set_only _ _)
      rw [hW1]
      clear hW1 hz0 c0 c1 c18 c19 c20 c21 c22 fz
      have hd := Upd.drew NoF W1
      have hBd := hB1.upd hd (fun h => h)
      have hZd := hZ1.upd hd (fun h => h)
      obtain ⟨W2, hW2⟩ : ∃ W2, W1.drew.setCells w.heap.size 0 (SC n).toList = W2 := ⟨_, rfl⟩
      have hB2 : RAt W2 b nest ⟨0, n, st, false, false, ca⟩ := by rw [← hW2]; exact blk_other_setCells hne _ _ _ hBd
      have hZ2 : Blk W2 w.heap.size (SC n) 76 := by rw [← hW2]; exact save_store hZd n
      have hU2 : Upd (OnlyAt b) w W2 := by rw [← hW2]; exact (hU1.trans hd (fun _ _ h => h.elim)).trans (upd_setCells _ _ _) (fun i hi h => by have : i = w.heap.size := h; omega)
      have l1 := ldS_run (save_range hBd)
      have l2 := ldS_run (save_range hB2)
      have s1 := stS_run n (save_nthere hZd)
      rw [hW2] at s1
      have y1 : W1.cell? ⟨b, 22, none⟩ = some (.int .u32 ca) := hB1.cell 22
      have y2 : W2.cell? ⟨b, 22, none⟩ = some (.int .u32 ca) := hB2.cell 22
      have HB2 := Lib.hid hB2; have HZ2 := Lib.hid hZ2; have HU2 := Lib.hid hU2
      clear hB1 hZ1 hU1 hd hBd hZd hW2 hB2 hZ2 hU2
      go_region_with (fail)
      all_goals
        go_wp2
        have hl2 := ldV_run HZ2.out
        refine bodyPost_ret (v := .tuple #[SV n, .int .u32 ca, .int .i64 0]) ?_ ?_ ?_
        · simp [results, Tryz.f78, asAddr, hl2]
        · rfl
        refine ⟨rfl, ?_, HU2.out⟩
        unfold overS
        simp only [if_true, hk]
        exact HB2.out
    · have hkb : (ca % 256 != 1) = true := by simp [hk]
      go_enter Tryz.func78, Tryz.ntmps78
      go_wp2
      obtain ⟨W1, hW1⟩ : ∃ W1, (((((w.alloc (.cells #[.int .u32 0, .int .u32 0, .int .u32 0, .int .u32 0, .int .u32 0, .int .u32 0, .int .u32 0, .int .u32 0, .int .u32 0, .int .u32 0, .int .u32 0, .int .u32 0, .int .u32 0, .int .u32 0, .int .u32 0, .int .u32 0, .int .i64 0] 76)).setCell ⟨b, 21, none⟩ (.bool false)).setCell ⟨b, 1, none⟩ (.int .i64 0)).setCell ⟨b, 20, none⟩ (.bool false)).setCell ⟨b, 19, none⟩ (.int .u64 0)) = W1 := ⟨_, rfl⟩
      have hB1 : RAt W1 b nest ⟨0, n, 0, false, false, ca⟩ := by rw [← hW1]; exact blk_eq ((((HB.out.set 21 (.bool false)).set 1 (.int .i64 0)).set 20 (.bool false)).set 19 (.int .u64 0)) (by kernel_rfl)
      have hZ1 : Blk W1 w.heap.size (SC 0) 76 := by rw [← hW1]; exact blk_eq ((((hz0.other 21 (.bool false) hne2).other 1 (.int .i64 0) hne2).other 20 (.bool false) hne2).other 19 (.int .u64 0) hne2) (by kernel_rfl)
      have hU1 : Upd (OnlyAt b) w W1 := by rw [← hW1]; exact only_trans (only_trans (only_trans (only_trans (Upd.alloc _ w _) (set_only _ _)) (set_only _ _)) (set_only _ _)) (set_only _ _)
      rw [hW1]
      clear hW1 hz0 c0 c1 c18 c19 c20 c21 c22 fz
      have hd := Upd.drew NoF W1
      have hBd := hB1.upd hd (fun h => h)
      have hZd := hZ1.upd hd (fun h => h)
      obtain ⟨W2, hW2⟩ : ∃ W2, W1.drew.setCells w.heap.size 0 (SC n).toList = W2 := ⟨_, rfl⟩
      have hB2 : RAt W2 b nest ⟨0, n, 0, false, false, ca⟩ := by rw [← hW2]; exact blk_other_setCells hne _ _ _ hBd
      have hZ2 : Blk W2 w.heap.size (SC n) 76 := by rw [← hW2]; exact save_store hZd n
      have hU2 : Upd (OnlyAt b) w W2 := by rw [← hW2]; exact (hU1.trans hd (fun _ _ h => h.elim)).trans (upd_setCells _ _ _) (fun i hi h => by have : i = w.heap.size := h; omega)
      have l1 := ldS_run (save_range hBd)
      have l2 := ldS_run (save_range hB2)
      have s1 := stS_run n (save_nthere hZd)
      rw [hW2] at s1
      have y1 : W1.cell? ⟨b, 22, none⟩ = some (.int .u32 ca) := hB1.cell 22
      have y2 : W2.cell? ⟨b, 22, none⟩ = some (.int .u32 ca) := hB2.cell 22
      have HB2 := Lib.hid hB2; have HZ2 := Lib.hid hZ2; have HU2 := Lib.hid hU2
      clear hB1 hZ1 hU1 hd hBd hZd hW2 hB2 hZ2 hU2
      go_region_with (fail)
      all_goals
        go_wp2
        have hl2 := ldV_run HZ2.out
        refine bodyPost_ret (v := .tuple #[SV n, .int .u32 ca, .int .i64 0]) ?_ ?_ ?_
        · simp [results, Tryz.f78, asAddr, hl2]
        · rfl
        refine ⟨rfl, ?_, HU2.out⟩
        unfold overS
        simp only [if_true, hk, if_false]
        exact HB2.out

set_option maxRecDepth 100000 in
set_option maxHeartbeats 1000000 in
theorem rbegin_any (b : Nat) (nest : Int) (d : DS) (m stamp : Int) (hd : 0 ≤ d.depth ∧ d.depth ≤ 8) (hdn : d.depth ≤ nest) (w : World) (hb : RAt w b nest d) :
    Calls Tryz.prog 72 #[.pointer (some ⟨b, 0, none⟩), SV m, .int .u64 stamp] w fun e w' => e = .returned (.int .i64 (beginE nest d stamp)) ∧ RAt w' b nest (beginS nest d m stamp) ∧ Upd (OnlyAt b) w w' := by
  obtain ⟨hd0, hd8⟩ := hd
  have hlt := hb.lt
  have hne : b ≠ w.heap.size := by omega
  have hb1 : RAt (w.alloc (.cells #[.int .u32 0, .int .u32 (m % 4294967296), .int .u32 0, .int .u32 0, .int .u32 0, .int .u32 0, .int .u32 0, .int .u32 0, .int .u32 0, .int .u32 0, .int .u32 0, .int .u32 0, .int .u32 0, .int .u32 0, .int .u32 0, .int .u32 0, .int .i64 m] 76)) b nest d := hb.alloc _
  have hq1 : Blk (w.alloc (.cells #[.int .u32 0, .int .u32 (m % 4294967296), .int .u32 0, .int .u32 0, .int .u32 0, .int .u32 0, .int .u32 0, .int .u32 0, .int .u32 0, .int .u32 0, .int .u32 0, .int .u32 0, .int .u32 0, .int .u32 0, .int .u32 0, .int .u32 0, .int .i64 m] 76)) w.heap.size (SC m) 76 := Blk.new w _ _
  have HU : Hid (Upd (OnlyAt b) w (w.alloc (.cells #[.int .u32 0, .int .u32 (m % 4294967296), .int .u32 0, .int .u32 0, .int .u32 0, .int .u32 0, .int .u32 0, .int .u32 0, .int .u32 0, .int .u32 0, .int .u32 0, .int .u32 0, .int .u32 0, .int .u32 0, .int .u32 0, .int .u32 0, .int .i64 m] 76))) := Lib.hid (Upd.alloc _ w _)
  obtain ⟨depth, n, st, fl, fa, ca⟩ := d
  replace hd0 : 0 ≤ depth := hd0
  replace hd8 : depth ≤ 8 := hd8
  replace hdn : depth ≤ nest := hdn
  have c0 : (w.alloc (.cells #[.int .u32 0, .int .u32 (m % 4294967296), .int .u32 0, .int .u32 0, .int .u32 0, .int .u32 0, .int .u32 0, .int .u32 0, .int .u32 0, .int .u32 0, .int .u32 0, .int .u32 0, .int .u32 0, .int .u32 0, .int .u32 0, .int .u32 0, .int .i64 m] 76)).cell? ⟨b, 0, none⟩ = some (.int .i64 nest) := hb1.cell 0
  have c1 : (w.alloc (.cells #[.int .u32 0, .int .u32 (m % 4294967296), .int .u32 0, .int .u32 0, .int .u32 0, .int .u32 0, .int .u32 0, .int .u32 0, .int .u32 0, .int .u32 0, .int .u32 0, .int .u32 0, .int .u32 0, .int .u32 0, .int .u32 0, .int .u32 0, .int .i64 m] 76)).cell? ⟨b, 1, none⟩ = some (.int .i64 depth) := hb1.cell 1
  have c19 : (w.alloc (.cells #[.int .u32 0, .int .u32 (m % 4294967296), .int .u32 0, .int .u32 0, .int .u32 0, .int .u32 0, .int .u32 0, .int .u32 0, .int .u32 0, .int .u32 0, .int .u32 0, .int .u32 0, .int .u32 0, .int .u32 0, .int .u32 0, .int .u32 0, .int .i64 m] 76)).cell? ⟨b, 19, none⟩ = some (.int .u64 st) := hb1.cell 19
  have c20 : (w.alloc (.cells #[.int .u32 0, .int .u32 (m % 4294967296), .int .u32 0, .int .u32 0, .int .u32 0, .int .u32 0, .int .u32 0, .int .u32 0, .int .u32 0, .int .u32 0, .int .u32 0, .int .u32 0, .int .u32 0, .int .u32 0, .int .u32 0, .int .u32 0, .int .i64 m] 76)).cell? ⟨b, 20, none⟩ = some (.bool fl) := hb1.cell 20
  have c21 : (w.alloc (.cells #[.int .u32 0, .int .u32 (m % 4294967296), .int .u32 0, .int .u32 0, .int .u32 0, .int .u32 0, .int .u32 0, .int .u32 0, .int .u32 0, .int .u32 0, .int .u32 0, .int .u32 0, .int .u32 0, .int .u32 0, .int .u32 0, .int .u32 0, .int .i64 m] 76)).cell? ⟨b, 21, none⟩ = some (.bool fa) := hb1.cell 21
  have fz : ∀ i, (w.alloc (.cells #[.int .u32 0, .int .u32 (m % 4294967296), .int .u32 0, .int .u32 0, .int .u32 0, .int .u32 0, .int .u32 0, .int .u32 0, .int .u32 0, .int .u32 0, .int .u32 0, .int .u32 0, .int .u32 0, .int .u32 0, .int .u32 0, .int .u32 0, .int .i64 m] 76)).frozen? ⟨b, i, none⟩ = false := fun i => hb1.frozen i
  have HB := Lib.hid hb1; have HQ := Lib.hid hq1
  clear hb hb1 hq1 hlt
  by_cases h0 : stamp = 0
  · subst h0
    go_enter Tryz.func72, Tryz.ntmps72
    go_wp2
    go_ret
    have hE : beginE nest ⟨depth, n, st, fl, fa, ca⟩ 0 = 2 := by simp [beginE]
    exact ⟨by rw [hE]; rfl, by unfold beginS; rw [hE]; exact HB.out, HU.out⟩
  · have h0b : (stamp == 0) = false := by simpa using h0
    cases fa
    · go_enter Tryz.func72, Tryz.ntmps72
      go_wp2_with fail
      go_quiet (fail)
      rename_i nq
      clear c0 c1 c19 c20 c21 fz
      obtain ⟨W2, hW2⟩ : ∃ W2, (w.alloc (.cells #[.int .u32 0, .int .u32 (m % 4294967296), .int .u32 0, .int .u32 0, .int .u32 0, .int .u32 0, .int .u32 0, .int .u32 0, .int .u32 0, .int .u32 0, .int .u32 0, .int .u32 0, .int .u32 0, .int .u32 0, .int .u32 0, .int .u32 0, .int .i64 m] 76)).drewN nq = W2 := ⟨_, rfl⟩
      have HU2 : Hid (Upd (OnlyAt b) w W2) := Lib.hid (by rw [← hW2]; exact only_trans HU.out (Upd.drewN _ _ nq))
      have HB2 : Hid (RAt W2 b nest ⟨depth, n, st, fl, false, ca⟩) := Lib.hid (by rw [← hW2]; exact HB.out.upd (Upd.drewN NoF _ nq) (fun h => h))
      have HQ2 : Hid (Blk W2 w.heap.size (SC m) 76) := Lib.hid (by rw [← hW2]; exact HQ.out.upd (Upd.drewN NoF _ nq) (fun h => h))
      rw [hW2]
      clear hW2 HU HB HQ
      have c0 : W2.cell? ⟨b, 0, none⟩ = some (.int .i64 nest) := HB2.out.cell 0
      have c1 : W2.cell? ⟨b, 1, none⟩ = some (.int .i64 depth) := HB2.out.cell 1
      have c19 : W2.cell? ⟨b, 19, none⟩ = some (.int .u64 st) := HB2.out.cell 19
      have c20 : W2.cell? ⟨b, 20, none⟩ = some (.bool fl) := HB2.out.cell 20
      have c21 : W2.cell? ⟨b, 21, none⟩ = some (.bool false) := HB2.out.cell 21
      have fz : ∀ i, W2.frozen? ⟨b, i, none⟩ = false := fun i => HB2.out.frozen i
      by_cases h1 : depth = nest
      · subst h1
        have h1b : decide (depth ≤ depth) = true := by simp
        go_wp2
        go_ret
        have hE : beginE depth ⟨depth, n, st, fl, false, ca⟩ stamp = 7 := by simp [beginE, h0]
        exact ⟨by rw [hE]; rfl, by unfold beginS; rw [hE]; exact HB2.out, HU2.out⟩
      · have h1b : decide (nest ≤ depth) = false := by simp; omega
        have HE := Lib.hid (show beginE nest ⟨depth, n, st, fl, false, ca⟩ stamp = 0 from by simp [beginE, h0, h1])
        clear h0 h1
        by_cases h2 : depth = 0
        · have h2b : decide (1 < depth + 1) = false := by simp; omega
          have H2 := Lib.hid h2
          have hdz := h2
          clear h2
          by_cases h3 : st = 0
          · subst h3
            have hB3 : RAt (W2.setCell ⟨b, 1, none⟩ (.int .i64 (depth + 1))) b nest ⟨depth + 1, n, 0, fl, false, ca⟩ := blk_eq (HB2.out.set 1 (.int .i64 (depth + 1))) (by kernel_rfl)
            have hQ3 := HQ2.out.other 1 (.int .i64 (depth + 1)) (fun e => hne e.symm)
            have l3 := ldS_run (save_rangeAtR hQ3)
            have s3 := stS_run m (save_there hB3)
            obtain ⟨W4, hW4⟩ : ∃ W4, (W2.setCell ⟨b, 1, none⟩ (.int .i64 (depth + 1))).setCells b 2 (SC m).toList = W4 := ⟨_, rfl⟩
            rw [hW4] at s3
            have hB4 : RAt W4 b nest ⟨depth + 1, m, 0, fl, false, ca⟩ := by rw [← hW4]; exact save_set hB3 m
            have hU4 : Upd (OnlyAt b) w W4 := by rw [← hW4]; exact only_trans (only_trans HU2.out (set_only _ _)) (upd_setCells _ _ _)
            have HB4 := Lib.hid hB4; have HU4 := Lib.hid hU4
            have k19 : W4.cell? ⟨b, 19, none⟩ = some (.int .u64 0) := hB4.cell 19
            have k20 : W4.cell? ⟨b, 20, none⟩ = some (.bool fl) := hB4.cell 20
            have kz : ∀ i, W4.frozen? ⟨b, i, none⟩ = false := fun i => hB4.frozen i
            clear hB3 hQ3 hW4 hB4 hU4 hdz
            go_wp2
            any_goals (exfalso; have hbad := of_decide_eq_false h1b; omega)
            go_ret
            refine ⟨by rw [HE.out]; rfl, ?_, ?_⟩
            · unfold beginS; rw [HE.out]; simp only [if_true, H2.out]; rw [(show (1 : Int) = depth + 1 from by have := H2.out; omega)]
              exact blk_eq ((HB4.out.set 20 (.bool false)).set 19 (.int .u64 stamp)) (by kernel_rfl)
            · exact only_trans (only_trans (HU4.out) (set_only _ _)) (set_only _ _)
          · have h3b : (st == 0) = false := by simpa using h3
            have hB3 : RAt (W2.setCell ⟨b, 1, none⟩ (.int .i64 (depth + 1))) b nest ⟨depth + 1, n, st, fl, false, ca⟩ := blk_eq (HB2.out.set 1 (.int .i64 (depth + 1))) (by kernel_rfl)
            have hQ3 := HQ2.out.other 1 (.int .i64 (depth + 1)) (fun e => hne e.symm)
            have l3 := ldS_run (save_rangeAtR hQ3)
            have s3 := stS_run m (save_there hB3)
            obtain ⟨W4, hW4⟩ : ∃ W4, (W2.setCell ⟨b, 1, none⟩ (.int .i64 (depth + 1))).setCells b 2 (SC m).toList = W4 := ⟨_, rfl⟩
            rw [hW4] at s3
            have hB4 : RAt W4 b nest ⟨depth + 1, m, st, fl, false, ca⟩ := by rw [← hW4]; exact save_set hB3 m
            have hU4 : Upd (OnlyAt b) w W4 := by rw [← hW4]; exact only_trans (only_trans HU2.out (set_only _ _)) (upd_setCells _ _ _)
            have HB4 := Lib.hid hB4; have HU4 := Lib.hid hU4
            have k19 : W4.cell? ⟨b, 19, none⟩ = some (.int .u64 st) := hB4.cell 19
            have k20 : W4.cell? ⟨b, 20, none⟩ = some (.bool fl) := hB4.cell 20
            have kz : ∀ i, W4.frozen? ⟨b, i, none⟩ = false := fun i => hB4.frozen i
            clear hB3 hQ3 hW4 hB4 hU4 hdz
            go_wp2
            any_goals (exfalso; have hbad := of_decide_eq_false h1b; omega)
            go_ret
            refine ⟨by rw [HE.out]; rfl, ?_, ?_⟩
            · unfold beginS; rw [HE.out]; simp only [if_true, H2.out, h3, if_false]; rw [(show (1 : Int) = depth + 1 from by have := H2.out; omega)]
              exact blk_eq (HB4.out.set 20 (.bool false)) (by kernel_rfl)
            · exact only_trans (HU4.out) (set_only _ _)
        · have h2b : decide (1 < depth + 1) = true := by simp; omega
          go_wp2
          any_goals (exfalso; have hbad := of_decide_eq_false h1b; omega)
          go_ret
          refine ⟨by rw [HE.out]; rfl, ?_, ?_⟩
          · unfold beginS; rw [HE.out]; simp only [if_true, h2, if_false]
            exact blk_eq (HB2.out.set 1 (.int .i64 (depth + 1))) (by kernel_rfl)
          · exact only_trans (HU2.out) (set_only _ _)
    · go_enter Tryz.func72, Tryz.ntmps72
      go_wp2
      go_ret
      have hE : beginE nest ⟨depth, n, st, fl, true, ca⟩ stamp = 8 := by simp [beginE, h0]
      exact ⟨by rw [hE]; rfl, by unfold beginS; rw [hE]; exact HB.out, HU.out⟩

end Go.Proofs.YtjgeflbhmhmjdaaGreat.DL
namespace Go.Proofs.YtjgeflbhmhmjdaaGreat.NC
open Go.RowKit
open BU (IsU words)
attribute [local go_sem] Oper.semAt_some
theorem toHome_eq (k : Int) : toHome k = ((decide (1 ≤ k) && decide (k ≤ 3)) || (decide (9 ≤ k) && decide (k ≤ 11))) := by
  rw [Bool.eq_iff_iff]
  simp only [toHome, Bool.or_eq_true, Bool.and_eq_true, beq_iff_eq, decide_eq_true_eq]
  omega
theorem rtoHome_any (k : Int) (w : World) : Calls Tryz.prog 157 #[.int .u8 k] w fun e w' => e = .returned (.bool (toHome k)) ∧ w = w' := by
  rw [toHome_eq]
  cases h1 : decide (1 ≤ k) <;> cases h2 : decide (k ≤ 3) <;> cases h3 : decide (9 ≤ k) <;> cases h4 : decide (k ≤ 11)
  all_goals
    go_enter Tryz.func157, Tryz.ntmps157
    go_wp2
    go_ret
    exact ⟨rfl, rfl⟩
theorem rstamped_any (k : Int) (w : World) : Calls Tryz.prog 158 #[.int .u8 k] w fun e w' => e = .returned (.bool (stamped k)) ∧ w = w' := by
  unfold stamped
  cases h1 : (k == 1)
  · cases h2 : (k == 2)
    · cases h4 : (k == 4)
      · cases h5 : (k == 5)
        · cases h7 : (k == 7)
          · go_enter Tryz.func158, Tryz.ntmps158
            go_wp2
            go_ret
            exact ⟨by simp, rfl⟩
          · go_enter Tryz.func158, Tryz.ntmps158
            go_wp2
            go_ret
            exact ⟨by simp, rfl⟩
        · go_enter Tryz.func158, Tryz.ntmps158
          go_wp2
          go_ret
          exact ⟨by simp, rfl⟩
      · go_enter Tryz.func158, Tryz.ntmps158
        go_wp2
        go_ret
        exact ⟨by simp, rfl⟩
    · go_enter Tryz.func158, Tryz.ntmps158
      go_wp2
      go_ret
      exact ⟨by simp, rfl⟩
  · go_enter Tryz.func158, Tryz.ntmps158
    go_wp2
    go_ret
    exact ⟨by simp, rfl⟩
end Go.Proofs.YtjgeflbhmhmjdaaGreat.NC
