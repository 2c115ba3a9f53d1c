/- The contracts of the reference: Stamp, End, Fail, Asked, Refused. -/
import Derived.Test.YtdkdlgcgkkbghaaDealWorks
set_option linter.unusedSimpArgs false
set_option linter.unusedVariables false
namespace Go.Proofs.Ytdkdlgcgkkbghaa.DL
open Go.RowKit
open Go.Proofs.Ytdkdlgcgkkbghaa.Ord

attribute [local go_sem ↓] ldS_eq stS_eq
set_option maxRecDepth 100000 in
set_option maxHeartbeats 1000000 in
theorem rstamp_any (b : Nat) (nest : Int) (d : DS) (w : World) (hb : RAt w b nest d) :
    Calls Try.prog 28 #[.pointer (some ⟨b, 0, none⟩)] w fun e w' => e = .returned (.int .u64 (stampE d)) ∧ w = w' := by
  obtain ⟨depth, n, st, fl, fa, ca⟩ := d
  have c1 : w.cell? ⟨b, 1, none⟩ = some (.int .i64 depth) := hb.cell 1
  have c19 : w.cell? ⟨b, 19, none⟩ = some (.int .u64 st) := hb.cell 19
  have fz : ∀ i, w.frozen? ⟨b, i, none⟩ = false := fun i => hb.frozen i
  clear hb fz
  by_cases h0 : depth = 0
  · subst h0
    go_enter Try.func28, Try.ntmps28
    go_wp2
    go_ret
    exact ⟨by simp [stampE], rfl⟩
  · have h0b : (depth == 0) = false := by simpa using h0
    go_enter Try.func28, Try.ntmps28
    go_wp2
    go_ret
    exact ⟨by simp [stampE, h0], rfl⟩

set_option maxRecDepth 100000 in
set_option maxHeartbeats 1000000 in
theorem rend_any (b : Nat) (nest : Int) (d : DS) (hd : 0 ≤ d.depth ∧ d.depth ≤ 8) (w : World) (hb : RAt w b nest d) :
    Calls Try.prog 23 #[.pointer (some ⟨b, 0, none⟩)] w fun e w' => e = .returned (.tuple #[.bool (endB d), .int .i64 (openE d)]) ∧ RAt w' b nest (endS d) ∧ Upd (OnlyAt b) w w' := by
  obtain ⟨hd0, hd8⟩ := hd
  have HB := Lib.hid hb
  obtain ⟨depth, n, st, fl, fa, ca⟩ := d
  replace hd0 : 0 ≤ depth := hd0
  replace hd8 : depth ≤ 8 := hd8
  have c0 : w.cell? ⟨b, 0, none⟩ = some (.int .i64 nest) := hb.cell 0
  have c1 : w.cell? ⟨b, 1, none⟩ = some (.int .i64 depth) := hb.cell 1
  have c18 : w.cell? ⟨b, 18, none⟩ = some (.int .i64 n) := hb.cell 18
  have c19 : w.cell? ⟨b, 19, none⟩ = some (.int .u64 st) := hb.cell 19
  have c20 : w.cell? ⟨b, 20, none⟩ = some (.bool fl) := hb.cell 20
  have c21 : w.cell? ⟨b, 21, none⟩ = some (.bool fa) := hb.cell 21
  have c22 : w.cell? ⟨b, 22, none⟩ = some (.int .u32 ca) := hb.cell 22
  have fz : ∀ i, w.frozen? ⟨b, i, none⟩ = false := fun i => hb.frozen i
  clear hb
  by_cases h0 : depth = 0
  · subst h0
    have HE := Lib.hid (show openE ⟨0, n, st, fl, fa, ca⟩ = 8 from by simp [openE])
    go_enter Try.func23, Try.ntmps23
    go_wp2
    go_ret2
    exact ⟨by rw [HE.out]; simp [endB, openE], by unfold endS; rw [HE.out]; exact HB.out, Upd.refl _ w⟩
  · have h0b : (depth == 0) = false := by simpa using h0
    cases fa
    · have HE := Lib.hid (show openE ⟨depth, n, st, fl, false, ca⟩ = 0 from by simp [openE, h0])
      by_cases h1 : depth = 1
      · subst h1
        go_enter Try.func23, Try.ntmps23
        go_wp2
        go_ret2
        refine ⟨by rw [HE.out]; simp [endB, openE], ?_, ?_⟩
        · unfold endS; rw [HE.out]; simp only [if_true]
          exact blk_eq (((HB.out.set 1 (.int .i64 0)).set 19 (.int .u64 0)).set 20 (.bool false)) (by kernel_rfl)
        · exact only_trans (only_trans (only_trans (Upd.refl _ w) (set_only _ _)) (set_only _ _)) (set_only _ _)
      · have h1b : (depth - 1 == 0) = false := by simp; omega
        go_enter Try.func23, Try.ntmps23
        go_wp2
        go_ret2
        refine ⟨by rw [HE.out]; simp [endB, openE, h1], ?_, ?_⟩
        · unfold endS; rw [HE.out]; simp only [if_true, h1, if_false]
          exact blk_eq (HB.out.set 1 (.int .i64 (depth - 1))) (by kernel_rfl)
        · exact only_trans (Upd.refl _ w) (set_only _ _)
    · have HE := Lib.hid (show openE ⟨depth, n, st, fl, true, ca⟩ = 8 from by simp [openE])
      go_enter Try.func23, Try.ntmps23
      go_wp2
      go_ret2
      exact ⟨by rw [HE.out]; simp [endB, openE], by unfold endS; rw [HE.out]; exact HB.out, Upd.refl _ w⟩

set_option maxRecDepth 100000 in
set_option maxHeartbeats 1000000 in
theorem rfail_any (b : Nat) (nest : Int) (d : DS) (c : Int) (hd : 0 ≤ d.depth ∧ d.depth ≤ 8) (w : World) (hb : RAt w b nest d) :
    Calls Try.prog 24 #[.pointer (some ⟨b, 0, none⟩), .int .u32 c] w fun e w' => e = .returned (.int .i64 (openE d)) ∧ RAt w' b nest (failS d c) ∧ Upd (OnlyAt b) w w' := by
  obtain ⟨hd0, hd8⟩ := hd
  have HB := Lib.hid hb
  obtain ⟨depth, n, st, fl, fa, ca⟩ := d
  replace hd0 : 0 ≤ depth := hd0
  replace hd8 : depth ≤ 8 := hd8
  have c0 : w.cell? ⟨b, 0, none⟩ = some (.int .i64 nest) := hb.cell 0
  have c1 : w.cell? ⟨b, 1, none⟩ = some (.int .i64 depth) := hb.cell 1
  have c18 : w.cell? ⟨b, 18, none⟩ = some (.int .i64 n) := hb.cell 18
  have c19 : w.cell? ⟨b, 19, none⟩ = some (.int .u64 st) := hb.cell 19
  have c20 : w.cell? ⟨b, 20, none⟩ = some (.bool fl) := hb.cell 20
  have c21 : w.cell? ⟨b, 21, none⟩ = some (.bool fa) := hb.cell 21
  have c22 : w.cell? ⟨b, 22, none⟩ = some (.int .u32 ca) := hb.cell 22
  have fz : ∀ i, w.frozen? ⟨b, i, none⟩ = false := fun i => hb.frozen i
  clear hb
  by_cases h0 : depth = 0
  · subst h0
    have HE := Lib.hid (show openE ⟨0, n, st, fl, fa, ca⟩ = 8 from by simp [openE])
    go_enter Try.func24, Try.ntmps24
    go_wp2
    go_ret
    exact ⟨by rw [HE.out]; rfl, by unfold failS; rw [HE.out]; exact HB.out, Upd.refl _ w⟩
  · have h0b : (depth == 0) = false := by simpa using h0
    cases fa
    · have HE := Lib.hid (show openE ⟨depth, n, st, fl, false, ca⟩ = 0 from by simp [openE, h0])
      go_enter Try.func24, Try.ntmps24
      go_wp2
      go_ret
      refine ⟨by rw [HE.out]; rfl, ?_, ?_⟩
      · unfold failS; rw [HE.out]; simp only [if_true]
        exact blk_eq ((HB.out.set 21 (.bool true)).set 22 (.int .u32 c)) (by kernel_rfl)
      · exact only_trans (only_trans (Upd.refl _ w) (set_only _ _)) (set_only _ _)
    · have HE := Lib.hid (show openE ⟨depth, n, st, fl, true, ca⟩ = 8 from by simp [openE])
      go_enter Try.func24, Try.ntmps24
      go_wp2
      go_ret
      exact ⟨by rw [HE.out]; rfl, by unfold failS; rw [HE.out]; exact HB.out, Upd.refl _ w⟩

set_option maxRecDepth 100000 in
set_option maxHeartbeats 1000000 in
theorem rasked_any (b : Nat) (nest : Int) (d : DS) (meets : Bool) (stamp : Int) (hse : 0 ≤ stampE d) (hst : 0 ≤ stamp) (w : World) (hb : RAt w b nest d) :
    Calls Try.prog 26 #[.pointer (some ⟨b, 0, none⟩), .bool meets, .int .u64 stamp] w fun e w' => e = .returned (.bool (askedB d meets)) ∧ RAt w' b nest (askedS d meets stamp) ∧ Upd (OnlyAt b) w w' := by
  have hS := fun W (h : RAt W b nest d) => rstamp_any b nest d W h
  have hA := fun W => refAsked_any (stampE d) d.fl meets stamp hse hst W
  have hR : askedB d meets = (stampE d != 0 && meets) := rfl
  have hN : askedS d meets stamp = ⟨d.depth, d.n, d.st, d.fl || stampE d != 0 && meets && older stamp (stampE d), d.fa, d.ca⟩ := rfl
  rw [hR, hN]
  clear hR hN hse hst
  generalize (d.fl || stampE d != 0 && meets && older stamp (stampE d)) = nb at *
  generalize (stampE d != 0 && meets) = rb at *
  generalize stampE d = own at *
  obtain ⟨depth, n, st, fl, fa, ca⟩ := d
  have HS := Lib.hid hS; have HA := Lib.hid hA; have HB := Lib.hid hb
  clear hS hA
  have c20 : w.cell? ⟨b, 20, none⟩ = some (.bool fl) := hb.cell 20
  have fz : ∀ i, w.frozen? ⟨b, i, none⟩ = false := fun i => hb.frozen i
  clear hb
  go_enter Try.func26, Try.ntmps26
  go_wp2_with fail
  go_quiet (first | (go_at_call 28; exact Calls.quiet_of_same ((HS.out _ (by first | exact HB.out | exact HB.out.upd (Upd.drew NoF w) (fun h => h) | exact HB.out.upd (Upd.drewN NoF w _) (fun h => h))).mono (fun _ _ h => ⟨h.1, h.2.symm⟩))) | (go_at_call 32; exact Calls.quiet_of_same ((HA.out _).mono (fun _ _ h => ⟨h.1, h.2.symm⟩))))
  rename_i nq
  obtain ⟨W2, hW2⟩ : ∃ W2, w.drewN nq = W2 := ⟨_, rfl⟩
  have HU2 : Hid (Upd (OnlyAt b) w W2) := Lib.hid (by rw [← hW2]; exact Upd.drewN _ w nq)
  have HB2 : Hid (RAt W2 b nest ⟨depth, n, st, fl, fa, ca⟩) := Lib.hid (by rw [← hW2]; exact HB.out.upd (Upd.drewN NoF w nq) (fun h => h))
  rw [hW2]
  clear hW2 c20 fz
  have c20 : W2.cell? ⟨b, 20, none⟩ = some (.bool fl) := HB2.out.cell 20
  have fz : ∀ i, W2.frozen? ⟨b, i, none⟩ = false := fun i => HB2.out.frozen i
  go_wp2
  go_ret
  exact ⟨rfl, blk_eq (HB2.out.set 20 (.bool nb)) (by kernel_rfl), only_trans HU2.out (set_only _ _)⟩

end Go.Proofs.Ytdkdlgcgkkbghaa.DL
