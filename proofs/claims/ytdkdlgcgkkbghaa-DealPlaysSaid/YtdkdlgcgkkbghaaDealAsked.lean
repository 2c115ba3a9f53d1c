/- The contracts of Asked and Refused; what there is without a transaction. -/
import Derived.Test.YtdkdlgcgkkbghaaDealOver
set_option linter.unusedSimpArgs false
set_option linter.unusedVariables false
namespace Go.Proofs.Ytdkdlgcgkkbghaa.DL
open Go.RowKit
open Go.Proofs.Ytdkdlgcgkkbghaa.Ord

set_option maxRecDepth 100000 in
set_option maxHeartbeats 1000000 in
theorem dasked_any (b : Nat) (nest : Int) (d : DS) (meets : Bool) (stamp : Int) (w : World) (hb : DAt w b nest d) :
    Calls Try.prog 18 #[.pointer (some ⟨b, 0, none⟩), .bool meets, .int .u64 stamp] w fun e w' => e = .returned (.bool (askedB d meets)) ∧ DAt w' b nest (askedS d meets stamp) ∧ Upd (OnlyAt b) w w' := by
  have hS := fun W (h : DAt W b nest d) => stamp_any b nest d W h
  have hA := fun W => asked_any (stampE d) d.fl meets stamp W
  have hR : askedB d meets = (stampE d != 0 && meets) := rfl
  have hN : askedS d meets stamp = ⟨d.depth, d.n, d.st, d.fl || stampE d != 0 && meets && older stamp (stampE d), d.fa, d.ca⟩ := rfl
  rw [hR, hN]
  clear hR hN
  generalize (d.fl || stampE d != 0 && meets && older stamp (stampE d)) = nb at *
  generalize (stampE d != 0 && meets) = rb at *
  generalize stampE d = own at *
  obtain ⟨depth, n, st, fl, fa, ca⟩ := d
  have HS := Lib.hid hS; have HA := Lib.hid hA; have HB := Lib.hid hb
  clear hS hA
  have c20 : w.cell? ⟨b, 20, none⟩ = some (.bool fl) := hb.cell 20
  have fz : ∀ i, w.frozen? ⟨b, i, none⟩ = false := fun i => hb.frozen i
  clear hb
  go_enter Try.func18, Try.ntmps18
  go_wp2_with fail
  go_quiet (first | (go_at_call 16; exact Calls.quiet_of_same ((HS.out _ (by first | exact HB.out | exact HB.out.upd (Upd.drew NoF w) (fun h => h) | exact HB.out.upd (Upd.drewN NoF w _) (fun h => h))).mono (fun _ _ h => ⟨h.1, h.2.symm⟩))) | (go_at_call 30; exact Calls.quiet_of_same ((HA.out _).mono (fun _ _ h => ⟨h.1, h.2.symm⟩))))
  rename_i nq
  obtain ⟨W2, hW2⟩ : ∃ W2, w.drewN nq = W2 := ⟨_, rfl⟩
  have HU2 : Hid (Upd (OnlyAt b) w W2) := Lib.hid (by rw [← hW2]; exact Upd.drewN _ w nq)
  have HB2 : Hid (DAt W2 b nest ⟨depth, n, st, fl, fa, ca⟩) := Lib.hid (by rw [← hW2]; exact HB.out.upd (Upd.drewN NoF w nq) (fun h => h))
  rw [hW2]
  clear hW2 c20 fz
  have c20 : W2.cell? ⟨b, 20, none⟩ = some (.bool fl) := HB2.out.cell 20
  have fz : ∀ i, W2.frozen? ⟨b, i, none⟩ = false := fun i => HB2.out.frozen i
  go_wp2
  go_ret
  exact ⟨rfl, blk_eq (HB2.out.set 20 (.bool nb)) (by kernel_rfl), only_trans HU2.out (set_only _ _)⟩

set_option maxRecDepth 100000 in
set_option maxHeartbeats 1000000 in
theorem refused_any (b : Nat) (nest : Int) (d : DS) (stamp : Int) (w : World) (hb : DAt w b nest d) :
    Calls Try.prog 19 #[.pointer (some ⟨b, 0, none⟩), .int .u64 stamp] w fun e w' => e = .returned (.bool (refusedB d stamp)) ∧ Upd NoF w w' := by
  have hO := fun W (h : DAt W b nest d) => open_any b nest d W h
  have hG := fun W => gives_any d.st d.fl stamp W
  have hR : refusedB d stamp = (decide (openE d = 0) && (d.fl && older stamp d.st)) := rfl
  rw [hR]
  clear hR
  generalize (d.fl && older stamp d.st) = gb at *
  have ho : openE d = 0 ∨ openE d = 8 := by unfold openE; split <;> simp
  generalize openE d = oe at *
  obtain ⟨depth, n, st, fl, fa, ca⟩ := d
  have HO := Lib.hid hO; have HG := Lib.hid hG; have HB := Lib.hid hb
  clear hO hG
  have c19 : w.cell? ⟨b, 19, none⟩ = some (.int .u64 st) := hb.cell 19
  have c20 : w.cell? ⟨b, 20, none⟩ = some (.bool fl) := hb.cell 20
  have fz : ∀ i, w.frozen? ⟨b, i, none⟩ = false := fun i => hb.frozen i
  clear hb
  rcases ho with rfl | rfl
  all_goals
    go_enter Try.func19, Try.ntmps19
    go_wp2_with fail
    go_quiet (first | (go_at_call 29; exact Calls.quiet_of_same ((HO.out _ (by first | exact HB.out | exact HB.out.upd (Upd.drew NoF w) (fun h => h) | exact HB.out.upd (Upd.drewN NoF w _) (fun h => h))).mono (fun _ _ h => ⟨h.1, h.2.symm⟩))) | (go_at_call 31; exact Calls.quiet_of_same ((HG.out _).mono (fun _ _ h => ⟨h.1, h.2.symm⟩))))
    go_wp2
    go_ret
    exact ⟨by simp, Upd.drewN _ _ _⟩

end Go.Proofs.Ytdkdlgcgkkbghaa.DL
