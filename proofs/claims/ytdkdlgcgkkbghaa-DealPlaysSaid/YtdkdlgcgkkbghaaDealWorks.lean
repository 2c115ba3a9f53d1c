/- The law package's works. -/
import Derived.Test.YtdkdlgcgkkbghaaDealAsked
import Derived.Test.YtdkdlgcgkkbghaaDealBegin
set_option linter.unusedSimpArgs false
set_option linter.unusedVariables false
namespace Go.Proofs.Ytdkdlgcgkkbghaa.DL
open Go.RowKit
open Go.Proofs.Ytdkdlgcgkkbghaa.Ord

theorem fromOnly {B b : Nat} {w w' : World} (h : Upd (OnlyAt b) w w') (hB : B ≤ b) : Upd (From B) w w' := h.mono (fun i _ h => by have : i = b := h; unfold From; omega)
theorem works_at (w w2 : World) (b : Nat) (n m stamp r : Int) (d d' : DS) (hd : 0 ≤ d.depth ∧ d.depth ≤ 8) (hr : beginE n d stamp = r) (hs : beginS n d m stamp = d') (hb : DAt w2 b n d) (hU : Upd (From w.heap.size) w w2) (hB : w.heap.size ≤ b) :
    Calls Try.prog 11 #[.pointer (some ⟨b, 0, none⟩), SV m, .int .u64 stamp] w2 fun e w' => e = .returned (.int .i64 r) ∧ DAt w' b n d' ∧ Upd (From w.heap.size) w w' :=
  (begin_any b n d m stamp hd w2 hb).mono fun e w' ⟨he, h1, h2⟩ => ⟨by rw [he, hr], hs ▸ h1, hU.from (fromOnly h2 hB)⟩

set_option maxRecDepth 100000 in
set_option maxHeartbeats 1000000 in
theorem works_any (w : World) : Calls Try.prog 8 #[] w fun e w' => e = .returned (.bool true) ∧ Upd (From w.heap.size) w w' := by
  go_enter Try.func8, Try.ntmps8
  go_wp2_with fail
  refine (new_any 2 (by decide) (by decide) w).mono ?_
  rintro e w1 ⟨rfl, hd1, hu1⟩
  have HD1 := Lib.hid hd1; have HU1 := Lib.hid (hu1.toFrom (B := w.heap.size)); clear hd1 hu1
  obtain ⟨b, hb⟩ : ∃ b, w.heap.size = b := ⟨_, rfl⟩
  have HBL : Hid (w.heap.size ≤ b) := Lib.hid (by omega)
  rw [hb] at HD1 ⊢
  clear hb
  go_wp2_with fail
  refine (save_any 1 w1).mono ?_
  rintro e w2 ⟨rfl, hu⟩
  have HU2 := Lib.hid (HU1.out.from hu.toFrom)
  have HD2 := Lib.hid (HD1.out.upd hu (fun h => h))
  clear hu
  go_wp2_with fail
  refine (works_at w w2 b 2 1 7 0 ⟨0, 0, 0, false, false, 0⟩ ⟨1, 1, 7, false, false, 0⟩ (by decide) (by kernel_rfl) (by kernel_rfl) HD2.out HU2.out HBL.out).mono ?_
  rintro e w3 ⟨rfl, hd, hu⟩
  have HU3 := Lib.hid hu; have HD3 := Lib.hid hd; clear hu hd
  go_wp2_with fail
  refine (save_any 2 w3).mono ?_
  rintro e w4 ⟨rfl, hu⟩
  have HU4 := Lib.hid (HU3.out.from hu.toFrom)
  have HD4 := Lib.hid (HD3.out.upd hu (fun h => h))
  clear hu
  go_wp2_with fail
  refine (works_at w w4 b 2 2 8 0 ⟨1, 1, 7, false, false, 0⟩ ⟨2, 1, 7, false, false, 0⟩ (by decide) (by kernel_rfl) (by kernel_rfl) HD4.out HU4.out HBL.out).mono ?_
  rintro e w5 ⟨rfl, hd, hu⟩
  have HU5 := Lib.hid hu; have HD5 := Lib.hid hd; clear hu hd
  go_wp2_with fail
  refine (save_any 2 w5).mono ?_
  rintro e w6 ⟨rfl, hu⟩
  have HU6 := Lib.hid (HU5.out.from hu.toFrom)
  have HD6 := Lib.hid (HD5.out.upd hu (fun h => h))
  clear hu
  go_wp2_with fail
  refine (works_at w w6 b 2 2 9 7 ⟨2, 1, 7, false, false, 0⟩ ⟨2, 1, 7, false, false, 0⟩ (by decide) (by kernel_rfl) (by kernel_rfl) HD6.out HU6.out HBL.out).mono ?_
  rintro e w7 ⟨rfl, hd, hu⟩
  have HU7 := Lib.hid hu; have HD7 := Lib.hid hd; clear hu hd
  go_wp2_with (first | (go_at_call 10; refine (depth_any b 2 ⟨2, 1, 7, false, false, 0⟩ w7 HD7.out).mono ?_; rintro e w' ⟨rfl, rfl⟩) | (go_at_call 16; refine (stamp_any b 2 ⟨2, 1, 7, false, false, 0⟩ w7 HD7.out).mono ?_; rintro e w' ⟨rfl, rfl⟩; rw [show stampE ⟨2, 1, 7, false, false, 0⟩ = 7 from by kernel_rfl]))
  go_ret
  exact ⟨rfl, HU7.out⟩
end Go.Proofs.Ytdkdlgcgkkbghaa.DL
