/- Room of package backs: it draws, and leaves all else alone. -/
import Derived.Test.YtoddipfgkbaeaaaBacksWorks
set_option linter.unusedSimpArgs false
set_option linter.unusedVariables false
namespace Go.Proofs.Ytoddipfgkbaeaaa.PB
open Go.RowKit
attribute [local go_sem] Oper.semAt_some
theorem room_q (w : World) (F : Nat → Prop) (b : Nat) (zs : List (Array Value)) (room : Int) (h : (Po (ptr b) zs room).is w F) (h0 : 0 ≤ room) (h1 : room ≤ 65536) (h2 : zs.length ≤ room) :
    Calls Try.prog 31 #[ptr b] w fun e w' => e = .returned (.int .i64 (room - zs.length)) ∧ ∃ m, w' = w.drewN m := by
  obtain ⟨a, cap, hat, c0, c1, f0, hblt, hn, hm, hnil, hr⟩ := reads h
  clear h hat f0 hr
  generalize zs.length = n at *
  have hw : IntKind.i64.wrap (room - (n : Int)) = room - (n : Int) := IntWalk.i64_in _ (by omega)
  go_enter Try.func31, Try.ntmps31
  go_wp2
  go_quiet (fail)
  go_wp2
  go_ret
  exact ⟨rfl, _, rfl⟩
end Go.Proofs.Ytoddipfgkbaeaaa.PB
namespace Go.Proofs.Ytoddipfgkbaeaaa.BK
open Go.RowKit
attribute [local go_sem] Oper.semAt_some
theorem room_q (w : World) (F : Nat → Prop) (kb : Nat) (data : Int) (zs : List Bk) (room : Int) (h : (Bo kb data zs room).is w F) (h0 : 0 ≤ room) (h1 : room ≤ 65536) (h2 : zs.length ≤ room) :
    Calls Try.prog 11 #[ptr kb] w fun e w' => e = .returned (.int .i64 (room - zs.length)) ∧ ∃ m, w' = w.drewN m := by
  obtain ⟨l, F2, hN, hb, _, _, _, hp⟩ := open_bo h
  have c1 : w.cell? ⟨kb, 1, none⟩ = some (ptr l) := hb.cell 1
  have HL := PB.room_q w F2 l (zs.map Bk.cells) room hp h0 h1 (by rw [List.length_map]; exact h2)
  rw [List.length_map] at HL
  have HL' := Lib.hid HL
  clear hp hb h hN HL
  go_enter Try.func11, Try.ntmps11
  go_wp2_with fail
  refine HL'.out.mono ?_
  rintro e w' ⟨rfl, m, rfl⟩
  go_wp2
  go_ret
  exact ⟨rfl, _, rfl⟩
end Go.Proofs.Ytoddipfgkbaeaaa.BK
