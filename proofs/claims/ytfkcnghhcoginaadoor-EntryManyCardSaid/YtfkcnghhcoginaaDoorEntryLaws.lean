/- The walks of the statements of layer 10. -/
import Derived.Test.YtfkcnghhcoginaaDoorEntryGets
set_option linter.unusedSimpArgs false
set_option linter.unusedVariables false
namespace Go.Proofs.YtfkcnghhcoginaaDoor.ET
open Go.RowKit
open ML
attribute [local go_sem] Oper.semAt_some run_eql_entry run_neq_entry

set_option maxRecDepth 100000 in
set_option maxHeartbeats 1000000 in
theorem works_e (w : World) (hT : Tab w) : Calls Tryd.prog 15 #[] w fun e w' => e = .returned (.bool true) ∧ Upd NoF w w' := by
  have HT := Lib.hid hT; clear hT
  go_enter Tryd.func15, Tryd.ntmps15
  go_wp2_with fail
  refine (free_any _).mono ?_
  rintro e w1 ⟨rfl, hu1⟩
  go_wp2_with fail
  refine (gets_e (-1) 0#32 1 1 w1 (HT.out.upd hu1 (fun h => h))).mono ?_
  rintro e w2 ⟨rfl, hu2⟩
  rw [show getsV (-1) 0#32 1 1 = .tuple #[.agg #[.int .i64 1, .int .u32 0], .int .u8 2, .int .i64 0] from by kernel_rfl]
  have HU2 := Lib.hid (hu1.trans hu2 (fun _ _ h => h))
  clear hu1 hu2
  go_wp2_with fail
  refine (free_any _).mono ?_
  rintro e w3 ⟨rfl, hu3⟩
  have HU3 := Lib.hid ((HU2.out.trans (Upd.alloc NoF w2 _) (fun _ _ h => h)).trans hu3 (fun _ _ h => h))
  clear hu3
  go_wp2
  go_ret
  exact ⟨rfl, HU3.out⟩

theorem backV_is (o : Int) (s : Mk) (x : Int) (stick : Bool) : ∃ (p : Int) (q : Mk) (a : Bool) (f : Int), backV o s x stick = .tuple #[.agg #[.int .i64 p, VM q], .bool a, .int .i64 f] := by
  unfold backV
  split
  · split
    · split
      · exact ⟨_, _, _, _, rfl⟩
      · exact ⟨_, _, _, _, rfl⟩
    · exact ⟨_, _, _, _, rfl⟩
  · exact ⟨_, _, _, _, rfl⟩

set_option maxRecDepth 100000 in
set_option maxHeartbeats 1000000 in
theorem backs_law (o : Int) (s : Mk) (x : Int) (stick : Bool) (w : World) (hT : Tab w) : Calls Tryd.prog 4 #[VE o s, .int .i64 x, .bool stick] w fun e w' => e = .returned (.bool true) ∧ Below w.heap.size w w' := by
  have HT := Lib.hid hT; clear hT
  have ha := fun W hW => back_e o s x stick W hW
  have hb := fun W => rback_e o s x stick W
  obtain ⟨p, q, a, f, hv⟩ := backV_is o s x stick
  rw [hv] at ha hb
  have HA := Lib.hid ha; have HB := Lib.hid hb
  clear ha hb hv
  go_enter Tryd.func4, Tryd.ntmps4
  go_wp2_with fail
  obtain ⟨w0, hw0⟩ : ∃ w0, w.alloc (.cells #[.int .i64 o, VM s] 25) = w0 := ⟨_, rfl⟩
  have hu0 : Upd NoF w w0 := by rw [← hw0]; exact Upd.alloc NoF w _
  have b0 : Blk w0 w.heap.size #[.int .i64 o, VM s] 25 := by rw [← hw0]; exact Blk.new w _ _
  rw [hw0]
  clear hw0
  refine (HA.out w0 (HT.out.upd hu0 (fun h => h))).mono ?_
  rintro e w1 ⟨rfl, hu1⟩
  have HU1 := Lib.hid (hu0.trans hu1 (fun _ _ h => h))
  have q0 := b0.upd hu1 (fun h => h)
  have c0 : (w1.alloc (.cells #[.int .i64 p, VM q] 25)).cell? ⟨w.heap.size, 0, none⟩ = some (.int .i64 o) := (q0.alloc _).cell 0
  have c1 : (w1.alloc (.cells #[.int .i64 p, VM q] 25)).cell? ⟨w.heap.size, 1, none⟩ = some (VM s) := (q0.alloc _).cell 1
  clear hu0 hu1 b0
  go_wp2_with fail
  obtain ⟨w2, hw2⟩ : ∃ w2, w1.alloc (.cells #[.int .i64 p, VM q] 25) = w2 := ⟨_, rfl⟩
  have hu2 : Upd NoF w1 w2 := by rw [← hw2]; exact Upd.alloc NoF w1 _
  have b2 : Blk w2 w1.heap.size #[.int .i64 p, VM q] 25 := by rw [← hw2]; exact Blk.new w1 _ _
  rw [hw2]
  clear c0 c1 hw2
  refine (HB.out w2).mono ?_
  rintro e w3 ⟨rfl, hu3⟩
  have HU3 := Lib.hid ((HU1.out.trans hu2 (fun _ _ h => h)).trans hu3 (fun _ _ h => h))
  have q3 := b2.upd hu3 (fun h => h)
  have e0 : w3.cell? ⟨w1.heap.size, 0, none⟩ = some (.int .i64 p) := q3.cell 0
  have e1 : w3.cell? ⟨w1.heap.size, 1, none⟩ = some (VM q) := q3.cell 1
  have e0' : (w3.alloc (.cells #[.int .i64 p, VM q] 25)).cell? ⟨w1.heap.size, 0, none⟩ = some (.int .i64 p) := (q3.alloc _).cell 0
  have e1' : (w3.alloc (.cells #[.int .i64 p, VM q] 25)).cell? ⟨w1.heap.size, 1, none⟩ = some (VM q) := (q3.alloc _).cell 1
  have HT4 := Lib.hid (HT.out.upd (HU3.out.trans (Upd.alloc NoF w3 (.cells #[.int .i64 p, VM q] 25)) (fun _ _ h => h)) (fun h => h))
  clear hu2 hu3 b2 q3 q0
  go_wp2_with fail
  refine (works_e _ HT4.out).mono ?_
  rintro e w5 ⟨rfl, hu5⟩
  have HU5 := Lib.hid ((HU3.out.trans (Upd.alloc NoF w3 _) (fun _ _ h => h)).trans hu5 (fun _ _ h => h))
  clear hu5
  go_wp2
  go_ret
  exact ⟨rfl, (HU5.out.toFrom (B := w.heap.size)).belowFrom (Nat.le_refl _)⟩
theorem backs_int (o a : Int) (h : 0 ≤ a ∧ a ≤ 4294967295) (x : Int) (stick : Bool) (w : World) (hT : Tab w) : Calls Tryd.prog 4 #[.agg #[.int .i64 o, .int .u32 a], .int .i64 x, .bool stick] w fun e w' => e = .returned (.bool true) ∧ Below w.heap.size w w' := by
  obtain ⟨m, rfl⟩ := mk_of h.1 h.2
  exact backs_law o m x stick w hT
end Go.Proofs.YtfkcnghhcoginaaDoor.ET
