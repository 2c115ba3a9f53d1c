/- The walk of the statement EntryKnown. -/
import Derived.Test.YtfkcnghhcoginaaDoorEntryOneW
set_option linter.unusedSimpArgs false
set_option linter.unusedVariables false
namespace Go.Proofs.YtfkcnghhcoginaaDoor.ET
open Go.RowKit
open ML
attribute [local go_sem] Oper.semAt_some run_eql_entry run_neq_entry

set_option maxRecDepth 100000 in
set_option maxHeartbeats 4000000 in
theorem known_law (w : World) (hT : Tab w) : Calls Tryd.prog 7 #[] w fun e w' => e = .returned (.bool true) ∧ Below w.heap.size w w' := by
  have HT := Lib.hid hT; clear hT
  have h1 : ∀ W, Tab W → Calls Tryd.prog 9 #[.agg #[.int .i64 2, .int .u32 0], .int .u8 1, .int .i64 1] W fun e w' => e = .returned (.tuple #[.int .u32 4, .int .u8 4, .int .i64 0]) ∧ Upd NoF W w' := fun W hW => by
    have h := asked_e 2 0#32 1 1 W hW
    rwa [show askedV 2 0#32 1 1 = .tuple #[.int .u32 4, .int .u8 4, .int .i64 0] from by kernel_rfl] at h
  have h2 : ∀ W, Tab W → Calls Tryd.prog 9 #[.agg #[.int .i64 (-1), .int .u32 11], .int .u8 2, .int .i64 1] W fun e w' => e = .returned (.tuple #[.int .u32 9, .int .u8 5, .int .i64 0]) ∧ Upd NoF W w' := fun W hW => by
    have h := asked_e (-1) 11#32 2 1 W hW
    rwa [show askedV (-1) 11#32 2 1 = .tuple #[.int .u32 9, .int .u8 5, .int .i64 0] from by kernel_rfl] at h
  have h3 : ∀ W, Tab W → Calls Tryd.prog 9 #[.agg #[.int .i64 (-1), .int .u32 3], .int .u8 1, .int .i64 2] W fun e w' => e = .returned (.tuple #[.int .u32 0, .int .u8 4, .int .i64 0]) ∧ Upd NoF W w' := fun W hW => by
    have h := asked_e (-1) 3#32 1 2 W hW
    rwa [show askedV (-1) 3#32 1 2 = .tuple #[.int .u32 0, .int .u8 4, .int .i64 0] from by kernel_rfl] at h
  have h4 : ∀ W, Tab W → Calls Tryd.prog 13 #[.agg #[.int .i64 2, .int .u32 0], .int .u8 1, .int .i64 1] W fun e w' => e = .returned (.tuple #[.agg #[.int .i64 (-1), .int .u32 6], .int .u8 1, .int .i64 0]) ∧ Upd NoF W w' := fun W hW => by
    have h := gets_e 2 0#32 1 1 W hW
    rwa [show getsV 2 0#32 1 1 = .tuple #[.agg #[.int .i64 (-1), .int .u32 6], .int .u8 1, .int .i64 0] from by kernel_rfl] at h
  have h5 : ∀ W, Tab W → Calls Tryd.prog 13 #[.agg #[.int .i64 (-1), .int .u32 3], .int .u8 2, .int .i64 1] W fun e w' => e = .returned (.tuple #[.agg #[.int .i64 1, .int .u32 0], .int .u8 3, .int .i64 0]) ∧ Upd NoF W w' := fun W hW => by
    have h := gets_e (-1) 3#32 2 1 W hW
    rwa [show getsV (-1) 3#32 2 1 = .tuple #[.agg #[.int .i64 1, .int .u32 0], .int .u8 3, .int .i64 0] from by kernel_rfl] at h
  have h6 : ∀ W, Tab W → Calls Tryd.prog 16 #[.agg #[.int .i64 2, .int .u32 0], .int .i64 2, .bool false] W fun e w' => e = .returned (.tuple #[.agg #[.int .i64 (-1), .int .u32 0], .bool true, .int .i64 0]) ∧ Upd NoF W w' := fun W hW => by
    have h := back_e 2 0#32 2 false W hW
    rwa [show backV 2 0#32 2 false = .tuple #[.agg #[.int .i64 (-1), .int .u32 0], .bool true, .int .i64 0] from by kernel_rfl] at h
  have h7 : ∀ W, Tab W → Calls Tryd.prog 16 #[.agg #[.int .i64 2, .int .u32 0], .int .i64 2, .bool true] W fun e w' => e = .returned (.tuple #[.agg #[.int .i64 2, .int .u32 0], .bool true, .int .i64 0]) ∧ Upd NoF W w' := fun W hW => by
    have h := back_e 2 0#32 2 true W hW
    rwa [show backV 2 0#32 2 true = .tuple #[.agg #[.int .i64 2, .int .u32 0], .bool true, .int .i64 0] from by kernel_rfl] at h
  have h8 : ∀ W, Tab W → Calls Tryd.prog 16 #[.agg #[.int .i64 2, .int .u32 0], .int .i64 1, .bool false] W fun e w' => e = .returned (.tuple #[.agg #[.int .i64 2, .int .u32 0], .bool false, .int .i64 0]) ∧ Upd NoF W w' := fun W hW => by
    have h := back_e 2 0#32 1 false W hW
    rwa [show backV 2 0#32 1 false = .tuple #[.agg #[.int .i64 2, .int .u32 0], .bool false, .int .i64 0] from by kernel_rfl] at h
  have H1 := Lib.hid h1; have H2 := Lib.hid h2; have H3 := Lib.hid h3; have H4 := Lib.hid h4; have H5 := Lib.hid h5; have H6 := Lib.hid h6; have H7 := Lib.hid h7; have H8 := Lib.hid h8
  clear h1 h2 h3 h4 h5 h6 h7 h8
  go_enter Tryd.func7, Tryd.ntmps7
  go_wp2_with fail
  obtain ⟨w0, hw0⟩ : ∃ W, (w.alloc (.cells #[.int .i64 2, .int .u32 0] 25)) = W := ⟨_, rfl⟩
  have hu : Upd NoF w w0 := by rw [← hw0]; exact Upd.alloc NoF w _
  have HQ_two : Hid (Blk w0 w.heap.size #[.int .i64 2, .int .u32 0] 25) := by
    have hb := Blk.new w #[.int .i64 2, .int .u32 0] 25
    rw [← hw0]; exact hb
  rw [hw0]
  have HU0 := Lib.hid hu
  clear hw0 hu
  have c_two_0 : w0.cell? ⟨w.heap.size, 0, none⟩ = some (.int .i64 2) := HQ_two.out.cell 0
  have c_two_1 : w0.cell? ⟨w.heap.size, 1, none⟩ = some (.int .u32 0) := HQ_two.out.cell 1
  refine (H1.out w0 (HT.out.upd HU0.out (fun h => h))).mono ?_
  rintro e w1 ⟨rfl, hu⟩
  have HU1 := Lib.hid (HU0.out.trans hu (fun _ _ h => h))
  replace HQ_two := Lib.hid (HQ_two.out.upd hu (fun h => h))
  clear hu
  clear c_two_0 c_two_1
  have c_two_0 : w1.cell? ⟨w.heap.size, 0, none⟩ = some (.int .i64 2) := HQ_two.out.cell 0
  have c_two_1 : w1.cell? ⟨w.heap.size, 1, none⟩ = some (.int .u32 0) := HQ_two.out.cell 1
  go_wp2_with fail
  refine (H2.out w1 (HT.out.upd HU1.out (fun h => h))).mono ?_
  rintro e w2 ⟨rfl, hu⟩
  have HU2 := Lib.hid (HU1.out.trans hu (fun _ _ h => h))
  replace HQ_two := Lib.hid (HQ_two.out.upd hu (fun h => h))
  clear hu
  clear c_two_0 c_two_1
  have c_two_0 : w2.cell? ⟨w.heap.size, 0, none⟩ = some (.int .i64 2) := HQ_two.out.cell 0
  have c_two_1 : w2.cell? ⟨w.heap.size, 1, none⟩ = some (.int .u32 0) := HQ_two.out.cell 1
  go_wp2_with fail
  refine (H3.out w2 (HT.out.upd HU2.out (fun h => h))).mono ?_
  rintro e w3 ⟨rfl, hu⟩
  have HU3 := Lib.hid (HU2.out.trans hu (fun _ _ h => h))
  replace HQ_two := Lib.hid (HQ_two.out.upd hu (fun h => h))
  clear hu
  clear c_two_0 c_two_1
  have c_two_0 : w3.cell? ⟨w.heap.size, 0, none⟩ = some (.int .i64 2) := HQ_two.out.cell 0
  have c_two_1 : w3.cell? ⟨w.heap.size, 1, none⟩ = some (.int .u32 0) := HQ_two.out.cell 1
  go_wp2_with fail
  refine (works_e w3 (HT.out.upd HU3.out (fun h => h))).mono ?_
  rintro e w4 ⟨rfl, hu⟩
  have HU4 := Lib.hid (HU3.out.trans hu (fun _ _ h => h))
  replace HQ_two := Lib.hid (HQ_two.out.upd hu (fun h => h))
  clear hu
  clear c_two_0 c_two_1
  have c_two_0 : w4.cell? ⟨w.heap.size, 0, none⟩ = some (.int .i64 2) := HQ_two.out.cell 0
  have c_two_1 : w4.cell? ⟨w.heap.size, 1, none⟩ = some (.int .u32 0) := HQ_two.out.cell 1
  go_wp2_with fail
  refine (H4.out w4 (HT.out.upd HU4.out (fun h => h))).mono ?_
  rintro e w5 ⟨rfl, hu⟩
  have HU5 := Lib.hid (HU4.out.trans hu (fun _ _ h => h))
  replace HQ_two := Lib.hid (HQ_two.out.upd hu (fun h => h))
  clear hu
  clear c_two_0 c_two_1
  have c_two_0 : w5.cell? ⟨w.heap.size, 0, none⟩ = some (.int .i64 2) := HQ_two.out.cell 0
  have c_two_1 : w5.cell? ⟨w.heap.size, 1, none⟩ = some (.int .u32 0) := HQ_two.out.cell 1
  have c_two_0_p0 : (w5.alloc (.cells #[.int .i64 (-1), .int .u32 6] 25)).cell? ⟨w.heap.size, 0, none⟩ = some (.int .i64 2) := (HQ_two.out.alloc _).cell 0
  have c_two_1_p0 : (w5.alloc (.cells #[.int .i64 (-1), .int .u32 6] 25)).cell? ⟨w.heap.size, 1, none⟩ = some (.int .u32 0) := (HQ_two.out.alloc _).cell 1
  go_wp2_with fail
  obtain ⟨w6, hw6⟩ : ∃ W, (w5.alloc (.cells #[.int .i64 (-1), .int .u32 6] 25)) = W := ⟨_, rfl⟩
  have hu : Upd NoF w5 w6 := by rw [← hw6]; exact Upd.alloc NoF w5 _
  replace HQ_two := Lib.hid (HQ_two.out.upd hu (fun h => h))
  have HQ_x : Hid (Blk w6 w5.heap.size #[.int .i64 (-1), .int .u32 6] 25) := by
    have hb := Blk.new w5 #[.int .i64 (-1), .int .u32 6] 25
    rw [← hw6]; exact hb
  rw [hw6]
  have HU6 := Lib.hid (HU5.out.trans hu (fun _ _ h => h))
  clear hw6 hu
  clear c_two_0 c_two_1 c_two_0_p0 c_two_1_p0
  have c_two_0 : w6.cell? ⟨w.heap.size, 0, none⟩ = some (.int .i64 2) := HQ_two.out.cell 0
  have c_two_1 : w6.cell? ⟨w.heap.size, 1, none⟩ = some (.int .u32 0) := HQ_two.out.cell 1
  have c_x_0 : w6.cell? ⟨w5.heap.size, 0, none⟩ = some (.int .i64 (-1)) := HQ_x.out.cell 0
  have c_x_1 : w6.cell? ⟨w5.heap.size, 1, none⟩ = some (.int .u32 6) := HQ_x.out.cell 1
  refine (H5.out w6 (HT.out.upd HU6.out (fun h => h))).mono ?_
  rintro e w7 ⟨rfl, hu⟩
  have HU7 := Lib.hid (HU6.out.trans hu (fun _ _ h => h))
  replace HQ_two := Lib.hid (HQ_two.out.upd hu (fun h => h))
  replace HQ_x := Lib.hid (HQ_x.out.upd hu (fun h => h))
  clear hu
  clear c_two_0 c_two_1 c_x_0 c_x_1
  have c_two_0 : w7.cell? ⟨w.heap.size, 0, none⟩ = some (.int .i64 2) := HQ_two.out.cell 0
  have c_two_1 : w7.cell? ⟨w.heap.size, 1, none⟩ = some (.int .u32 0) := HQ_two.out.cell 1
  have c_x_0 : w7.cell? ⟨w5.heap.size, 0, none⟩ = some (.int .i64 (-1)) := HQ_x.out.cell 0
  have c_x_1 : w7.cell? ⟨w5.heap.size, 1, none⟩ = some (.int .u32 6) := HQ_x.out.cell 1
  have c_two_0_p0 : (w7.alloc (.cells #[.int .i64 1, .int .u32 0] 25)).cell? ⟨w.heap.size, 0, none⟩ = some (.int .i64 2) := (HQ_two.out.alloc _).cell 0
  have c_two_1_p0 : (w7.alloc (.cells #[.int .i64 1, .int .u32 0] 25)).cell? ⟨w.heap.size, 1, none⟩ = some (.int .u32 0) := (HQ_two.out.alloc _).cell 1
  have c_x_0_p0 : (w7.alloc (.cells #[.int .i64 1, .int .u32 0] 25)).cell? ⟨w5.heap.size, 0, none⟩ = some (.int .i64 (-1)) := (HQ_x.out.alloc _).cell 0
  have c_x_1_p0 : (w7.alloc (.cells #[.int .i64 1, .int .u32 0] 25)).cell? ⟨w5.heap.size, 1, none⟩ = some (.int .u32 6) := (HQ_x.out.alloc _).cell 1
  go_wp2_with fail
  obtain ⟨w8, hw8⟩ : ∃ W, (w7.alloc (.cells #[.int .i64 1, .int .u32 0] 25)) = W := ⟨_, rfl⟩
  have hu : Upd NoF w7 w8 := by rw [← hw8]; exact Upd.alloc NoF w7 _
  replace HQ_two := Lib.hid (HQ_two.out.upd hu (fun h => h))
  replace HQ_x := Lib.hid (HQ_x.out.upd hu (fun h => h))
  have HQ_y : Hid (Blk w8 w7.heap.size #[.int .i64 1, .int .u32 0] 25) := by
    have hb := Blk.new w7 #[.int .i64 1, .int .u32 0] 25
    rw [← hw8]; exact hb
  rw [hw8]
  have HU8 := Lib.hid (HU7.out.trans hu (fun _ _ h => h))
  clear hw8 hu
  clear c_two_0 c_two_1 c_x_0 c_x_1 c_two_0_p0 c_two_1_p0 c_x_0_p0 c_x_1_p0
  have c_two_0 : w8.cell? ⟨w.heap.size, 0, none⟩ = some (.int .i64 2) := HQ_two.out.cell 0
  have c_two_1 : w8.cell? ⟨w.heap.size, 1, none⟩ = some (.int .u32 0) := HQ_two.out.cell 1
  have c_x_0 : w8.cell? ⟨w5.heap.size, 0, none⟩ = some (.int .i64 (-1)) := HQ_x.out.cell 0
  have c_x_1 : w8.cell? ⟨w5.heap.size, 1, none⟩ = some (.int .u32 6) := HQ_x.out.cell 1
  have c_y_0 : w8.cell? ⟨w7.heap.size, 0, none⟩ = some (.int .i64 1) := HQ_y.out.cell 0
  have c_y_1 : w8.cell? ⟨w7.heap.size, 1, none⟩ = some (.int .u32 0) := HQ_y.out.cell 1
  refine (H6.out w8 (HT.out.upd HU8.out (fun h => h))).mono ?_
  rintro e w9 ⟨rfl, hu⟩
  have HU9 := Lib.hid (HU8.out.trans hu (fun _ _ h => h))
  replace HQ_two := Lib.hid (HQ_two.out.upd hu (fun h => h))
  replace HQ_x := Lib.hid (HQ_x.out.upd hu (fun h => h))
  replace HQ_y := Lib.hid (HQ_y.out.upd hu (fun h => h))
  clear hu
  clear c_two_0 c_two_1 c_x_0 c_x_1 c_y_0 c_y_1
  have c_two_0 : w9.cell? ⟨w.heap.size, 0, none⟩ = some (.int .i64 2) := HQ_two.out.cell 0
  have c_two_1 : w9.cell? ⟨w.heap.size, 1, none⟩ = some (.int .u32 0) := HQ_two.out.cell 1
  have c_x_0 : w9.cell? ⟨w5.heap.size, 0, none⟩ = some (.int .i64 (-1)) := HQ_x.out.cell 0
  have c_x_1 : w9.cell? ⟨w5.heap.size, 1, none⟩ = some (.int .u32 6) := HQ_x.out.cell 1
  have c_y_0 : w9.cell? ⟨w7.heap.size, 0, none⟩ = some (.int .i64 1) := HQ_y.out.cell 0
  have c_y_1 : w9.cell? ⟨w7.heap.size, 1, none⟩ = some (.int .u32 0) := HQ_y.out.cell 1
  have c_two_0_p0 : (w9.alloc (.cells #[.int .i64 (-1), .int .u32 0] 25)).cell? ⟨w.heap.size, 0, none⟩ = some (.int .i64 2) := (HQ_two.out.alloc _).cell 0
  have c_two_1_p0 : (w9.alloc (.cells #[.int .i64 (-1), .int .u32 0] 25)).cell? ⟨w.heap.size, 1, none⟩ = some (.int .u32 0) := (HQ_two.out.alloc _).cell 1
  have c_x_0_p0 : (w9.alloc (.cells #[.int .i64 (-1), .int .u32 0] 25)).cell? ⟨w5.heap.size, 0, none⟩ = some (.int .i64 (-1)) := (HQ_x.out.alloc _).cell 0
  have c_x_1_p0 : (w9.alloc (.cells #[.int .i64 (-1), .int .u32 0] 25)).cell? ⟨w5.heap.size, 1, none⟩ = some (.int .u32 6) := (HQ_x.out.alloc _).cell 1
  have c_y_0_p0 : (w9.alloc (.cells #[.int .i64 (-1), .int .u32 0] 25)).cell? ⟨w7.heap.size, 0, none⟩ = some (.int .i64 1) := (HQ_y.out.alloc _).cell 0
  have c_y_1_p0 : (w9.alloc (.cells #[.int .i64 (-1), .int .u32 0] 25)).cell? ⟨w7.heap.size, 1, none⟩ = some (.int .u32 0) := (HQ_y.out.alloc _).cell 1
  go_wp2_with fail
  obtain ⟨w10, hw10⟩ : ∃ W, (w9.alloc (.cells #[.int .i64 (-1), .int .u32 0] 25)) = W := ⟨_, rfl⟩
  have hu : Upd NoF w9 w10 := by rw [← hw10]; exact Upd.alloc NoF w9 _
  replace HQ_two := Lib.hid (HQ_two.out.upd hu (fun h => h))
  replace HQ_x := Lib.hid (HQ_x.out.upd hu (fun h => h))
  replace HQ_y := Lib.hid (HQ_y.out.upd hu (fun h => h))
  have HQ_p : Hid (Blk w10 w9.heap.size #[.int .i64 (-1), .int .u32 0] 25) := by
    have hb := Blk.new w9 #[.int .i64 (-1), .int .u32 0] 25
    rw [← hw10]; exact hb
  rw [hw10]
  have HU10 := Lib.hid (HU9.out.trans hu (fun _ _ h => h))
  clear hw10 hu
  clear c_two_0 c_two_1 c_x_0 c_x_1 c_y_0 c_y_1 c_two_0_p0 c_two_1_p0 c_x_0_p0 c_x_1_p0 c_y_0_p0 c_y_1_p0
  have c_two_0 : w10.cell? ⟨w.heap.size, 0, none⟩ = some (.int .i64 2) := HQ_two.out.cell 0
  have c_two_1 : w10.cell? ⟨w.heap.size, 1, none⟩ = some (.int .u32 0) := HQ_two.out.cell 1
  have c_x_0 : w10.cell? ⟨w5.heap.size, 0, none⟩ = some (.int .i64 (-1)) := HQ_x.out.cell 0
  have c_x_1 : w10.cell? ⟨w5.heap.size, 1, none⟩ = some (.int .u32 6) := HQ_x.out.cell 1
  have c_y_0 : w10.cell? ⟨w7.heap.size, 0, none⟩ = some (.int .i64 1) := HQ_y.out.cell 0
  have c_y_1 : w10.cell? ⟨w7.heap.size, 1, none⟩ = some (.int .u32 0) := HQ_y.out.cell 1
  have c_p_0 : w10.cell? ⟨w9.heap.size, 0, none⟩ = some (.int .i64 (-1)) := HQ_p.out.cell 0
  have c_p_1 : w10.cell? ⟨w9.heap.size, 1, none⟩ = some (.int .u32 0) := HQ_p.out.cell 1
  refine (H7.out w10 (HT.out.upd HU10.out (fun h => h))).mono ?_
  rintro e w11 ⟨rfl, hu⟩
  have HU11 := Lib.hid (HU10.out.trans hu (fun _ _ h => h))
  replace HQ_two := Lib.hid (HQ_two.out.upd hu (fun h => h))
  replace HQ_x := Lib.hid (HQ_x.out.upd hu (fun h => h))
  replace HQ_y := Lib.hid (HQ_y.out.upd hu (fun h => h))
  replace HQ_p := Lib.hid (HQ_p.out.upd hu (fun h => h))
  clear hu
  clear c_two_0 c_two_1 c_x_0 c_x_1 c_y_0 c_y_1 c_p_0 c_p_1
  have c_two_0 : w11.cell? ⟨w.heap.size, 0, none⟩ = some (.int .i64 2) := HQ_two.out.cell 0
  have c_two_1 : w11.cell? ⟨w.heap.size, 1, none⟩ = some (.int .u32 0) := HQ_two.out.cell 1
  have c_x_0 : w11.cell? ⟨w5.heap.size, 0, none⟩ = some (.int .i64 (-1)) := HQ_x.out.cell 0
  have c_x_1 : w11.cell? ⟨w5.heap.size, 1, none⟩ = some (.int .u32 6) := HQ_x.out.cell 1
  have c_y_0 : w11.cell? ⟨w7.heap.size, 0, none⟩ = some (.int .i64 1) := HQ_y.out.cell 0
  have c_y_1 : w11.cell? ⟨w7.heap.size, 1, none⟩ = some (.int .u32 0) := HQ_y.out.cell 1
  have c_p_0 : w11.cell? ⟨w9.heap.size, 0, none⟩ = some (.int .i64 (-1)) := HQ_p.out.cell 0
  have c_p_1 : w11.cell? ⟨w9.heap.size, 1, none⟩ = some (.int .u32 0) := HQ_p.out.cell 1
  have c_two_0_p0 : (w11.alloc (.cells #[.int .i64 2, .int .u32 0] 25)).cell? ⟨w.heap.size, 0, none⟩ = some (.int .i64 2) := (HQ_two.out.alloc _).cell 0
  have c_two_1_p0 : (w11.alloc (.cells #[.int .i64 2, .int .u32 0] 25)).cell? ⟨w.heap.size, 1, none⟩ = some (.int .u32 0) := (HQ_two.out.alloc _).cell 1
  have c_x_0_p0 : (w11.alloc (.cells #[.int .i64 2, .int .u32 0] 25)).cell? ⟨w5.heap.size, 0, none⟩ = some (.int .i64 (-1)) := (HQ_x.out.alloc _).cell 0
  have c_x_1_p0 : (w11.alloc (.cells #[.int .i64 2, .int .u32 0] 25)).cell? ⟨w5.heap.size, 1, none⟩ = some (.int .u32 6) := (HQ_x.out.alloc _).cell 1
  have c_y_0_p0 : (w11.alloc (.cells #[.int .i64 2, .int .u32 0] 25)).cell? ⟨w7.heap.size, 0, none⟩ = some (.int .i64 1) := (HQ_y.out.alloc _).cell 0
  have c_y_1_p0 : (w11.alloc (.cells #[.int .i64 2, .int .u32 0] 25)).cell? ⟨w7.heap.size, 1, none⟩ = some (.int .u32 0) := (HQ_y.out.alloc _).cell 1
  have c_p_0_p0 : (w11.alloc (.cells #[.int .i64 2, .int .u32 0] 25)).cell? ⟨w9.heap.size, 0, none⟩ = some (.int .i64 (-1)) := (HQ_p.out.alloc _).cell 0
  have c_p_1_p0 : (w11.alloc (.cells #[.int .i64 2, .int .u32 0] 25)).cell? ⟨w9.heap.size, 1, none⟩ = some (.int .u32 0) := (HQ_p.out.alloc _).cell 1
  go_wp2_with fail
  obtain ⟨w12, hw12⟩ : ∃ W, (w11.alloc (.cells #[.int .i64 2, .int .u32 0] 25)) = W := ⟨_, rfl⟩
  have hu : Upd NoF w11 w12 := by rw [← hw12]; exact Upd.alloc NoF w11 _
  replace HQ_two := Lib.hid (HQ_two.out.upd hu (fun h => h))
  replace HQ_x := Lib.hid (HQ_x.out.upd hu (fun h => h))
  replace HQ_y := Lib.hid (HQ_y.out.upd hu (fun h => h))
  replace HQ_p := Lib.hid (HQ_p.out.upd hu (fun h => h))
  have HQ_q : Hid (Blk w12 w11.heap.size #[.int .i64 2, .int .u32 0] 25) := by
    have hb := Blk.new w11 #[.int .i64 2, .int .u32 0] 25
    rw [← hw12]; exact hb
  rw [hw12]
  have HU12 := Lib.hid (HU11.out.trans hu (fun _ _ h => h))
  clear hw12 hu
  clear c_two_0 c_two_1 c_x_0 c_x_1 c_y_0 c_y_1 c_p_0 c_p_1 c_two_0_p0 c_two_1_p0 c_x_0_p0 c_x_1_p0 c_y_0_p0 c_y_1_p0 c_p_0_p0 c_p_1_p0
  have c_two_0 : w12.cell? ⟨w.heap.size, 0, none⟩ = some (.int .i64 2) := HQ_two.out.cell 0
  have c_two_1 : w12.cell? ⟨w.heap.size, 1, none⟩ = some (.int .u32 0) := HQ_two.out.cell 1
  have c_x_0 : w12.cell? ⟨w5.heap.size, 0, none⟩ = some (.int .i64 (-1)) := HQ_x.out.cell 0
  have c_x_1 : w12.cell? ⟨w5.heap.size, 1, none⟩ = some (.int .u32 6) := HQ_x.out.cell 1
  have c_y_0 : w12.cell? ⟨w7.heap.size, 0, none⟩ = some (.int .i64 1) := HQ_y.out.cell 0
  have c_y_1 : w12.cell? ⟨w7.heap.size, 1, none⟩ = some (.int .u32 0) := HQ_y.out.cell 1
  have c_p_0 : w12.cell? ⟨w9.heap.size, 0, none⟩ = some (.int .i64 (-1)) := HQ_p.out.cell 0
  have c_p_1 : w12.cell? ⟨w9.heap.size, 1, none⟩ = some (.int .u32 0) := HQ_p.out.cell 1
  have c_q_0 : w12.cell? ⟨w11.heap.size, 0, none⟩ = some (.int .i64 2) := HQ_q.out.cell 0
  have c_q_1 : w12.cell? ⟨w11.heap.size, 1, none⟩ = some (.int .u32 0) := HQ_q.out.cell 1
  refine (H8.out w12 (HT.out.upd HU12.out (fun h => h))).mono ?_
  rintro e w13 ⟨rfl, hu⟩
  have HU13 := Lib.hid (HU12.out.trans hu (fun _ _ h => h))
  replace HQ_two := Lib.hid (HQ_two.out.upd hu (fun h => h))
  replace HQ_x := Lib.hid (HQ_x.out.upd hu (fun h => h))
  replace HQ_y := Lib.hid (HQ_y.out.upd hu (fun h => h))
  replace HQ_p := Lib.hid (HQ_p.out.upd hu (fun h => h))
  replace HQ_q := Lib.hid (HQ_q.out.upd hu (fun h => h))
  clear hu
  clear c_two_0 c_two_1 c_x_0 c_x_1 c_y_0 c_y_1 c_p_0 c_p_1 c_q_0 c_q_1
  have c_two_0 : w13.cell? ⟨w.heap.size, 0, none⟩ = some (.int .i64 2) := HQ_two.out.cell 0
  have c_two_1 : w13.cell? ⟨w.heap.size, 1, none⟩ = some (.int .u32 0) := HQ_two.out.cell 1
  have c_x_0 : w13.cell? ⟨w5.heap.size, 0, none⟩ = some (.int .i64 (-1)) := HQ_x.out.cell 0
  have c_x_1 : w13.cell? ⟨w5.heap.size, 1, none⟩ = some (.int .u32 6) := HQ_x.out.cell 1
  have c_y_0 : w13.cell? ⟨w7.heap.size, 0, none⟩ = some (.int .i64 1) := HQ_y.out.cell 0
  have c_y_1 : w13.cell? ⟨w7.heap.size, 1, none⟩ = some (.int .u32 0) := HQ_y.out.cell 1
  have c_p_0 : w13.cell? ⟨w9.heap.size, 0, none⟩ = some (.int .i64 (-1)) := HQ_p.out.cell 0
  have c_p_1 : w13.cell? ⟨w9.heap.size, 1, none⟩ = some (.int .u32 0) := HQ_p.out.cell 1
  have c_q_0 : w13.cell? ⟨w11.heap.size, 0, none⟩ = some (.int .i64 2) := HQ_q.out.cell 0
  have c_q_1 : w13.cell? ⟨w11.heap.size, 1, none⟩ = some (.int .u32 0) := HQ_q.out.cell 1
  have c_two_0_p0 : (w13.alloc (.cells #[.int .i64 2, .int .u32 0] 25)).cell? ⟨w.heap.size, 0, none⟩ = some (.int .i64 2) := (HQ_two.out.alloc _).cell 0
  have c_two_1_p0 : (w13.alloc (.cells #[.int .i64 2, .int .u32 0] 25)).cell? ⟨w.heap.size, 1, none⟩ = some (.int .u32 0) := (HQ_two.out.alloc _).cell 1
  have c_x_0_p0 : (w13.alloc (.cells #[.int .i64 2, .int .u32 0] 25)).cell? ⟨w5.heap.size, 0, none⟩ = some (.int .i64 (-1)) := (HQ_x.out.alloc _).cell 0
  have c_x_1_p0 : (w13.alloc (.cells #[.int .i64 2, .int .u32 0] 25)).cell? ⟨w5.heap.size, 1, none⟩ = some (.int .u32 6) := (HQ_x.out.alloc _).cell 1
  have c_y_0_p0 : (w13.alloc (.cells #[.int .i64 2, .int .u32 0] 25)).cell? ⟨w7.heap.size, 0, none⟩ = some (.int .i64 1) := (HQ_y.out.alloc _).cell 0
  have c_y_1_p0 : (w13.alloc (.cells #[.int .i64 2, .int .u32 0] 25)).cell? ⟨w7.heap.size, 1, none⟩ = some (.int .u32 0) := (HQ_y.out.alloc _).cell 1
  have c_p_0_p0 : (w13.alloc (.cells #[.int .i64 2, .int .u32 0] 25)).cell? ⟨w9.heap.size, 0, none⟩ = some (.int .i64 (-1)) := (HQ_p.out.alloc _).cell 0
  have c_p_1_p0 : (w13.alloc (.cells #[.int .i64 2, .int .u32 0] 25)).cell? ⟨w9.heap.size, 1, none⟩ = some (.int .u32 0) := (HQ_p.out.alloc _).cell 1
  have c_q_0_p0 : (w13.alloc (.cells #[.int .i64 2, .int .u32 0] 25)).cell? ⟨w11.heap.size, 0, none⟩ = some (.int .i64 2) := (HQ_q.out.alloc _).cell 0
  have c_q_1_p0 : (w13.alloc (.cells #[.int .i64 2, .int .u32 0] 25)).cell? ⟨w11.heap.size, 1, none⟩ = some (.int .u32 0) := (HQ_q.out.alloc _).cell 1
  go_wp2_with fail
  obtain ⟨w14, hw14⟩ : ∃ W, (w13.alloc (.cells #[.int .i64 2, .int .u32 0] 25)) = W := ⟨_, rfl⟩
  have hu : Upd NoF w13 w14 := by rw [← hw14]; exact Upd.alloc NoF w13 _
  replace HQ_two := Lib.hid (HQ_two.out.upd hu (fun h => h))
  replace HQ_x := Lib.hid (HQ_x.out.upd hu (fun h => h))
  replace HQ_y := Lib.hid (HQ_y.out.upd hu (fun h => h))
  replace HQ_p := Lib.hid (HQ_p.out.upd hu (fun h => h))
  replace HQ_q := Lib.hid (HQ_q.out.upd hu (fun h => h))
  have HQ_r : Hid (Blk w14 w13.heap.size #[.int .i64 2, .int .u32 0] 25) := by
    have hb := Blk.new w13 #[.int .i64 2, .int .u32 0] 25
    rw [← hw14]; exact hb
  rw [hw14]
  have HU14 := Lib.hid (HU13.out.trans hu (fun _ _ h => h))
  clear hw14 hu
  clear c_two_0 c_two_1 c_x_0 c_x_1 c_y_0 c_y_1 c_p_0 c_p_1 c_q_0 c_q_1 c_two_0_p0 c_two_1_p0 c_x_0_p0 c_x_1_p0 c_y_0_p0 c_y_1_p0 c_p_0_p0 c_p_1_p0 c_q_0_p0 c_q_1_p0
  have c_two_0 : w14.cell? ⟨w.heap.size, 0, none⟩ = some (.int .i64 2) := HQ_two.out.cell 0
  have c_two_1 : w14.cell? ⟨w.heap.size, 1, none⟩ = some (.int .u32 0) := HQ_two.out.cell 1
  have c_x_0 : w14.cell? ⟨w5.heap.size, 0, none⟩ = some (.int .i64 (-1)) := HQ_x.out.cell 0
  have c_x_1 : w14.cell? ⟨w5.heap.size, 1, none⟩ = some (.int .u32 6) := HQ_x.out.cell 1
  have c_y_0 : w14.cell? ⟨w7.heap.size, 0, none⟩ = some (.int .i64 1) := HQ_y.out.cell 0
  have c_y_1 : w14.cell? ⟨w7.heap.size, 1, none⟩ = some (.int .u32 0) := HQ_y.out.cell 1
  have c_p_0 : w14.cell? ⟨w9.heap.size, 0, none⟩ = some (.int .i64 (-1)) := HQ_p.out.cell 0
  have c_p_1 : w14.cell? ⟨w9.heap.size, 1, none⟩ = some (.int .u32 0) := HQ_p.out.cell 1
  have c_q_0 : w14.cell? ⟨w11.heap.size, 0, none⟩ = some (.int .i64 2) := HQ_q.out.cell 0
  have c_q_1 : w14.cell? ⟨w11.heap.size, 1, none⟩ = some (.int .u32 0) := HQ_q.out.cell 1
  have c_r_0 : w14.cell? ⟨w13.heap.size, 0, none⟩ = some (.int .i64 2) := HQ_r.out.cell 0
  have c_r_1 : w14.cell? ⟨w13.heap.size, 1, none⟩ = some (.int .u32 0) := HQ_r.out.cell 1
  go_region_held3 (fun W => Upd NoF w W ∧ Blk W w.heap.size #[.int .i64 2, .int .u32 0] 25 ∧ Blk W w5.heap.size #[.int .i64 (-1), .int .u32 6] 25 ∧ Blk W w7.heap.size #[.int .i64 1, .int .u32 0] 25 ∧ Blk W w9.heap.size #[.int .i64 (-1), .int .u32 0] 25 ∧ Blk W w11.heap.size #[.int .i64 2, .int .u32 0] 25 ∧ Blk W w13.heap.size #[.int .i64 2, .int .u32 0] 25 ∧ W.cell? ⟨w.heap.size, 0, none⟩ = some (.int .i64 2) ∧ W.cell? ⟨w.heap.size, 1, none⟩ = some (.int .u32 0) ∧ W.cell? ⟨w5.heap.size, 0, none⟩ = some (.int .i64 (-1)) ∧ W.cell? ⟨w5.heap.size, 1, none⟩ = some (.int .u32 6) ∧ W.cell? ⟨w7.heap.size, 0, none⟩ = some (.int .i64 1) ∧ W.cell? ⟨w7.heap.size, 1, none⟩ = some (.int .u32 0) ∧ W.cell? ⟨w9.heap.size, 0, none⟩ = some (.int .i64 (-1)) ∧ W.cell? ⟨w9.heap.size, 1, none⟩ = some (.int .u32 0) ∧ W.cell? ⟨w11.heap.size, 0, none⟩ = some (.int .i64 2) ∧ W.cell? ⟨w11.heap.size, 1, none⟩ = some (.int .u32 0) ∧ W.cell? ⟨w13.heap.size, 0, none⟩ = some (.int .i64 2) ∧ W.cell? ⟨w13.heap.size, 1, none⟩ = some (.int .u32 0)) (first | assumption | exact ⟨HU14.out.trans (Upd.drew NoF w14) (fun _ _ h => h), HQ_two.out.upd (Upd.drew NoF w14) (fun h => h), HQ_x.out.upd (Upd.drew NoF w14) (fun h => h), HQ_y.out.upd (Upd.drew NoF w14) (fun h => h), HQ_p.out.upd (Upd.drew NoF w14) (fun h => h), HQ_q.out.upd (Upd.drew NoF w14) (fun h => h), HQ_r.out.upd (Upd.drew NoF w14) (fun h => h), c_two_0, c_two_1, c_x_0, c_x_1, c_y_0, c_y_1, c_p_0, c_p_1, c_q_0, c_q_1, c_r_0, c_r_1⟩) (first | (go_at_call 18; have hS : Upd NoF w _ ∧ _ := ‹_›; refine (free_any _).mono ?_; rintro e wm1 ⟨rfl, hu⟩; have hS' : (fun W => Upd NoF w W ∧ Blk W w.heap.size #[.int .i64 2, .int .u32 0] 25 ∧ Blk W w5.heap.size #[.int .i64 (-1), .int .u32 6] 25 ∧ Blk W w7.heap.size #[.int .i64 1, .int .u32 0] 25 ∧ Blk W w9.heap.size #[.int .i64 (-1), .int .u32 0] 25 ∧ Blk W w11.heap.size #[.int .i64 2, .int .u32 0] 25 ∧ Blk W w13.heap.size #[.int .i64 2, .int .u32 0] 25 ∧ W.cell? ⟨w.heap.size, 0, none⟩ = some (.int .i64 2) ∧ W.cell? ⟨w.heap.size, 1, none⟩ = some (.int .u32 0) ∧ W.cell? ⟨w5.heap.size, 0, none⟩ = some (.int .i64 (-1)) ∧ W.cell? ⟨w5.heap.size, 1, none⟩ = some (.int .u32 6) ∧ W.cell? ⟨w7.heap.size, 0, none⟩ = some (.int .i64 1) ∧ W.cell? ⟨w7.heap.size, 1, none⟩ = some (.int .u32 0) ∧ W.cell? ⟨w9.heap.size, 0, none⟩ = some (.int .i64 (-1)) ∧ W.cell? ⟨w9.heap.size, 1, none⟩ = some (.int .u32 0) ∧ W.cell? ⟨w11.heap.size, 0, none⟩ = some (.int .i64 2) ∧ W.cell? ⟨w11.heap.size, 1, none⟩ = some (.int .u32 0) ∧ W.cell? ⟨w13.heap.size, 0, none⟩ = some (.int .i64 2) ∧ W.cell? ⟨w13.heap.size, 1, none⟩ = some (.int .u32 0)) wm1 := ⟨hS.1.trans hu (fun _ _ h => h), hS.2.1.upd hu (fun h => h), hS.2.2.1.upd hu (fun h => h), hS.2.2.2.1.upd hu (fun h => h), hS.2.2.2.2.1.upd hu (fun h => h), hS.2.2.2.2.2.1.upd hu (fun h => h), hS.2.2.2.2.2.2.1.upd hu (fun h => h), (hS.2.1.upd hu (fun h => h)).cell 0, (hS.2.1.upd hu (fun h => h)).cell 1, (hS.2.2.1.upd hu (fun h => h)).cell 0, (hS.2.2.1.upd hu (fun h => h)).cell 1, (hS.2.2.2.1.upd hu (fun h => h)).cell 0, (hS.2.2.2.1.upd hu (fun h => h)).cell 1, (hS.2.2.2.2.1.upd hu (fun h => h)).cell 0, (hS.2.2.2.2.1.upd hu (fun h => h)).cell 1, (hS.2.2.2.2.2.1.upd hu (fun h => h)).cell 0, (hS.2.2.2.2.2.1.upd hu (fun h => h)).cell 1, (hS.2.2.2.2.2.2.1.upd hu (fun h => h)).cell 0, (hS.2.2.2.2.2.2.1.upd hu (fun h => h)).cell 1⟩; clear hu hS))
  obtain ⟨hU, hq_two, hq_x, hq_y, hq_p, hq_q, hq_r, hc_two_0, hc_two_1, hc_x_0, hc_x_1, hc_y_0, hc_y_1, hc_p_0, hc_p_1, hc_q_0, hc_q_1, hc_r_0, hc_r_1⟩ : Upd NoF w wm1 ∧ _ := ‹Upd NoF w wm1 ∧ _›
  have HU15 := Lib.hid hU
  replace HQ_two := Lib.hid hq_two
  replace HQ_x := Lib.hid hq_x
  replace HQ_y := Lib.hid hq_y
  replace HQ_p := Lib.hid hq_p
  replace HQ_q := Lib.hid hq_q
  replace HQ_r := Lib.hid hq_r
  clear hU hq_two hq_x hq_y hq_p hq_q hq_r hc_two_0 hc_two_1 hc_x_0 hc_x_1 hc_y_0 hc_y_1 hc_p_0 hc_p_1 hc_q_0 hc_q_1 hc_r_0 hc_r_1
  clear c_two_0 c_two_1 c_x_0 c_x_1 c_y_0 c_y_1 c_p_0 c_p_1 c_q_0 c_q_1 c_r_0 c_r_1
  have c_two_0 : wm1.cell? ⟨w.heap.size, 0, none⟩ = some (.int .i64 2) := HQ_two.out.cell 0
  have c_two_1 : wm1.cell? ⟨w.heap.size, 1, none⟩ = some (.int .u32 0) := HQ_two.out.cell 1
  have c_x_0 : wm1.cell? ⟨w5.heap.size, 0, none⟩ = some (.int .i64 (-1)) := HQ_x.out.cell 0
  have c_x_1 : wm1.cell? ⟨w5.heap.size, 1, none⟩ = some (.int .u32 6) := HQ_x.out.cell 1
  have c_y_0 : wm1.cell? ⟨w7.heap.size, 0, none⟩ = some (.int .i64 1) := HQ_y.out.cell 0
  have c_y_1 : wm1.cell? ⟨w7.heap.size, 1, none⟩ = some (.int .u32 0) := HQ_y.out.cell 1
  have c_p_0 : wm1.cell? ⟨w9.heap.size, 0, none⟩ = some (.int .i64 (-1)) := HQ_p.out.cell 0
  have c_p_1 : wm1.cell? ⟨w9.heap.size, 1, none⟩ = some (.int .u32 0) := HQ_p.out.cell 1
  have c_q_0 : wm1.cell? ⟨w11.heap.size, 0, none⟩ = some (.int .i64 2) := HQ_q.out.cell 0
  have c_q_1 : wm1.cell? ⟨w11.heap.size, 1, none⟩ = some (.int .u32 0) := HQ_q.out.cell 1
  have c_r_0 : wm1.cell? ⟨w13.heap.size, 0, none⟩ = some (.int .i64 2) := HQ_r.out.cell 0
  have c_r_1 : wm1.cell? ⟨w13.heap.size, 1, none⟩ = some (.int .u32 0) := HQ_r.out.cell 1
  go_wp2
  go_ret
  exact ⟨rfl, (HU15.out.toFrom (B := w.heap.size)).belowFrom (Nat.le_refl _)⟩
end Go.Proofs.YtfkcnghhcoginaaDoor.ET
