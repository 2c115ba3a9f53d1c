/- The walk of the statement EntryAsks. -/
import Derived.Test.YtfkcnghhcoginaaDoorEntryLaws
import Derived.Test.YtfkcnghhcoginaaDoorEntryRAsked
import Derived.Deep.RegionHeld3
set_option linter.unusedSimpArgs false
set_option linter.unusedVariables false
namespace Go.Proofs.YtfkcnghhcoginaaDoor.ET
open Go.RowKit
open ML
attribute [local go_sem] Oper.semAt_some run_eql_entry run_neq_entry

theorem askedV_is (o : Int) (s : Mk) (k x : Int) : ∃ (a : Mk) (b f : Int), askedV o s k x = .tuple #[VM a, .int .u8 b, .int .i64 f] := by
  unfold askedV
  split
  · exact ⟨_, _, _, rfl⟩
  · exact ⟨0#32, _, _, rfl⟩
theorem getsV_is (o : Int) (s : Mk) (k x : Int) : ∃ (p : Int) (q : Mk) (b f : Int), getsV o s k x = .tuple #[.agg #[.int .i64 p, VM q], .int .u8 b, .int .i64 f] := by
  unfold getsV
  split
  · split
    · exact ⟨_, _, _, _, rfl⟩
    · split
      · exact ⟨_, _, _, _, rfl⟩
      · exact ⟨_, _, _, _, rfl⟩
  · exact ⟨_, _, _, _, rfl⟩

set_option maxRecDepth 100000 in
set_option maxHeartbeats 1000000 in
theorem asks_law (o : Int) (s : Mk) (k x : Int) (w : World) (hT : Tab w) : Calls Tryd.prog 3 #[VE o s, .int .u8 k, .int .i64 x] w fun e w' => e = .returned (.bool true) ∧ Below w.heap.size w w' := by
  have HT := Lib.hid hT; clear hT
  have ha := fun W hW => asked_e o s k x W hW
  have hb := fun W => rasked_e o s k x W
  have hc := fun W hW => gets_e o s k x W hW
  have hd := fun W => rgets_e o s k x W
  have hm := fun W hW => may_any o s W hW
  have hn := fun W => rmay_any o s W
  obtain ⟨a, b, f, hv⟩ := askedV_is o s k x
  obtain ⟨p, q, b', f', hv'⟩ := getsV_is o s k x
  rw [hv] at ha hb
  rw [hv'] at hc hd
  generalize mayE o s = my at *
  have HA := Lib.hid ha; have HB := Lib.hid hb; have HC := Lib.hid hc; have HD := Lib.hid hd; have HM := Lib.hid hm; have HN := Lib.hid hn
  clear ha hb hc hd hm hn hv hv'
  go_enter Tryd.func3, Tryd.ntmps3
  go_wp2_with fail
  obtain ⟨w0, hw0⟩ : ∃ W, (w.alloc (.cells #[.int .i64 o, VM s] 25)) = W := ⟨_, rfl⟩
  have hu : Upd NoF w w0 := by rw [← hw0]; exact Upd.alloc NoF w _
  have HQ_e : Hid (Blk w0 w.heap.size #[.int .i64 o, VM s] 25) := by
    have hb := Blk.new w #[.int .i64 o, VM s] 25
    rw [← hw0]; exact hb
  rw [hw0]
  have HU0 := Lib.hid hu
  clear hw0 hu
  have c_e_0 : w0.cell? ⟨w.heap.size, 0, none⟩ = some (.int .i64 o) := HQ_e.out.cell 0
  have c_e_1 : w0.cell? ⟨w.heap.size, 1, none⟩ = some (VM s) := HQ_e.out.cell 1
  refine (HA.out w0 (HT.out.upd HU0.out (fun h => h))).mono ?_
  rintro e w1 ⟨rfl, hu⟩
  have HU1 := Lib.hid (HU0.out.trans hu (fun _ _ h => h))
  replace HQ_e := Lib.hid (HQ_e.out.upd hu (fun h => h))
  clear hu
  clear c_e_0 c_e_1
  have c_e_0 : w1.cell? ⟨w.heap.size, 0, none⟩ = some (.int .i64 o) := HQ_e.out.cell 0
  have c_e_1 : w1.cell? ⟨w.heap.size, 1, none⟩ = some (VM s) := HQ_e.out.cell 1
  go_wp2_with fail
  refine (HB.out w1).mono ?_
  rintro e w2 ⟨rfl, hu⟩
  have HU2 := Lib.hid (HU1.out.trans hu (fun _ _ h => h))
  replace HQ_e := Lib.hid (HQ_e.out.upd hu (fun h => h))
  clear hu
  clear c_e_0 c_e_1
  have c_e_0 : w2.cell? ⟨w.heap.size, 0, none⟩ = some (.int .i64 o) := HQ_e.out.cell 0
  have c_e_1 : w2.cell? ⟨w.heap.size, 1, none⟩ = some (VM s) := HQ_e.out.cell 1
  go_wp2_with fail
  cases my
  all_goals
    go_region_held3 (fun W => Upd NoF w W ∧ Blk W w.heap.size #[.int .i64 o, VM s] 25 ∧ W.cell? ⟨w.heap.size, 0, none⟩ = some (.int .i64 o) ∧ W.cell? ⟨w.heap.size, 1, none⟩ = some (VM s)) (first | assumption | exact ⟨HU2.out.trans (Upd.drew NoF w2) (fun _ _ h => h), HQ_e.out.upd (Upd.drew NoF w2) (fun h => h), c_e_0, c_e_1⟩) (first | (go_at_call 11; have hS : Upd NoF w _ ∧ _ := ‹_›; refine (HM.out _ (HT.out.upd hS.1 (fun h => h))).mono ?_; rintro e wm ⟨rfl, hu⟩; have hS' : (fun W => Upd NoF w W ∧ Blk W w.heap.size #[.int .i64 o, VM s] 25 ∧ W.cell? ⟨w.heap.size, 0, none⟩ = some (.int .i64 o) ∧ W.cell? ⟨w.heap.size, 1, none⟩ = some (VM s)) wm := ⟨hS.1.trans hu (fun _ _ h => h), hS.2.1.upd hu (fun h => h), (hS.2.1.upd hu (fun h => h)).cell 0, (hS.2.1.upd hu (fun h => h)).cell 1⟩; clear hu hS) | (go_at_call 12; have hS : Upd NoF w _ ∧ _ := ‹_›; refine (HN.out _).mono ?_; rintro e wm ⟨rfl, hu⟩; have hS' : (fun W => Upd NoF w W ∧ Blk W w.heap.size #[.int .i64 o, VM s] 25 ∧ W.cell? ⟨w.heap.size, 0, none⟩ = some (.int .i64 o) ∧ W.cell? ⟨w.heap.size, 1, none⟩ = some (VM s)) wm := ⟨hS.1.trans hu (fun _ _ h => h), hS.2.1.upd hu (fun h => h), (hS.2.1.upd hu (fun h => h)).cell 0, (hS.2.1.upd hu (fun h => h)).cell 1⟩; clear hu hS))
    obtain ⟨hU, hQ, c_e_0, c_e_1⟩ : Upd NoF w wm ∧ _ ∧ _ ∧ _ := ‹Upd NoF w wm ∧ _›
    have HU3 := Lib.hid hU; have HQ_e := Lib.hid hQ; clear hU hQ
    go_wp2_with fail
    refine (HC.out wm (HT.out.upd HU3.out (fun h => h))).mono ?_
    rintro e w4 ⟨rfl, hu⟩
    have HU4 := Lib.hid (HU3.out.trans hu (fun _ _ h => h))
    replace HQ_e := Lib.hid (HQ_e.out.upd hu (fun h => h))
    clear hu
    clear c_e_0 c_e_1
    have c_e_0 : w4.cell? ⟨w.heap.size, 0, none⟩ = some (.int .i64 o) := HQ_e.out.cell 0
    have c_e_1 : w4.cell? ⟨w.heap.size, 1, none⟩ = some (VM s) := HQ_e.out.cell 1
    have c_e_0_p0 : (w4.alloc (.cells #[.int .i64 p, VM q] 25)).cell? ⟨w.heap.size, 0, none⟩ = some (.int .i64 o) := (HQ_e.out.alloc _).cell 0
    have c_e_1_p0 : (w4.alloc (.cells #[.int .i64 p, VM q] 25)).cell? ⟨w.heap.size, 1, none⟩ = some (VM s) := (HQ_e.out.alloc _).cell 1
    go_wp2_with fail
    obtain ⟨w5, hw5⟩ : ∃ W, (w4.alloc (.cells #[.int .i64 p, VM q] 25)) = W := ⟨_, rfl⟩
    have hu : Upd NoF w4 w5 := by rw [← hw5]; exact Upd.alloc NoF w4 _
    replace HQ_e := Lib.hid (HQ_e.out.upd hu (fun h => h))
    have HQ_p : Hid (Blk w5 w4.heap.size #[.int .i64 p, VM q] 25) := by
      have hb := Blk.new w4 #[.int .i64 p, VM q] 25
      rw [← hw5]; exact hb
    rw [hw5]
    have HU5 := Lib.hid (HU4.out.trans hu (fun _ _ h => h))
    clear hw5 hu
    clear c_e_0 c_e_1 c_e_0_p0 c_e_1_p0
    have c_e_0 : w5.cell? ⟨w.heap.size, 0, none⟩ = some (.int .i64 o) := HQ_e.out.cell 0
    have c_e_1 : w5.cell? ⟨w.heap.size, 1, none⟩ = some (VM s) := HQ_e.out.cell 1
    have c_p_0 : w5.cell? ⟨w4.heap.size, 0, none⟩ = some (.int .i64 p) := HQ_p.out.cell 0
    have c_p_1 : w5.cell? ⟨w4.heap.size, 1, none⟩ = some (VM q) := HQ_p.out.cell 1
    refine (HD.out w5).mono ?_
    rintro e w6 ⟨rfl, hu⟩
    have HU6 := Lib.hid (HU5.out.trans hu (fun _ _ h => h))
    replace HQ_e := Lib.hid (HQ_e.out.upd hu (fun h => h))
    replace HQ_p := Lib.hid (HQ_p.out.upd hu (fun h => h))
    clear hu
    clear c_e_0 c_e_1 c_p_0 c_p_1
    have c_e_0 : w6.cell? ⟨w.heap.size, 0, none⟩ = some (.int .i64 o) := HQ_e.out.cell 0
    have c_e_1 : w6.cell? ⟨w.heap.size, 1, none⟩ = some (VM s) := HQ_e.out.cell 1
    have c_p_0 : w6.cell? ⟨w4.heap.size, 0, none⟩ = some (.int .i64 p) := HQ_p.out.cell 0
    have c_p_1 : w6.cell? ⟨w4.heap.size, 1, none⟩ = some (VM q) := HQ_p.out.cell 1
    have c_e_0_p0 : (w6.alloc (.cells #[.int .i64 p, VM q] 25)).cell? ⟨w.heap.size, 0, none⟩ = some (.int .i64 o) := (HQ_e.out.alloc _).cell 0
    have c_e_1_p0 : (w6.alloc (.cells #[.int .i64 p, VM q] 25)).cell? ⟨w.heap.size, 1, none⟩ = some (VM s) := (HQ_e.out.alloc _).cell 1
    have c_p_0_p0 : (w6.alloc (.cells #[.int .i64 p, VM q] 25)).cell? ⟨w4.heap.size, 0, none⟩ = some (.int .i64 p) := (HQ_p.out.alloc _).cell 0
    have c_p_1_p0 : (w6.alloc (.cells #[.int .i64 p, VM q] 25)).cell? ⟨w4.heap.size, 1, none⟩ = some (VM q) := (HQ_p.out.alloc _).cell 1
    go_wp2_with fail
    obtain ⟨w7, hw7⟩ : ∃ W, (w6.alloc (.cells #[.int .i64 p, VM q] 25)) = W := ⟨_, rfl⟩
    have hu : Upd NoF w6 w7 := by rw [← hw7]; exact Upd.alloc NoF w6 _
    replace HQ_e := Lib.hid (HQ_e.out.upd hu (fun h => h))
    replace HQ_p := Lib.hid (HQ_p.out.upd hu (fun h => h))
    have HQ_q : Hid (Blk w7 w6.heap.size #[.int .i64 p, VM q] 25) := by
      have hb := Blk.new w6 #[.int .i64 p, VM q] 25
      rw [← hw7]; exact hb
    rw [hw7]
    have HU7 := Lib.hid (HU6.out.trans hu (fun _ _ h => h))
    clear hw7 hu
    clear c_e_0 c_e_1 c_p_0 c_p_1 c_e_0_p0 c_e_1_p0 c_p_0_p0 c_p_1_p0
    have c_e_0 : w7.cell? ⟨w.heap.size, 0, none⟩ = some (.int .i64 o) := HQ_e.out.cell 0
    have c_e_1 : w7.cell? ⟨w.heap.size, 1, none⟩ = some (VM s) := HQ_e.out.cell 1
    have c_p_0 : w7.cell? ⟨w4.heap.size, 0, none⟩ = some (.int .i64 p) := HQ_p.out.cell 0
    have c_p_1 : w7.cell? ⟨w4.heap.size, 1, none⟩ = some (VM q) := HQ_p.out.cell 1
    refine (works_e w7 (HT.out.upd HU7.out (fun h => h))).mono ?_
    rintro e w8 ⟨rfl, hu⟩
    have HU8 := Lib.hid (HU7.out.trans hu (fun _ _ h => h))
    replace HQ_e := Lib.hid (HQ_e.out.upd hu (fun h => h))
    replace HQ_p := Lib.hid (HQ_p.out.upd hu (fun h => h))
    replace HQ_q := Lib.hid (HQ_q.out.upd hu (fun h => h))
    clear hu
    clear c_e_0 c_e_1 c_p_0 c_p_1
    have c_e_0 : w8.cell? ⟨w.heap.size, 0, none⟩ = some (.int .i64 o) := HQ_e.out.cell 0
    have c_e_1 : w8.cell? ⟨w.heap.size, 1, none⟩ = some (VM s) := HQ_e.out.cell 1
    have c_p_0 : w8.cell? ⟨w4.heap.size, 0, none⟩ = some (.int .i64 p) := HQ_p.out.cell 0
    have c_p_1 : w8.cell? ⟨w4.heap.size, 1, none⟩ = some (VM q) := HQ_p.out.cell 1
    go_wp2
    go_ret
    exact ⟨rfl, (HU8.out.toFrom (B := w.heap.size)).belowFrom (Nat.le_refl _)⟩
theorem asks_int (o a : Int) (h : 0 ≤ a ∧ a ≤ 4294967295) (k x : Int) (w : World) (hT : Tab w) : Calls Tryd.prog 3 #[.agg #[.int .i64 o, .int .u32 a], .int .u8 k, .int .i64 x] w fun e w' => e = .returned (.bool true) ∧ Below w.heap.size w w' := by
  obtain ⟨m, rfl⟩ := mk_of h.1 h.2
  exact asks_law o m k x w hT
end Go.Proofs.YtfkcnghhcoginaaDoor.ET
