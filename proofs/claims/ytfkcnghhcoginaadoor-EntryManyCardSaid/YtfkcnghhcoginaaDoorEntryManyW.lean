/- The walk of the statement EntryMany. -/
import Derived.Test.YtfkcnghhcoginaaDoorEntryOneW
import Derived.Test.YtfkcnghhcoginaaDoorRowF
set_option linter.unusedSimpArgs false
set_option linter.unusedVariables false
namespace Go.Proofs.YtfkcnghhcoginaaDoor.ET
open Go.RowKit
open ML
attribute [local go_sem] Oper.semAt_some run_eql_entry run_neq_entry

theorem gets_many (o : Int) (s : Mk) (k x : Int) : (∃ (p : Int) (q : Mk) (st : Int), getsV o s k x = .tuple #[.agg #[.int .i64 p, VM q], .int .u8 st, .int .i64 0] ∧ mayE p q = true) ∨ getsV o s k x = .tuple #[.agg #[.int .i64 0, .int .u32 0], .int .u8 0, .int .i64 2] := by
  cases ha : askE o s k x
  · exact .inr (by unfold getsV; rw [ha]; rfl)
  · obtain ⟨p, q, st, hg, _, hm, _⟩ := one_facts ha
    exact .inl ⟨p, q, st, hg, hm⟩
theorem back_many {o : Int} {s : Mk} (x : Int) (stick : Bool) (hm : mayE o s = true) : (∃ (p : Int) (q : Mk) (b : Bool), backV o s x stick = .tuple #[.agg #[.int .i64 p, VM q], .bool b, .int .i64 0] ∧ mayE p q = true) ∨ backV o s x stick = .tuple #[.agg #[.int .i64 0, .int .u32 0], .bool false, .int .i64 2] := by
  unfold backV
  split
  · split
    · split
      · exact .inl ⟨_, _, _, rfl, hm⟩
      · exact .inl ⟨_, _, _, rfl, by kernel_rfl⟩
    · exact .inl ⟨_, _, _, rfl, hm⟩
  · exact .inr rfl
theorem one_known {p : Int} {q : Mk} (hm : mayE p q = true) (h0 : 0 ≤ p) : (bitsL (knownE p q)).length = 1 := by
  obtain ⟨rfl, h15⟩ := mayE_zero hm h0
  exact one_bit (by unfold coreB; simp; omega)

set_option maxRecDepth 100000 in
set_option maxHeartbeats 4000000 in
theorem many_law (a : Option Addr) (len cap : Nat) (V : Nat → Nat → Value) (B S : Nat → Bool) (K X : Nat → Int) (w : World) (hT : Tab w) (h : IsRowF w a len cap 4 V) (hV : ∀ i, i < len → V i 0 = .bool (B i) ∧ V i 1 = .bool (S i) ∧ V i 2 = .int .u8 (K i) ∧ V i 3 = .int .i64 (X i)) :
    Calls Tryd.prog 5 #[.slice a len cap] w fun e w' => e = .returned (.bool true) ∧ Below w.heap.size w w' := by
  have HT := Lib.hid hT; clear hT
  have HC := Lib.hid (show ∀ i, i < len → ∃ x g q, a = some x ∧ x.add (i * 4) = ⟨g, q, none⟩ ∧ g < w.heap.size ∧ w.cell? ⟨g, q, none⟩ = some (.bool (B i)) ∧ w.cell? ⟨g, q + 1, none⟩ = some (.bool (S i)) ∧ w.cell? ⟨g, q + 2, none⟩ = some (.int .u8 (K i)) ∧ w.cell? ⟨g, q + 3, none⟩ = some (.int .i64 (X i)) from fun i hi => by
    obtain ⟨x, g, q, hx, hxa, hg, hc⟩ := h.at (by decide) hi
    obtain ⟨h0, h1, h2, h3⟩ := hV i hi
    exact ⟨x, g, q, hx, hxa, hg, by rw [← h0]; exact hc 0 (by decide), by rw [← h1]; exact hc 1 (by decide), by rw [← h2]; exact hc 2 (by decide), by rw [← h3]; exact hc 3 (by decide)⟩)
  obtain ⟨hlc, hcm, _⟩ := h
  clear hV
  unfold maxLen at hcm
  by_cases h300 : (300 : Int) < (len : Int)
  · go_enter Tryd.func5, Tryd.ntmps5
    go_wp2_with fail
    refine (works_e w HT.out).mono ?_
    rintro e w1 ⟨rfl, hu⟩
    have HU := Lib.hid hu
    clear hu
    go_wp2
    go_ret
    exact ⟨rfl, (HU.out.toFrom (B := w.heap.size)).belowFrom (Nat.le_refl _)⟩
  · go_enter Tryd.func5, Tryd.ntmps5
    go_wp2_with fail
    refine (free_any w).mono ?_
    rintro e w1 ⟨rfl, hu⟩
    have HU1 := Lib.hid hu
    clear hu
    go_wp2_with fail
    obtain ⟨w2, hw2⟩ : ∃ W, w1.alloc (.cells #[.int .i64 (-1), .int .u32 0] 25) = W := ⟨_, rfl⟩
    have hu2 : Upd NoF w1 w2 := by rw [← hw2]; exact Upd.alloc NoF w1 _
    have hb2 : Blk w2 w1.heap.size #[.int .i64 (-1), .int .u32 0] 25 := by rw [← hw2]; exact Blk.new w1 _ _
    rw [hw2]
    have hsz := HU1.out.size
    have HU2 := Lib.hid ((HU1.out.trans hu2 (fun _ _ h => h)).toFrom (B := w.heap.size))
    have HB2 := Lib.hid hb2
    clear hw2 hu2 hb2
    obtain ⟨eb, heb⟩ : ∃ eb, w1.heap.size = eb := ⟨_, rfl⟩
    rw [heb] at HB2 hsz ⊢
    clear heb
    go_loopw [15] (fun i wr => ∃ (k : Nat) (o : Int) (s : Mk), k ≤ len ∧ i = .int .i64 k ∧ Hid (Upd (From w.heap.size) w wr ∧ Blk wr eb #[.int .i64 o, VM s] 25 ∧ mayE o s = true)) (fun i _ => len - (intOf i).toNat)
    case atStart => exact ⟨0, -1, 0#32, Nat.zero_le _, rfl, HU2.out, HB2.out, by kernel_rfl⟩
    case round =>
      obtain ⟨k, o, s, hk, rfl, HI⟩ := hrel
      by_cases hlt : k < len
      · obtain ⟨x, g, q, rfl, hxa, hxl, g0, g1, g2, g3⟩ := HC.out k hlt
        replace g0 := HI.out.1.cell g0 (fun h => by have : w.heap.size ≤ g := h; omega)
        replace g1 := HI.out.1.cell g1 (fun h => by have : w.heap.size ≤ g := h; omega)
        replace g2 := HI.out.1.cell g2 (fun h => by have : w.heap.size ≤ g := h; omega)
        replace g3 := HI.out.1.cell g3 (fun h => by have : w.heap.size ≤ g := h; omega)
        have HTr := Lib.hid (HT.out.from HI.out.1 HT.out.lt)
        have HQ_e := Lib.hid HI.out.2.1
        have hbl := HI.out.2.1.lt
        have hne : eb ≠ wr.heap.size + 1 := by omega
        clear hbl
        have hws := HI.out.1.size
        have HM := Lib.hid HI.out.2.2
        have HW := Lib.hid HI.out.1
        generalize B k = bk at *
        generalize S k = sk at *
        generalize K k = kk at *
        generalize X k = xk at *
        cases bk
        · clear HI
          have c_e_0 : wr.cell? ⟨eb, 0, none⟩ = some (.int .i64 o) := HQ_e.out.cell 0
          have c_e_1 : wr.cell? ⟨eb, 1, none⟩ = some (VM s) := HQ_e.out.cell 1
          have c_e_0_p0 : (wr.alloc (.cells #[.bool false, .bool sk, .int .u8 kk, .int .i64 xk] 42)).cell? ⟨eb, 0, none⟩ = some (.int .i64 o) := (HQ_e.out.alloc _).cell 0
          have c_e_1_p0 : (wr.alloc (.cells #[.bool false, .bool sk, .int .u8 kk, .int .i64 xk] 42)).cell? ⟨eb, 1, none⟩ = some (VM s) := (HQ_e.out.alloc _).cell 1
          have c_e_0_p1 : ((wr.alloc (.cells #[.bool false, .bool sk, .int .u8 kk, .int .i64 xk] 42)).alloc (.cells #[.int .i64 o, VM s] 25)).cell? ⟨eb, 0, none⟩ = some (.int .i64 o) := ((HQ_e.out.alloc _).alloc _).cell 0
          have c_e_1_p1 : ((wr.alloc (.cells #[.bool false, .bool sk, .int .u8 kk, .int .i64 xk] 42)).alloc (.cells #[.int .i64 o, VM s] 25)).cell? ⟨eb, 1, none⟩ = some (VM s) := ((HQ_e.out.alloc _).alloc _).cell 1
          go_wp2_with fail
          obtain ⟨v0, hv0⟩ : ∃ W, ((wr.alloc (.cells #[.bool false, .bool sk, .int .u8 kk, .int .i64 xk] 42)).alloc (.cells #[.int .i64 o, VM s] 25)) = W := ⟨_, rfl⟩
          have hu : Upd NoF wr v0 := by rw [← hv0]; exact (Upd.alloc NoF wr _).trans (Upd.alloc NoF _ _) (fun _ _ h => h)
          replace HQ_e := Lib.hid (HQ_e.out.upd hu (fun h => h))
          have HQ_s : Hid (Blk v0 wr.heap.size #[.bool false, .bool sk, .int .u8 kk, .int .i64 xk] 42) := by
            have hb := Blk.new wr #[.bool false, .bool sk, .int .u8 kk, .int .i64 xk] 42
            rw [← hv0]; exact (hb.alloc _)
          have HQ_n : Hid (Blk v0 (wr.heap.size + 1) #[.int .i64 o, VM s] 25) := by
            have hb := Blk.new (wr.alloc (.cells #[.bool false, .bool sk, .int .u8 kk, .int .i64 xk] 42)) #[.int .i64 o, VM s] 25
            simp only [World.size_alloc] at hb
            rw [← hv0]; exact hb
          rw [hv0]
          have HV0 := Lib.hid hu
          clear hv0 hu
          clear c_e_0 c_e_1 c_e_0_p0 c_e_1_p0 c_e_0_p1 c_e_1_p1
          have c_e_0 : v0.cell? ⟨eb, 0, none⟩ = some (.int .i64 o) := HQ_e.out.cell 0
          have c_e_1 : v0.cell? ⟨eb, 1, none⟩ = some (VM s) := HQ_e.out.cell 1
          have c_n_0 : v0.cell? ⟨(wr.heap.size + 1), 0, none⟩ = some (.int .i64 o) := HQ_n.out.cell 0
          have c_n_1 : v0.cell? ⟨(wr.heap.size + 1), 1, none⟩ = some (VM s) := HQ_n.out.cell 1
          rcases gets_many o s kk xk with ⟨p, q, st, hg, hm⟩ | hg
          · have hc := gets_e o s kk xk v0 (HTr.out.upd HV0.out (fun h => h))
            rw [hg] at hc
            clear hg
            refine (hc).mono ?_
            rintro e v1 ⟨rfl, hu⟩
            have HV1 := Lib.hid (HV0.out.trans hu (fun _ _ h => h))
            replace HQ_e := Lib.hid (HQ_e.out.upd hu (fun h => h))
            replace HQ_s := Lib.hid (HQ_s.out.upd hu (fun h => h))
            replace HQ_n := Lib.hid (HQ_n.out.upd hu (fun h => h))
            clear hu
            clear c_e_0 c_e_1 c_n_0 c_n_1
            have c_e_0 : v1.cell? ⟨eb, 0, none⟩ = some (.int .i64 o) := HQ_e.out.cell 0
            have c_e_1 : v1.cell? ⟨eb, 1, none⟩ = some (VM s) := HQ_e.out.cell 1
            have c_n_0 : v1.cell? ⟨(wr.heap.size + 1), 0, none⟩ = some (.int .i64 o) := HQ_n.out.cell 0
            have c_n_1 : v1.cell? ⟨(wr.heap.size + 1), 1, none⟩ = some (VM s) := HQ_n.out.cell 1
            clear hc
            have f_e_0 := HQ_e.out.frozen 0
            have f_e_1 := HQ_e.out.frozen 1
            have f_n_0 := HQ_n.out.frozen 0
            have f_n_1 := HQ_n.out.frozen 1
            have hq5 := (HQ_e.out.other 0 (.int .i64 p) hne).other 1 (VM q) hne
            have z_e_0 : ((v1.setCell ⟨wr.heap.size + 1, 0, none⟩ (.int .i64 p)).setCell ⟨wr.heap.size + 1, 1, none⟩ (VM q)).cell? ⟨eb, 0, none⟩ = some (.int .i64 o) := hq5.cell 0
            have y_e_0 : ((v1.setCell ⟨wr.heap.size + 1, 0, none⟩ (.int .i64 p)).setCell ⟨wr.heap.size + 1, 1, none⟩ (VM q)).frozen? ⟨eb, 0, none⟩ = false := hq5.frozen 0
            have z_e_1 : ((v1.setCell ⟨wr.heap.size + 1, 0, none⟩ (.int .i64 p)).setCell ⟨wr.heap.size + 1, 1, none⟩ (VM q)).cell? ⟨eb, 1, none⟩ = some (VM s) := hq5.cell 1
            have y_e_1 : ((v1.setCell ⟨wr.heap.size + 1, 0, none⟩ (.int .i64 p)).setCell ⟨wr.heap.size + 1, 1, none⟩ (VM q)).frozen? ⟨eb, 1, none⟩ = false := hq5.frozen 1
            clear hq5
            go_wp2_with fail
            obtain ⟨z0, hz0⟩ : ∃ W, ((((v1.setCell ⟨wr.heap.size + 1, 0, none⟩ (.int .i64 p)).setCell ⟨wr.heap.size + 1, 1, none⟩ (VM q)).setCell ⟨eb, 0, none⟩ (.int .i64 p)).setCell ⟨eb, 1, none⟩ (VM q)) = W := ⟨_, rfl⟩
            have HZ := Lib.hid (show Upd (From w.heap.size) w z0 from by rw [← hz0]; exact ((((HW.out.from (HV1.out.toFrom (B := w.heap.size))).from (Upd.setCell (F := From w.heap.size) _ (p := ⟨wr.heap.size + 1, 0, none⟩) (show w.heap.size ≤ wr.heap.size + 1 by omega) _)).from (Upd.setCell (F := From w.heap.size) _ (p := ⟨wr.heap.size + 1, 1, none⟩) (show w.heap.size ≤ wr.heap.size + 1 by omega) _)).from (Upd.setCell (F := From w.heap.size) _ (p := ⟨eb, 0, none⟩) (show w.heap.size ≤ eb by omega) _)).from (Upd.setCell (F := From w.heap.size) _ (p := ⟨eb, 1, none⟩) (show w.heap.size ≤ eb by omega) _))
            have HQ_z : Hid (Blk z0 eb #[.int .i64 p, VM q] 25) := Lib.hid (by rw [← hz0]; exact ((((HQ_e.out.other 0 (.int .i64 p) hne).other 1 (VM q) hne).set 0 (.int .i64 p)).set 1 (VM q)))
            rw [hz0]
            clear hz0 c_e_0 c_e_1 c_n_0 c_n_1 z_e_0 z_e_1 y_e_0 y_e_1 f_e_0 f_e_1 f_n_0 f_n_1
            have HTz := Lib.hid (HT.out.from HZ.out HT.out.lt)
            have hcm := may_any p q z0 HTz.out
            rw [hm] at hcm
            have HX0 := Lib.hid (Upd.refl NoF z0)
            have c_z_0 : z0.cell? ⟨eb, 0, none⟩ = some (.int .i64 p) := HQ_z.out.cell 0
            have c_z_1 : z0.cell? ⟨eb, 1, none⟩ = some (VM q) := HQ_z.out.cell 1
            refine (hcm).mono ?_
            rintro e z1 ⟨rfl, hu⟩
            have HX1 := Lib.hid (HX0.out.trans hu (fun _ _ h => h))
            replace HQ_z := Lib.hid (HQ_z.out.upd hu (fun h => h))
            clear hu
            clear c_z_0 c_z_1
            have c_z_0 : z1.cell? ⟨eb, 0, none⟩ = some (.int .i64 p) := HQ_z.out.cell 0
            have c_z_1 : z1.cell? ⟨eb, 1, none⟩ = some (VM q) := HQ_z.out.cell 1
            clear hcm
            by_cases hp : 0 ≤ p
            · have hn := fun W => count_any (knownE p q) W
              rw [one_known hm hp] at hn
              have HN := Lib.hid hn; clear hn
              go_wp2_with fail
              refine (known_e p q z1).mono ?_
              rintro e z2 ⟨rfl, hu⟩
              have HX2 := Lib.hid (HX1.out.trans hu (fun _ _ h => h))
              replace HQ_z := Lib.hid (HQ_z.out.upd hu (fun h => h))
              clear hu
              clear c_z_0 c_z_1
              have c_z_0 : z2.cell? ⟨eb, 0, none⟩ = some (.int .i64 p) := HQ_z.out.cell 0
              have c_z_1 : z2.cell? ⟨eb, 1, none⟩ = some (VM q) := HQ_z.out.cell 1
              go_wp2_with fail
              refine (HN.out z2).mono ?_
              rintro e z3 ⟨rfl, hu⟩
              have HX3 := Lib.hid (HX2.out.trans hu (fun _ _ h => h))
              replace HQ_z := Lib.hid (HQ_z.out.upd hu (fun h => h))
              clear hu
              clear c_z_0 c_z_1
              have c_z_0 : z3.cell? ⟨eb, 0, none⟩ = some (.int .i64 p) := HQ_z.out.cell 0
              have c_z_1 : z3.cell? ⟨eb, 1, none⟩ = some (VM q) := HQ_z.out.cell 1
              go_wp2_with fail
              exact ⟨⟨k + 1, p, q, by omega, by go_num, HZ.out.from HX3.out.toFrom, HQ_z.out, hm⟩, by simp [intOf]; omega⟩
            · go_wp2_with fail
              exact ⟨⟨k + 1, p, q, by omega, by go_num, HZ.out.from HX1.out.toFrom, HQ_z.out, hm⟩, by simp [intOf]; omega⟩
          · have hc := gets_e o s kk xk v0 (HTr.out.upd HV0.out (fun h => h))
            rw [hg] at hc
            clear hg
            refine (hc).mono ?_
            rintro e v1 ⟨rfl, hu⟩
            have HV1 := Lib.hid (HV0.out.trans hu (fun _ _ h => h))
            replace HQ_e := Lib.hid (HQ_e.out.upd hu (fun h => h))
            replace HQ_s := Lib.hid (HQ_s.out.upd hu (fun h => h))
            replace HQ_n := Lib.hid (HQ_n.out.upd hu (fun h => h))
            clear hu
            clear c_e_0 c_e_1 c_n_0 c_n_1
            have c_e_0 : v1.cell? ⟨eb, 0, none⟩ = some (.int .i64 o) := HQ_e.out.cell 0
            have c_e_1 : v1.cell? ⟨eb, 1, none⟩ = some (VM s) := HQ_e.out.cell 1
            have c_n_0 : v1.cell? ⟨(wr.heap.size + 1), 0, none⟩ = some (.int .i64 o) := HQ_n.out.cell 0
            have c_n_1 : v1.cell? ⟨(wr.heap.size + 1), 1, none⟩ = some (VM s) := HQ_n.out.cell 1
            clear hc
            have f_e_0 := HQ_e.out.frozen 0
            have f_e_1 := HQ_e.out.frozen 1
            have f_n_0 := HQ_n.out.frozen 0
            have f_n_1 := HQ_n.out.frozen 1
            have hq5 := (HQ_e.out.other 0 (.int .i64 0) hne).other 1 (.int .u32 0) hne
            have z_e_0 : ((v1.setCell ⟨wr.heap.size + 1, 0, none⟩ (.int .i64 0)).setCell ⟨wr.heap.size + 1, 1, none⟩ (.int .u32 0)).cell? ⟨eb, 0, none⟩ = some (.int .i64 o) := hq5.cell 0
            have y_e_0 : ((v1.setCell ⟨wr.heap.size + 1, 0, none⟩ (.int .i64 0)).setCell ⟨wr.heap.size + 1, 1, none⟩ (.int .u32 0)).frozen? ⟨eb, 0, none⟩ = false := hq5.frozen 0
            have z_e_1 : ((v1.setCell ⟨wr.heap.size + 1, 0, none⟩ (.int .i64 0)).setCell ⟨wr.heap.size + 1, 1, none⟩ (.int .u32 0)).cell? ⟨eb, 1, none⟩ = some (VM s) := hq5.cell 1
            have y_e_1 : ((v1.setCell ⟨wr.heap.size + 1, 0, none⟩ (.int .i64 0)).setCell ⟨wr.heap.size + 1, 1, none⟩ (.int .u32 0)).frozen? ⟨eb, 1, none⟩ = false := hq5.frozen 1
            clear hq5
            go_wp2_with fail
            exact ⟨⟨k + 1, o, s, by omega, by go_num, ((HW.out.from (HV1.out.toFrom (B := w.heap.size))).from (Upd.setCell (F := From w.heap.size) _ (p := ⟨wr.heap.size + 1, 0, none⟩) (show w.heap.size ≤ wr.heap.size + 1 by omega) _)).from (Upd.setCell (F := From w.heap.size) _ (p := ⟨wr.heap.size + 1, 1, none⟩) (show w.heap.size ≤ wr.heap.size + 1 by omega) _), (HQ_e.out.other 0 _ hne).other 1 _ hne, HM.out⟩, by simp [intOf]; omega⟩
        · clear HI
          have c_e_0 : wr.cell? ⟨eb, 0, none⟩ = some (.int .i64 o) := HQ_e.out.cell 0
          have c_e_1 : wr.cell? ⟨eb, 1, none⟩ = some (VM s) := HQ_e.out.cell 1
          have c_e_0_p0 : (wr.alloc (.cells #[.bool true, .bool sk, .int .u8 kk, .int .i64 xk] 42)).cell? ⟨eb, 0, none⟩ = some (.int .i64 o) := (HQ_e.out.alloc _).cell 0
          have c_e_1_p0 : (wr.alloc (.cells #[.bool true, .bool sk, .int .u8 kk, .int .i64 xk] 42)).cell? ⟨eb, 1, none⟩ = some (VM s) := (HQ_e.out.alloc _).cell 1
          have c_e_0_p1 : ((wr.alloc (.cells #[.bool true, .bool sk, .int .u8 kk, .int .i64 xk] 42)).alloc (.cells #[.int .i64 o, VM s] 25)).cell? ⟨eb, 0, none⟩ = some (.int .i64 o) := ((HQ_e.out.alloc _).alloc _).cell 0
          have c_e_1_p1 : ((wr.alloc (.cells #[.bool true, .bool sk, .int .u8 kk, .int .i64 xk] 42)).alloc (.cells #[.int .i64 o, VM s] 25)).cell? ⟨eb, 1, none⟩ = some (VM s) := ((HQ_e.out.alloc _).alloc _).cell 1
          go_wp2_with fail
          obtain ⟨v0, hv0⟩ : ∃ W, ((wr.alloc (.cells #[.bool true, .bool sk, .int .u8 kk, .int .i64 xk] 42)).alloc (.cells #[.int .i64 o, VM s] 25)) = W := ⟨_, rfl⟩
          have hu : Upd NoF wr v0 := by rw [← hv0]; exact (Upd.alloc NoF wr _).trans (Upd.alloc NoF _ _) (fun _ _ h => h)
          replace HQ_e := Lib.hid (HQ_e.out.upd hu (fun h => h))
          have HQ_s : Hid (Blk v0 wr.heap.size #[.bool true, .bool sk, .int .u8 kk, .int .i64 xk] 42) := by
            have hb := Blk.new wr #[.bool true, .bool sk, .int .u8 kk, .int .i64 xk] 42
            rw [← hv0]; exact (hb.alloc _)
          have HQ_n : Hid (Blk v0 (wr.heap.size + 1) #[.int .i64 o, VM s] 25) := by
            have hb := Blk.new (wr.alloc (.cells #[.bool true, .bool sk, .int .u8 kk, .int .i64 xk] 42)) #[.int .i64 o, VM s] 25
            simp only [World.size_alloc] at hb
            rw [← hv0]; exact hb
          rw [hv0]
          have HV0 := Lib.hid hu
          clear hv0 hu
          clear c_e_0 c_e_1 c_e_0_p0 c_e_1_p0 c_e_0_p1 c_e_1_p1
          have c_e_0 : v0.cell? ⟨eb, 0, none⟩ = some (.int .i64 o) := HQ_e.out.cell 0
          have c_e_1 : v0.cell? ⟨eb, 1, none⟩ = some (VM s) := HQ_e.out.cell 1
          have c_n_0 : v0.cell? ⟨(wr.heap.size + 1), 0, none⟩ = some (.int .i64 o) := HQ_n.out.cell 0
          have c_n_1 : v0.cell? ⟨(wr.heap.size + 1), 1, none⟩ = some (VM s) := HQ_n.out.cell 1
          rcases back_many xk sk HM.out with ⟨p, q, st, hg, hm⟩ | hg
          · have hc := back_e o s xk sk v0 (HTr.out.upd HV0.out (fun h => h))
            rw [hg] at hc
            clear hg
            refine (hc).mono ?_
            rintro e v1 ⟨rfl, hu⟩
            have HV1 := Lib.hid (HV0.out.trans hu (fun _ _ h => h))
            replace HQ_e := Lib.hid (HQ_e.out.upd hu (fun h => h))
            replace HQ_s := Lib.hid (HQ_s.out.upd hu (fun h => h))
            replace HQ_n := Lib.hid (HQ_n.out.upd hu (fun h => h))
            clear hu
            clear c_e_0 c_e_1 c_n_0 c_n_1
            have c_e_0 : v1.cell? ⟨eb, 0, none⟩ = some (.int .i64 o) := HQ_e.out.cell 0
            have c_e_1 : v1.cell? ⟨eb, 1, none⟩ = some (VM s) := HQ_e.out.cell 1
            have c_n_0 : v1.cell? ⟨(wr.heap.size + 1), 0, none⟩ = some (.int .i64 o) := HQ_n.out.cell 0
            have c_n_1 : v1.cell? ⟨(wr.heap.size + 1), 1, none⟩ = some (VM s) := HQ_n.out.cell 1
            clear hc
            have f_e_0 := HQ_e.out.frozen 0
            have f_e_1 := HQ_e.out.frozen 1
            have f_n_0 := HQ_n.out.frozen 0
            have f_n_1 := HQ_n.out.frozen 1
            have hq5 := (HQ_e.out.other 0 (.int .i64 p) hne).other 1 (VM q) hne
            have z_e_0 : ((v1.setCell ⟨wr.heap.size + 1, 0, none⟩ (.int .i64 p)).setCell ⟨wr.heap.size + 1, 1, none⟩ (VM q)).cell? ⟨eb, 0, none⟩ = some (.int .i64 o) := hq5.cell 0
            have y_e_0 : ((v1.setCell ⟨wr.heap.size + 1, 0, none⟩ (.int .i64 p)).setCell ⟨wr.heap.size + 1, 1, none⟩ (VM q)).frozen? ⟨eb, 0, none⟩ = false := hq5.frozen 0
            have z_e_1 : ((v1.setCell ⟨wr.heap.size + 1, 0, none⟩ (.int .i64 p)).setCell ⟨wr.heap.size + 1, 1, none⟩ (VM q)).cell? ⟨eb, 1, none⟩ = some (VM s) := hq5.cell 1
            have y_e_1 : ((v1.setCell ⟨wr.heap.size + 1, 0, none⟩ (.int .i64 p)).setCell ⟨wr.heap.size + 1, 1, none⟩ (VM q)).frozen? ⟨eb, 1, none⟩ = false := hq5.frozen 1
            clear hq5
            go_wp2_with fail
            obtain ⟨z0, hz0⟩ : ∃ W, ((((v1.setCell ⟨wr.heap.size + 1, 0, none⟩ (.int .i64 p)).setCell ⟨wr.heap.size + 1, 1, none⟩ (VM q)).setCell ⟨eb, 0, none⟩ (.int .i64 p)).setCell ⟨eb, 1, none⟩ (VM q)) = W := ⟨_, rfl⟩
            have HZ := Lib.hid (show Upd (From w.heap.size) w z0 from by rw [← hz0]; exact ((((HW.out.from (HV1.out.toFrom (B := w.heap.size))).from (Upd.setCell (F := From w.heap.size) _ (p := ⟨wr.heap.size + 1, 0, none⟩) (show w.heap.size ≤ wr.heap.size + 1 by omega) _)).from (Upd.setCell (F := From w.heap.size) _ (p := ⟨wr.heap.size + 1, 1, none⟩) (show w.heap.size ≤ wr.heap.size + 1 by omega) _)).from (Upd.setCell (F := From w.heap.size) _ (p := ⟨eb, 0, none⟩) (show w.heap.size ≤ eb by omega) _)).from (Upd.setCell (F := From w.heap.size) _ (p := ⟨eb, 1, none⟩) (show w.heap.size ≤ eb by omega) _))
            have HQ_z : Hid (Blk z0 eb #[.int .i64 p, VM q] 25) := Lib.hid (by rw [← hz0]; exact ((((HQ_e.out.other 0 (.int .i64 p) hne).other 1 (VM q) hne).set 0 (.int .i64 p)).set 1 (VM q)))
            rw [hz0]
            clear hz0 c_e_0 c_e_1 c_n_0 c_n_1 z_e_0 z_e_1 y_e_0 y_e_1 f_e_0 f_e_1 f_n_0 f_n_1
            have HTz := Lib.hid (HT.out.from HZ.out HT.out.lt)
            have hcm := may_any p q z0 HTz.out
            rw [hm] at hcm
            have HX0 := Lib.hid (Upd.refl NoF z0)
            have c_z_0 : z0.cell? ⟨eb, 0, none⟩ = some (.int .i64 p) := HQ_z.out.cell 0
            have c_z_1 : z0.cell? ⟨eb, 1, none⟩ = some (VM q) := HQ_z.out.cell 1
            refine (hcm).mono ?_
            rintro e z1 ⟨rfl, hu⟩
            have HX1 := Lib.hid (HX0.out.trans hu (fun _ _ h => h))
            replace HQ_z := Lib.hid (HQ_z.out.upd hu (fun h => h))
            clear hu
            clear c_z_0 c_z_1
            have c_z_0 : z1.cell? ⟨eb, 0, none⟩ = some (.int .i64 p) := HQ_z.out.cell 0
            have c_z_1 : z1.cell? ⟨eb, 1, none⟩ = some (VM q) := HQ_z.out.cell 1
            clear hcm
            by_cases hp : 0 ≤ p
            · have hn := fun W => count_any (knownE p q) W
              rw [one_known hm hp] at hn
              have HN := Lib.hid hn; clear hn
              go_wp2_with fail
              refine (known_e p q z1).mono ?_
              rintro e z2 ⟨rfl, hu⟩
              have HX2 := Lib.hid (HX1.out.trans hu (fun _ _ h => h))
              replace HQ_z := Lib.hid (HQ_z.out.upd hu (fun h => h))
              clear hu
              clear c_z_0 c_z_1
              have c_z_0 : z2.cell? ⟨eb, 0, none⟩ = some (.int .i64 p) := HQ_z.out.cell 0
              have c_z_1 : z2.cell? ⟨eb, 1, none⟩ = some (VM q) := HQ_z.out.cell 1
              go_wp2_with fail
              refine (HN.out z2).mono ?_
              rintro e z3 ⟨rfl, hu⟩
              have HX3 := Lib.hid (HX2.out.trans hu (fun _ _ h => h))
              replace HQ_z := Lib.hid (HQ_z.out.upd hu (fun h => h))
              clear hu
              clear c_z_0 c_z_1
              have c_z_0 : z3.cell? ⟨eb, 0, none⟩ = some (.int .i64 p) := HQ_z.out.cell 0
              have c_z_1 : z3.cell? ⟨eb, 1, none⟩ = some (VM q) := HQ_z.out.cell 1
              go_wp2_with fail
              exact ⟨⟨k + 1, p, q, by omega, by go_num, HZ.out.from HX3.out.toFrom, HQ_z.out, hm⟩, by simp [intOf]; omega⟩
            · go_wp2_with fail
              exact ⟨⟨k + 1, p, q, by omega, by go_num, HZ.out.from HX1.out.toFrom, HQ_z.out, hm⟩, by simp [intOf]; omega⟩
          · have hc := back_e o s xk sk v0 (HTr.out.upd HV0.out (fun h => h))
            rw [hg] at hc
            clear hg
            refine (hc).mono ?_
            rintro e v1 ⟨rfl, hu⟩
            have HV1 := Lib.hid (HV0.out.trans hu (fun _ _ h => h))
            replace HQ_e := Lib.hid (HQ_e.out.upd hu (fun h => h))
            replace HQ_s := Lib.hid (HQ_s.out.upd hu (fun h => h))
            replace HQ_n := Lib.hid (HQ_n.out.upd hu (fun h => h))
            clear hu
            clear c_e_0 c_e_1 c_n_0 c_n_1
            have c_e_0 : v1.cell? ⟨eb, 0, none⟩ = some (.int .i64 o) := HQ_e.out.cell 0
            have c_e_1 : v1.cell? ⟨eb, 1, none⟩ = some (VM s) := HQ_e.out.cell 1
            have c_n_0 : v1.cell? ⟨(wr.heap.size + 1), 0, none⟩ = some (.int .i64 o) := HQ_n.out.cell 0
            have c_n_1 : v1.cell? ⟨(wr.heap.size + 1), 1, none⟩ = some (VM s) := HQ_n.out.cell 1
            clear hc
            have f_e_0 := HQ_e.out.frozen 0
            have f_e_1 := HQ_e.out.frozen 1
            have f_n_0 := HQ_n.out.frozen 0
            have f_n_1 := HQ_n.out.frozen 1
            have hq5 := (HQ_e.out.other 0 (.int .i64 0) hne).other 1 (.int .u32 0) hne
            have z_e_0 : ((v1.setCell ⟨wr.heap.size + 1, 0, none⟩ (.int .i64 0)).setCell ⟨wr.heap.size + 1, 1, none⟩ (.int .u32 0)).cell? ⟨eb, 0, none⟩ = some (.int .i64 o) := hq5.cell 0
            have y_e_0 : ((v1.setCell ⟨wr.heap.size + 1, 0, none⟩ (.int .i64 0)).setCell ⟨wr.heap.size + 1, 1, none⟩ (.int .u32 0)).frozen? ⟨eb, 0, none⟩ = false := hq5.frozen 0
            have z_e_1 : ((v1.setCell ⟨wr.heap.size + 1, 0, none⟩ (.int .i64 0)).setCell ⟨wr.heap.size + 1, 1, none⟩ (.int .u32 0)).cell? ⟨eb, 1, none⟩ = some (VM s) := hq5.cell 1
            have y_e_1 : ((v1.setCell ⟨wr.heap.size + 1, 0, none⟩ (.int .i64 0)).setCell ⟨wr.heap.size + 1, 1, none⟩ (.int .u32 0)).frozen? ⟨eb, 1, none⟩ = false := hq5.frozen 1
            clear hq5
            go_wp2_with fail
            exact ⟨⟨k + 1, o, s, by omega, by go_num, ((HW.out.from (HV1.out.toFrom (B := w.heap.size))).from (Upd.setCell (F := From w.heap.size) _ (p := ⟨wr.heap.size + 1, 0, none⟩) (show w.heap.size ≤ wr.heap.size + 1 by omega) _)).from (Upd.setCell (F := From w.heap.size) _ (p := ⟨wr.heap.size + 1, 1, none⟩) (show w.heap.size ≤ wr.heap.size + 1 by omega) _), (HQ_e.out.other 0 _ hne).other 1 _ hne, HM.out⟩, by simp [intOf]; omega⟩
      · obtain rfl : k = len := by omega
        have HU := Lib.hid HI.out.1
        have HTr := Lib.hid (HT.out.from HI.out.1 HT.out.lt)
        go_wp2_with fail
        refine (works_e wr HTr.out).mono ?_
        rintro e w3 ⟨rfl, hu⟩
        have HU3 := Lib.hid (HU.out.from hu.toFrom)
        clear hu
        go_wp2
        go_ret
        exact ⟨rfl, HU3.out.belowFrom (Nat.le_refl _)⟩
end Go.Proofs.YtfkcnghhcoginaaDoor.ET
