/- Package entry's other functions, and the document's answers. -/
import Derived.Test.YtlhbnndnkcpomaaDoorEntryRef
set_option linter.unusedSimpArgs false
set_option linter.unusedVariables false
namespace Go.Proofs.YtlhbnndnkcpomaaDoor.ET
open Go.RowKit
open ML
attribute [local go_sem] Oper.semAt_some run_eql_entry run_neq_entry

/-- May it be asked? -/
def askE (o : Int) (s : Mk) (k x : Int) : Bool := mayE o s && (decide (k = 1) || decide (k = 2)) && coreB x

set_option maxRecDepth 100000 in
set_option maxHeartbeats 1000000 in
theorem ask_any (o : Int) (s : Mk) (k x : Int) (w : World) (hT : Tab w) : Calls Tryd.prog 95 #[VE o s, .int .u8 k, .int .i64 x] w fun e w' => e = .returned (.bool (askE o s k x)) ∧ Upd NoF w w' := by
  have HT := Lib.hid hT
  clear hT
  unfold askE
  cases hb : mayE o s
  · have HB := Lib.hid hb
    clear hb
    go_enter Tryd.func95, Tryd.ntmps95
    go_wp2_with (first | (go_at_call 93; refine (may_any o s _ (HT.out.upd (show Upd NoF w _ from by first | exact Upd.refl NoF w | exact Upd.alloc NoF w _ | exact (Upd.alloc NoF w _).trans (Upd.alloc NoF _ _) (fun _ _ h => h)) (fun h => h))).mono ?_; rintro e w1 ⟨rfl, hu⟩; have HU := Lib.hid ((show Upd NoF w _ from by first | exact Upd.refl NoF w | exact Upd.alloc NoF w _ | exact (Upd.alloc NoF w _).trans (Upd.alloc NoF _ _) (fun _ _ h => h)).trans hu (fun _ _ h => h)); clear hu; rw [HB.out]) | (go_at_call 94; refine (core_any _ _).mono ?_; rintro e w' ⟨rfl, rfl⟩))
    go_ret
    exact ⟨rfl, HU.out⟩
  · have HB := Lib.hid hb
    clear hb
    by_cases hk : k = 1 ∨ k = 2
    · have HD := Lib.hid (show (true && (decide (k = 1) || decide (k = 2)) && coreB x) = coreB x by rcases hk with h | h <;> simp [h])
      rw [HD.out]
      rcases hk with rfl | rfl
      · go_enter Tryd.func95, Tryd.ntmps95
        go_wp2_with (first | (go_at_call 93; refine (may_any o s _ (HT.out.upd (show Upd NoF w _ from by first | exact Upd.refl NoF w | exact Upd.alloc NoF w _ | exact (Upd.alloc NoF w _).trans (Upd.alloc NoF _ _) (fun _ _ h => h)) (fun h => h))).mono ?_; rintro e w1 ⟨rfl, hu⟩; have HU := Lib.hid ((show Upd NoF w _ from by first | exact Upd.refl NoF w | exact Upd.alloc NoF w _ | exact (Upd.alloc NoF w _).trans (Upd.alloc NoF _ _) (fun _ _ h => h)).trans hu (fun _ _ h => h)); clear hu; rw [HB.out]) | (go_at_call 94; refine (core_any _ _).mono ?_; rintro e w' ⟨rfl, rfl⟩))
        go_ret
        exact ⟨rfl, HU.out⟩
      · go_enter Tryd.func95, Tryd.ntmps95
        go_wp2_with (first | (go_at_call 93; refine (may_any o s _ (HT.out.upd (show Upd NoF w _ from by first | exact Upd.refl NoF w | exact Upd.alloc NoF w _ | exact (Upd.alloc NoF w _).trans (Upd.alloc NoF _ _) (fun _ _ h => h)) (fun h => h))).mono ?_; rintro e w1 ⟨rfl, hu⟩; have HU := Lib.hid ((show Upd NoF w _ from by first | exact Upd.refl NoF w | exact Upd.alloc NoF w _ | exact (Upd.alloc NoF w _).trans (Upd.alloc NoF _ _) (fun _ _ h => h)).trans hu (fun _ _ h => h)); clear hu; rw [HB.out]) | (go_at_call 94; refine (core_any _ _).mono ?_; rintro e w' ⟨rfl, rfl⟩))
        go_ret
        exact ⟨rfl, HU.out⟩
    · have k1 : (k == 1) = false := by simp; omega
      have k2 : (k == 2) = false := by simp; omega
      have HD := Lib.hid (show (true && (decide (k = 1) || decide (k = 2)) && coreB x) = false by
        have h1 : ¬ k = 1 := by omega
        have h2 : ¬ k = 2 := by omega
        simp [h1, h2])
      rw [HD.out]
      clear hk
      go_enter Tryd.func95, Tryd.ntmps95
      go_wp2_with (first | (go_at_call 93; refine (may_any o s _ (HT.out.upd (show Upd NoF w _ from by first | exact Upd.refl NoF w | exact Upd.alloc NoF w _ | exact (Upd.alloc NoF w _).trans (Upd.alloc NoF _ _) (fun _ _ h => h)) (fun h => h))).mono ?_; rintro e w1 ⟨rfl, hu⟩; have HU := Lib.hid ((show Upd NoF w _ from by first | exact Upd.refl NoF w | exact Upd.alloc NoF w _ | exact (Upd.alloc NoF w _).trans (Upd.alloc NoF _ _) (fun _ _ h => h)).trans hu (fun _ _ h => h)); clear hu; rw [HB.out]) | (go_at_call 94; refine (core_any _ _).mono ?_; rintro e w' ⟨rfl, rfl⟩))
      go_ret
      exact ⟨rfl, HU.out⟩

set_option maxRecDepth 100000 in
set_option maxHeartbeats 1000000 in
theorem rask_any (o : Int) (s : Mk) (k x : Int) (w : World) : Calls Tryd.prog 106 #[VE o s, .int .u8 k, .int .i64 x] w fun e w' => e = .returned (.bool (askE o s k x)) ∧ Upd NoF w w' := by
  unfold askE
  cases hb : mayE o s
  · have HB := Lib.hid hb
    clear hb
    go_enter Tryd.func106, Tryd.ntmps106
    go_wp2_with (first | (go_at_call 105; refine (rmay_any o s _).mono ?_; rintro e w1 ⟨rfl, hu⟩; have HU := Lib.hid ((show Upd NoF w _ from by first | exact Upd.refl NoF w | exact Upd.alloc NoF w _ | exact (Upd.alloc NoF w _).trans (Upd.alloc NoF _ _) (fun _ _ h => h)).trans hu (fun _ _ h => h)); clear hu; rw [HB.out]))
    go_ret
    exact ⟨rfl, HU.out⟩
  · have HB := Lib.hid hb
    clear hb
    by_cases hk : k = 1 ∨ k = 2
    · have HD := Lib.hid (show (true && (decide (k = 1) || decide (k = 2)) && coreB x) = coreB x by rcases hk with h | h <;> simp [h])
      rw [HD.out]
      rcases hk with rfl | rfl
      · by_cases h0 : 0 ≤ x
        · have hd : coreB x = decide (x ≤ 15) := by unfold coreB; simp [h0]
          rw [hd]
          go_enter Tryd.func106, Tryd.ntmps106
          go_wp2_with (first | (go_at_call 105; refine (rmay_any o s _).mono ?_; rintro e w1 ⟨rfl, hu⟩; have HU := Lib.hid ((show Upd NoF w _ from by first | exact Upd.refl NoF w | exact Upd.alloc NoF w _ | exact (Upd.alloc NoF w _).trans (Upd.alloc NoF _ _) (fun _ _ h => h)).trans hu (fun _ _ h => h)); clear hu; rw [HB.out]))
          go_ret
          exact ⟨rfl, HU.out⟩
        · have hd : coreB x = false := by unfold coreB; simp [h0]
          rw [hd]
          go_enter Tryd.func106, Tryd.ntmps106
          go_wp2_with (first | (go_at_call 105; refine (rmay_any o s _).mono ?_; rintro e w1 ⟨rfl, hu⟩; have HU := Lib.hid ((show Upd NoF w _ from by first | exact Upd.refl NoF w | exact Upd.alloc NoF w _ | exact (Upd.alloc NoF w _).trans (Upd.alloc NoF _ _) (fun _ _ h => h)).trans hu (fun _ _ h => h)); clear hu; rw [HB.out]))
          go_ret
          exact ⟨rfl, HU.out⟩
      · by_cases h0 : 0 ≤ x
        · have hd : coreB x = decide (x ≤ 15) := by unfold coreB; simp [h0]
          rw [hd]
          go_enter Tryd.func106, Tryd.ntmps106
          go_wp2_with (first | (go_at_call 105; refine (rmay_any o s _).mono ?_; rintro e w1 ⟨rfl, hu⟩; have HU := Lib.hid ((show Upd NoF w _ from by first | exact Upd.refl NoF w | exact Upd.alloc NoF w _ | exact (Upd.alloc NoF w _).trans (Upd.alloc NoF _ _) (fun _ _ h => h)).trans hu (fun _ _ h => h)); clear hu; rw [HB.out]))
          go_ret
          exact ⟨rfl, HU.out⟩
        · have hd : coreB x = false := by unfold coreB; simp [h0]
          rw [hd]
          go_enter Tryd.func106, Tryd.ntmps106
          go_wp2_with (first | (go_at_call 105; refine (rmay_any o s _).mono ?_; rintro e w1 ⟨rfl, hu⟩; have HU := Lib.hid ((show Upd NoF w _ from by first | exact Upd.refl NoF w | exact Upd.alloc NoF w _ | exact (Upd.alloc NoF w _).trans (Upd.alloc NoF _ _) (fun _ _ h => h)).trans hu (fun _ _ h => h)); clear hu; rw [HB.out]))
          go_ret
          exact ⟨rfl, HU.out⟩
    · have k1 : (k == 1) = false := by simp; omega
      have k2 : (k == 2) = false := by simp; omega
      have HD := Lib.hid (show (true && (decide (k = 1) || decide (k = 2)) && coreB x) = false by
        have h1 : ¬ k = 1 := by omega
        have h2 : ¬ k = 2 := by omega
        simp [h1, h2])
      rw [HD.out]
      clear hk
      go_enter Tryd.func106, Tryd.ntmps106
      go_wp2_with (first | (go_at_call 105; refine (rmay_any o s _).mono ?_; rintro e w1 ⟨rfl, hu⟩; have HU := Lib.hid ((show Upd NoF w _ from by first | exact Upd.refl NoF w | exact Upd.alloc NoF w _ | exact (Upd.alloc NoF w _).trans (Upd.alloc NoF _ _) (fun _ _ h => h)).trans hu (fun _ _ h => h)); clear hu; rw [HB.out]))
      go_ret
      exact ⟨rfl, HU.out⟩

/-- What goes back makes of it. -/
def backV (o : Int) (s : Mk) (x : Int) (stick : Bool) : Value :=
  if mayE o s && coreB x then
    if o = x then (if stick then .tuple #[VE o s, .bool true, .int .i64 0] else .tuple #[VE (-1) 0#32, .bool true, .int .i64 0])
    else .tuple #[VE o s, .bool false, .int .i64 0]
  else .tuple #[VE 0 0#32, .bool false, .int .i64 2]

set_option maxRecDepth 100000 in
set_option maxHeartbeats 1000000 in
theorem back_e (o : Int) (s : Mk) (x : Int) (stick : Bool) (w : World) (hT : Tab w) : Calls Tryd.prog 74 #[VE o s, .int .i64 x, .bool stick] w fun e w' => e = .returned (backV o s x stick) ∧ Upd NoF w w' := by
  generalize hr : backV o s x stick = r
  have HR := Lib.hid hr
  clear hr
  have HT := Lib.hid hT; clear hT
  go_enter Tryd.func74, Tryd.ntmps74
  go_wp2_with fail
  obtain ⟨W0, hW0⟩ : ∃ W0, (w.alloc (.cells #[.int .i64 o, VM s] 59)).alloc (.cells #[.int .i64 0, .int .u32 0] 59) = W0 := ⟨_, rfl⟩
  have hU0 : Upd NoF w W0 := by rw [← hW0]; exact (Upd.alloc NoF w _).trans (Upd.alloc NoF _ _) (fun _ _ h => h)
  have b1 : Blk W0 w.heap.size #[.int .i64 o, VM s] 59 := by rw [← hW0]; exact (Blk.new w _ _).alloc _
  have b2 : Blk W0 (w.heap.size + 1) #[.int .i64 0, .int .u32 0] 59 := by
    rw [← hW0]; have := Blk.new (w.alloc (.cells #[.int .i64 o, VM s] 59)) #[.int .i64 0, .int .u32 0] 59
    rwa [World.size_alloc] at this
  rw [hW0]
  clear hW0
  refine (may_any o s W0 (HT.out.upd hU0 (fun h => h))).mono ?_
  rintro e w1 ⟨rfl, hu⟩
  have HU := Lib.hid ((hU0.trans hu (fun _ _ h => h)).toFrom (B := w.heap.size))
  have HQ1 := Lib.hid (b1.upd hu (fun h => h)); have HQ2 := Lib.hid (b2.upd hu (fun h => h))
  have c0 : w1.cell? ⟨w.heap.size, 0, none⟩ = some (.int .i64 o) := HQ1.out.cell 0
  have c1 : w1.cell? ⟨w.heap.size, 1, none⟩ = some (VM s) := HQ1.out.cell 1
  have g0 := HQ1.out.frozen 0; have g1 := HQ1.out.frozen 1
  have d0 : w1.cell? ⟨w.heap.size + 1, 0, none⟩ = some (.int .i64 0) := HQ2.out.cell 0
  have d1 : w1.cell? ⟨w.heap.size + 1, 1, none⟩ = some (.int .u32 0) := HQ2.out.cell 1
  have f0 := HQ2.out.frozen 0; have f1 := HQ2.out.frozen 1
  clear hu hU0 b1 b2
  cases hb : mayE o s
  · have HV := Lib.hid (show r = .tuple #[.agg #[.int .i64 0, .int .u32 0], .bool false, .int .i64 2] from by rw [← HR.out]; unfold backV; rw [hb]; rfl)
    clear hb
    go_wp2
    have hq := (Blk.set HQ2.out 0 (.int .i64 0)).set 1 (.int .u32 0)
    have e0 : _ = some (Value.int .i64 0) := hq.cell 0
    have e1 : _ = some (.int .u32 0 : Value) := hq.cell 1
    refine bodyPost_ret (v := .tuple #[.agg #[.int .i64 0, .int .u32 0], .bool false, .int .i64 2]) (by simp [results, Tryd.f74, go_sem, e0, e1]) rfl ⟨by rw [HV.out], ?_⟩
    exact ((HU.out.from (Upd.setCell (F := From w.heap.size) w1 (p := ⟨w.heap.size + 1, 0, none⟩) (show w.heap.size ≤ w.heap.size + 1 by omega) _)).from (Upd.setCell (F := From w.heap.size) _ (p := ⟨w.heap.size + 1, 1, none⟩) (show w.heap.size ≤ w.heap.size + 1 by omega) _)).mono (fun i hi h => by unfold From at h; omega)
  · cases hc : coreB x
    · have HV := Lib.hid (show r = .tuple #[.agg #[.int .i64 0, .int .u32 0], .bool false, .int .i64 2] from by rw [← HR.out]; unfold backV; rw [hb, hc]; rfl)
      have HB := Lib.hid hb
      have HC := Lib.hid hc
      have hx : x < 0 ∨ 15 < x := by unfold coreB at hc; simp at hc; omega
      clear hb hc
      rcases hx with hx | hx
      all_goals (
        go_wp2_with ((go_at_call 94; refine (core_any _ _).mono ?_; rintro e w' ⟨rfl, rfl⟩); rw [HC.out])
        have hq := (Blk.set HQ2.out 0 (.int .i64 0)).set 1 (.int .u32 0)
        have e0 : _ = some (Value.int .i64 0) := hq.cell 0
        have e1 : _ = some (.int .u32 0 : Value) := hq.cell 1
        refine bodyPost_ret (v := .tuple #[.agg #[.int .i64 0, .int .u32 0], .bool false, .int .i64 2]) (by simp [results, Tryd.f74, go_sem, e0, e1]) rfl ⟨by rw [HV.out], ?_⟩
        exact ((HU.out.from (Upd.setCell (F := From w.heap.size) w1 (p := ⟨w.heap.size + 1, 0, none⟩) (show w.heap.size ≤ w.heap.size + 1 by omega) _)).from (Upd.setCell (F := From w.heap.size) _ (p := ⟨w.heap.size + 1, 1, none⟩) (show w.heap.size ≤ w.heap.size + 1 by omega) _)).mono (fun i hi h => by unfold From at h; omega))
    · have HB := Lib.hid hb
      have HC := Lib.hid hc
      have hx : 0 ≤ x ∧ x ≤ 15 := by unfold coreB at hc; simp at hc; omega
      obtain ⟨hx0, hx1⟩ := hx
      by_cases hox : o = x
      · cases stick
        · have HV := Lib.hid (show r = .tuple #[.agg #[.int .i64 (-1), .int .u32 0], .bool true, .int .i64 0] from by rw [← HR.out]; unfold backV; rw [hb, hc]; simp [hox])
          have hb1 : (o != x) = false := by simp [hox]
          clear hb hc hox
          go_wp2_with (first | ((go_at_call 94; refine (core_any _ _).mono ?_; rintro e w' ⟨rfl, rfl⟩); rw [HC.out]))
          refine (free_any w1).mono ?_
          rintro e w2 ⟨rfl, hu2⟩
          have HU2 := Lib.hid (HU.out.from (hu2.toFrom (B := w.heap.size)))
          have HP1 := Lib.hid (HQ1.out.upd hu2 (fun h => h)); have HP2 := Lib.hid (HQ2.out.upd hu2 (fun h => h))
          clear c0 c1 g0 g1 d0 d1 f0 f1 hu2
          have c0 : w2.cell? ⟨w.heap.size, 0, none⟩ = some (.int .i64 o) := HP1.out.cell 0
          have c1 : w2.cell? ⟨w.heap.size, 1, none⟩ = some (VM s) := HP1.out.cell 1
          have g0 := HP1.out.frozen 0; have g1 := HP1.out.frozen 1
          have d0 : w2.cell? ⟨w.heap.size + 1, 0, none⟩ = some (.int .i64 0) := HP2.out.cell 0
          have d1 : w2.cell? ⟨w.heap.size + 1, 1, none⟩ = some (.int .u32 0) := HP2.out.cell 1
          have f0 := HP2.out.frozen 0; have f1 := HP2.out.frozen 1
          go_wp2
          have hq := (Blk.set ((Blk.other HP2.out 0 (.int .i64 (-1)) (show w.heap.size + 1 ≠ w.heap.size by omega)).other 1 (.int .u32 0) (show w.heap.size + 1 ≠ w.heap.size by omega)) 0 (.int .i64 (-1))).set 1 (.int .u32 0)
          have e0 : _ = some (Value.int .i64 (-1)) := hq.cell 0
          have e1 : _ = some (.int .u32 0 : Value) := hq.cell 1
          refine bodyPost_ret (v := .tuple #[.agg #[.int .i64 (-1), .int .u32 0], .bool true, .int .i64 0]) (by simp [results, Tryd.f74, go_sem, e0, e1]) rfl ⟨by rw [HV.out], ?_⟩
          exact ((((HU2.out.from (Upd.setCell (F := From w.heap.size) w2 (p := ⟨w.heap.size, 0, none⟩) (Nat.le_refl _) _)).from (Upd.setCell (F := From w.heap.size) _ (p := ⟨w.heap.size, 1, none⟩) (Nat.le_refl _) _)).from (Upd.setCell (F := From w.heap.size) _ (p := ⟨w.heap.size + 1, 0, none⟩) (show w.heap.size ≤ w.heap.size + 1 by omega) _)).from (Upd.setCell (F := From w.heap.size) _ (p := ⟨w.heap.size + 1, 1, none⟩) (show w.heap.size ≤ w.heap.size + 1 by omega) _)).mono (fun i hi h => by unfold From at h; omega)
        · have HV := Lib.hid (show r = .tuple #[.agg #[.int .i64 o, VM s], .bool true, .int .i64 0] from by rw [← HR.out]; unfold backV; rw [hb, hc]; simp [hox])
          have hb1 : (o != x) = false := by simp [hox]
          clear hb hc hox
          go_wp2_with ((go_at_call 94; refine (core_any _ _).mono ?_; rintro e w' ⟨rfl, rfl⟩); rw [HC.out])
          have hq := (Blk.set HQ2.out 0 (.int .i64 o)).set 1 (VM s)
          have e0 : _ = some (Value.int .i64 o) := hq.cell 0
          have e1 : _ = some (VM s : Value) := hq.cell 1
          refine bodyPost_ret (v := .tuple #[.agg #[.int .i64 o, VM s], .bool true, .int .i64 0]) (by simp [results, Tryd.f74, go_sem, e0, e1]) rfl ⟨by rw [HV.out], ?_⟩
          exact ((HU.out.from (Upd.setCell (F := From w.heap.size) w1 (p := ⟨w.heap.size + 1, 0, none⟩) (show w.heap.size ≤ w.heap.size + 1 by omega) _)).from (Upd.setCell (F := From w.heap.size) _ (p := ⟨w.heap.size + 1, 1, none⟩) (show w.heap.size ≤ w.heap.size + 1 by omega) _)).mono (fun i hi h => by unfold From at h; omega)
      · have HV := Lib.hid (show r = .tuple #[.agg #[.int .i64 o, VM s], .bool false, .int .i64 0] from by rw [← HR.out]; unfold backV; rw [hb, hc]; simp [hox])
        have hb1 : (o != x) = true := by simp [hox]
        clear hb hc hox
        go_wp2_with ((go_at_call 94; refine (core_any _ _).mono ?_; rintro e w' ⟨rfl, rfl⟩); rw [HC.out])
        have hq := (Blk.set HQ2.out 0 (.int .i64 o)).set 1 (VM s)
        have e0 : _ = some (Value.int .i64 o) := hq.cell 0
        have e1 : _ = some (VM s : Value) := hq.cell 1
        refine bodyPost_ret (v := .tuple #[.agg #[.int .i64 o, VM s], .bool false, .int .i64 0]) (by simp [results, Tryd.f74, go_sem, e0, e1]) rfl ⟨by rw [HV.out], ?_⟩
        exact ((HU.out.from (Upd.setCell (F := From w.heap.size) w1 (p := ⟨w.heap.size + 1, 0, none⟩) (show w.heap.size ≤ w.heap.size + 1 by omega) _)).from (Upd.setCell (F := From w.heap.size) _ (p := ⟨w.heap.size + 1, 1, none⟩) (show w.heap.size ≤ w.heap.size + 1 by omega) _)).mono (fun i hi h => by unfold From at h; omega)

set_option maxRecDepth 100000 in
set_option maxHeartbeats 1000000 in
theorem rback_e (o : Int) (s : Mk) (x : Int) (stick : Bool) (w : World) : Calls Tryd.prog 87 #[VE o s, .int .i64 x, .bool stick] w fun e w' => e = .returned (backV o s x stick) ∧ Upd NoF w w' := by
  generalize hr : backV o s x stick = r
  have HR := Lib.hid hr
  clear hr
  skip
  go_enter Tryd.func87, Tryd.ntmps87
  go_wp2_with fail
  obtain ⟨W0, hW0⟩ : ∃ W0, (w.alloc (.cells #[.int .i64 o, VM s] 59)).alloc (.cells #[.int .i64 0, .int .u32 0] 59) = W0 := ⟨_, rfl⟩
  have hU0 : Upd NoF w W0 := by rw [← hW0]; exact (Upd.alloc NoF w _).trans (Upd.alloc NoF _ _) (fun _ _ h => h)
  have b1 : Blk W0 w.heap.size #[.int .i64 o, VM s] 59 := by rw [← hW0]; exact (Blk.new w _ _).alloc _
  have b2 : Blk W0 (w.heap.size + 1) #[.int .i64 0, .int .u32 0] 59 := by
    rw [← hW0]; have := Blk.new (w.alloc (.cells #[.int .i64 o, VM s] 59)) #[.int .i64 0, .int .u32 0] 59
    rwa [World.size_alloc] at this
  rw [hW0]
  clear hW0
  refine (rmay_any o s W0).mono ?_
  rintro e w1 ⟨rfl, hu⟩
  have HU := Lib.hid ((hU0.trans hu (fun _ _ h => h)).toFrom (B := w.heap.size))
  have HQ1 := Lib.hid (b1.upd hu (fun h => h)); have HQ2 := Lib.hid (b2.upd hu (fun h => h))
  have c0 : w1.cell? ⟨w.heap.size, 0, none⟩ = some (.int .i64 o) := HQ1.out.cell 0
  have c1 : w1.cell? ⟨w.heap.size, 1, none⟩ = some (VM s) := HQ1.out.cell 1
  have g0 := HQ1.out.frozen 0; have g1 := HQ1.out.frozen 1
  have d0 : w1.cell? ⟨w.heap.size + 1, 0, none⟩ = some (.int .i64 0) := HQ2.out.cell 0
  have d1 : w1.cell? ⟨w.heap.size + 1, 1, none⟩ = some (.int .u32 0) := HQ2.out.cell 1
  have f0 := HQ2.out.frozen 0; have f1 := HQ2.out.frozen 1
  clear hu hU0 b1 b2
  cases hb : mayE o s
  · have HV := Lib.hid (show r = .tuple #[.agg #[.int .i64 0, .int .u32 0], .bool false, .int .i64 2] from by rw [← HR.out]; unfold backV; rw [hb]; rfl)
    clear hb
    go_wp2
    have hq := (Blk.set HQ2.out 0 (.int .i64 0)).set 1 (.int .u32 0)
    have e0 : _ = some (Value.int .i64 0) := hq.cell 0
    have e1 : _ = some (.int .u32 0 : Value) := hq.cell 1
    refine bodyPost_ret (v := .tuple #[.agg #[.int .i64 0, .int .u32 0], .bool false, .int .i64 2]) (by simp [results, Tryd.f87, go_sem, e0, e1]) rfl ⟨by rw [HV.out], ?_⟩
    exact ((HU.out.from (Upd.setCell (F := From w.heap.size) w1 (p := ⟨w.heap.size + 1, 0, none⟩) (show w.heap.size ≤ w.heap.size + 1 by omega) _)).from (Upd.setCell (F := From w.heap.size) _ (p := ⟨w.heap.size + 1, 1, none⟩) (show w.heap.size ≤ w.heap.size + 1 by omega) _)).mono (fun i hi h => by unfold From at h; omega)
  · cases hc : coreB x
    · have HV := Lib.hid (show r = .tuple #[.agg #[.int .i64 0, .int .u32 0], .bool false, .int .i64 2] from by rw [← HR.out]; unfold backV; rw [hb, hc]; rfl)
      have HB := Lib.hid hb
      have HC := Lib.hid hc
      have hx : x < 0 ∨ 15 < x := by unfold coreB at hc; simp at hc; omega
      clear hb hc
      rcases hx with hx | hx
      all_goals (
        go_wp2_with ((go_at_call 94; refine (core_any _ _).mono ?_; rintro e w' ⟨rfl, rfl⟩); rw [HC.out])
        have hq := (Blk.set HQ2.out 0 (.int .i64 0)).set 1 (.int .u32 0)
        have e0 : _ = some (Value.int .i64 0) := hq.cell 0
        have e1 : _ = some (.int .u32 0 : Value) := hq.cell 1
        refine bodyPost_ret (v := .tuple #[.agg #[.int .i64 0, .int .u32 0], .bool false, .int .i64 2]) (by simp [results, Tryd.f87, go_sem, e0, e1]) rfl ⟨by rw [HV.out], ?_⟩
        exact ((HU.out.from (Upd.setCell (F := From w.heap.size) w1 (p := ⟨w.heap.size + 1, 0, none⟩) (show w.heap.size ≤ w.heap.size + 1 by omega) _)).from (Upd.setCell (F := From w.heap.size) _ (p := ⟨w.heap.size + 1, 1, none⟩) (show w.heap.size ≤ w.heap.size + 1 by omega) _)).mono (fun i hi h => by unfold From at h; omega))
    · have HB := Lib.hid hb
      have HC := Lib.hid hc
      have hx : 0 ≤ x ∧ x ≤ 15 := by unfold coreB at hc; simp at hc; omega
      obtain ⟨hx0, hx1⟩ := hx
      by_cases hox : o = x
      · cases stick
        · have HV := Lib.hid (show r = .tuple #[.agg #[.int .i64 (-1), .int .u32 0], .bool true, .int .i64 0] from by rw [← HR.out]; unfold backV; rw [hb, hc]; simp [hox])
          have hb1 : (o != x) = false := by simp [hox]
          clear hb hc hox
          go_wp2_with (first | ((go_at_call 94; refine (core_any _ _).mono ?_; rintro e w' ⟨rfl, rfl⟩); rw [HC.out]))
          have hq := (Blk.set HQ2.out 0 (.int .i64 (-1))).set 1 (.int .u32 0)
          have e0 : _ = some (Value.int .i64 (-1)) := hq.cell 0
          have e1 : _ = some (.int .u32 0 : Value) := hq.cell 1
          refine bodyPost_ret (v := .tuple #[.agg #[.int .i64 (-1), .int .u32 0], .bool true, .int .i64 0]) (by simp [results, Tryd.f87, go_sem, e0, e1]) rfl ⟨by rw [HV.out], ?_⟩
          exact ((HU.out.from (Upd.setCell (F := From w.heap.size) w1 (p := ⟨w.heap.size + 1, 0, none⟩) (show w.heap.size ≤ w.heap.size + 1 by omega) _)).from (Upd.setCell (F := From w.heap.size) _ (p := ⟨w.heap.size + 1, 1, none⟩) (show w.heap.size ≤ w.heap.size + 1 by omega) _)).mono (fun i hi h => by unfold From at h; omega)
        · have HV := Lib.hid (show r = .tuple #[.agg #[.int .i64 o, VM s], .bool true, .int .i64 0] from by rw [← HR.out]; unfold backV; rw [hb, hc]; simp [hox])
          have hb1 : (o != x) = false := by simp [hox]
          clear hb hc hox
          go_wp2_with ((go_at_call 94; refine (core_any _ _).mono ?_; rintro e w' ⟨rfl, rfl⟩); rw [HC.out])
          have hq := (Blk.set HQ2.out 0 (.int .i64 o)).set 1 (VM s)
          have e0 : _ = some (Value.int .i64 o) := hq.cell 0
          have e1 : _ = some (VM s : Value) := hq.cell 1
          refine bodyPost_ret (v := .tuple #[.agg #[.int .i64 o, VM s], .bool true, .int .i64 0]) (by simp [results, Tryd.f87, go_sem, e0, e1]) rfl ⟨by rw [HV.out], ?_⟩
          exact ((HU.out.from (Upd.setCell (F := From w.heap.size) w1 (p := ⟨w.heap.size + 1, 0, none⟩) (show w.heap.size ≤ w.heap.size + 1 by omega) _)).from (Upd.setCell (F := From w.heap.size) _ (p := ⟨w.heap.size + 1, 1, none⟩) (show w.heap.size ≤ w.heap.size + 1 by omega) _)).mono (fun i hi h => by unfold From at h; omega)
      · have HV := Lib.hid (show r = .tuple #[.agg #[.int .i64 o, VM s], .bool false, .int .i64 0] from by rw [← HR.out]; unfold backV; rw [hb, hc]; simp [hox])
        have hb1 : (o != x) = true := by simp [hox]
        clear hb hc hox
        go_wp2_with ((go_at_call 94; refine (core_any _ _).mono ?_; rintro e w' ⟨rfl, rfl⟩); rw [HC.out])
        have hq := (Blk.set HQ2.out 0 (.int .i64 o)).set 1 (VM s)
        have e0 : _ = some (Value.int .i64 o) := hq.cell 0
        have e1 : _ = some (VM s : Value) := hq.cell 1
        refine bodyPost_ret (v := .tuple #[.agg #[.int .i64 o, VM s], .bool false, .int .i64 0]) (by simp [results, Tryd.f87, go_sem, e0, e1]) rfl ⟨by rw [HV.out], ?_⟩
        exact ((HU.out.from (Upd.setCell (F := From w.heap.size) w1 (p := ⟨w.heap.size + 1, 0, none⟩) (show w.heap.size ≤ w.heap.size + 1 by omega) _)).from (Upd.setCell (F := From w.heap.size) _ (p := ⟨w.heap.size + 1, 1, none⟩) (show w.heap.size ≤ w.heap.size + 1 by omega) _)).mono (fun i hi h => by unfold From at h; omega)

end Go.Proofs.YtlhbnndnkcpomaaDoor.ET
