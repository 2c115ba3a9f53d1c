/- Package entry: what a core gets. -/
import Derived.Test.YtlhbnndnkcpomaaDoorEntryFns
set_option linter.unusedSimpArgs false
set_option linter.unusedVariables false
namespace Go.Proofs.YtlhbnndnkcpomaaDoor.ET
open Go.RowKit
open ML
attribute [local go_sem] Oper.semAt_some run_eql_entry run_neq_entry

/-- The others that know of it. -/
def othersE (o : Int) (s : Mk) (x : Int) : Mk := (s ||| (0#32 ||| bitB o)) &&& ~~~ bitB x
/-- What a core gets. -/
def getsV (o : Int) (s : Mk) (k x : Int) : Value :=
  if askE o s k x then
    if k = 2 then .tuple #[VE x 0#32, .int .u8 3, .int .i64 0]
    else if othersE o s x = 0#32 then .tuple #[VE x 0#32, .int .u8 2, .int .i64 0]
    else .tuple #[VE (-1) (othersE o s x ||| bitB x), .int .u8 1, .int .i64 0]
  else .tuple #[VE 0 0#32, .int .u8 0, .int .i64 2]

set_option maxRecDepth 100000 in
set_option maxHeartbeats 1000000 in
theorem gets_e (o : Int) (s : Mk) (k x : Int) (w : World) (hT : Tab w) : Calls Tryd.prog 81 #[VE o s, .int .u8 k, .int .i64 x] w fun e w' => e = .returned (getsV o s k x) ∧ Upd NoF w w' := by
  generalize hr : getsV o s k x = r
  have HR := Lib.hid hr
  clear hr
  have HT := Lib.hid hT; clear hT
  go_enter Tryd.func81, Tryd.ntmps81
  go_wp2_with fail
  obtain ⟨W0, hW0⟩ : ∃ W0, (w.alloc (.cells #[.int .i64 o, VM s] 59)).alloc (.cells #[.int .i64 0, .int .u32 0] 59) = W0 := ⟨_, rfl⟩
  have hU0 : Upd NoF w W0 := by rw [← hW0]; exact (Upd.alloc NoF w _).trans (Upd.alloc NoF _ _) (fun _ _ h => h)
  have b1 : Blk W0 w.heap.size #[.int .i64 o, VM s] 59 := by rw [← hW0]; exact (Blk.new w _ _).alloc _
  have b2 : Blk W0 (w.heap.size + 1) #[.int .i64 0, .int .u32 0] 59 := by
    rw [← hW0]; have := Blk.new (w.alloc (.cells #[.int .i64 o, VM s] 59)) #[.int .i64 0, .int .u32 0] 59
    rwa [World.size_alloc] at this
  rw [hW0]
  clear hW0
  refine (ask_any o s k x W0 (HT.out.upd hU0 (fun h => h))).mono ?_
  rintro e w1 ⟨rfl, hu⟩
  have HU := Lib.hid ((hU0.trans hu (fun _ _ h => h)).toFrom (B := w.heap.size))
  have HQ1 := Lib.hid (b1.upd hu (fun h => h)); have HQ2 := Lib.hid (b2.upd hu (fun h => h))
  have c0 : w1.cell? ⟨w.heap.size, 0, none⟩ = some (.int .i64 o) := HQ1.out.cell 0
  have c1 : w1.cell? ⟨w.heap.size, 1, none⟩ = some (VM s) := HQ1.out.cell 1
  have g0 := HQ1.out.frozen 0; have g1 := HQ1.out.frozen 1
  have d0 : w1.cell? ⟨w.heap.size + 1, 0, none⟩ = some (.int .i64 0) := HQ2.out.cell 0
  have d1 : w1.cell? ⟨w.heap.size + 1, 1, none⟩ = some (.int .u32 0) := HQ2.out.cell 1
  have f0 := HQ2.out.frozen 0; have f1 := HQ2.out.frozen 1
  clear hu hU0 b1 b2
  cases ha : askE o s k x
  · have HV := Lib.hid (show r = .tuple #[.agg #[.int .i64 0, .int .u32 0], .int .u8 0, .int .i64 2] from by rw [← HR.out]; unfold getsV; rw [ha]; rfl)
    clear ha
    go_wp2
    have hq := (Blk.set HQ2.out 0 (.int .i64 0)).set 1 (.int .u32 0)
    have e0 : _ = some (Value.int .i64 0) := hq.cell 0
    have e1 : _ = some (.int .u32 0 : Value) := hq.cell 1
    refine bodyPost_ret (v := .tuple #[.agg #[.int .i64 0, .int .u32 0], .int .u8 0, .int .i64 2]) (by simp [results, Tryd.f81, go_sem, e0, e1]) rfl ⟨by rw [HV.out], ?_⟩
    exact ((HU.out.from (Upd.setCell (F := From w.heap.size) w1 (p := ⟨w.heap.size + 1, 0, none⟩) (show w.heap.size ≤ w.heap.size + 1 by omega) _)).from (Upd.setCell (F := From w.heap.size) _ (p := ⟨w.heap.size + 1, 1, none⟩) (show w.heap.size ≤ w.heap.size + 1 by omega) _)).mono (fun i hi h => by unfold From at h; omega)
  · have hk : k = 1 ∨ k = 2 := by
      unfold askE at ha
      simp at ha
      exact ha.1.2
    have a1 : ∀ W, Calls Tryd.prog 96 #[.int .u32 0, .int .i64 o] W fun e w' => e = .returned (VM (0#32 ||| bitB o)) ∧ W = w' := fun W => with_any 0#32 o W
    have a2 : ∀ W, Calls Tryd.prog 48 #[VM (s ||| (0#32 ||| bitB o)), .int .i64 x] W fun e w' => e = .returned (VM (othersE o s x)) ∧ W = w' := fun W => without_any (s ||| (0#32 ||| bitB o)) x W
    have a3 := fun W => with_any (othersE o s x) x W
    have hor := bits_or s (0#32 ||| bitB o)
    have hV2 : k = 2 → r = .tuple #[.agg #[.int .i64 x, .int .u32 0], .int .u8 3, .int .i64 0] := fun h => by rw [← HR.out]; unfold getsV; rw [ha, if_pos rfl, if_pos h]; rfl
    have hV1 : k = 1 → othersE o s x = 0#32 → r = .tuple #[.agg #[.int .i64 x, .int .u32 0], .int .u8 2, .int .i64 0] := fun h h' => by rw [← HR.out]; unfold getsV; rw [ha, if_pos rfl, if_neg (by omega), if_pos h']; rfl
    have hV3 : k = 1 → othersE o s x ≠ 0#32 → r = .tuple #[.agg #[.int .i64 (-1), VM (othersE o s x ||| bitB x)], .int .u8 1, .int .i64 0] := fun h h' => by rw [← HR.out]; unfold getsV; rw [ha, if_pos rfl, if_neg (by omega), if_neg h']
    clear ha HR
    generalize othersE o s x = ot at *
    generalize (0#32 ||| bitB o) = b0 at *
    generalize s ||| b0 = m1 at *
    generalize ot ||| bitB x = m2 at *
    have A1 := Lib.hid a1; have A2 := Lib.hid a2; have A3 := Lib.hid a3
    clear a1 a2 a3
    rcases hk with rfl | rfl
    · by_cases hot : ot = 0#32
      · have hb1 : ((ot.toNat : Int) == 0) = true := by simp [hot]
        have HV := Lib.hid (hV1 rfl hot)
        clear hV1 hV2 hV3 hot
        go_wp2
        obtain ⟨W2, hW2⟩ : ∃ W2, w1.alloc (.cells #[.int .i64 x, .int .u32 0] 59) = W2 := ⟨_, rfl⟩
        have hu2 : Upd NoF w1 W2 := by rw [← hW2]; exact Upd.alloc NoF w1 _
        have b3 : Blk W2 w1.heap.size #[.int .i64 x, .int .u32 0] 59 := by rw [← hW2]; exact Blk.new w1 _ _
        have HU2 := Lib.hid (HU.out.from (hu2.toFrom (B := w.heap.size)))
        have HP1 := Lib.hid (HQ1.out.upd hu2 (fun h => h)); have HP2 := Lib.hid (HQ2.out.upd hu2 (fun h => h)); have HP3 := Lib.hid b3
        rw [hW2]
        clear c0 c1 g0 g1 d0 d1 f0 f1 hu2 hW2 b3
        have c0 : W2.cell? ⟨w.heap.size, 0, none⟩ = some (.int .i64 o) := HP1.out.cell 0
        have c1 : W2.cell? ⟨w.heap.size, 1, none⟩ = some (VM s) := HP1.out.cell 1
        have g0 : W2.cell? ⟨w1.heap.size, 0, none⟩ = some (.int .i64 x) := HP3.out.cell 0
        have g1 : W2.cell? ⟨w1.heap.size, 1, none⟩ = some (.int .u32 0) := HP3.out.cell 1
        have d0 : W2.cell? ⟨w.heap.size + 1, 0, none⟩ = some (.int .i64 0) := HP2.out.cell 0
        have d1 : W2.cell? ⟨w.heap.size + 1, 1, none⟩ = some (.int .u32 0) := HP2.out.cell 1
        have f0 := HP2.out.frozen 0; have f1 := HP2.out.frozen 1
        go_quiet (first | (go_at_call_of 96 o; exact Calls.quiet_of_same ((A1.out _).mono (fun _ _ h => ⟨h.1, h.2.symm⟩))) | (go_at_call_of 48 m1; exact Calls.quiet_of_same ((A2.out _).mono (fun _ _ h => ⟨h.1, h.2.symm⟩))))
        rename_i nq
        go_wp2_with ((go_at_call_of 96 ot; refine (A3.out _).mono ?_; rintro e w' ⟨rfl, rfl⟩))
        have hq := (Blk.set (Blk.upd HP2.out (Upd.drewN NoF W2 nq) (fun h => h)) 0 (.int .i64 x)).set 1 (.int .u32 0)
        have e0 : _ = some (Value.int .i64 x) := hq.cell 0
        have e1 : _ = some (.int .u32 0 : Value) := hq.cell 1
        refine bodyPost_ret (v := .tuple #[.agg #[.int .i64 x, .int .u32 0], .int .u8 2, .int .i64 0]) (by simp [results, Tryd.f81, go_sem, e0, e1]) rfl ⟨by rw [HV.out], ?_⟩
        exact (((HU2.out.from ((Upd.drewN NoF W2 nq).toFrom (B := w.heap.size))).from (Upd.setCell (F := From w.heap.size) _ (p := ⟨w.heap.size + 1, 0, none⟩) (show w.heap.size ≤ w.heap.size + 1 by omega) _)).from (Upd.setCell (F := From w.heap.size) _ (p := ⟨w.heap.size + 1, 1, none⟩) (show w.heap.size ≤ w.heap.size + 1 by omega) _)).mono (fun i hi h => by unfold From at h; omega)
      · have hb1 : ((ot.toNat : Int) == 0) = false := by
          have : ot.toNat ≠ 0 := fun e => hot (BitVec.eq_of_toNat_eq (by simpa using e))
          simp; omega
        have HV := Lib.hid (hV3 rfl hot)
        clear hV1 hV2 hV3 hot
        go_wp2
        obtain ⟨W2, hW2⟩ : ∃ W2, w1.alloc (.cells #[.int .i64 x, .int .u32 0] 59) = W2 := ⟨_, rfl⟩
        have hu2 : Upd NoF w1 W2 := by rw [← hW2]; exact Upd.alloc NoF w1 _
        have b3 : Blk W2 w1.heap.size #[.int .i64 x, .int .u32 0] 59 := by rw [← hW2]; exact Blk.new w1 _ _
        have HU2 := Lib.hid (HU.out.from (hu2.toFrom (B := w.heap.size)))
        have HP1 := Lib.hid (HQ1.out.upd hu2 (fun h => h)); have HP2 := Lib.hid (HQ2.out.upd hu2 (fun h => h)); have HP3 := Lib.hid b3
        rw [hW2]
        clear c0 c1 g0 g1 d0 d1 f0 f1 hu2 hW2 b3
        have c0 : W2.cell? ⟨w.heap.size, 0, none⟩ = some (.int .i64 o) := HP1.out.cell 0
        have c1 : W2.cell? ⟨w.heap.size, 1, none⟩ = some (VM s) := HP1.out.cell 1
        have g0 : W2.cell? ⟨w1.heap.size, 0, none⟩ = some (.int .i64 x) := HP3.out.cell 0
        have g1 : W2.cell? ⟨w1.heap.size, 1, none⟩ = some (.int .u32 0) := HP3.out.cell 1
        have d0 : W2.cell? ⟨w.heap.size + 1, 0, none⟩ = some (.int .i64 0) := HP2.out.cell 0
        have d1 : W2.cell? ⟨w.heap.size + 1, 1, none⟩ = some (.int .u32 0) := HP2.out.cell 1
        have f0 := HP2.out.frozen 0; have f1 := HP2.out.frozen 1
        go_quiet (first | (go_at_call_of 96 o; exact Calls.quiet_of_same ((A1.out _).mono (fun _ _ h => ⟨h.1, h.2.symm⟩))) | (go_at_call_of 48 m1; exact Calls.quiet_of_same ((A2.out _).mono (fun _ _ h => ⟨h.1, h.2.symm⟩))))
        rename_i nq
        go_wp2_with ((go_at_call_of 96 ot; refine (A3.out _).mono ?_; rintro e w' ⟨rfl, rfl⟩))
        have hq := (Blk.set (Blk.upd HP2.out (Upd.drewN NoF W2 nq) (fun h => h)) 0 (.int .i64 (-1))).set 1 (VM m2)
        have e0 : _ = some (Value.int .i64 (-1)) := hq.cell 0
        have e1 : _ = some (VM m2 : Value) := hq.cell 1
        refine bodyPost_ret (v := .tuple #[.agg #[.int .i64 (-1), VM m2], .int .u8 1, .int .i64 0]) (by simp [results, Tryd.f81, go_sem, e0, e1]) rfl ⟨by rw [HV.out], ?_⟩
        exact (((HU2.out.from ((Upd.drewN NoF W2 nq).toFrom (B := w.heap.size))).from (Upd.setCell (F := From w.heap.size) _ (p := ⟨w.heap.size + 1, 0, none⟩) (show w.heap.size ≤ w.heap.size + 1 by omega) _)).from (Upd.setCell (F := From w.heap.size) _ (p := ⟨w.heap.size + 1, 1, none⟩) (show w.heap.size ≤ w.heap.size + 1 by omega) _)).mono (fun i hi h => by unfold From at h; omega)
    · have HV := Lib.hid (hV2 rfl)
      clear hV1 hV2 hV3
      go_wp2
      obtain ⟨W2, hW2⟩ : ∃ W2, w1.alloc (.cells #[.int .i64 x, .int .u32 0] 59) = W2 := ⟨_, rfl⟩
      have hu2 : Upd NoF w1 W2 := by rw [← hW2]; exact Upd.alloc NoF w1 _
      have b3 : Blk W2 w1.heap.size #[.int .i64 x, .int .u32 0] 59 := by rw [← hW2]; exact Blk.new w1 _ _
      have HU2 := Lib.hid (HU.out.from (hu2.toFrom (B := w.heap.size)))
      have HP1 := Lib.hid (HQ1.out.upd hu2 (fun h => h)); have HP2 := Lib.hid (HQ2.out.upd hu2 (fun h => h)); have HP3 := Lib.hid b3
      rw [hW2]
      clear c0 c1 g0 g1 d0 d1 f0 f1 hu2 hW2 b3
      have c0 : W2.cell? ⟨w.heap.size, 0, none⟩ = some (.int .i64 o) := HP1.out.cell 0
      have c1 : W2.cell? ⟨w.heap.size, 1, none⟩ = some (VM s) := HP1.out.cell 1
      have g0 : W2.cell? ⟨w1.heap.size, 0, none⟩ = some (.int .i64 x) := HP3.out.cell 0
      have g1 : W2.cell? ⟨w1.heap.size, 1, none⟩ = some (.int .u32 0) := HP3.out.cell 1
      have d0 : W2.cell? ⟨w.heap.size + 1, 0, none⟩ = some (.int .i64 0) := HP2.out.cell 0
      have d1 : W2.cell? ⟨w.heap.size + 1, 1, none⟩ = some (.int .u32 0) := HP2.out.cell 1
      have f0 := HP2.out.frozen 0; have f1 := HP2.out.frozen 1
      go_quiet (first | (go_at_call_of 96 o; exact Calls.quiet_of_same ((A1.out _).mono (fun _ _ h => ⟨h.1, h.2.symm⟩))) | (go_at_call_of 48 m1; exact Calls.quiet_of_same ((A2.out _).mono (fun _ _ h => ⟨h.1, h.2.symm⟩))))
      rename_i nq
      go_wp2_with ((go_at_call_of 96 ot; refine (A3.out _).mono ?_; rintro e w' ⟨rfl, rfl⟩))
      have hq := (Blk.set (Blk.upd HP2.out (Upd.drewN NoF W2 nq) (fun h => h)) 0 (.int .i64 x)).set 1 (.int .u32 0)
      have e0 : _ = some (Value.int .i64 x) := hq.cell 0
      have e1 : _ = some (.int .u32 0 : Value) := hq.cell 1
      refine bodyPost_ret (v := .tuple #[.agg #[.int .i64 x, .int .u32 0], .int .u8 3, .int .i64 0]) (by simp [results, Tryd.f81, go_sem, e0, e1]) rfl ⟨by rw [HV.out], ?_⟩
      exact (((HU2.out.from ((Upd.drewN NoF W2 nq).toFrom (B := w.heap.size))).from (Upd.setCell (F := From w.heap.size) _ (p := ⟨w.heap.size + 1, 0, none⟩) (show w.heap.size ≤ w.heap.size + 1 by omega) _)).from (Upd.setCell (F := From w.heap.size) _ (p := ⟨w.heap.size + 1, 1, none⟩) (show w.heap.size ≤ w.heap.size + 1 by omega) _)).mono (fun i hi h => by unfold From at h; omega)

theorem mayE_zero {o : Int} {s : Mk} (h : mayE o s = true) (h0 : 0 ≤ o) : s = 0#32 ∧ o ≤ 15 := by
  unfold mayE at h
  simp at h
  rcases h with h | h
  · omega
  · exact ⟨h.2, h.1.2⟩
theorem others_in {o x : Int} {s : Mk} (hm : mayE o s = true) (h0 : 0 ≤ o) (hx : o ≠ x) : othersE o s x = bitB o ∧ bitB o ≠ 0#32 := by
  obtain ⟨rfl, h1⟩ := mayE_zero hm h0
  refine ⟨?_, fun e => by have := (bitB_zero_iff o).1 e; omega⟩
  unfold othersE
  rw [BitVec.zero_or, BitVec.zero_or]
  apply ext_inM
  intro i hi
  simp only [BitVec.getLsbD_and, BitVec.getLsbD_not, hi, decide_true, Bool.true_and]
  by_cases hxr : 0 ≤ x ∧ x ≤ 31
  · rw [bitB_in h0 (by omega), bitB_in hxr.1 hxr.2, BitVec.getLsbD_twoPow, BitVec.getLsbD_twoPow]
    by_cases e : o.toNat = i
    · have : x.toNat ≠ i := by omega
      simp [e, this]
    · simp [e]
  · rw [bitB_out (n := x) (by omega)]; simp
theorem others_out {o x : Int} {s : Mk} (h : o < 0 ∨ o = x) : othersE o s x = s &&& ~~~ bitB x := by
  unfold othersE
  rw [BitVec.zero_or]
  apply ext_inM
  intro i hi
  simp only [BitVec.getLsbD_or, BitVec.getLsbD_and, BitVec.getLsbD_not, hi, decide_true, Bool.true_and]
  rcases h with h | rfl
  · rw [bitB_out (n := o) (by omega)]; simp
  · cases s.getLsbD i <;> cases (bitB o).getLsbD i <;> rfl
theorem out_or (s : Mk) (x : Int) : (s &&& ~~~ bitB x) ||| bitB x = s ||| bitB x := by
  apply ext_inM
  intro i hi
  simp only [BitVec.getLsbD_or, BitVec.getLsbD_and, BitVec.getLsbD_not, hi, decide_true, Bool.true_and]
  cases s.getLsbD i <;> cases (bitB x).getLsbD i <;> rfl

set_option maxRecDepth 100000 in
set_option maxHeartbeats 1000000 in
theorem rgets_e (o : Int) (s : Mk) (k x : Int) (w : World) : Calls Tryd.prog 90 #[VE o s, .int .u8 k, .int .i64 x] w fun e w' => e = .returned (getsV o s k x) ∧ Upd NoF w w' := by
  generalize hr : getsV o s k x = r
  have HR := Lib.hid hr
  clear hr
  skip
  go_enter Tryd.func90, Tryd.ntmps90
  go_wp2_with fail
  obtain ⟨W0, hW0⟩ : ∃ W0, (w.alloc (.cells #[.int .i64 o, VM s] 59)).alloc (.cells #[.int .i64 0, .int .u32 0] 59) = W0 := ⟨_, rfl⟩
  have hU0 : Upd NoF w W0 := by rw [← hW0]; exact (Upd.alloc NoF w _).trans (Upd.alloc NoF _ _) (fun _ _ h => h)
  have b1 : Blk W0 w.heap.size #[.int .i64 o, VM s] 59 := by rw [← hW0]; exact (Blk.new w _ _).alloc _
  have b2 : Blk W0 (w.heap.size + 1) #[.int .i64 0, .int .u32 0] 59 := by
    rw [← hW0]; have := Blk.new (w.alloc (.cells #[.int .i64 o, VM s] 59)) #[.int .i64 0, .int .u32 0] 59
    rwa [World.size_alloc] at this
  rw [hW0]
  clear hW0
  refine (rask_any o s k x W0).mono ?_
  rintro e w1 ⟨rfl, hu⟩
  have HU := Lib.hid ((hU0.trans hu (fun _ _ h => h)).toFrom (B := w.heap.size))
  have HQ1 := Lib.hid (b1.upd hu (fun h => h)); have HQ2 := Lib.hid (b2.upd hu (fun h => h))
  have c0 : w1.cell? ⟨w.heap.size, 0, none⟩ = some (.int .i64 o) := HQ1.out.cell 0
  have c1 : w1.cell? ⟨w.heap.size, 1, none⟩ = some (VM s) := HQ1.out.cell 1
  have g0 := HQ1.out.frozen 0; have g1 := HQ1.out.frozen 1
  have d0 : w1.cell? ⟨w.heap.size + 1, 0, none⟩ = some (.int .i64 0) := HQ2.out.cell 0
  have d1 : w1.cell? ⟨w.heap.size + 1, 1, none⟩ = some (.int .u32 0) := HQ2.out.cell 1
  have f0 := HQ2.out.frozen 0; have f1 := HQ2.out.frozen 1
  clear hu hU0 b1 b2
  cases ha : askE o s k x
  · have HV := Lib.hid (show r = .tuple #[.agg #[.int .i64 0, .int .u32 0], .int .u8 0, .int .i64 2] from by rw [← HR.out]; unfold getsV; rw [ha]; rfl)
    clear ha
    go_wp2
    have hq := (Blk.set HQ2.out 0 (.int .i64 0)).set 1 (.int .u32 0)
    have e0 : _ = some (Value.int .i64 0) := hq.cell 0
    have e1 : _ = some (.int .u32 0 : Value) := hq.cell 1
    refine bodyPost_ret (v := .tuple #[.agg #[.int .i64 0, .int .u32 0], .int .u8 0, .int .i64 2]) (by simp [results, Tryd.f90, go_sem, e0, e1]) rfl ⟨by rw [HV.out], ?_⟩
    exact ((HU.out.from (Upd.setCell (F := From w.heap.size) w1 (p := ⟨w.heap.size + 1, 0, none⟩) (show w.heap.size ≤ w.heap.size + 1 by omega) _)).from (Upd.setCell (F := From w.heap.size) _ (p := ⟨w.heap.size + 1, 1, none⟩) (show w.heap.size ≤ w.heap.size + 1 by omega) _)).mono (fun i hi h => by unfold From at h; omega)
  · obtain ⟨⟨hm, hk⟩, hc⟩ : (mayE o s = true ∧ (k = 1 ∨ k = 2)) ∧ coreB x = true := by
      unfold askE at ha
      simpa using ha
    rcases hk with rfl | rfl
    · by_cases hox : 0 ≤ o ∧ o ≠ x
      · obtain ⟨h0, hx⟩ := hox
        obtain ⟨h1, h2⟩ := others_in hm h0 hx
        have HV := Lib.hid (show r = .tuple #[.agg #[.int .i64 (-1), VM (bitB o ||| bitB x)], .int .u8 1, .int .i64 0] from by rw [← HR.out]; unfold getsV; rw [ha, if_pos rfl, if_neg (by omega), h1, if_neg h2])
        have a1 : ∀ W, Calls Tryd.prog 107 #[.int .u32 0, .int .i64 o] W fun e w' => e = .returned (VM (bitB o)) ∧ W = w' := fun W => by have := rwith_any 0#32 o W; rwa [BitVec.zero_or] at this
        have a2 := fun W => rwith_any (bitB o) x W
        have hb1 : (o != x) = true := by simp [hx]
        clear ha hm hc h1 h2 hx HR
        generalize bitB o = b0 at *
        generalize b0 ||| bitB x = m2 at *
        have A1 := Lib.hid a1; have A2 := Lib.hid a2
        clear a1 a2
        go_wp2_with (first | (go_at_call_of 107 b0; refine (A2.out _).mono ?_; rintro e w' ⟨rfl, rfl⟩) | (go_at_call_of 107 o; refine (A1.out _).mono ?_; rintro e w' ⟨rfl, rfl⟩))
        have hq := (Blk.set HQ2.out 0 (.int .i64 (-1))).set 1 (VM m2)
        have e0 : _ = some (Value.int .i64 (-1)) := hq.cell 0
        have e1 : _ = some (VM m2 : Value) := hq.cell 1
        refine bodyPost_ret (v := .tuple #[.agg #[.int .i64 (-1), VM m2], .int .u8 1, .int .i64 0]) (by simp [results, Tryd.f90, go_sem, e0, e1]) rfl ⟨by rw [HV.out], ?_⟩
        exact ((HU.out.from (Upd.setCell (F := From w.heap.size) w1 (p := ⟨w.heap.size + 1, 0, none⟩) (show w.heap.size ≤ w.heap.size + 1 by omega) _)).from (Upd.setCell (F := From w.heap.size) _ (p := ⟨w.heap.size + 1, 1, none⟩) (show w.heap.size ≤ w.heap.size + 1 by omega) _)).mono (fun i hi h => by unfold From at h; omega)
      · have ho := others_out (s := s) (show o < 0 ∨ o = x by omega)
        have a1 := fun W => rwithout_any s x W
        have a2 := fun W => rwith_any s x W
        have hV1 : s &&& ~~~ bitB x = 0#32 → r = .tuple #[.agg #[.int .i64 x, .int .u32 0], .int .u8 2, .int .i64 0] := fun h' => by rw [← HR.out]; unfold getsV; rw [ha, if_pos rfl, if_neg (by omega), ho, if_pos h']; rfl
        have hV3 : s &&& ~~~ bitB x ≠ 0#32 → r = .tuple #[.agg #[.int .i64 (-1), VM (s ||| bitB x)], .int .u8 1, .int .i64 0] := fun h' => by rw [← HR.out]; unfold getsV; rw [ha, if_pos rfl, if_neg (by omega), ho, if_neg h', out_or]
        clear ha hm hc ho HR
        generalize s &&& ~~~ bitB x = ot at *
        generalize s ||| bitB x = m2 at *
        have A1 := Lib.hid a1; have A2 := Lib.hid a2
        clear a1 a2
        have hb1 : 0 ≤ o → (o != x) = false := fun h => by simp; omega
        by_cases hot : ot = 0#32
        · have hb2 : ((ot.toNat : Int) == 0) = true := by simp [hot]
          have HV := Lib.hid (hV1 hot)
          clear hV1 hV3 hot
          by_cases h0 : 0 ≤ o
          · have hb3 := hb1 h0
            clear hb1 hox
            go_wp2_with (first | (go_at_call_of 70 s; refine (A1.out _).mono ?_; rintro e w' ⟨rfl, rfl⟩) | (go_at_call_of 107 s; refine (A2.out _).mono ?_; rintro e w' ⟨rfl, rfl⟩))
            have hq := (Blk.set HQ2.out 0 (.int .i64 x)).set 1 (.int .u32 0)
            have e0 : _ = some (Value.int .i64 x) := hq.cell 0
            have e1 : _ = some (.int .u32 0 : Value) := hq.cell 1
            refine bodyPost_ret (v := .tuple #[.agg #[.int .i64 x, .int .u32 0], .int .u8 2, .int .i64 0]) (by simp [results, Tryd.f90, go_sem, e0, e1]) rfl ⟨by rw [HV.out], ?_⟩
            exact ((HU.out.from (Upd.setCell (F := From w.heap.size) w1 (p := ⟨w.heap.size + 1, 0, none⟩) (show w.heap.size ≤ w.heap.size + 1 by omega) _)).from (Upd.setCell (F := From w.heap.size) _ (p := ⟨w.heap.size + 1, 1, none⟩) (show w.heap.size ≤ w.heap.size + 1 by omega) _)).mono (fun i hi h => by unfold From at h; omega)
          · clear hb1 hox
            go_wp2_with (first | (go_at_call_of 70 s; refine (A1.out _).mono ?_; rintro e w' ⟨rfl, rfl⟩) | (go_at_call_of 107 s; refine (A2.out _).mono ?_; rintro e w' ⟨rfl, rfl⟩))
            have hq := (Blk.set HQ2.out 0 (.int .i64 x)).set 1 (.int .u32 0)
            have e0 : _ = some (Value.int .i64 x) := hq.cell 0
            have e1 : _ = some (.int .u32 0 : Value) := hq.cell 1
            refine bodyPost_ret (v := .tuple #[.agg #[.int .i64 x, .int .u32 0], .int .u8 2, .int .i64 0]) (by simp [results, Tryd.f90, go_sem, e0, e1]) rfl ⟨by rw [HV.out], ?_⟩
            exact ((HU.out.from (Upd.setCell (F := From w.heap.size) w1 (p := ⟨w.heap.size + 1, 0, none⟩) (show w.heap.size ≤ w.heap.size + 1 by omega) _)).from (Upd.setCell (F := From w.heap.size) _ (p := ⟨w.heap.size + 1, 1, none⟩) (show w.heap.size ≤ w.heap.size + 1 by omega) _)).mono (fun i hi h => by unfold From at h; omega)
        · have hb2 : ((ot.toNat : Int) == 0) = false := by
            have : ot.toNat ≠ 0 := fun e => hot (BitVec.eq_of_toNat_eq (by simpa using e))
            simp; omega
          have HV := Lib.hid (hV3 hot)
          clear hV1 hV3 hot
          by_cases h0 : 0 ≤ o
          · have hb3 := hb1 h0
            clear hb1 hox
            go_wp2_with (first | (go_at_call_of 70 s; refine (A1.out _).mono ?_; rintro e w' ⟨rfl, rfl⟩) | (go_at_call_of 107 s; refine (A2.out _).mono ?_; rintro e w' ⟨rfl, rfl⟩))
            have hq := (Blk.set HQ2.out 0 (.int .i64 (-1))).set 1 (VM m2)
            have e0 : _ = some (Value.int .i64 (-1)) := hq.cell 0
            have e1 : _ = some (VM m2 : Value) := hq.cell 1
            refine bodyPost_ret (v := .tuple #[.agg #[.int .i64 (-1), VM m2], .int .u8 1, .int .i64 0]) (by simp [results, Tryd.f90, go_sem, e0, e1]) rfl ⟨by rw [HV.out], ?_⟩
            exact ((HU.out.from (Upd.setCell (F := From w.heap.size) w1 (p := ⟨w.heap.size + 1, 0, none⟩) (show w.heap.size ≤ w.heap.size + 1 by omega) _)).from (Upd.setCell (F := From w.heap.size) _ (p := ⟨w.heap.size + 1, 1, none⟩) (show w.heap.size ≤ w.heap.size + 1 by omega) _)).mono (fun i hi h => by unfold From at h; omega)
          · clear hb1 hox
            go_wp2_with (first | (go_at_call_of 70 s; refine (A1.out _).mono ?_; rintro e w' ⟨rfl, rfl⟩) | (go_at_call_of 107 s; refine (A2.out _).mono ?_; rintro e w' ⟨rfl, rfl⟩))
            have hq := (Blk.set HQ2.out 0 (.int .i64 (-1))).set 1 (VM m2)
            have e0 : _ = some (Value.int .i64 (-1)) := hq.cell 0
            have e1 : _ = some (VM m2 : Value) := hq.cell 1
            refine bodyPost_ret (v := .tuple #[.agg #[.int .i64 (-1), VM m2], .int .u8 1, .int .i64 0]) (by simp [results, Tryd.f90, go_sem, e0, e1]) rfl ⟨by rw [HV.out], ?_⟩
            exact ((HU.out.from (Upd.setCell (F := From w.heap.size) w1 (p := ⟨w.heap.size + 1, 0, none⟩) (show w.heap.size ≤ w.heap.size + 1 by omega) _)).from (Upd.setCell (F := From w.heap.size) _ (p := ⟨w.heap.size + 1, 1, none⟩) (show w.heap.size ≤ w.heap.size + 1 by omega) _)).mono (fun i hi h => by unfold From at h; omega)
    · have HV := Lib.hid (show r = .tuple #[.agg #[.int .i64 x, .int .u32 0], .int .u8 3, .int .i64 0] from by rw [← HR.out]; unfold getsV; rw [ha, if_pos rfl, if_pos rfl]; rfl)
      clear ha hm hc HR
      go_wp2
      have hq := (Blk.set HQ2.out 0 (.int .i64 x)).set 1 (.int .u32 0)
      have e0 : _ = some (Value.int .i64 x) := hq.cell 0
      have e1 : _ = some (.int .u32 0 : Value) := hq.cell 1
      refine bodyPost_ret (v := .tuple #[.agg #[.int .i64 x, .int .u32 0], .int .u8 3, .int .i64 0]) (by simp [results, Tryd.f90, go_sem, e0, e1]) rfl ⟨by rw [HV.out], ?_⟩
      exact ((HU.out.from (Upd.setCell (F := From w.heap.size) w1 (p := ⟨w.heap.size + 1, 0, none⟩) (show w.heap.size ≤ w.heap.size + 1 by omega) _)).from (Upd.setCell (F := From w.heap.size) _ (p := ⟨w.heap.size + 1, 1, none⟩) (show w.heap.size ≤ w.heap.size + 1 by omega) _)).mono (fun i hi h => by unfold From at h; omega)
end Go.Proofs.YtlhbnndnkcpomaaDoor.ET
