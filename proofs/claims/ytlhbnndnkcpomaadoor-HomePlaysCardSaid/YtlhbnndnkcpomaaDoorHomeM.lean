/- The contracts of package home: New. -/
import Derived.Test.YtlhbnndnkcpomaaDoorHomeN
set_option linter.unusedSimpArgs false
set_option linter.unusedVariables false
namespace Go.Proofs.YtlhbnndnkcpomaaDoor.HO
open Go.RowKit
open BU (IsU words)
open PL (Cfg CC CV May)
open ME (memO sl)
attribute [local go_sem] Oper.semAt_some
section
variable {w0 W W' : World} {hb mb : Nat} {S : Hs} {L : List Obj}
abbrev CT : TypeId := 23
/-- A home that knows nothing. -/
def Hs.new (c : Cfg) (B : Nat → Array Value) : Hs := ⟨c, B, fun _ => En.free, fun _ => none, []⟩
theorem new_good {c : Cfg} (hc : May c) {B : Nat → Array Value} (hB : ∀ i, IsU (B i)) : Good (Hs.new c B) :=
  ⟨hc, hB, fun b k h => (by cases h), fun n h => (by cases h), by have := mul_data hc; show ((0 : Nat) : Int) ≤ c.cores * (c.backs + 1); omega⟩
def bsE (parts : Array (Nat × Value)) : Sem Value := Instr.buildSlice 85 1 parts
theorem bsE_eq (parts : Array (Nat × Value)) : Instr.buildSlice 85 1 parts = bsE parts := rfl
attribute [local go_sem ↓] bsE_eq
theorem bsE_run (w : World) : (bsE #[(0, .agg En.free.cells)]).run Tryd.prog w = .ok (sl w.heap.size 1 1) (w.alloc (.cells En.free.cells ET')) :=
  agg_bs Tryd.underlying85 TEnt.infoZ TEnt.size_Z (by decide) (by decide) rfl w
theorem free_is (w : World) : Calls Tryd.prog 42 #[] w fun e w' => e = .returned (.agg En.free.cells) ∧ Upd NoF w w' := ET.free_any w
theorem cnt_none (n : Nat) : cntJ (fun _ => none) n = 0 := by unfold cntJ; simp
theorem jobF_none : jobF (fun _ => none) = fun _ => none := rfl
theorem mapMade {G : Nat → Prop} {w0 W : World} {L : List Obj} (h : Sep G w0 W L) : Sep G w0 (W.alloc (.map #[] 0)) (GM.mapO jobsT W.heap.size 0 (fun _ => none) :: L) := GM.mapNew jobsT h
section
variable {P : Program} {ops : Array Oper} {Q : Exit → Act → World → Prop} {md : Region.Mode} {S : World → Prop}
/-- Three steps may come up. -/
theorem reg_three {i j k : Nat} {o o' o'' : Oper} {fuel : Nat} {listed : Array Bool} {a : Act} {w : World} (hr : Region.ready md ops listed = [i, j, k]) (ho : ops[i]? = some o) (ho' : ops[j]? = some o') (ho'' : ops[k]? = some o'') (hw : Region.wanted o (yielded ops a.tmps) = true) (hw' : Region.wanted o' (yielded ops a.tmps) = true) (hw'' : Region.wanted o'' (yielded ops a.tmps) = true)
    (h : ∀ K' : Act → World → Prop, Shut (∀ a w, S w → (S w → wpAnyH P md ops Q S fuel (listed.setIfInBounds i true) a w) → K' a w) → Oper.wp P o a w K' Q)
    (h' : ∀ K' : Act → World → Prop, Shut (∀ a w, S w → (S w → wpAnyH P md ops Q S fuel (listed.setIfInBounds j true) a w) → K' a w) → Oper.wp P o' a w K' Q)
    (h'' : ∀ K' : Act → World → Prop, Shut (∀ a w, S w → (S w → wpAnyH P md ops Q S fuel (listed.setIfInBounds k true) a w) → K' a w) → Oper.wp P o'' a w K' Q) : wpAnyH P md ops Q S (fuel + 1) listed a w :=
  wpAnyH_ready hr (by simp) (AllReadyH.cons ho (fun K hK => by rw [if_pos hw]; exact h K hK) (AllReadyH.cons ho' (fun K hK => by rw [if_pos hw']; exact h' K hK) (AllReadyH.cons ho'' (fun K hK => by rw [if_pos hw'']; exact h'' K hK) AllReadyH.nil)))
end
theorem new_nil (c : Cfg) (w : World) : Calls Tryd.prog 12 #[CV c, .pointer none] w fun e w' => e = .returned (.tuple #[.pointer none, .int .i64 1]) ∧ Upd NoF w w' := by
  have HU := Lib.hid (Upd.alloc NoF w (.cells (CC c) CT))
  go_enter Tryd.func12, Tryd.ntmps12
  go_wp2
  go_ret2
  exact ⟨rfl, HU.out⟩
set_option maxRecDepth 100000 in
set_option maxHeartbeats 4000000 in
theorem new_no (c : Cfg) (hc : ¬ May c) (mb : Nat) (W : World) : Calls Tryd.prog 12 #[CV c, ptr mb] W fun e w' => e = .returned (.tuple #[.pointer none, .int .i64 2]) ∧ Upd NoF W w' := by
  have hu := Upd.alloc NoF W (.cells (CC c) CT)
  have q0 := Blk.new W (CC c) CT
  obtain ⟨V, hV⟩ : ∃ V, W.alloc (.cells (CC c) CT) = V := ⟨_, rfl⟩
  rw [hV] at hu q0
  have HV := Lib.hid hV; have HU := Lib.hid hu
  have HM := Lib.hid (fun w => PL.pMay_no c hc w)
  have HF := Lib.hid (fun X (hX : Upd NoF V X) => (show X.cell? ⟨W.heap.size, 0, none⟩ = some (.int .i64 c.cores) ∧ X.cell? ⟨W.heap.size, 1, none⟩ = some (.int .i64 c.sets) ∧ X.cell? ⟨W.heap.size, 2, none⟩ = some (.int .i64 c.ways) ∧ X.cell? ⟨W.heap.size, 3, none⟩ = some (.int .i64 c.blocks) ∧ X.cell? ⟨W.heap.size, 4, none⟩ = some (.int .i64 c.logs) ∧ X.cell? ⟨W.heap.size, 5, none⟩ = some (.int .i64 c.backs) ∧ X.cell? ⟨W.heap.size, 6, none⟩ = some (.int .i64 c.nest) ∧ X.cell? ⟨W.heap.size, 7, none⟩ = some (.int .i64 c.tries) from ⟨(q0.upd hX (fun h => h)).cell 0, (q0.upd hX (fun h => h)).cell 1, (q0.upd hX (fun h => h)).cell 2, (q0.upd hX (fun h => h)).cell 3, (q0.upd hX (fun h => h)).cell 4, (q0.upd hX (fun h => h)).cell 5, (q0.upd hX (fun h => h)).cell 6, (q0.upd hX (fun h => h)).cell 7⟩))
  have HD := Lib.hid (Upd.drew NoF V)
  clear hu q0 hV hc
  go_enter Tryd.func12, Tryd.ntmps12
  go_upto_region 1 with fail
  rw [HV.out]
  go_wp2_with fail
  refine wp_region_held_drew (S := (fun X => Upd NoF V X)) (by kernel_rfl) (HD.out) (fun hHeld => ?_)
  refine rgn 0 (v := ?vq1) hHeld ?yq1 ?_
  case yq1 => (intro w hSw; obtain ⟨k0, k1, k2, k3, k4, k5, k6, k7⟩ := HF.out _ hSw; go_simp; try with_reducible rfl)
  simp only [Act.put, rn1, rn2, rn3, rn4, rn5, rn6]
  refine reg_step (i := 1) (by kernel_rfl) rfl (by kernel_rfl) (fun K hK => ?_)
  go_simp
  refine (HM.out _).mono ?_
  rintro e w2 ⟨rfl, hu2⟩
  have HS : (fun X => Upd NoF V X) w2 := hHeld.trans hu2 (fun _ _ h => h)
  clear hu2
  go_wp2_with fail
  refine hK.out _ _ HS (fun hHeld2 => ?_)
  clear hK hHeld2 hHeld; have hHeld := HS; clear HS
  try simp only [Act.put, rn1, rn2, rn3, rn4, rn5, rn6]
  refine rgn 2 (v := .bool true) hHeld ?yq2 ?_
  case yq2 => (intro w hSw; obtain ⟨k0, k1, k2, k3, k4, k5, k6, k7⟩ := HF.out _ hSw; go_simp; try with_reducible rfl)
  simp only [Act.put, rn1, rn2, rn3, rn4, rn5, rn6]
  refine rgn 3 (v := .bool true) hHeld ?yq3 ?_
  case yq3 => (intro w hSw; obtain ⟨k0, k1, k2, k3, k4, k5, k6, k7⟩ := HF.out _ hSw; go_simp; try with_reducible rfl)
  simp only [Act.put, rn1, rn2, rn3, rn4, rn5, rn6]
  refine reg_off (i := 4) rfl (by kernel_rfl) (by kernel_rfl) (by kernel_rfl) (fun _ _ _ h => h) (by kernel_rfl) hHeld ?_
  simp only [Act.put, rn1, rn2, rn3, rn4, rn5, rn6]
  refine reg_off (i := 5) rfl (by kernel_rfl) (by kernel_rfl) (by kernel_rfl) (fun _ _ _ h => h) (by kernel_rfl) hHeld ?_
  simp only [Act.put, rn1, rn2, rn3, rn4, rn5, rn6]
  refine reg_off (i := 6) rfl (by kernel_rfl) (by kernel_rfl) (by kernel_rfl) (fun _ _ _ h => h) (by kernel_rfl) hHeld ?_
  simp only [Act.put, rn1, rn2, rn3, rn4, rn5, rn6]
  refine reg_off (i := 7) rfl (by kernel_rfl) (by kernel_rfl) (by kernel_rfl) (fun _ _ _ h => h) (by kernel_rfl) hHeld ?_
  simp only [Act.put, rn1, rn2, rn3, rn4, rn5, rn6]
  refine reg_off (i := 8) rfl (by kernel_rfl) (by kernel_rfl) (by kernel_rfl) (fun _ _ _ h => h) (by kernel_rfl) hHeld ?_
  simp only [Act.put, rn1, rn2, rn3, rn4, rn5, rn6]
  refine rgn 9 (v := .bool true) hHeld ?yq4 ?_
  case yq4 => (intro w hSw; go_simp; try with_reducible rfl)
  simp only [Act.put, rn1, rn2, rn3, rn4, rn5, rn6]
  refine wpAnyH_done (by kernel_rfl) ?_ _
  go_wp2
  go_ret2
  exact ⟨rfl, HU.out.trans hHeld (fun _ _ h => h)⟩
set_option maxRecDepth 100000 in
set_option maxHeartbeats 8000000 in
theorem new_yes {n : Nat} {B : Nat → Array Value} (h : Sep NoF w0 W (memO mb n B :: L)) (c : Cfg) (hc : May c) (hn : c.blocks = n) (hB : ∀ i, IsU (B i)) : Calls Tryd.prog 12 #[CV c, ptr mb] W fun e W' =>
    ∃ hb, e = .returned (.tuple #[ptr hb, .int .i64 0]) ∧ Sep NoF w0 W' (homeO hb mb (Hs.new c B) :: L) := by
  have hmd := mul_data hc
  obtain ⟨N, hN⟩ : ∃ N : Nat, c.blocks - c.cores * c.logs = N := ⟨(c.blocks - c.cores * c.logs).toNat, by omega⟩
  obtain ⟨R, hR⟩ : ∃ R : Nat, c.cores * (c.backs + 1) = R := ⟨(c.cores * (c.backs + 1)).toNat, by omega⟩
  have hSn : (Hs.new c B).n = N := by unfold Hs.n Hs.data Hs.new; dsimp only; rw [hN]; rfl
  have hSr : (Hs.new c B).room = R := hR
  have hs1 := h.alloc (CC c) CT
  obtain ⟨V, hV⟩ : ∃ V, W.alloc (.cells (CC c) CT) = V := ⟨_, rfl⟩
  obtain ⟨cx, hcx⟩ : ∃ cx, W.heap.size = cx := ⟨_, rfl⟩
  rw [hV, hcx] at hs1
  have q0 := hs1.box 0 rfl
  have HV := Lib.hid hV; have HCX := Lib.hid hcx; have HS1 := Lib.hid hs1
  have HM := Lib.hid (fun w => PL.pMay_yes c hc w)
  have hDat := fun w => PL.pData_yes c hc w
  rw [hN] at hDat
  have HDAT := Lib.hid hDat
  have HF := Lib.hid (fun X (hX : Upd NoF V X) => (show X.cell? ⟨cx, 0, none⟩ = some (.int .i64 c.cores) ∧ X.cell? ⟨cx, 1, none⟩ = some (.int .i64 c.sets) ∧ X.cell? ⟨cx, 2, none⟩ = some (.int .i64 c.ways) ∧ X.cell? ⟨cx, 3, none⟩ = some (.int .i64 c.blocks) ∧ X.cell? ⟨cx, 4, none⟩ = some (.int .i64 c.logs) ∧ X.cell? ⟨cx, 5, none⟩ = some (.int .i64 c.backs) ∧ X.cell? ⟨cx, 6, none⟩ = some (.int .i64 c.nest) ∧ X.cell? ⟨cx, 7, none⟩ = some (.int .i64 c.tries) from ⟨(q0.upd hX (fun h => h)).cell 0, (q0.upd hX (fun h => h)).cell 1, (q0.upd hX (fun h => h)).cell 2, (q0.upd hX (fun h => h)).cell 3, (q0.upd hX (fun h => h)).cell 4, (q0.upd hX (fun h => h)).cell 5, (q0.upd hX (fun h => h)).cell 6, (q0.upd hX (fun h => h)).cell 7⟩))
  have HBL := Lib.hid (fun X (hX : Upd NoF V X) => ((hs1.upd0 hX).has 1 rfl).elim (fun F hF => hn ▸ ME.blocks_any hF))
  have HD := Lib.hid (Upd.drew NoF V)
  have hw1 : IntKind.i64.wrap (c.backs + 1) = c.backs + 1 := IntWalk.i64_in _ (by have := hc.2.2.2.1; omega)
  have hw2 : IntKind.i64.wrap (c.cores * (c.backs + 1)) = (R : Int) := by rw [hR]; exact IntWalk.i64_in _ (by omega)
  have hR1 : 1 ≤ (R : Int) ∧ (R : Int) ≤ 65536 := by omega
  have hNN : 1 ≤ N ∧ N ≤ 255 := by omega
  have HNR := Lib.hid (And.intro hR1 hNN)
  have hcb : (c.blocks != c.blocks) = false := by simp
  have hFit : ∀ g jb pb, Fits (Hs.new c B) ⟨g, jb, pb, N, #[]⟩ := fun g jb pb => ⟨new_good hc hB, ⟨by rw [hSn]; exact Nat.le_refl _, by unfold maxLen; dsimp only; omega⟩, by rw [hSn]; simp⟩
  have HFIT := Lib.hid hFit
  have HCL : Hid (∀ gr jx pb : Nat, (Hs.new c B).cells mb ⟨gr, jx, pb, N, #[]⟩ = #[.int .i64 c.cores, .int .i64 c.sets, .int .i64 c.ways, .int .i64 c.blocks, .int .i64 c.logs, .int .i64 c.backs, .int .i64 c.nest, .int .i64 c.tries, ptr mb, sl gr N N, .map (some jx), ptr pb]) := Lib.hid (fun gr jx pb => by unfold Hs.cells; rw [hSn]; rfl)
  have HSN := Lib.hid (And.intro hSn (And.intro hSr hn))
  have HNE := Lib.hid (And.intro hN hR)
  clear h hs1 hV hcx q0 hDat hmd hFit hSn hSr hc hR1 hNN hn hN hR
  go_enter Tryd.func12, Tryd.ntmps12
  go_upto_region 1 with fail
  rw [HV.out, HCX.out]
  go_wp2_with fail
  refine wp_region_held_drew (S := (fun X => Upd NoF V X)) (by kernel_rfl) (HD.out) (fun hHeld => ?_)
  refine rgn 0 (v := ?vq5) hHeld ?yq5 ?_
  case yq5 => (intro w hSw; obtain ⟨k0, k1, k2, k3, k4, k5, k6, k7⟩ := HF.out _ hSw; go_simp; try with_reducible rfl)
  simp only [Act.put, rn1, rn2, rn3, rn4, rn5, rn6]
  refine reg_step (i := 1) (by kernel_rfl) rfl (by kernel_rfl) (fun K hK => ?_)
  go_simp
  refine (HM.out _).mono ?_
  rintro e w2 ⟨rfl, hu2⟩
  have HS : (fun X => Upd NoF V X) w2 := hHeld.trans hu2 (fun _ _ h => h)
  clear hu2
  go_wp2_with fail
  refine hK.out _ _ HS (fun hHeld2 => ?_)
  clear hK hHeld2 hHeld; have hHeld := HS; clear HS
  try simp only [Act.put, rn1, rn2, rn3, rn4, rn5, rn6]
  refine rgn 2 (v := .bool false) hHeld ?yq6 ?_
  case yq6 => (intro w hSw; obtain ⟨k0, k1, k2, k3, k4, k5, k6, k7⟩ := HF.out _ hSw; go_simp; try with_reducible rfl)
  simp only [Act.put, rn1, rn2, rn3, rn4, rn5, rn6]
  refine rgn 3 (v := .bool false) hHeld ?yq7 ?_
  case yq7 => (intro w hSw; obtain ⟨k0, k1, k2, k3, k4, k5, k6, k7⟩ := HF.out _ hSw; go_simp; try with_reducible rfl)
  simp only [Act.put, rn1, rn2, rn3, rn4, rn5, rn6]
  refine rgn 4 (v := ?vq8) hHeld ?yq8 ?_
  case yq8 => (intro w hSw; obtain ⟨k0, k1, k2, k3, k4, k5, k6, k7⟩ := HF.out _ hSw; go_simp; try with_reducible rfl)
  simp only [Act.put, rn1, rn2, rn3, rn4, rn5, rn6]
  refine rgn 6 (v := ?vq9) hHeld ?yq9 ?_
  case yq9 => (intro w hSw; obtain ⟨k0, k1, k2, k3, k4, k5, k6, k7⟩ := HF.out _ hSw; go_simp; try with_reducible rfl)
  simp only [Act.put, rn1, rn2, rn3, rn4, rn5, rn6]
  refine rgn 7 (v := ?vq10) hHeld ?yq10 ?_
  case yq10 => (intro w hSw; obtain ⟨k0, k1, k2, k3, k4, k5, k6, k7⟩ := HF.out _ hSw; go_simp; try with_reducible rfl)
  simp only [Act.put, rn1, rn2, rn3, rn4, rn5, rn6]
  refine reg_step (i := 5) (by kernel_rfl) rfl (by kernel_rfl) (fun K hK => ?_)
  go_simp
  refine (HBL.out _ hHeld).mono ?_
  rintro e w3 ⟨rfl, rfl⟩
  have HS := hHeld
  go_wp2_with fail
  refine hK.out _ _ HS (fun hHeld2 => ?_)
  clear hK hHeld2 hHeld; have hHeld := HS; clear HS
  try simp only [Act.put, rn1, rn2, rn3, rn4, rn5, rn6]
  refine rgn 8 (v := .bool false) hHeld ?yq11 ?_
  case yq11 => (intro w hSw; obtain ⟨k0, k1, k2, k3, k4, k5, k6, k7⟩ := HF.out _ hSw; go_simp; try with_reducible rfl)
  simp only [Act.put, rn1, rn2, rn3, rn4, rn5, rn6]
  refine rgn 9 (v := .bool false) hHeld ?yq12 ?_
  case yq12 => (intro w hSw; obtain ⟨k0, k1, k2, k3, k4, k5, k6, k7⟩ := HF.out _ hSw; go_simp; try with_reducible rfl)
  simp only [Act.put, rn1, rn2, rn3, rn4, rn5, rn6]
  refine wpAnyH_done (by kernel_rfl) ?_ _
  obtain ⟨k0, k1, k2, k3, k4, k5, k6, k7⟩ := HF.out _ hHeld
  have HS2 := Lib.hid (HS1.out.upd0 hHeld)
  have HHX := Lib.hid hHeld
  have HP := Lib.hid (PN.new_ok (R : Int) HNR.out.1.1 HNR.out.1.2 w2)
  clear hHeld
  go_wp2_with fail
  refine HP.out.mono ?_
  rintro e w5 ⟨pb, rfl, hu5, hp5⟩
  have HS0 := Lib.hid ((HS2.out.push hu5 hp5).upd0 (Upd.drew NoF w5))
  have HH5 := Lib.hid ((HHX.out.trans hu5 (fun _ _ h => h)).trans (Upd.drew NoF w5) (fun _ _ h => h))
  clear hu5 hp5 k0 k1 k2 k3 k4 k5 k6 k7
  go_wp2_with fail
  refine wp_region_held_drew (S := (fun X => Upd NoF V X)) (by kernel_rfl) (HH5.out) (fun hHeld => ?_)
  refine rgn 0 (v := ?vq13) hHeld ?yq13 ?_
  case yq13 => (intro w hSw; obtain ⟨k0, k1, k2, k3, k4, k5, k6, k7⟩ := HF.out _ hSw; go_simp; try with_reducible rfl)
  simp only [Act.put, rn1, rn2, rn3, rn4, rn5, rn6]
  refine rgn 1 (v := ?vq14) hHeld ?yq14 ?_
  case yq14 => (intro w hSw; obtain ⟨k0, k1, k2, k3, k4, k5, k6, k7⟩ := HF.out _ hSw; go_simp; try with_reducible rfl)
  simp only [Act.put, rn1, rn2, rn3, rn4, rn5, rn6]
  refine rgn 4 (v := ?vq15) hHeld ?yq15 ?_
  case yq15 => (intro w hSw; obtain ⟨k0, k1, k2, k3, k4, k5, k6, k7⟩ := HF.out _ hSw; go_simp; try with_reducible rfl)
  simp only [Act.put, rn1, rn2, rn3, rn4, rn5, rn6]
  refine rgn 8 (v := ?vq16) hHeld ?yq16 ?_
  case yq16 => (intro w hSw; obtain ⟨k0, k1, k2, k3, k4, k5, k6, k7⟩ := HF.out _ hSw; go_simp; try with_reducible rfl)
  simp only [Act.put, rn1, rn2, rn3, rn4, rn5, rn6]
  refine reg_two (i := 2) (j := 7) (by kernel_rfl) rfl rfl (by kernel_rfl) (by kernel_rfl) (fun K hK => ?_) (fun K hK => ?_)
  · go_simp
    refine (free_is _).mono ?_
    rintro e Y1 ⟨rfl, hu0⟩
    have HS1 := Lib.hid (HS0.out.upd0 hu0)
    have HS : (fun X => Upd NoF V X) Y1 := hHeld.trans hu0 (fun _ _ h => h)
    clear hu0
    go_wp2_with fail
    refine hK.out _ _ HS (fun hHeld2 => ?_)
    clear hK hHeld2 hHeld; have hHeld := HS; clear HS
    try simp only [Act.put, rn1, rn2, rn3, rn4, rn5, rn6]
    refine reg_three (i := 3) (j := 5) (k := 7) (by kernel_rfl) rfl rfl rfl (by kernel_rfl) (by kernel_rfl) (by kernel_rfl) (fun K hK => ?_) (fun K hK => ?_) (fun K hK => ?_)
    · have bs1 := bsE_run (Y1)
      go_simp
      have hs1 := HS1.out.alloc En.free.cells ET'
      obtain ⟨Y2, hY1⟩ : ∃ X, (Y1).alloc (.cells En.free.cells ET') = X := ⟨_, rfl⟩
      obtain ⟨gx, hz1⟩ : ∃ g, (Y1).heap.size = g := ⟨_, rfl⟩
      have HS : (fun X => Upd NoF V X) Y2 := by rw [← hY1]; exact hHeld.trans (Upd.alloc NoF _ _) (fun _ _ h => h)
      rw [hY1, hz1] at hs1
      have HS2 := Lib.hid hs1
      simp only [hY1, hz1]
      clear hs1 bs1
      refine hK.out _ _ HS (fun hHeld2 => ?_)
      clear hK hHeld2 hHeld; have hHeld := HS; clear HS
      try simp only [Act.put, rn1, rn2, rn3, rn4, rn5, rn6]
      refine reg_two (i := 5) (j := 7) (by kernel_rfl) rfl rfl (by kernel_rfl) (by kernel_rfl) (fun K hK => ?_) (fun K hK => ?_)
      · go_simp
        refine (HDAT.out _).mono ?_
        rintro e Y3 ⟨rfl, hu2⟩
        have HS3 := Lib.hid (HS2.out.upd0 hu2)
        have HS : (fun X => Upd NoF V X) Y3 := hHeld.trans hu2 (fun _ _ h => h)
        clear hu2
        go_wp2_with fail
        refine hK.out _ _ HS (fun hHeld2 => ?_)
        clear hK hHeld2 hHeld; have hHeld := HS; clear HS
        try simp only [Act.put, rn1, rn2, rn3, rn4, rn5, rn6]
        refine reg_two (i := 6) (j := 7) (by kernel_rfl) rfl rfl (by kernel_rfl) (by kernel_rfl) (fun K hK => ?_) (fun K hK => ?_)
        · go_simp
          refine (RE.repeat_is _ gx En.free.cells (En.isN _) (HS3.out.box 0 rfl) N HNR.out.2.1 HNR.out.2.2).mono ?_
          rintro e Y4 ⟨gr, rfl, hu3, hb3, hg3⟩
          have HS4 := Lib.hid (HS3.out.push (Φ := boxO gr (rowG 2 N (fun _ => En.free.cells)) ET') hu3 ⟨hb3, hg3⟩)
          have HS : (fun X => Upd NoF V X) Y4 := hHeld.trans hu3 (fun _ _ h => h)
          clear hu3 hb3 hg3
          go_wp2_with fail
          refine hK.out _ _ HS (fun hHeld2 => ?_)
          clear hK hHeld2 hHeld; have hHeld := HS; clear HS
          try simp only [Act.put, rn1, rn2, rn3, rn4, rn5, rn6]
          refine reg_step (i := 7) (by kernel_rfl) rfl (by kernel_rfl) (fun K hK => ?_)
          have hmm := @run_makeMap Tryd.prog
          go_simp
          have hs4 := mapMade HS4.out
          obtain ⟨Y5, hY4⟩ : ∃ X, (Y4).alloc (.map #[] 0) = X := ⟨_, rfl⟩
          obtain ⟨jx, hz4⟩ : ∃ g, (Y4).heap.size = g := ⟨_, rfl⟩
          have HS : (fun X => Upd NoF V X) Y5 := by rw [← hY4]; exact hHeld.trans (Upd.alloc NoF _ _) (fun _ _ h => h)
          rw [hY4, hz4] at hs4
          have HS5 := Lib.hid hs4
          simp only [hY4, hz4]
          clear hmm hs4
          refine hK.out _ _ HS (fun hHeld2 => ?_)
          clear hK hHeld2 hHeld; have hHeld := HS; clear HS
          try simp only [Act.put, rn1, rn2, rn3, rn4, rn5, rn6]
          refine rgn 9 (v := ?vq17) hHeld ?yq17 ?_
          case yq17 => (intro w hSw; go_simp; try with_reducible rfl)
          simp only [Act.put, rn1, rn2, rn3, rn4, rn5, rn6]
          refine reg_step (i := 10) (by kernel_rfl) rfl (by kernel_rfl) (fun K hK => ?_)
          go_simp
          have HSB := Lib.hid (HS5.out.alloc #[.int .i64 c.cores, .int .i64 c.sets, .int .i64 c.ways, .int .i64 c.blocks, .int .i64 c.logs, .int .i64 c.backs, .int .i64 c.nest, .int .i64 c.tries, ptr mb, sl gr N N, .map (some jx), ptr pb] HT)
          have HS : (fun X => Upd NoF V X) (Y5.alloc (.cells #[.int .i64 c.cores, .int .i64 c.sets, .int .i64 c.ways, .int .i64 c.blocks, .int .i64 c.logs, .int .i64 c.backs, .int .i64 c.nest, .int .i64 c.tries, ptr mb, sl gr N N, .map (some jx), ptr pb] HT)) := hHeld.trans (Upd.alloc NoF _ _) (fun _ _ h => h)
          refine hK.out _ _ HS (fun hHeld2 => ?_)
          clear hK hHeld2 hHeld; have hHeld := HS; clear HS
          try simp only [Act.put, rn1, rn2, rn3, rn4, rn5, rn6]
          refine rgn 11 (v := ?vq18) hHeld ?yq18 ?_
          case yq18 => (intro w hSw; go_simp; try with_reducible rfl)
          simp only [Act.put, rn1, rn2, rn3, rn4, rn5, rn6]
          refine rgn 12 (v := ?vq19) hHeld ?yq19 ?_
          case yq19 => (intro w hSw; go_simp; try with_reducible rfl)
          simp only [Act.put, rn1, rn2, rn3, rn4, rn5, rn6]
          refine wpAnyH_done (by kernel_rfl) ?_ _
          clear hHeld
          go_wp2
          go_ret2
          refine ⟨Y5.heap.size, ?_, ?_⟩
          · rfl
          · have p0 := Sep.pick (HSB.out) 4 rfl
            have p1 := Sep.pick (p0) 2 rfl
            have p2 := Sep.pick (p1) 3 rfl
            have p3 := Sep.pick (p2) 6 rfl
            have p4 := Sep.pick (p3) 4 rfl
            have hsn := HSN.out
            have p9 : Sep NoF w0 (Y5.alloc (.cells #[.int .i64 c.cores, .int .i64 c.sets, .int .i64 c.ways, .int .i64 c.blocks, .int .i64 c.logs, .int .i64 c.backs, .int .i64 c.nest, .int .i64 c.tries, ptr mb, sl gr N N, .map (some jx), ptr pb] HT)) ((Hs.new c B).objs Y5.heap.size mb ⟨gr, jx, pb, N, #[]⟩ (boxO gx En.free.cells ET' :: boxO cx (CC c) CT :: L)) := by
              unfold Hs.objs
              rw [HCL.out gr jx pb, hsn.1, hsn.2.1, show (Hs.new c B).c.blocks.toNat = n by show c.blocks.toNat = n; rw [hsn.2.2]; rfl, Array.append_empty, show cntJ (Hs.new c B).J N = 0 from cnt_none N]
              exact p4
            exact ((home_shut (HFIT.out gr jx pb) p9).drop 1 (by simp)).drop 1 (by simp)
        · have hmm := @run_makeMap Tryd.prog
          go_simp
          have hs3 := mapMade HS3.out
          obtain ⟨Y4, hY3⟩ : ∃ X, (Y3).alloc (.map #[] 0) = X := ⟨_, rfl⟩
          obtain ⟨jx, hz3⟩ : ∃ g, (Y3).heap.size = g := ⟨_, rfl⟩
          have HS : (fun X => Upd NoF V X) Y4 := by rw [← hY3]; exact hHeld.trans (Upd.alloc NoF _ _) (fun _ _ h => h)
          rw [hY3, hz3] at hs3
          have HS4 := Lib.hid hs3
          simp only [hY3, hz3]
          clear hmm hs3
          refine hK.out _ _ HS (fun hHeld2 => ?_)
          clear hK hHeld2 hHeld; have hHeld := HS; clear HS
          try simp only [Act.put, rn1, rn2, rn3, rn4, rn5, rn6]
          refine reg_step (i := 6) (by kernel_rfl) rfl (by kernel_rfl) (fun K hK => ?_)
          go_simp
          refine (RE.repeat_is _ gx En.free.cells (En.isN _) (HS4.out.box 1 rfl) N HNR.out.2.1 HNR.out.2.2).mono ?_
          rintro e Y5 ⟨gr, rfl, hu4, hb4, hg4⟩
          have HS5 := Lib.hid (HS4.out.push (Φ := boxO gr (rowG 2 N (fun _ => En.free.cells)) ET') hu4 ⟨hb4, hg4⟩)
          have HS : (fun X => Upd NoF V X) Y5 := hHeld.trans hu4 (fun _ _ h => h)
          clear hu4 hb4 hg4
          go_wp2_with fail
          refine hK.out _ _ HS (fun hHeld2 => ?_)
          clear hK hHeld2 hHeld; have hHeld := HS; clear HS
          try simp only [Act.put, rn1, rn2, rn3, rn4, rn5, rn6]
          refine rgn 9 (v := ?vq20) hHeld ?yq20 ?_
          case yq20 => (intro w hSw; go_simp; try with_reducible rfl)
          simp only [Act.put, rn1, rn2, rn3, rn4, rn5, rn6]
          refine reg_step (i := 10) (by kernel_rfl) rfl (by kernel_rfl) (fun K hK => ?_)
          go_simp
          have HSB := Lib.hid (HS5.out.alloc #[.int .i64 c.cores, .int .i64 c.sets, .int .i64 c.ways, .int .i64 c.blocks, .int .i64 c.logs, .int .i64 c.backs, .int .i64 c.nest, .int .i64 c.tries, ptr mb, sl gr N N, .map (some jx), ptr pb] HT)
          have HS : (fun X => Upd NoF V X) (Y5.alloc (.cells #[.int .i64 c.cores, .int .i64 c.sets, .int .i64 c.ways, .int .i64 c.blocks, .int .i64 c.logs, .int .i64 c.backs, .int .i64 c.nest, .int .i64 c.tries, ptr mb, sl gr N N, .map (some jx), ptr pb] HT)) := hHeld.trans (Upd.alloc NoF _ _) (fun _ _ h => h)
          refine hK.out _ _ HS (fun hHeld2 => ?_)
          clear hK hHeld2 hHeld; have hHeld := HS; clear HS
          try simp only [Act.put, rn1, rn2, rn3, rn4, rn5, rn6]
          refine rgn 11 (v := ?vq21) hHeld ?yq21 ?_
          case yq21 => (intro w hSw; go_simp; try with_reducible rfl)
          simp only [Act.put, rn1, rn2, rn3, rn4, rn5, rn6]
          refine rgn 12 (v := ?vq22) hHeld ?yq22 ?_
          case yq22 => (intro w hSw; go_simp; try with_reducible rfl)
          simp only [Act.put, rn1, rn2, rn3, rn4, rn5, rn6]
          refine wpAnyH_done (by kernel_rfl) ?_ _
          clear hHeld
          go_wp2
          go_ret2
          refine ⟨Y5.heap.size, ?_, ?_⟩
          · rfl
          · have p0 := Sep.pick (HSB.out) 4 rfl
            have p1 := Sep.pick (p0) 3 rfl
            have p2 := Sep.pick (p1) 3 rfl
            have p3 := Sep.pick (p2) 6 rfl
            have p4 := Sep.pick (p3) 4 rfl
            have hsn := HSN.out
            have p9 : Sep NoF w0 (Y5.alloc (.cells #[.int .i64 c.cores, .int .i64 c.sets, .int .i64 c.ways, .int .i64 c.blocks, .int .i64 c.logs, .int .i64 c.backs, .int .i64 c.nest, .int .i64 c.tries, ptr mb, sl gr N N, .map (some jx), ptr pb] HT)) ((Hs.new c B).objs Y5.heap.size mb ⟨gr, jx, pb, N, #[]⟩ (boxO gx En.free.cells ET' :: boxO cx (CC c) CT :: L)) := by
              unfold Hs.objs
              rw [HCL.out gr jx pb, hsn.1, hsn.2.1, show (Hs.new c B).c.blocks.toNat = n by show c.blocks.toNat = n; rw [hsn.2.2]; rfl, Array.append_empty, show cntJ (Hs.new c B).J N = 0 from cnt_none N]
              exact p4
            exact ((home_shut (HFIT.out gr jx pb) p9).drop 1 (by simp)).drop 1 (by simp)
      · have hmm := @run_makeMap Tryd.prog
        go_simp
        have hs2 := mapMade HS2.out
        obtain ⟨Y3, hY2⟩ : ∃ X, (Y2).alloc (.map #[] 0) = X := ⟨_, rfl⟩
        obtain ⟨jx, hz2⟩ : ∃ g, (Y2).heap.size = g := ⟨_, rfl⟩
        have HS : (fun X => Upd NoF V X) Y3 := by rw [← hY2]; exact hHeld.trans (Upd.alloc NoF _ _) (fun _ _ h => h)
        rw [hY2, hz2] at hs2
        have HS3 := Lib.hid hs2
        simp only [hY2, hz2]
        clear hmm hs2
        refine hK.out _ _ HS (fun hHeld2 => ?_)
        clear hK hHeld2 hHeld; have hHeld := HS; clear HS
        try simp only [Act.put, rn1, rn2, rn3, rn4, rn5, rn6]
        refine reg_step (i := 5) (by kernel_rfl) rfl (by kernel_rfl) (fun K hK => ?_)
        go_simp
        refine (HDAT.out _).mono ?_
        rintro e Y4 ⟨rfl, hu3⟩
        have HS4 := Lib.hid (HS3.out.upd0 hu3)
        have HS : (fun X => Upd NoF V X) Y4 := hHeld.trans hu3 (fun _ _ h => h)
        clear hu3
        go_wp2_with fail
        refine hK.out _ _ HS (fun hHeld2 => ?_)
        clear hK hHeld2 hHeld; have hHeld := HS; clear HS
        try simp only [Act.put, rn1, rn2, rn3, rn4, rn5, rn6]
        refine reg_step (i := 6) (by kernel_rfl) rfl (by kernel_rfl) (fun K hK => ?_)
        go_simp
        refine (RE.repeat_is _ gx En.free.cells (En.isN _) (HS4.out.box 1 rfl) N HNR.out.2.1 HNR.out.2.2).mono ?_
        rintro e Y5 ⟨gr, rfl, hu4, hb4, hg4⟩
        have HS5 := Lib.hid (HS4.out.push (Φ := boxO gr (rowG 2 N (fun _ => En.free.cells)) ET') hu4 ⟨hb4, hg4⟩)
        have HS : (fun X => Upd NoF V X) Y5 := hHeld.trans hu4 (fun _ _ h => h)
        clear hu4 hb4 hg4
        go_wp2_with fail
        refine hK.out _ _ HS (fun hHeld2 => ?_)
        clear hK hHeld2 hHeld; have hHeld := HS; clear HS
        try simp only [Act.put, rn1, rn2, rn3, rn4, rn5, rn6]
        refine rgn 9 (v := ?vq23) hHeld ?yq23 ?_
        case yq23 => (intro w hSw; go_simp; try with_reducible rfl)
        simp only [Act.put, rn1, rn2, rn3, rn4, rn5, rn6]
        refine reg_step (i := 10) (by kernel_rfl) rfl (by kernel_rfl) (fun K hK => ?_)
        go_simp
        have HSB := Lib.hid (HS5.out.alloc #[.int .i64 c.cores, .int .i64 c.sets, .int .i64 c.ways, .int .i64 c.blocks, .int .i64 c.logs, .int .i64 c.backs, .int .i64 c.nest, .int .i64 c.tries, ptr mb, sl gr N N, .map (some jx), ptr pb] HT)
        have HS : (fun X => Upd NoF V X) (Y5.alloc (.cells #[.int .i64 c.cores, .int .i64 c.sets, .int .i64 c.ways, .int .i64 c.blocks, .int .i64 c.logs, .int .i64 c.backs, .int .i64 c.nest, .int .i64 c.tries, ptr mb, sl gr N N, .map (some jx), ptr pb] HT)) := hHeld.trans (Upd.alloc NoF _ _) (fun _ _ h => h)
        refine hK.out _ _ HS (fun hHeld2 => ?_)
        clear hK hHeld2 hHeld; have hHeld := HS; clear HS
        try simp only [Act.put, rn1, rn2, rn3, rn4, rn5, rn6]
        refine rgn 11 (v := ?vq24) hHeld ?yq24 ?_
        case yq24 => (intro w hSw; go_simp; try with_reducible rfl)
        simp only [Act.put, rn1, rn2, rn3, rn4, rn5, rn6]
        refine rgn 12 (v := ?vq25) hHeld ?yq25 ?_
        case yq25 => (intro w hSw; go_simp; try with_reducible rfl)
        simp only [Act.put, rn1, rn2, rn3, rn4, rn5, rn6]
        refine wpAnyH_done (by kernel_rfl) ?_ _
        clear hHeld
        go_wp2
        go_ret2
        refine ⟨Y5.heap.size, ?_, ?_⟩
        · rfl
        · have p0 := Sep.pick (HSB.out) 4 rfl
          have p1 := Sep.pick (p0) 3 rfl
          have p2 := Sep.pick (p1) 3 rfl
          have p3 := Sep.pick (p2) 6 rfl
          have p4 := Sep.pick (p3) 4 rfl
          have hsn := HSN.out
          have p9 : Sep NoF w0 (Y5.alloc (.cells #[.int .i64 c.cores, .int .i64 c.sets, .int .i64 c.ways, .int .i64 c.blocks, .int .i64 c.logs, .int .i64 c.backs, .int .i64 c.nest, .int .i64 c.tries, ptr mb, sl gr N N, .map (some jx), ptr pb] HT)) ((Hs.new c B).objs Y5.heap.size mb ⟨gr, jx, pb, N, #[]⟩ (boxO gx En.free.cells ET' :: boxO cx (CC c) CT :: L)) := by
            unfold Hs.objs
            rw [HCL.out gr jx pb, hsn.1, hsn.2.1, show (Hs.new c B).c.blocks.toNat = n by show c.blocks.toNat = n; rw [hsn.2.2]; rfl, Array.append_empty, show cntJ (Hs.new c B).J N = 0 from cnt_none N]
            exact p4
          exact ((home_shut (HFIT.out gr jx pb) p9).drop 1 (by simp)).drop 1 (by simp)
    · go_simp
      refine (HDAT.out _).mono ?_
      rintro e Y2 ⟨rfl, hu1⟩
      have HS2 := Lib.hid (HS1.out.upd0 hu1)
      have HS : (fun X => Upd NoF V X) Y2 := hHeld.trans hu1 (fun _ _ h => h)
      clear hu1
      go_wp2_with fail
      refine hK.out _ _ HS (fun hHeld2 => ?_)
      clear hK hHeld2 hHeld; have hHeld := HS; clear HS
      try simp only [Act.put, rn1, rn2, rn3, rn4, rn5, rn6]
      refine reg_two (i := 3) (j := 7) (by kernel_rfl) rfl rfl (by kernel_rfl) (by kernel_rfl) (fun K hK => ?_) (fun K hK => ?_)
      · have bs2 := bsE_run (Y2)
        go_simp
        have hs2 := HS2.out.alloc En.free.cells ET'
        obtain ⟨Y3, hY2⟩ : ∃ X, (Y2).alloc (.cells En.free.cells ET') = X := ⟨_, rfl⟩
        obtain ⟨gx, hz2⟩ : ∃ g, (Y2).heap.size = g := ⟨_, rfl⟩
        have HS : (fun X => Upd NoF V X) Y3 := by rw [← hY2]; exact hHeld.trans (Upd.alloc NoF _ _) (fun _ _ h => h)
        rw [hY2, hz2] at hs2
        have HS3 := Lib.hid hs2
        simp only [hY2, hz2]
        clear hs2 bs2
        refine hK.out _ _ HS (fun hHeld2 => ?_)
        clear hK hHeld2 hHeld; have hHeld := HS; clear HS
        try simp only [Act.put, rn1, rn2, rn3, rn4, rn5, rn6]
        refine reg_two (i := 6) (j := 7) (by kernel_rfl) rfl rfl (by kernel_rfl) (by kernel_rfl) (fun K hK => ?_) (fun K hK => ?_)
        · go_simp
          refine (RE.repeat_is _ gx En.free.cells (En.isN _) (HS3.out.box 0 rfl) N HNR.out.2.1 HNR.out.2.2).mono ?_
          rintro e Y4 ⟨gr, rfl, hu3, hb3, hg3⟩
          have HS4 := Lib.hid (HS3.out.push (Φ := boxO gr (rowG 2 N (fun _ => En.free.cells)) ET') hu3 ⟨hb3, hg3⟩)
          have HS : (fun X => Upd NoF V X) Y4 := hHeld.trans hu3 (fun _ _ h => h)
          clear hu3 hb3 hg3
          go_wp2_with fail
          refine hK.out _ _ HS (fun hHeld2 => ?_)
          clear hK hHeld2 hHeld; have hHeld := HS; clear HS
          try simp only [Act.put, rn1, rn2, rn3, rn4, rn5, rn6]
          refine reg_step (i := 7) (by kernel_rfl) rfl (by kernel_rfl) (fun K hK => ?_)
          have hmm := @run_makeMap Tryd.prog
          go_simp
          have hs4 := mapMade HS4.out
          obtain ⟨Y5, hY4⟩ : ∃ X, (Y4).alloc (.map #[] 0) = X := ⟨_, rfl⟩
          obtain ⟨jx, hz4⟩ : ∃ g, (Y4).heap.size = g := ⟨_, rfl⟩
          have HS : (fun X => Upd NoF V X) Y5 := by rw [← hY4]; exact hHeld.trans (Upd.alloc NoF _ _) (fun _ _ h => h)
          rw [hY4, hz4] at hs4
          have HS5 := Lib.hid hs4
          simp only [hY4, hz4]
          clear hmm hs4
          refine hK.out _ _ HS (fun hHeld2 => ?_)
          clear hK hHeld2 hHeld; have hHeld := HS; clear HS
          try simp only [Act.put, rn1, rn2, rn3, rn4, rn5, rn6]
          refine rgn 9 (v := ?vq26) hHeld ?yq26 ?_
          case yq26 => (intro w hSw; go_simp; try with_reducible rfl)
          simp only [Act.put, rn1, rn2, rn3, rn4, rn5, rn6]
          refine reg_step (i := 10) (by kernel_rfl) rfl (by kernel_rfl) (fun K hK => ?_)
          go_simp
          have HSB := Lib.hid (HS5.out.alloc #[.int .i64 c.cores, .int .i64 c.sets, .int .i64 c.ways, .int .i64 c.blocks, .int .i64 c.logs, .int .i64 c.backs, .int .i64 c.nest, .int .i64 c.tries, ptr mb, sl gr N N, .map (some jx), ptr pb] HT)
          have HS : (fun X => Upd NoF V X) (Y5.alloc (.cells #[.int .i64 c.cores, .int .i64 c.sets, .int .i64 c.ways, .int .i64 c.blocks, .int .i64 c.logs, .int .i64 c.backs, .int .i64 c.nest, .int .i64 c.tries, ptr mb, sl gr N N, .map (some jx), ptr pb] HT)) := hHeld.trans (Upd.alloc NoF _ _) (fun _ _ h => h)
          refine hK.out _ _ HS (fun hHeld2 => ?_)
          clear hK hHeld2 hHeld; have hHeld := HS; clear HS
          try simp only [Act.put, rn1, rn2, rn3, rn4, rn5, rn6]
          refine rgn 11 (v := ?vq27) hHeld ?yq27 ?_
          case yq27 => (intro w hSw; go_simp; try with_reducible rfl)
          simp only [Act.put, rn1, rn2, rn3, rn4, rn5, rn6]
          refine rgn 12 (v := ?vq28) hHeld ?yq28 ?_
          case yq28 => (intro w hSw; go_simp; try with_reducible rfl)
          simp only [Act.put, rn1, rn2, rn3, rn4, rn5, rn6]
          refine wpAnyH_done (by kernel_rfl) ?_ _
          clear hHeld
          go_wp2
          go_ret2
          refine ⟨Y5.heap.size, ?_, ?_⟩
          · rfl
          · have p0 := Sep.pick (HSB.out) 4 rfl
            have p1 := Sep.pick (p0) 2 rfl
            have p2 := Sep.pick (p1) 3 rfl
            have p3 := Sep.pick (p2) 6 rfl
            have p4 := Sep.pick (p3) 4 rfl
            have hsn := HSN.out
            have p9 : Sep NoF w0 (Y5.alloc (.cells #[.int .i64 c.cores, .int .i64 c.sets, .int .i64 c.ways, .int .i64 c.blocks, .int .i64 c.logs, .int .i64 c.backs, .int .i64 c.nest, .int .i64 c.tries, ptr mb, sl gr N N, .map (some jx), ptr pb] HT)) ((Hs.new c B).objs Y5.heap.size mb ⟨gr, jx, pb, N, #[]⟩ (boxO gx En.free.cells ET' :: boxO cx (CC c) CT :: L)) := by
              unfold Hs.objs
              rw [HCL.out gr jx pb, hsn.1, hsn.2.1, show (Hs.new c B).c.blocks.toNat = n by show c.blocks.toNat = n; rw [hsn.2.2]; rfl, Array.append_empty, show cntJ (Hs.new c B).J N = 0 from cnt_none N]
              exact p4
            exact ((home_shut (HFIT.out gr jx pb) p9).drop 1 (by simp)).drop 1 (by simp)
        · have hmm := @run_makeMap Tryd.prog
          go_simp
          have hs3 := mapMade HS3.out
          obtain ⟨Y4, hY3⟩ : ∃ X, (Y3).alloc (.map #[] 0) = X := ⟨_, rfl⟩
          obtain ⟨jx, hz3⟩ : ∃ g, (Y3).heap.size = g := ⟨_, rfl⟩
          have HS : (fun X => Upd NoF V X) Y4 := by rw [← hY3]; exact hHeld.trans (Upd.alloc NoF _ _) (fun _ _ h => h)
          rw [hY3, hz3] at hs3
          have HS4 := Lib.hid hs3
          simp only [hY3, hz3]
          clear hmm hs3
          refine hK.out _ _ HS (fun hHeld2 => ?_)
          clear hK hHeld2 hHeld; have hHeld := HS; clear HS
          try simp only [Act.put, rn1, rn2, rn3, rn4, rn5, rn6]
          refine reg_step (i := 6) (by kernel_rfl) rfl (by kernel_rfl) (fun K hK => ?_)
          go_simp
          refine (RE.repeat_is _ gx En.free.cells (En.isN _) (HS4.out.box 1 rfl) N HNR.out.2.1 HNR.out.2.2).mono ?_
          rintro e Y5 ⟨gr, rfl, hu4, hb4, hg4⟩
          have HS5 := Lib.hid (HS4.out.push (Φ := boxO gr (rowG 2 N (fun _ => En.free.cells)) ET') hu4 ⟨hb4, hg4⟩)
          have HS : (fun X => Upd NoF V X) Y5 := hHeld.trans hu4 (fun _ _ h => h)
          clear hu4 hb4 hg4
          go_wp2_with fail
          refine hK.out _ _ HS (fun hHeld2 => ?_)
          clear hK hHeld2 hHeld; have hHeld := HS; clear HS
          try simp only [Act.put, rn1, rn2, rn3, rn4, rn5, rn6]
          refine rgn 9 (v := ?vq29) hHeld ?yq29 ?_
          case yq29 => (intro w hSw; go_simp; try with_reducible rfl)
          simp only [Act.put, rn1, rn2, rn3, rn4, rn5, rn6]
          refine reg_step (i := 10) (by kernel_rfl) rfl (by kernel_rfl) (fun K hK => ?_)
          go_simp
          have HSB := Lib.hid (HS5.out.alloc #[.int .i64 c.cores, .int .i64 c.sets, .int .i64 c.ways, .int .i64 c.blocks, .int .i64 c.logs, .int .i64 c.backs, .int .i64 c.nest, .int .i64 c.tries, ptr mb, sl gr N N, .map (some jx), ptr pb] HT)
          have HS : (fun X => Upd NoF V X) (Y5.alloc (.cells #[.int .i64 c.cores, .int .i64 c.sets, .int .i64 c.ways, .int .i64 c.blocks, .int .i64 c.logs, .int .i64 c.backs, .int .i64 c.nest, .int .i64 c.tries, ptr mb, sl gr N N, .map (some jx), ptr pb] HT)) := hHeld.trans (Upd.alloc NoF _ _) (fun _ _ h => h)
          refine hK.out _ _ HS (fun hHeld2 => ?_)
          clear hK hHeld2 hHeld; have hHeld := HS; clear HS
          try simp only [Act.put, rn1, rn2, rn3, rn4, rn5, rn6]
          refine rgn 11 (v := ?vq30) hHeld ?yq30 ?_
          case yq30 => (intro w hSw; go_simp; try with_reducible rfl)
          simp only [Act.put, rn1, rn2, rn3, rn4, rn5, rn6]
          refine rgn 12 (v := ?vq31) hHeld ?yq31 ?_
          case yq31 => (intro w hSw; go_simp; try with_reducible rfl)
          simp only [Act.put, rn1, rn2, rn3, rn4, rn5, rn6]
          refine wpAnyH_done (by kernel_rfl) ?_ _
          clear hHeld
          go_wp2
          go_ret2
          refine ⟨Y5.heap.size, ?_, ?_⟩
          · rfl
          · have p0 := Sep.pick (HSB.out) 4 rfl
            have p1 := Sep.pick (p0) 3 rfl
            have p2 := Sep.pick (p1) 3 rfl
            have p3 := Sep.pick (p2) 6 rfl
            have p4 := Sep.pick (p3) 4 rfl
            have hsn := HSN.out
            have p9 : Sep NoF w0 (Y5.alloc (.cells #[.int .i64 c.cores, .int .i64 c.sets, .int .i64 c.ways, .int .i64 c.blocks, .int .i64 c.logs, .int .i64 c.backs, .int .i64 c.nest, .int .i64 c.tries, ptr mb, sl gr N N, .map (some jx), ptr pb] HT)) ((Hs.new c B).objs Y5.heap.size mb ⟨gr, jx, pb, N, #[]⟩ (boxO gx En.free.cells ET' :: boxO cx (CC c) CT :: L)) := by
              unfold Hs.objs
              rw [HCL.out gr jx pb, hsn.1, hsn.2.1, show (Hs.new c B).c.blocks.toNat = n by show c.blocks.toNat = n; rw [hsn.2.2]; rfl, Array.append_empty, show cntJ (Hs.new c B).J N = 0 from cnt_none N]
              exact p4
            exact ((home_shut (HFIT.out gr jx pb) p9).drop 1 (by simp)).drop 1 (by simp)
      · have hmm := @run_makeMap Tryd.prog
        go_simp
        have hs2 := mapMade HS2.out
        obtain ⟨Y3, hY2⟩ : ∃ X, (Y2).alloc (.map #[] 0) = X := ⟨_, rfl⟩
        obtain ⟨jx, hz2⟩ : ∃ g, (Y2).heap.size = g := ⟨_, rfl⟩
        have HS : (fun X => Upd NoF V X) Y3 := by rw [← hY2]; exact hHeld.trans (Upd.alloc NoF _ _) (fun _ _ h => h)
        rw [hY2, hz2] at hs2
        have HS3 := Lib.hid hs2
        simp only [hY2, hz2]
        clear hmm hs2
        refine hK.out _ _ HS (fun hHeld2 => ?_)
        clear hK hHeld2 hHeld; have hHeld := HS; clear HS
        try simp only [Act.put, rn1, rn2, rn3, rn4, rn5, rn6]
        refine reg_step (i := 3) (by kernel_rfl) rfl (by kernel_rfl) (fun K hK => ?_)
        have bs3 := bsE_run (Y3)
        go_simp
        have hs3 := HS3.out.alloc En.free.cells ET'
        obtain ⟨Y4, hY3⟩ : ∃ X, (Y3).alloc (.cells En.free.cells ET') = X := ⟨_, rfl⟩
        obtain ⟨gx, hz3⟩ : ∃ g, (Y3).heap.size = g := ⟨_, rfl⟩
        have HS : (fun X => Upd NoF V X) Y4 := by rw [← hY3]; exact hHeld.trans (Upd.alloc NoF _ _) (fun _ _ h => h)
        rw [hY3, hz3] at hs3
        have HS4 := Lib.hid hs3
        simp only [hY3, hz3]
        clear hs3 bs3
        refine hK.out _ _ HS (fun hHeld2 => ?_)
        clear hK hHeld2 hHeld; have hHeld := HS; clear HS
        try simp only [Act.put, rn1, rn2, rn3, rn4, rn5, rn6]
        refine reg_step (i := 6) (by kernel_rfl) rfl (by kernel_rfl) (fun K hK => ?_)
        go_simp
        refine (RE.repeat_is _ gx En.free.cells (En.isN _) (HS4.out.box 0 rfl) N HNR.out.2.1 HNR.out.2.2).mono ?_
        rintro e Y5 ⟨gr, rfl, hu4, hb4, hg4⟩
        have HS5 := Lib.hid (HS4.out.push (Φ := boxO gr (rowG 2 N (fun _ => En.free.cells)) ET') hu4 ⟨hb4, hg4⟩)
        have HS : (fun X => Upd NoF V X) Y5 := hHeld.trans hu4 (fun _ _ h => h)
        clear hu4 hb4 hg4
        go_wp2_with fail
        refine hK.out _ _ HS (fun hHeld2 => ?_)
        clear hK hHeld2 hHeld; have hHeld := HS; clear HS
        try simp only [Act.put, rn1, rn2, rn3, rn4, rn5, rn6]
        refine rgn 9 (v := ?vq32) hHeld ?yq32 ?_
        case yq32 => (intro w hSw; go_simp; try with_reducible rfl)
        simp only [Act.put, rn1, rn2, rn3, rn4, rn5, rn6]
        refine reg_step (i := 10) (by kernel_rfl) rfl (by kernel_rfl) (fun K hK => ?_)
        go_simp
        have HSB := Lib.hid (HS5.out.alloc #[.int .i64 c.cores, .int .i64 c.sets, .int .i64 c.ways, .int .i64 c.blocks, .int .i64 c.logs, .int .i64 c.backs, .int .i64 c.nest, .int .i64 c.tries, ptr mb, sl gr N N, .map (some jx), ptr pb] HT)
        have HS : (fun X => Upd NoF V X) (Y5.alloc (.cells #[.int .i64 c.cores, .int .i64 c.sets, .int .i64 c.ways, .int .i64 c.blocks, .int .i64 c.logs, .int .i64 c.backs, .int .i64 c.nest, .int .i64 c.tries, ptr mb, sl gr N N, .map (some jx), ptr pb] HT)) := hHeld.trans (Upd.alloc NoF _ _) (fun _ _ h => h)
        refine hK.out _ _ HS (fun hHeld2 => ?_)
        clear hK hHeld2 hHeld; have hHeld := HS; clear HS
        try simp only [Act.put, rn1, rn2, rn3, rn4, rn5, rn6]
        refine rgn 11 (v := ?vq33) hHeld ?yq33 ?_
        case yq33 => (intro w hSw; go_simp; try with_reducible rfl)
        simp only [Act.put, rn1, rn2, rn3, rn4, rn5, rn6]
        refine rgn 12 (v := ?vq34) hHeld ?yq34 ?_
        case yq34 => (intro w hSw; go_simp; try with_reducible rfl)
        simp only [Act.put, rn1, rn2, rn3, rn4, rn5, rn6]
        refine wpAnyH_done (by kernel_rfl) ?_ _
        clear hHeld
        go_wp2
        go_ret2
        refine ⟨Y5.heap.size, ?_, ?_⟩
        · rfl
        · have p0 := Sep.pick (HSB.out) 4 rfl
          have p1 := Sep.pick (p0) 4 rfl
          have p2 := Sep.pick (p1) 3 rfl
          have p3 := Sep.pick (p2) 6 rfl
          have p4 := Sep.pick (p3) 4 rfl
          have hsn := HSN.out
          have p9 : Sep NoF w0 (Y5.alloc (.cells #[.int .i64 c.cores, .int .i64 c.sets, .int .i64 c.ways, .int .i64 c.blocks, .int .i64 c.logs, .int .i64 c.backs, .int .i64 c.nest, .int .i64 c.tries, ptr mb, sl gr N N, .map (some jx), ptr pb] HT)) ((Hs.new c B).objs Y5.heap.size mb ⟨gr, jx, pb, N, #[]⟩ (boxO gx En.free.cells ET' :: boxO cx (CC c) CT :: L)) := by
            unfold Hs.objs
            rw [HCL.out gr jx pb, hsn.1, hsn.2.1, show (Hs.new c B).c.blocks.toNat = n by show c.blocks.toNat = n; rw [hsn.2.2]; rfl, Array.append_empty, show cntJ (Hs.new c B).J N = 0 from cnt_none N]
            exact p4
          exact ((home_shut (HFIT.out gr jx pb) p9).drop 1 (by simp)).drop 1 (by simp)
    · have hmm := @run_makeMap Tryd.prog
      go_simp
      have hs1 := mapMade HS1.out
      obtain ⟨Y2, hY1⟩ : ∃ X, (Y1).alloc (.map #[] 0) = X := ⟨_, rfl⟩
      obtain ⟨jx, hz1⟩ : ∃ g, (Y1).heap.size = g := ⟨_, rfl⟩
      have HS : (fun X => Upd NoF V X) Y2 := by rw [← hY1]; exact hHeld.trans (Upd.alloc NoF _ _) (fun _ _ h => h)
      rw [hY1, hz1] at hs1
      have HS2 := Lib.hid hs1
      simp only [hY1, hz1]
      clear hmm hs1
      refine hK.out _ _ HS (fun hHeld2 => ?_)
      clear hK hHeld2 hHeld; have hHeld := HS; clear HS
      try simp only [Act.put, rn1, rn2, rn3, rn4, rn5, rn6]
      refine reg_two (i := 3) (j := 5) (by kernel_rfl) rfl rfl (by kernel_rfl) (by kernel_rfl) (fun K hK => ?_) (fun K hK => ?_)
      · have bs2 := bsE_run (Y2)
        go_simp
        have hs2 := HS2.out.alloc En.free.cells ET'
        obtain ⟨Y3, hY2⟩ : ∃ X, (Y2).alloc (.cells En.free.cells ET') = X := ⟨_, rfl⟩
        obtain ⟨gx, hz2⟩ : ∃ g, (Y2).heap.size = g := ⟨_, rfl⟩
        have HS : (fun X => Upd NoF V X) Y3 := by rw [← hY2]; exact hHeld.trans (Upd.alloc NoF _ _) (fun _ _ h => h)
        rw [hY2, hz2] at hs2
        have HS3 := Lib.hid hs2
        simp only [hY2, hz2]
        clear hs2 bs2
        refine hK.out _ _ HS (fun hHeld2 => ?_)
        clear hK hHeld2 hHeld; have hHeld := HS; clear HS
        try simp only [Act.put, rn1, rn2, rn3, rn4, rn5, rn6]
        refine reg_step (i := 5) (by kernel_rfl) rfl (by kernel_rfl) (fun K hK => ?_)
        go_simp
        refine (HDAT.out _).mono ?_
        rintro e Y4 ⟨rfl, hu3⟩
        have HS4 := Lib.hid (HS3.out.upd0 hu3)
        have HS : (fun X => Upd NoF V X) Y4 := hHeld.trans hu3 (fun _ _ h => h)
        clear hu3
        go_wp2_with fail
        refine hK.out _ _ HS (fun hHeld2 => ?_)
        clear hK hHeld2 hHeld; have hHeld := HS; clear HS
        try simp only [Act.put, rn1, rn2, rn3, rn4, rn5, rn6]
        refine reg_step (i := 6) (by kernel_rfl) rfl (by kernel_rfl) (fun K hK => ?_)
        go_simp
        refine (RE.repeat_is _ gx En.free.cells (En.isN _) (HS4.out.box 0 rfl) N HNR.out.2.1 HNR.out.2.2).mono ?_
        rintro e Y5 ⟨gr, rfl, hu4, hb4, hg4⟩
        have HS5 := Lib.hid (HS4.out.push (Φ := boxO gr (rowG 2 N (fun _ => En.free.cells)) ET') hu4 ⟨hb4, hg4⟩)
        have HS : (fun X => Upd NoF V X) Y5 := hHeld.trans hu4 (fun _ _ h => h)
        clear hu4 hb4 hg4
        go_wp2_with fail
        refine hK.out _ _ HS (fun hHeld2 => ?_)
        clear hK hHeld2 hHeld; have hHeld := HS; clear HS
        try simp only [Act.put, rn1, rn2, rn3, rn4, rn5, rn6]
        refine rgn 9 (v := ?vq35) hHeld ?yq35 ?_
        case yq35 => (intro w hSw; go_simp; try with_reducible rfl)
        simp only [Act.put, rn1, rn2, rn3, rn4, rn5, rn6]
        refine reg_step (i := 10) (by kernel_rfl) rfl (by kernel_rfl) (fun K hK => ?_)
        go_simp
        have HSB := Lib.hid (HS5.out.alloc #[.int .i64 c.cores, .int .i64 c.sets, .int .i64 c.ways, .int .i64 c.blocks, .int .i64 c.logs, .int .i64 c.backs, .int .i64 c.nest, .int .i64 c.tries, ptr mb, sl gr N N, .map (some jx), ptr pb] HT)
        have HS : (fun X => Upd NoF V X) (Y5.alloc (.cells #[.int .i64 c.cores, .int .i64 c.sets, .int .i64 c.ways, .int .i64 c.blocks, .int .i64 c.logs, .int .i64 c.backs, .int .i64 c.nest, .int .i64 c.tries, ptr mb, sl gr N N, .map (some jx), ptr pb] HT)) := hHeld.trans (Upd.alloc NoF _ _) (fun _ _ h => h)
        refine hK.out _ _ HS (fun hHeld2 => ?_)
        clear hK hHeld2 hHeld; have hHeld := HS; clear HS
        try simp only [Act.put, rn1, rn2, rn3, rn4, rn5, rn6]
        refine rgn 11 (v := ?vq36) hHeld ?yq36 ?_
        case yq36 => (intro w hSw; go_simp; try with_reducible rfl)
        simp only [Act.put, rn1, rn2, rn3, rn4, rn5, rn6]
        refine rgn 12 (v := ?vq37) hHeld ?yq37 ?_
        case yq37 => (intro w hSw; go_simp; try with_reducible rfl)
        simp only [Act.put, rn1, rn2, rn3, rn4, rn5, rn6]
        refine wpAnyH_done (by kernel_rfl) ?_ _
        clear hHeld
        go_wp2
        go_ret2
        refine ⟨Y5.heap.size, ?_, ?_⟩
        · rfl
        · have p0 := Sep.pick (HSB.out) 4 rfl
          have p1 := Sep.pick (p0) 4 rfl
          have p2 := Sep.pick (p1) 3 rfl
          have p3 := Sep.pick (p2) 6 rfl
          have p4 := Sep.pick (p3) 4 rfl
          have hsn := HSN.out
          have p9 : Sep NoF w0 (Y5.alloc (.cells #[.int .i64 c.cores, .int .i64 c.sets, .int .i64 c.ways, .int .i64 c.blocks, .int .i64 c.logs, .int .i64 c.backs, .int .i64 c.nest, .int .i64 c.tries, ptr mb, sl gr N N, .map (some jx), ptr pb] HT)) ((Hs.new c B).objs Y5.heap.size mb ⟨gr, jx, pb, N, #[]⟩ (boxO gx En.free.cells ET' :: boxO cx (CC c) CT :: L)) := by
            unfold Hs.objs
            rw [HCL.out gr jx pb, hsn.1, hsn.2.1, show (Hs.new c B).c.blocks.toNat = n by show c.blocks.toNat = n; rw [hsn.2.2]; rfl, Array.append_empty, show cntJ (Hs.new c B).J N = 0 from cnt_none N]
            exact p4
          exact ((home_shut (HFIT.out gr jx pb) p9).drop 1 (by simp)).drop 1 (by simp)
      · go_simp
        refine (HDAT.out _).mono ?_
        rintro e Y3 ⟨rfl, hu2⟩
        have HS3 := Lib.hid (HS2.out.upd0 hu2)
        have HS : (fun X => Upd NoF V X) Y3 := hHeld.trans hu2 (fun _ _ h => h)
        clear hu2
        go_wp2_with fail
        refine hK.out _ _ HS (fun hHeld2 => ?_)
        clear hK hHeld2 hHeld; have hHeld := HS; clear HS
        try simp only [Act.put, rn1, rn2, rn3, rn4, rn5, rn6]
        refine reg_step (i := 3) (by kernel_rfl) rfl (by kernel_rfl) (fun K hK => ?_)
        have bs3 := bsE_run (Y3)
        go_simp
        have hs3 := HS3.out.alloc En.free.cells ET'
        obtain ⟨Y4, hY3⟩ : ∃ X, (Y3).alloc (.cells En.free.cells ET') = X := ⟨_, rfl⟩
        obtain ⟨gx, hz3⟩ : ∃ g, (Y3).heap.size = g := ⟨_, rfl⟩
        have HS : (fun X => Upd NoF V X) Y4 := by rw [← hY3]; exact hHeld.trans (Upd.alloc NoF _ _) (fun _ _ h => h)
        rw [hY3, hz3] at hs3
        have HS4 := Lib.hid hs3
        simp only [hY3, hz3]
        clear hs3 bs3
        refine hK.out _ _ HS (fun hHeld2 => ?_)
        clear hK hHeld2 hHeld; have hHeld := HS; clear HS
        try simp only [Act.put, rn1, rn2, rn3, rn4, rn5, rn6]
        refine reg_step (i := 6) (by kernel_rfl) rfl (by kernel_rfl) (fun K hK => ?_)
        go_simp
        refine (RE.repeat_is _ gx En.free.cells (En.isN _) (HS4.out.box 0 rfl) N HNR.out.2.1 HNR.out.2.2).mono ?_
        rintro e Y5 ⟨gr, rfl, hu4, hb4, hg4⟩
        have HS5 := Lib.hid (HS4.out.push (Φ := boxO gr (rowG 2 N (fun _ => En.free.cells)) ET') hu4 ⟨hb4, hg4⟩)
        have HS : (fun X => Upd NoF V X) Y5 := hHeld.trans hu4 (fun _ _ h => h)
        clear hu4 hb4 hg4
        go_wp2_with fail
        refine hK.out _ _ HS (fun hHeld2 => ?_)
        clear hK hHeld2 hHeld; have hHeld := HS; clear HS
        try simp only [Act.put, rn1, rn2, rn3, rn4, rn5, rn6]
        refine rgn 9 (v := ?vq38) hHeld ?yq38 ?_
        case yq38 => (intro w hSw; go_simp; try with_reducible rfl)
        simp only [Act.put, rn1, rn2, rn3, rn4, rn5, rn6]
        refine reg_step (i := 10) (by kernel_rfl) rfl (by kernel_rfl) (fun K hK => ?_)
        go_simp
        have HSB := Lib.hid (HS5.out.alloc #[.int .i64 c.cores, .int .i64 c.sets, .int .i64 c.ways, .int .i64 c.blocks, .int .i64 c.logs, .int .i64 c.backs, .int .i64 c.nest, .int .i64 c.tries, ptr mb, sl gr N N, .map (some jx), ptr pb] HT)
        have HS : (fun X => Upd NoF V X) (Y5.alloc (.cells #[.int .i64 c.cores, .int .i64 c.sets, .int .i64 c.ways, .int .i64 c.blocks, .int .i64 c.logs, .int .i64 c.backs, .int .i64 c.nest, .int .i64 c.tries, ptr mb, sl gr N N, .map (some jx), ptr pb] HT)) := hHeld.trans (Upd.alloc NoF _ _) (fun _ _ h => h)
        refine hK.out _ _ HS (fun hHeld2 => ?_)
        clear hK hHeld2 hHeld; have hHeld := HS; clear HS
        try simp only [Act.put, rn1, rn2, rn3, rn4, rn5, rn6]
        refine rgn 11 (v := ?vq39) hHeld ?yq39 ?_
        case yq39 => (intro w hSw; go_simp; try with_reducible rfl)
        simp only [Act.put, rn1, rn2, rn3, rn4, rn5, rn6]
        refine rgn 12 (v := ?vq40) hHeld ?yq40 ?_
        case yq40 => (intro w hSw; go_simp; try with_reducible rfl)
        simp only [Act.put, rn1, rn2, rn3, rn4, rn5, rn6]
        refine wpAnyH_done (by kernel_rfl) ?_ _
        clear hHeld
        go_wp2
        go_ret2
        refine ⟨Y5.heap.size, ?_, ?_⟩
        · rfl
        · have p0 := Sep.pick (HSB.out) 4 rfl
          have p1 := Sep.pick (p0) 4 rfl
          have p2 := Sep.pick (p1) 3 rfl
          have p3 := Sep.pick (p2) 6 rfl
          have p4 := Sep.pick (p3) 4 rfl
          have hsn := HSN.out
          have p9 : Sep NoF w0 (Y5.alloc (.cells #[.int .i64 c.cores, .int .i64 c.sets, .int .i64 c.ways, .int .i64 c.blocks, .int .i64 c.logs, .int .i64 c.backs, .int .i64 c.nest, .int .i64 c.tries, ptr mb, sl gr N N, .map (some jx), ptr pb] HT)) ((Hs.new c B).objs Y5.heap.size mb ⟨gr, jx, pb, N, #[]⟩ (boxO gx En.free.cells ET' :: boxO cx (CC c) CT :: L)) := by
            unfold Hs.objs
            rw [HCL.out gr jx pb, hsn.1, hsn.2.1, show (Hs.new c B).c.blocks.toNat = n by show c.blocks.toNat = n; rw [hsn.2.2]; rfl, Array.append_empty, show cntJ (Hs.new c B).J N = 0 from cnt_none N]
            exact p4
          exact ((home_shut (HFIT.out gr jx pb) p9).drop 1 (by simp)).drop 1 (by simp)
  · have hmm := @run_makeMap Tryd.prog
    go_simp
    have hs0 : Sep NoF w0 (w5.alloc (.map #[] 0)).drew (GM.mapO jobsT w5.heap.size 0 (fun _ => none) :: PN.Po (ptr pb) [] (R : Int) :: boxO cx (CC c) CT :: memO mb n B :: L) := mapMade HS0.out
    obtain ⟨Y1, hY0⟩ : ∃ X, (w5.alloc (.map #[] 0)).drew = X := ⟨_, rfl⟩
    obtain ⟨jx, hz0⟩ : ∃ g, w5.heap.size = g := ⟨_, rfl⟩
    have HS : (fun X => Upd NoF V X) Y1 := by rw [← hY0]; exact hHeld.trans (Upd.alloc NoF w5.drew (.map #[] 0)) (fun _ _ h => h)
    rw [hY0, hz0] at hs0
    have HS1 := Lib.hid hs0
    simp only [hY0, hz0]
    clear hmm hs0
    refine hK.out _ _ HS (fun hHeld2 => ?_)
    clear hK hHeld2 hHeld; have hHeld := HS; clear HS
    try simp only [Act.put, rn1, rn2, rn3, rn4, rn5, rn6]
    refine reg_step (i := 2) (by kernel_rfl) rfl (by kernel_rfl) (fun K hK => ?_)
    go_simp
    refine (free_is _).mono ?_
    rintro e Y2 ⟨rfl, hu1⟩
    have HS2 := Lib.hid (HS1.out.upd0 hu1)
    have HS : (fun X => Upd NoF V X) Y2 := hHeld.trans hu1 (fun _ _ h => h)
    clear hu1
    go_wp2_with fail
    refine hK.out _ _ HS (fun hHeld2 => ?_)
    clear hK hHeld2 hHeld; have hHeld := HS; clear HS
    try simp only [Act.put, rn1, rn2, rn3, rn4, rn5, rn6]
    refine reg_two (i := 3) (j := 5) (by kernel_rfl) rfl rfl (by kernel_rfl) (by kernel_rfl) (fun K hK => ?_) (fun K hK => ?_)
    · have bs2 := bsE_run (Y2)
      go_simp
      have hs2 := HS2.out.alloc En.free.cells ET'
      obtain ⟨Y3, hY2⟩ : ∃ X, (Y2).alloc (.cells En.free.cells ET') = X := ⟨_, rfl⟩
      obtain ⟨gx, hz2⟩ : ∃ g, (Y2).heap.size = g := ⟨_, rfl⟩
      have HS : (fun X => Upd NoF V X) Y3 := by rw [← hY2]; exact hHeld.trans (Upd.alloc NoF _ _) (fun _ _ h => h)
      rw [hY2, hz2] at hs2
      have HS3 := Lib.hid hs2
      simp only [hY2, hz2]
      clear hs2 bs2
      refine hK.out _ _ HS (fun hHeld2 => ?_)
      clear hK hHeld2 hHeld; have hHeld := HS; clear HS
      try simp only [Act.put, rn1, rn2, rn3, rn4, rn5, rn6]
      refine reg_step (i := 5) (by kernel_rfl) rfl (by kernel_rfl) (fun K hK => ?_)
      go_simp
      refine (HDAT.out _).mono ?_
      rintro e Y4 ⟨rfl, hu3⟩
      have HS4 := Lib.hid (HS3.out.upd0 hu3)
      have HS : (fun X => Upd NoF V X) Y4 := hHeld.trans hu3 (fun _ _ h => h)
      clear hu3
      go_wp2_with fail
      refine hK.out _ _ HS (fun hHeld2 => ?_)
      clear hK hHeld2 hHeld; have hHeld := HS; clear HS
      try simp only [Act.put, rn1, rn2, rn3, rn4, rn5, rn6]
      refine reg_step (i := 6) (by kernel_rfl) rfl (by kernel_rfl) (fun K hK => ?_)
      go_simp
      refine (RE.repeat_is _ gx En.free.cells (En.isN _) (HS4.out.box 0 rfl) N HNR.out.2.1 HNR.out.2.2).mono ?_
      rintro e Y5 ⟨gr, rfl, hu4, hb4, hg4⟩
      have HS5 := Lib.hid (HS4.out.push (Φ := boxO gr (rowG 2 N (fun _ => En.free.cells)) ET') hu4 ⟨hb4, hg4⟩)
      have HS : (fun X => Upd NoF V X) Y5 := hHeld.trans hu4 (fun _ _ h => h)
      clear hu4 hb4 hg4
      go_wp2_with fail
      refine hK.out _ _ HS (fun hHeld2 => ?_)
      clear hK hHeld2 hHeld; have hHeld := HS; clear HS
      try simp only [Act.put, rn1, rn2, rn3, rn4, rn5, rn6]
      refine rgn 9 (v := ?vq41) hHeld ?yq41 ?_
      case yq41 => (intro w hSw; go_simp; try with_reducible rfl)
      simp only [Act.put, rn1, rn2, rn3, rn4, rn5, rn6]
      refine reg_step (i := 10) (by kernel_rfl) rfl (by kernel_rfl) (fun K hK => ?_)
      go_simp
      have HSB := Lib.hid (HS5.out.alloc #[.int .i64 c.cores, .int .i64 c.sets, .int .i64 c.ways, .int .i64 c.blocks, .int .i64 c.logs, .int .i64 c.backs, .int .i64 c.nest, .int .i64 c.tries, ptr mb, sl gr N N, .map (some jx), ptr pb] HT)
      have HS : (fun X => Upd NoF V X) (Y5.alloc (.cells #[.int .i64 c.cores, .int .i64 c.sets, .int .i64 c.ways, .int .i64 c.blocks, .int .i64 c.logs, .int .i64 c.backs, .int .i64 c.nest, .int .i64 c.tries, ptr mb, sl gr N N, .map (some jx), ptr pb] HT)) := hHeld.trans (Upd.alloc NoF _ _) (fun _ _ h => h)
      refine hK.out _ _ HS (fun hHeld2 => ?_)
      clear hK hHeld2 hHeld; have hHeld := HS; clear HS
      try simp only [Act.put, rn1, rn2, rn3, rn4, rn5, rn6]
      refine rgn 11 (v := ?vq42) hHeld ?yq42 ?_
      case yq42 => (intro w hSw; go_simp; try with_reducible rfl)
      simp only [Act.put, rn1, rn2, rn3, rn4, rn5, rn6]
      refine rgn 12 (v := ?vq43) hHeld ?yq43 ?_
      case yq43 => (intro w hSw; go_simp; try with_reducible rfl)
      simp only [Act.put, rn1, rn2, rn3, rn4, rn5, rn6]
      refine wpAnyH_done (by kernel_rfl) ?_ _
      clear hHeld
      go_wp2
      go_ret2
      refine ⟨Y5.heap.size, ?_, ?_⟩
      · rfl
      · have p0 := Sep.pick (HSB.out) 4 rfl
        have p1 := Sep.pick (p0) 4 rfl
        have p2 := Sep.pick (p1) 3 rfl
        have p3 := Sep.pick (p2) 6 rfl
        have p4 := Sep.pick (p3) 4 rfl
        have hsn := HSN.out
        have p9 : Sep NoF w0 (Y5.alloc (.cells #[.int .i64 c.cores, .int .i64 c.sets, .int .i64 c.ways, .int .i64 c.blocks, .int .i64 c.logs, .int .i64 c.backs, .int .i64 c.nest, .int .i64 c.tries, ptr mb, sl gr N N, .map (some jx), ptr pb] HT)) ((Hs.new c B).objs Y5.heap.size mb ⟨gr, jx, pb, N, #[]⟩ (boxO gx En.free.cells ET' :: boxO cx (CC c) CT :: L)) := by
          unfold Hs.objs
          rw [HCL.out gr jx pb, hsn.1, hsn.2.1, show (Hs.new c B).c.blocks.toNat = n by show c.blocks.toNat = n; rw [hsn.2.2]; rfl, Array.append_empty, show cntJ (Hs.new c B).J N = 0 from cnt_none N]
          exact p4
        exact ((home_shut (HFIT.out gr jx pb) p9).drop 1 (by simp)).drop 1 (by simp)
    · go_simp
      refine (HDAT.out _).mono ?_
      rintro e Y3 ⟨rfl, hu2⟩
      have HS3 := Lib.hid (HS2.out.upd0 hu2)
      have HS : (fun X => Upd NoF V X) Y3 := hHeld.trans hu2 (fun _ _ h => h)
      clear hu2
      go_wp2_with fail
      refine hK.out _ _ HS (fun hHeld2 => ?_)
      clear hK hHeld2 hHeld; have hHeld := HS; clear HS
      try simp only [Act.put, rn1, rn2, rn3, rn4, rn5, rn6]
      refine reg_step (i := 3) (by kernel_rfl) rfl (by kernel_rfl) (fun K hK => ?_)
      have bs3 := bsE_run (Y3)
      go_simp
      have hs3 := HS3.out.alloc En.free.cells ET'
      obtain ⟨Y4, hY3⟩ : ∃ X, (Y3).alloc (.cells En.free.cells ET') = X := ⟨_, rfl⟩
      obtain ⟨gx, hz3⟩ : ∃ g, (Y3).heap.size = g := ⟨_, rfl⟩
      have HS : (fun X => Upd NoF V X) Y4 := by rw [← hY3]; exact hHeld.trans (Upd.alloc NoF _ _) (fun _ _ h => h)
      rw [hY3, hz3] at hs3
      have HS4 := Lib.hid hs3
      simp only [hY3, hz3]
      clear hs3 bs3
      refine hK.out _ _ HS (fun hHeld2 => ?_)
      clear hK hHeld2 hHeld; have hHeld := HS; clear HS
      try simp only [Act.put, rn1, rn2, rn3, rn4, rn5, rn6]
      refine reg_step (i := 6) (by kernel_rfl) rfl (by kernel_rfl) (fun K hK => ?_)
      go_simp
      refine (RE.repeat_is _ gx En.free.cells (En.isN _) (HS4.out.box 0 rfl) N HNR.out.2.1 HNR.out.2.2).mono ?_
      rintro e Y5 ⟨gr, rfl, hu4, hb4, hg4⟩
      have HS5 := Lib.hid (HS4.out.push (Φ := boxO gr (rowG 2 N (fun _ => En.free.cells)) ET') hu4 ⟨hb4, hg4⟩)
      have HS : (fun X => Upd NoF V X) Y5 := hHeld.trans hu4 (fun _ _ h => h)
      clear hu4 hb4 hg4
      go_wp2_with fail
      refine hK.out _ _ HS (fun hHeld2 => ?_)
      clear hK hHeld2 hHeld; have hHeld := HS; clear HS
      try simp only [Act.put, rn1, rn2, rn3, rn4, rn5, rn6]
      refine rgn 9 (v := ?vq44) hHeld ?yq44 ?_
      case yq44 => (intro w hSw; go_simp; try with_reducible rfl)
      simp only [Act.put, rn1, rn2, rn3, rn4, rn5, rn6]
      refine reg_step (i := 10) (by kernel_rfl) rfl (by kernel_rfl) (fun K hK => ?_)
      go_simp
      have HSB := Lib.hid (HS5.out.alloc #[.int .i64 c.cores, .int .i64 c.sets, .int .i64 c.ways, .int .i64 c.blocks, .int .i64 c.logs, .int .i64 c.backs, .int .i64 c.nest, .int .i64 c.tries, ptr mb, sl gr N N, .map (some jx), ptr pb] HT)
      have HS : (fun X => Upd NoF V X) (Y5.alloc (.cells #[.int .i64 c.cores, .int .i64 c.sets, .int .i64 c.ways, .int .i64 c.blocks, .int .i64 c.logs, .int .i64 c.backs, .int .i64 c.nest, .int .i64 c.tries, ptr mb, sl gr N N, .map (some jx), ptr pb] HT)) := hHeld.trans (Upd.alloc NoF _ _) (fun _ _ h => h)
      refine hK.out _ _ HS (fun hHeld2 => ?_)
      clear hK hHeld2 hHeld; have hHeld := HS; clear HS
      try simp only [Act.put, rn1, rn2, rn3, rn4, rn5, rn6]
      refine rgn 11 (v := ?vq45) hHeld ?yq45 ?_
      case yq45 => (intro w hSw; go_simp; try with_reducible rfl)
      simp only [Act.put, rn1, rn2, rn3, rn4, rn5, rn6]
      refine rgn 12 (v := ?vq46) hHeld ?yq46 ?_
      case yq46 => (intro w hSw; go_simp; try with_reducible rfl)
      simp only [Act.put, rn1, rn2, rn3, rn4, rn5, rn6]
      refine wpAnyH_done (by kernel_rfl) ?_ _
      clear hHeld
      go_wp2
      go_ret2
      refine ⟨Y5.heap.size, ?_, ?_⟩
      · rfl
      · have p0 := Sep.pick (HSB.out) 4 rfl
        have p1 := Sep.pick (p0) 4 rfl
        have p2 := Sep.pick (p1) 3 rfl
        have p3 := Sep.pick (p2) 6 rfl
        have p4 := Sep.pick (p3) 4 rfl
        have hsn := HSN.out
        have p9 : Sep NoF w0 (Y5.alloc (.cells #[.int .i64 c.cores, .int .i64 c.sets, .int .i64 c.ways, .int .i64 c.blocks, .int .i64 c.logs, .int .i64 c.backs, .int .i64 c.nest, .int .i64 c.tries, ptr mb, sl gr N N, .map (some jx), ptr pb] HT)) ((Hs.new c B).objs Y5.heap.size mb ⟨gr, jx, pb, N, #[]⟩ (boxO gx En.free.cells ET' :: boxO cx (CC c) CT :: L)) := by
          unfold Hs.objs
          rw [HCL.out gr jx pb, hsn.1, hsn.2.1, show (Hs.new c B).c.blocks.toNat = n by show c.blocks.toNat = n; rw [hsn.2.2]; rfl, Array.append_empty, show cntJ (Hs.new c B).J N = 0 from cnt_none N]
          exact p4
        exact ((home_shut (HFIT.out gr jx pb) p9).drop 1 (by simp)).drop 1 (by simp)
end
end Go.Proofs.YtlhbnndnkcpomaaDoor.HO
