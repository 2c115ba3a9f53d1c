/- NearKnown: what the document's examples ask: a row of two notes, a block's literal, the states; no near. -/
import Derived.Test.YtjgeflbhmhmjdaaGreatAggNear
set_option linter.unusedSimpArgs false
set_option linter.unusedVariables false
namespace Go.Proofs.YtjgeflbhmhmjdaaGreat.NR
open Go.RowKit
open BU (IsU words)
open PL (Cfg CC CV May)
open KA (Kp CIs OkA LT UT KT)
open DL (DS CD SV stampE)
attribute [local go_sem] Oper.semAt_some
/- A row of two notes. -/
def bsM (parts : Array (Nat × Value)) : Sem Value := Instr.buildSlice 43 2 parts
theorem bsM_eq (parts : Array (Nat × Value)) : Instr.buildSlice 43 2 parts = bsM parts := rfl
theorem set_two {Z x y : Array Value} (hZ : Z.size = 48) (hx : x.size = 24) (hy : y.size = 24) : setMany (setMany Z 0 x.toList) 24 y.toList = x ++ y := by
  apply Array.ext_getElem?
  intro j
  rw [get_setMany, size_setMany, get_setMany]
  simp only [Array.length_toList, hx, hy, hZ]
  by_cases h1 : j < 24
  · rw [if_neg (by omega), if_pos ⟨by omega, by omega, by omega⟩, Array.getElem?_append_left (by omega), Array.getElem?_toList, Nat.sub_zero]
  · by_cases h2 : j < 48
    · rw [if_pos ⟨by omega, by omega, by omega⟩, Array.getElem?_append_right (by omega), Array.getElem?_toList, hx]
    · rw [if_neg (by omega), if_neg (by omega), Array.getElem?_eq_none (by omega), Array.getElem?_eq_none (by rw [Array.size_append]; omega)]
theorem agg_bs2 {P : Program} {T TS : TypeId} {Z : Array Value} (ht : P.underlying TS = some (.slice T)) (h : (P.info? T).map (fun i => (i.zero, i.size)) = some (some (.agg Z), 24)) (hn : Z.size = 24) {x y : Array Value} (hx : x.size = 24) (hy : y.size = 24) (w : World) :
    (Instr.buildSlice TS 2 #[(0, .agg x), (1, .agg y)]).run P w = .ok (.slice (some ⟨w.heap.size, 0, none⟩) 2 2) (w.alloc (.cells (x ++ y) T)) := by
  have hz := agg_zero h w
  cases hq : P.info? T with
  | none => simp [hq] at h
  | some i =>
    simp [hq] at h
    have hs : (sizeOf T).run P w = .ok 24 w := by simp [sizeOf, typeInfo, hq, h.2]
    have hf : ∀ Z2 : Array Value, Z2.size = 48 → Instr.fill (fun i => some (i * 24, 24)) Z2 [(0, .agg x), (1, .agg y)] = some (x ++ y) := fun Z2 h2 => by
      rw [fill_step (v := .agg x) (off := 0) (size := 24) rfl hx (by omega), fill_step (v := .agg y) (off := 24) (size := 24) rfl hy (by rw [size_setMany]; omega), fill_nil]
      exact congrArg some (set_two h2 hx hy)
    have hf2 := hf ((Array.range 48).map fun i => Z[i % 24]!) (by simp)
    simp [Instr.buildSlice, run_underlying ht, hs, hz, newRow, run_newObj_alloc, hn, hf2, Value.cells]
theorem bsM_run {x y : Array Value} (hx : x.size = 24) (hy : y.size = 24) (w : World) : (bsM #[(0, .agg x), (1, .agg y)]).run Tryz.prog w = .ok (.slice (some ⟨w.heap.size, 0, none⟩) 2 2) (w.alloc (.cells (x ++ y) NT)) :=
  agg_bs2 Tryz.underlying43 TNot.infoZ TNot.size_Z hx hy w
theorem out_two {W : World} {F : Nat → Prop} {g : Nat} {m n : Nt} (hm : m.cells.size = 24) (hn : n.cells.size = 24) (h : (boxO g (m.cells ++ n.cells) NT).is W F) : (outO (sl g 2 2) [m, n]).is W F := by
  refine ⟨⟨by simp [rowsOf, hm, hn], .inr ⟨g, 2, m.cells ++ n.cells, rfl, h.1, Nat.le_refl _, by unfold maxLen; omega, by simp [hm, hn], by simp [rowsOf]; rw [List.take_of_length_le (by simp [hm, hn])]⟩⟩, fun k hk => ?_⟩
  simp [Value.ownBlock] at hk
  subst hk; exact h.2
theorem NIs.toOut2 {w0 W : World} {a : Ad} {S : Ns} {L : List Obj} {g : Nat} {m n : Nt} (h : NIs w0 W a S (boxO g (m.cells ++ n.cells) NT :: L)) (hm : IsU m.D) (hn : IsU n.D) : NIs w0 W a S (outO (sl g 2 2) [m, n] :: L) :=
  ⟨((h.sep.pickN 8 rfl).head (fun F hF => out_two (Nt.Ok.isN hm).1 (Nt.Ok.isN hn).1 hF)).sink 8, h.ok⟩
/- A block's literal. -/
def bdB (parts : Array (Nat × Value)) : Sem Value := Instr.build BT parts
theorem bdB_eq (parts : Array (Nat × Value)) : Instr.build BT parts = bdB parts := rfl
def D7 : Array Value := TBlk.Z.setIfInBounds 0 (.int .u32 7)
theorem isU_7 : IsU D7 := ⟨rfl, fun u hu => by
  simp [D7, TBlk.Z] at hu
  rcases hu with rfl | rfl <;> exact ⟨_, rfl⟩⟩
theorem build_arr {P : Program} {T E : TypeId} {Z : Array Value} {k n : Nat} (hu : P.underlying T = some (.array k E)) (hz : (P.info? T).map (fun i => (i.zero, i.size)) = some (some (.agg Z), n))
    (hs : ∀ w, (sizeOf E).run P w = .ok 1 w) (parts : Array (Nat × Value)) (cs : Array Value)
    (hf : Instr.fill (fun i => some (i * 1, 1)) Z parts.toList = some cs) (w : World) : (Instr.build T parts).run P w = .ok (.agg cs) w := by
  have h0 := agg_zero hz w
  unfold Instr.build
  simp only [Sem.run_bind, h0, Result.andThen_ok, run_underlying hu, hs, Value.cells]
  rw [hf]
  rfl
theorem bdB_run (w : World) : (bdB #[(0, .int .u32 7)]).run Tryz.prog w = .ok (.agg D7) w := by
  refine build_arr Tryz.underlying35 TBlk.infoZ (fun w => by simp [Tryz.sizeOf33]) _ _ ?_ w
  rw [fill_step (off := 0) (size := 1) rfl rfl (by decide), fill_nil]
  exact congrArg some (by kernel_rfl)
set_option maxRecDepth 100000 in
theorem bdB_nil (w : World) : (bdB #[]).run Tryz.prog w = .ok (.agg TBlk.Z) w :=
  build_arr Tryz.underlying35 TBlk.infoZ (fun w => by simp [Tryz.sizeOf33]) _ _ fill_nil w
set_option maxRecDepth 100000 in
theorem bdL_nil (w : World) : (bdL #[]).run Tryz.prog w = .ok (.agg TLin.Z) w :=
  build_run (pl := [(0, 1), (1, 1), (2, 16)]) Tryz.underlying50 TLin.infoZ lnPl _ _ fill_nil w
def pt7 : Nt := ⟨3, 0, -1, 3, 0, 0, true, false, D7⟩
def ac7 : Nt := ⟨9, 0, -1, 3, 0, 0, true, false, D7⟩
theorem pt_cells : setMany ((upN 3 3).cells.setIfInBounds 6 (.bool true)) 8 D7.toList = pt7.cells := by kernel_rfl
theorem ac_cells : setMany ((upN 9 3).cells.setIfInBounds 6 (.bool true)) 8 D7.toList = ac7.cells := by kernel_rfl
theorem pt_ok : pt7.Ok := ⟨by decide, by decide, by decide, isU_7⟩
theorem up_ok (k b : Int) (h : 0 ≤ k ∧ k ≤ 255) : (upN k b).Ok := ⟨h, ⟨Int.le_refl 0, (by decide : (0 : Int) ≤ 18446744073709551615)⟩, ⟨Int.le_refl 0, (by decide : (0 : Int) ≤ 255)⟩, isUZ⟩
theorem ac_ok : ac7.Ok := ⟨by decide, by decide, by decide, isU_7⟩
theorem fit5 : MM.fit 5 := by unfold MM.fit; decide
/- The states. -/
def N4 (p : Kp) : Ns := (askR p (N3 p) 5 false).S
def N5 (p : Kp) : Ns := (takeR p (N4 p) (gvN 5 1)).S
def N6 (p : Kp) : Ns := (takeR p (N5 p) (dnN 5 3)).S
def N7 (p : Kp) : Ns := (takeR p (N6 p) (dnN 8 3)).S
def N8 (p : Kp) : Ns := (askR p (N7 p) 3 false).S
theorem m4 {p : Kp} (h : p.Fits twoC) : askR p (N3 p) 5 false = ⟨false, [pt7, upN 1 5], 0, N4 p⟩ := by
  obtain ⟨hs, hy⟩ := fits_two h
  obtain ⟨kb, gl, gm, cl, cm, tl, tm, s, y⟩ := p
  dsimp only at hs hy
  subst hs hy
  kernel_rfl
theorem g4 {p : Kp} (h : p.Fits twoC) : (p.gone (N3 p).A (N3 p).M 5).blk = 3 := by
  obtain ⟨hs, hy⟩ := fits_two h
  obtain ⟨kb, gl, gm, cl, cm, tl, tm, s, y⟩ := p
  dsimp only at hs hy
  subst hs hy
  kernel_rfl
theorem m5 {p : Kp} (h : p.Fits twoC) : takeR p (N4 p) (gvN 5 1) = ⟨[upN 11 5], false, 0, N5 p⟩ := by
  obtain ⟨hs, hy⟩ := fits_two h
  obtain ⟨kb, gl, gm, cl, cm, tl, tm, s, y⟩ := p
  dsimp only at hs hy
  subst hs hy
  kernel_rfl
theorem e5 {p : Kp} (h : p.Fits twoC) : askR p (N5 p) 3 false = ⟨false, [], 110, N5 p⟩ := by
  obtain ⟨hs, hy⟩ := fits_two h
  obtain ⟨kb, gl, gm, cl, cm, tl, tm, s, y⟩ := p
  dsimp only at hs hy
  subst hs hy
  kernel_rfl
theorem g5 {p : Kp} (h : p.Fits twoC) : (p.gone (N5 p).A (N5 p).M 3).blk = 5 := by
  obtain ⟨hs, hy⟩ := fits_two h
  obtain ⟨kb, gl, gm, cl, cm, tl, tm, s, y⟩ := p
  dsimp only at hs hy
  subst hs hy
  kernel_rfl
theorem m6 {p : Kp} (h : p.Fits twoC) : takeR p (N5 p) (dnN 5 3) = ⟨[ac7], false, 0, N6 p⟩ := by
  obtain ⟨hs, hy⟩ := fits_two h
  obtain ⟨kb, gl, gm, cl, cm, tl, tm, s, y⟩ := p
  dsimp only at hs hy
  subst hs hy
  kernel_rfl
theorem m7 {p : Kp} (h : p.Fits twoC) : takeR p (N6 p) (dnN 8 3) = ⟨[], false, 0, N7 p⟩ := by
  obtain ⟨hs, hy⟩ := fits_two h
  obtain ⟨kb, gl, gm, cl, cm, tl, tm, s, y⟩ := p
  dsimp only at hs hy
  subst hs hy
  kernel_rfl
theorem m8 {p : Kp} (h : p.Fits twoC) : askR p (N7 p) 3 false = ⟨false, [upN 1 3], 0, N8 p⟩ := by
  obtain ⟨hs, hy⟩ := fits_two h
  obtain ⟨kb, gl, gm, cl, cm, tl, tm, s, y⟩ := p
  dsimp only at hs hy
  subst hs hy
  kernel_rfl
theorem g8 {p : Kp} (h : p.Fits twoC) : (p.gone (N7 p).A (N7 p).M 3).blk = 5 := by
  obtain ⟨hs, hy⟩ := fits_two h
  obtain ⟨kb, gl, gm, cl, cm, tl, tm, s, y⟩ := p
  dsimp only at hs hy
  subst hs hy
  kernel_rfl
attribute [local go_sem ↓] TNot.ld_eq TNot.st_eq TNot.al_eq TNot.bx_eq TBlk.ld_eq TBlk.st_eq TBlk.al_eq TBlk.bx_eq TLin.ld_eq TLin.st_eq TLin.al_eq TLin.bx_eq bdN_eq bsN_eq bdL_eq bdB_eq
attribute [local go_sem] TNot.al_run TNot.bx_run TBlk.al_run TBlk.bx_run TLin.al_run TLin.bx_run
/- No near. -/
theorem clear_nil (W : World) : Calls Tryz.prog 15 #[.pointer none] W fun e W' => e = .returned (.tuple #[]) ∧ Upd NoF W W' := by
  go_enter Tryz.func15, Tryz.ntmps15
  go_wp2
  go_end0
  exact ⟨rfl, Upd.refl _ _⟩
theorem ask_nil (b : Int) (wr : Bool) (W : World) : Calls Tryz.prog 13 #[.pointer none, .int .i64 b, .bool wr] W fun e W' => e = .returned (.tuple #[.bool false, .slice none 0 0, .int .i64 1]) ∧ Upd NoF W W' := by
  have HU := Lib.hid (Upd.alloc NoF W (.cells TLin.Z LT))
  go_enter Tryz.func13, Tryz.ntmps13
  go_wp2_with fail
  refine wp_scope_fwd 0 rfl ?_
  go_wp2_with fail
  rw [Exit.jump_ret]
  go_wp2_with fail
  go_ret3
  exact ⟨rfl, HU.out⟩
theorem load_nil (b k : Int) (W : World) : Calls Tryz.prog 16 #[.pointer none, .int .i64 b, .int .i64 k] W fun e W' => e = .returned (.tuple #[.int .u32 0, .int .i64 1]) ∧ Upd NoF W W' := by
  go_enter Tryz.func16, Tryz.ntmps16
  go_wp2
  go_ret2
  exact ⟨rfl, Upd.refl _ _⟩
theorem store_nil (b k z : Int) (W : World) : Calls Tryz.prog 12 #[.pointer none, .int .i64 b, .int .i64 k, .int .u32 z] W fun e W' => e = .returned (.tuple #[.int .u32 0, .int .i64 1]) ∧ Upd NoF W W' := by
  go_enter Tryz.func12, Tryz.ntmps12
  go_wp2
  go_ret2
  exact ⟨rfl, Upd.refl _ _⟩
theorem take_nil (n : Nt) (W : World) : Calls Tryz.prog 17 #[.pointer none, .agg n.cells] W fun e W' => e = .returned (.tuple #[.slice none 0 0, .bool false, .int .i64 1]) ∧ Upd NoF W W' := by
  have HU := Lib.hid (Upd.alloc NoF W (.cells n.cells NT))
  generalize n.cells = x at *
  go_enter Tryz.func17, Tryz.ntmps17
  go_wp2
  go_ret3
  exact ⟨rfl, HU.out⟩
set_option maxRecDepth 100000 in
theorem line_nil (b : Int) (W : World) : Calls Tryz.prog 18 #[.pointer none, .int .i64 b] W fun e W' => e = .returned (.tuple #[.agg TLin.Z, .bool false]) ∧ Upd NoF W W' := by
  have y := fun w => bdL_nil w
  have hN := TLin.isZ
  obtain ⟨s1, q2⟩ := TLin.st_at TLin.isZ TLin.isZ (Blk.new W TLin.Z LT)
  have HV := Lib.hid (TLin.ldV_at hN q2.whole)
  have HU := Lib.hid ((Upd.alloc NoF W (.cells TLin.Z LT)).trans (upd_setCells (b := W.heap.size) TLin.Z.toList 0 _) (fun i hi h => by have : i = W.heap.size := h; omega))
  clear q2 hN
  go_enter Tryz.func18, Tryz.ntmps18
  go_wp2
  have hv := HV.out
  refine bodyPost_ret (v := .tuple #[.agg TLin.Z, .bool false]) ?_ ?_ ?_
  · simp [results, Tryz.f18, asAddr, hv]
  · rfl
  exact ⟨rfl, HU.out⟩
set_option maxRecDepth 100000 in
theorem waits_nil (W : World) : Calls Tryz.prog 19 #[.pointer none] W fun e W' => e = .returned (.tuple #[.agg Nt.nil.cells, .bool false]) ∧ Upd NoF W W' := by
  have y := fun w => bd_nil w
  have hN : IsN 24 Nt.nil.cells := Nt.Ok.isN Nt.nil_ok.isU
  obtain ⟨s1, q2⟩ := TNot.st_at TNot.isZ hN (Blk.new W TNot.Z NT)
  have HV := Lib.hid (TNot.ldV_at hN q2.whole)
  have HU := Lib.hid ((Upd.alloc NoF W (.cells TNot.Z NT)).trans (upd_setCells (b := W.heap.size) Nt.nil.cells.toList 0 _) (fun i hi h => by have : i = W.heap.size := h; omega))
  clear q2 hN
  generalize hX : (W.alloc (.cells TNot.Z NT)).setCells W.heap.size 0 Nt.nil.cells.toList = X at *
  generalize Nt.nil.cells = x at *
  clear hX
  go_enter Tryz.func19, Tryz.ntmps19
  go_wp2
  have hv := HV.out
  refine bodyPost_ret (v := .tuple #[.agg x, .bool false]) ?_ ?_ ?_
  · simp [results, Tryz.f19, asAddr, hv]
  · rfl
  exact ⟨rfl, HU.out⟩
set_option maxRecDepth 100000 in
theorem back_nil (b : Int) (W : World) : Calls Tryz.prog 20 #[.pointer none, .int .i64 b] W fun e W' => e = .returned (.tuple #[.agg TBlk.Z, .bool false, .bool false]) ∧ Upd NoF W W' := by
  have y := fun w => bdB_nil w
  have hN := TBlk.isZ
  obtain ⟨s1, q2⟩ := TBlk.st_at TBlk.isZ TBlk.isZ (Blk.new W TBlk.Z BT)
  have HV := Lib.hid (TBlk.ldV_at hN q2.whole)
  have HU := Lib.hid ((Upd.alloc NoF W (.cells TBlk.Z BT)).trans (upd_setCells (b := W.heap.size) TBlk.Z.toList 0 _) (fun i hi h => by have : i = W.heap.size := h; omega))
  clear q2 hN
  go_enter Tryz.func20, Tryz.ntmps20
  go_wp2
  have hv := HV.out
  refine bodyPost_ret (v := .tuple #[.agg TBlk.Z, .bool false, .bool false]) ?_ ?_ ?_
  · simp [results, Tryz.f20, asAddr, hv]
  · rfl
  exact ⟨rfl, HU.out⟩
theorem deal_nil (W : World) : Calls Tryz.prog 21 #[.pointer none] W fun e W' => e = .returned (.pointer none) ∧ Upd NoF W W' := by
  go_enter Tryz.func21, Tryz.ntmps21
  go_wp2
  go_ret
  exact ⟨rfl, Upd.refl _ _⟩
theorem copy_nil (W : World) : Calls Tryz.prog 22 #[.pointer none] W fun e W' => e = .returned (.pointer none) ∧ Upd NoF W W' := by
  go_enter Tryz.func22, Tryz.ntmps22
  go_wp2
  go_ret
  exact ⟨rfl, Upd.refl _ _⟩
end Go.Proofs.YtjgeflbhmhmjdaaGreat.NR
