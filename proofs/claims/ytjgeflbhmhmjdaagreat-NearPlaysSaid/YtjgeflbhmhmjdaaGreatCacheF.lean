/- The contracts of package cache: Goes, New. -/
import Derived.Test.YtjgeflbhmhmjdaaGreatCacheE
set_option linter.unusedSimpArgs false
set_option linter.unusedVariables false
namespace Go.Proofs.YtjgeflbhmhmjdaaGreat.KA
open Go.RowKit
open BU (IsU words)
open PL (Cfg CC CV May)
attribute [local go_sem] Oper.semAt_some
attribute [local go_sem ↓] TLin.ld_eq TLin.st_eq TLin.al_eq TLin.bx_eq
attribute [local go_sem] TLin.al_run TLin.bx_run
section
variable {w0 W W' : World} {p : Kp} {T : TypeId} {c : Cfg} {A : Nat → Ln} {M : Nat → Int} {L : List Obj}
def Kp.goes (p : Kp) (A : Nat → Ln) (M : Nat → Int) (b : Int) : Option Nat := if mayK b then (match p.place A b with | some _ => none | none => if p.fr A b < 0 then some (p.set b * p.y + (vicV (M (p.set b)) p.y).toNat) else none) else none
def Kp.gone (p : Kp) (A : Nat → Ln) (M : Nat → Int) (b : Int) : Ln := match p.goes A M b with | some i => A i | none => Ln.nil
set_option maxRecDepth 100000 in
set_option maxHeartbeats 1000000 in
theorem goes_is (h : CIs T w0 W p c A M L) (b : Int) : Calls Tryz.prog 45 #[ptr p.kb, .int .i64 b] W fun e W' =>
    e = .returned (.tuple #[.agg (p.gone A M b).cells, .bool (p.goes A M b).isSome]) ∧ Upd NoF W W' := by
  have hu1 := Upd.alloc NoF W (.cells TLin.Z LT)
  have h1 := h.upd0 hu1
  have HE := fun W => Lib.hid (Lib.run_eql_slice_nil (P := Tryz.prog) (w := W) 122 LT (some ⟨p.gl, p.set b * p.y * 18, none⟩) p.y (p.cl - p.set b * p.y) 0 0 Tryz.underlying122)
  have HEN := fun W => Lib.hid (Lib.run_eql_slice_nil (P := Tryz.prog) (w := W) 122 LT none 0 0 0 0 Tryz.underlying122)
  have HFI := fun hm => find_later h1 (b := b) hm
  have HFO := fun hm => Lib.hid (find_out p.kb b (mayK_not hm) (W.alloc (.cells TLin.Z LT)))
  have HFR := free_later h1 b
  have s0 := Lib.hid (fun W2 (hu : Upd NoF (W.alloc (.cells TLin.Z LT)) W2) => TLin.st_at TLin.isZ TLin.isZ ((Blk.new W TLin.Z LT).upd hu (fun h => h)))
  have HU1 := Lib.hid hu1
  have hub : ∀ (X Y : World) (vs : List Value), Upd NoF W X → X.setCells W.heap.size 0 vs = Y → Upd NoF W Y := fun X Y vs hX e => by
    rw [← e]; exact hX.trans (upd_setCells vs 0 _) (fun k hk e => by have e : k = W.heap.size := e; omega)
  have HB := Lib.hid hub
  clear hub hu1
  rcases find_cases p A b with ⟨hm, hp⟩ | ⟨hm, hw, hp, -⟩ | ⟨j, hm, hj, hw, hp, -⟩
  · have HFO := HFO hm
    have e1 : p.goes A M b = none := by unfold Kp.goes; rw [hm]; rfl
    have e2 : p.gone A M b = Ln.nil := by unfold Kp.gone; rw [e1]
    rw [e1, e2, Ln.nil_cells]
    have he := (HEN (W.alloc (.cells TLin.Z LT))).out
    clear h h1 hp hm HFI HFR e1 e2 HE HEN
    obtain ⟨s1, q1⟩ := s0.out _ (Upd.refl _ _)
    rw [zlit] at s1
    have HV := Lib.hid (TLin.ldV_at TLin.isZ q1.whole)
    generalize hX : (W.alloc (.cells TLin.Z LT)).setCells W.heap.size 0 TLin.Z.toList = X at *
    have HF := Lib.hid (HB.out _ _ _ HU1.out hX)
    clear hX q1 s0
    go_enter Tryz.func45, Tryz.ntmps45
    go_wp2_with fail
    refine HFO.out.mono ?_
    rintro e W2 ⟨rfl, rfl⟩
    go_wp2
    have hv := HV.out
    refine bodyPost_ret (v := .tuple #[.agg TLin.Z, .bool false]) ?_ ?_ ?_
    · simp [results, Tryz.f45, asAddr, hv]
    · rfl
    exact ⟨rfl, HF.out⟩
  · have HFI := HFI hm
    rw [hw] at HFI
    rcases firstW_cases freeB A (p.set b * p.y) p.y with ⟨hf, -⟩ | ⟨j, hj, hf, -⟩
    · have hf : p.fr A b = -1 := hf
      have hq := h.fits.set_lt b
      have hsy := h.fits.sy.2
      have hvr := vicV_rng (M (p.set b)) p.y (by omega)
      obtain ⟨j, hj⟩ : ∃ j : Nat, vicV (M (p.set b)) p.y = j := ⟨(vicV (M (p.set b)) p.y).toNat, by omega⟩
      have e1 : p.goes A M b = some (p.set b * p.y + j) := by unfold Kp.goes; rw [hm, hp, hf, hj]; rfl
      have e2 : p.gone A M b = A (p.set b * p.y + j) := by unfold Kp.gone; rw [e1]
      rw [e1, e2]
      rw [hf] at HFR
      rw [hj] at hvr
      have hjy : j < p.y := by omega
      have hj1 : (j : Int) < (p.y : Int) := by omega
      have hlt := h.fits.idx_lt (b := b) hjy
      have hx := h.ok.okA (p.set b * p.y + j)
      have HR := Lib.hid (fun W2 (hu : Upd NoF (W.alloc (.cells TLin.Z LT)) W2) => TLin.ld_at (Ln.Ok.isN hx.isU) (lnRow_range (h1.bl.upd hu (fun h => h)) hx.isU hlt))
      rw [show (p.set b * p.y + j) * 18 = p.set b * p.y * 18 + j * 18 by omega] at HR
      have HV := Lib.hid (fun w => vic_any (M (p.set b)) (h.ok.okM _) p.y (by omega) w)
      rw [hj] at HV
      have HK := Lib.hid (fun W2 (hu : Upd NoF (W.alloc (.cells TLin.Z LT)) W2) => And.intro ((h1.bk.upd hu (fun h => h)).cell 2) (And.intro ((h1.bk.upd hu (fun h => h)).cell 9) ((((h1.bm.upd hu (fun h => h))).cell (p.set b)).trans (rowX_get hq))))
      have hew := h.fits.ew
      have HEW := Lib.hid hew
      have s2 := Lib.hid (fun W2 (hu : Upd NoF (W.alloc (.cells TLin.Z LT)) W2) => TLin.st_at TLin.isZ (Ln.Ok.isN hx.isU) ((Blk.new W TLin.Z LT).upd hu (fun h => h)))
      have hxN := Lib.hid (Ln.Ok.isN hx.isU)
      have hq1 : ((p.set b : Nat) : Int) < (p.s : Int) := by omega
      unfold Kp.ways at HFI HFR
      clear h h1 hp hm HFO e1 e2 HEN hw hf hq hsy hvr hj hjy hlt hx hew s0
      generalize A (p.set b * p.y + j) = x at *
      generalize M (p.set b) = mm at *
      generalize p.set b * p.y = o at *
      generalize p.set b = q at *
      go_enter Tryz.func45, Tryz.ntmps45
      go_wp2_with fail
      refine (HFI.out _ (Upd.refl _ _)).mono ?_
      rintro e W2 ⟨rfl, hu⟩
      have HU2 := Lib.hid hu
      have he := (HE W2).out
      clear hu HFI
      go_wp2_with fail
      refine (HFR.out _ HU2.out).mono ?_
      rintro e W3 ⟨rfl, hu⟩
      have HU3 := Lib.hid (HU2.out.trans hu (fun _ _ h => h))
      obtain ⟨c2, c9, cm⟩ := HK.out _ HU3.out
      replace c2 : W3.cell? ⟨p.kb, 2, none⟩ = some (.int .i64 p.y) := by rw [← HEW.out]; exact c2
      replace c9 : W3.cell? ⟨p.kb, 9, none⟩ = some (.slice (some ⟨p.gm, 0, none⟩) p.s p.cm) := c9
      clear hu HFR he HE HU2 HK HEW
      go_wp2_with fail
      go_quiet (exact Calls.quiet_of_same ((HV.out _).mono (fun _ _ h => ⟨h.1, h.2.symm⟩)))
      rename_i nq
      have HU4 := Lib.hid (HU3.out.trans (Upd.drewN NoF W3 nq) (fun _ _ h => h))
      have l1 := HR.out _ HU4.out
      obtain ⟨s1, q1⟩ := s2.out _ HU4.out
      have HVV := Lib.hid (TLin.ldV_at hxN.out q1.whole)
      generalize hX : (W3.drewN nq).setCells W.heap.size 0 x.cells.toList = X at *
      have HF := Lib.hid (HB.out _ _ _ (HU1.out.trans HU4.out (fun _ _ h => h)) hX)
      clear hX q1 s2 HB HU1 HR
      go_wp2
      have hv := HVV.out
      refine bodyPost_ret (v := .tuple #[.agg x.cells, .bool true]) ?_ ?_ ?_
      · simp [results, Tryz.f45, asAddr, hv]
      · rfl
      exact ⟨rfl, HF.out⟩
    · have hf : p.fr A b = j := hf
      have e1 : p.goes A M b = none := by unfold Kp.goes; rw [hm, hp, hf]; simp
      have e2 : p.gone A M b = Ln.nil := by unfold Kp.gone; rw [e1]
      rw [e1, e2, Ln.nil_cells]
      rw [hf] at HFR
      unfold Kp.ways at HFI HFR
      clear h h1 hp hm HFO e1 e2 HEN hw hf hj
      generalize p.set b * p.y = o at *
      generalize p.set b = q at *
      go_enter Tryz.func45, Tryz.ntmps45
      go_wp2_with fail
      refine (HFI.out _ (Upd.refl _ _)).mono ?_
      rintro e W2 ⟨rfl, hu⟩
      have HU2 := Lib.hid hu
      have he := (HE W2).out
      clear hu HFI
      go_wp2_with fail
      refine (HFR.out _ HU2.out).mono ?_
      rintro e W3 ⟨rfl, hu⟩
      have HU3 := Lib.hid (HU2.out.trans hu (fun _ _ h => h))
      obtain ⟨s1, q1⟩ := s0.out _ HU3.out
      rw [zlit] at s1
      have HV := Lib.hid (TLin.ldV_at TLin.isZ q1.whole)
      generalize hX : W3.setCells W.heap.size 0 TLin.Z.toList = X at *
      have HF := Lib.hid (HB.out _ _ _ (HU1.out.trans HU3.out (fun _ _ h => h)) hX)
      clear hX q1 s0 hu HFR HB HU1 he HE
      go_wp2
      have hv := HV.out
      refine bodyPost_ret (v := .tuple #[.agg TLin.Z, .bool false]) ?_ ?_ ?_
      · simp [results, Tryz.f45, asAddr, hv]
      · rfl
      exact ⟨rfl, HF.out⟩
  · have HFI := HFI hm
    rw [hw] at HFI
    have e1 : p.goes A M b = none := by unfold Kp.goes; rw [hm, hp]; rfl
    have e2 : p.gone A M b = Ln.nil := by unfold Kp.gone; rw [e1]
    rw [e1, e2, Ln.nil_cells]
    unfold Kp.ways at HFI
    clear h h1 hp hm HFO e1 e2 HEN hw hj HFR
    generalize p.set b * p.y = o at *
    generalize p.set b = q at *
    go_enter Tryz.func45, Tryz.ntmps45
    go_wp2_with fail
    refine (HFI.out _ (Upd.refl _ _)).mono ?_
    rintro e W2 ⟨rfl, hu⟩
    have he := (HE W2).out
    obtain ⟨s1, q1⟩ := s0.out _ hu
    rw [zlit] at s1
    have HV := Lib.hid (TLin.ldV_at TLin.isZ q1.whole)
    generalize hX : W2.setCells W.heap.size 0 TLin.Z.toList = X at *
    have HF := Lib.hid (HB.out _ _ _ (HU1.out.trans hu (fun _ _ h => h)) hX)
    clear hX q1 s0 hu HFI HB HU1 HE
    go_wp2
    have hv := HV.out
    refine bodyPost_ret (v := .tuple #[.agg TLin.Z, .bool false]) ?_ ?_ ?_
    · simp [results, Tryz.f45, asAddr, hv]
    · rfl
    exact ⟨rfl, HF.out⟩
def mkL (l c : Value) : Sem Value := Instr.makeSlice 122 l c
theorem mkL_eq (l c : Value) : Instr.makeSlice 122 l c = mkL l c := rfl
def mkU (l c : Value) : Sem Value := Instr.makeSlice 123 l c
theorem mkU_eq (l c : Value) : Instr.makeSlice 123 l c = mkU l c := rfl
attribute [local go_sem ↓] mkL_eq mkU_eq
theorem mkL_run (n : Nat) (hn : n ≤ 65536) (w : World) : (mkL (.int .i64 n) (.int .i64 n)).run Tryz.prog w = .ok (.slice (some ⟨w.heap.size, 0, none⟩) n n) (w.alloc (.cells (lnRow n (fun _ => Ln.nil)) LT)) := by
  have hi : (Tryz.prog.info? LT).map (fun i => (i.zero, i.size, i.bytes)) = some (some (.agg TLin.Z), 18, 80) := by kernel_rfl
  cases hq : Tryz.prog.info? LT with
  | none => rw [hq] at hi; cases hi
  | some i =>
    rw [hq] at hi
    simp at hi
    have := run_make (P := Tryz.prog) w 122 LT i (.agg TLin.Z) Tryz.underlying122 hq hi.1 .i64 .i64 n n (by omega) (by omega) (by rw [hi.2.2]; omega) (by omega)
    rw [hi.2.1] at this
    rw [← lnRow_made n]
    exact this
theorem mkU_run (n : Nat) (hn : n ≤ 65536) (w : World) : (mkU (.int .i64 n) (.int .i64 n)).run Tryz.prog w = .ok (.slice (some ⟨w.heap.size, 0, none⟩) n n) (w.alloc (.cells (rowU n (fun _ => 0)) UT)) := by
  have hi : (Tryz.prog.info? UT).map (fun i => (i.zero, i.size, i.bytes)) = some (some (.int .u8 0), 1, 1) := by kernel_rfl
  cases hq : Tryz.prog.info? UT with
  | none => rw [hq] at hi; cases hi
  | some i =>
    rw [hq] at hi
    simp at hi
    have := run_make (P := Tryz.prog) w 123 UT i (.int .u8 0) Tryz.underlying123 hq hi.1 .i64 .i64 n n (by omega) (by omega) (by rw [hi.2.2]; omega) (by omega)
    rw [hi.2.1] at this
    rw [← rowU_made n]
    exact this
theorem swap23 {G : Nat → Prop} {w0 W : World} {A B C : Obj} {L : List Obj} (h : Sep G w0 W (A :: B :: C :: L)) : Sep G w0 W (A :: C :: B :: L) := ((h.sink 2).sink 2).swap
abbrev KT : TypeId := 135
set_option maxRecDepth 100000 in
set_option maxHeartbeats 2000000 in
theorem new_yes (h : Sep NoF w0 W L) (c : Cfg) (hc : May c) : Calls Tryz.prog 34 #[CV c] W fun e W' =>
    ∃ p : Kp, e = .returned (.tuple #[ptr p.kb, .int .i64 0]) ∧ CIs KT w0 W' p c (fun _ => Ln.nil) (fun _ => 0) L ∧ Upd NoF W W' := by
  have hs := hc.2.2.2.2.2.2.1; have hy := hc.2.2.2.2.2.2.2.1
  obtain ⟨s, es⟩ : ∃ s : Nat, c.sets = s := ⟨c.sets.toNat, by omega⟩
  obtain ⟨y, ey⟩ : ∃ y : Nat, c.ways = y := ⟨c.ways.toNat, by omega⟩
  have hf : ∀ kb gl gm, (Kp.mk kb gl gm (s * y) s #[] #[] s y).Fits c := fun kb gl gm => by
    have hsy : s * y ≤ 64 := by
      have h1 : s = 1 ∨ s = 2 ∨ s = 4 ∨ s = 8 ∨ s = 16 := by omega
      have h2 : y = 1 ∨ y = 2 ∨ y = 4 := by omega
      rcases h1 with e | e | e | e | e <;> rcases h2 with e2 | e2 | e2 <;> rw [e, e2] <;> omega
    exact ⟨hc, es, ey, ⟨Nat.le_refl _, by unfold maxLen; dsimp only; omega⟩, ⟨Nat.le_refl _, by unfold maxLen; dsimp only; omega⟩, by simp, by simp⟩
  have hsm := Kp.small (hf 0 0 0)
  dsimp only at hsm
  have HFT := Lib.hid hf
  have HM := Lib.hid (PL.pMay_yes c hc)
  have h1 := h.alloc (CC c) 27
  have hu1 := Upd.alloc NoF W (.cells (CC c) 27)
  obtain ⟨W1, hW1⟩ : ∃ X, W.alloc (.cells (CC c) 27) = X := ⟨_, rfl⟩
  rw [hW1] at h1 hu1
  have HS := Lib.hid h1; have HW1 := Lib.hid hW1; have HU1 := Lib.hid hu1
  have mk1 := mkL_run (s * y) (by omega)
  have mk2 := mkU_run s (by omega)
  have wm : IntKind.i64.wrap ((s : Int) * (y : Int)) = ((s * y : Nat) : Int) := by
    rw [show ((s : Int) * (y : Int)) = ((s * y : Nat) : Int) by simp]
    exact IntWalk.i64_in _ (by omega)
  have HES := Lib.hid (And.intro es ey)
  clear hc hs hy hf hW1 h h1 hu1 hsm es ey
  generalize hn : s * y = n at *
  go_enter Tryz.func34, Tryz.ntmps34
  go_wp2_with fail
  rw [HW1.out]
  refine (HM.out _).mono ?_
  rintro e W2 ⟨rfl, hu⟩
  have HS2 := Lib.hid (HS.out.upd0 hu)
  have HU2 := Lib.hid (HU1.out.trans hu (fun _ _ h => h))
  have d0 : W2.cell? ⟨W.heap.size, 0, none⟩ = some (.int .i64 c.cores) := (HS2.out.box 0 rfl).cell 0
  have d1 : W2.cell? ⟨W.heap.size, 1, none⟩ = some (.int .i64 s) := by rw [← HES.out.1]; exact (HS2.out.box 0 rfl).cell 1
  have d2 : W2.cell? ⟨W.heap.size, 2, none⟩ = some (.int .i64 y) := by rw [← HES.out.2]; exact (HS2.out.box 0 rfl).cell 2
  have d3 : W2.cell? ⟨W.heap.size, 3, none⟩ = some (.int .i64 c.blocks) := (HS2.out.box 0 rfl).cell 3
  have d4 : W2.cell? ⟨W.heap.size, 4, none⟩ = some (.int .i64 c.logs) := (HS2.out.box 0 rfl).cell 4
  have d5 : W2.cell? ⟨W.heap.size, 5, none⟩ = some (.int .i64 c.backs) := (HS2.out.box 0 rfl).cell 5
  have d6 : W2.cell? ⟨W.heap.size, 6, none⟩ = some (.int .i64 c.nest) := (HS2.out.box 0 rfl).cell 6
  have d7 : W2.cell? ⟨W.heap.size, 7, none⟩ = some (.int .i64 c.tries) := (HS2.out.box 0 rfl).cell 7
  have HS3 : Hid (Sep NoF w0 W2 L) := Lib.hid (HS2.out.drop 0 (Nat.succ_pos _))
  have d0_0 : (W2.alloc (.cells (lnRow n fun _ => Ln.nil) LT)).drew.cell? ⟨W.heap.size, 0, none⟩ = some (.int .i64 c.cores) := ((Upd.alloc NoF W2 _).trans (Upd.drew NoF _) (fun _ _ h => h)).cell d0 (fun h => h)
  have d0_1 : (W2.alloc (.cells (lnRow n fun _ => Ln.nil) LT)).drew.cell? ⟨W.heap.size, 1, none⟩ = some (.int .i64 s) := ((Upd.alloc NoF W2 _).trans (Upd.drew NoF _) (fun _ _ h => h)).cell d1 (fun h => h)
  have d0_2 : (W2.alloc (.cells (lnRow n fun _ => Ln.nil) LT)).drew.cell? ⟨W.heap.size, 2, none⟩ = some (.int .i64 y) := ((Upd.alloc NoF W2 _).trans (Upd.drew NoF _) (fun _ _ h => h)).cell d2 (fun h => h)
  have d0_3 : (W2.alloc (.cells (lnRow n fun _ => Ln.nil) LT)).drew.cell? ⟨W.heap.size, 3, none⟩ = some (.int .i64 c.blocks) := ((Upd.alloc NoF W2 _).trans (Upd.drew NoF _) (fun _ _ h => h)).cell d3 (fun h => h)
  have d0_4 : (W2.alloc (.cells (lnRow n fun _ => Ln.nil) LT)).drew.cell? ⟨W.heap.size, 4, none⟩ = some (.int .i64 c.logs) := ((Upd.alloc NoF W2 _).trans (Upd.drew NoF _) (fun _ _ h => h)).cell d4 (fun h => h)
  have d0_5 : (W2.alloc (.cells (lnRow n fun _ => Ln.nil) LT)).drew.cell? ⟨W.heap.size, 5, none⟩ = some (.int .i64 c.backs) := ((Upd.alloc NoF W2 _).trans (Upd.drew NoF _) (fun _ _ h => h)).cell d5 (fun h => h)
  have d0_6 : (W2.alloc (.cells (lnRow n fun _ => Ln.nil) LT)).drew.cell? ⟨W.heap.size, 6, none⟩ = some (.int .i64 c.nest) := ((Upd.alloc NoF W2 _).trans (Upd.drew NoF _) (fun _ _ h => h)).cell d6 (fun h => h)
  have d0_7 : (W2.alloc (.cells (lnRow n fun _ => Ln.nil) LT)).drew.cell? ⟨W.heap.size, 7, none⟩ = some (.int .i64 c.tries) := ((Upd.alloc NoF W2 _).trans (Upd.drew NoF _) (fun _ _ h => h)).cell d7 (fun h => h)
  have d1_0 : (W2.alloc (.cells (rowU s fun _ => 0) UT)).drew.cell? ⟨W.heap.size, 0, none⟩ = some (.int .i64 c.cores) := ((Upd.alloc NoF W2 _).trans (Upd.drew NoF _) (fun _ _ h => h)).cell d0 (fun h => h)
  have d1_1 : (W2.alloc (.cells (rowU s fun _ => 0) UT)).drew.cell? ⟨W.heap.size, 1, none⟩ = some (.int .i64 s) := ((Upd.alloc NoF W2 _).trans (Upd.drew NoF _) (fun _ _ h => h)).cell d1 (fun h => h)
  have d1_2 : (W2.alloc (.cells (rowU s fun _ => 0) UT)).drew.cell? ⟨W.heap.size, 2, none⟩ = some (.int .i64 y) := ((Upd.alloc NoF W2 _).trans (Upd.drew NoF _) (fun _ _ h => h)).cell d2 (fun h => h)
  have d1_3 : (W2.alloc (.cells (rowU s fun _ => 0) UT)).drew.cell? ⟨W.heap.size, 3, none⟩ = some (.int .i64 c.blocks) := ((Upd.alloc NoF W2 _).trans (Upd.drew NoF _) (fun _ _ h => h)).cell d3 (fun h => h)
  have d1_4 : (W2.alloc (.cells (rowU s fun _ => 0) UT)).drew.cell? ⟨W.heap.size, 4, none⟩ = some (.int .i64 c.logs) := ((Upd.alloc NoF W2 _).trans (Upd.drew NoF _) (fun _ _ h => h)).cell d4 (fun h => h)
  have d1_5 : (W2.alloc (.cells (rowU s fun _ => 0) UT)).drew.cell? ⟨W.heap.size, 5, none⟩ = some (.int .i64 c.backs) := ((Upd.alloc NoF W2 _).trans (Upd.drew NoF _) (fun _ _ h => h)).cell d5 (fun h => h)
  have d1_6 : (W2.alloc (.cells (rowU s fun _ => 0) UT)).drew.cell? ⟨W.heap.size, 6, none⟩ = some (.int .i64 c.nest) := ((Upd.alloc NoF W2 _).trans (Upd.drew NoF _) (fun _ _ h => h)).cell d6 (fun h => h)
  have d1_7 : (W2.alloc (.cells (rowU s fun _ => 0) UT)).drew.cell? ⟨W.heap.size, 7, none⟩ = some (.int .i64 c.tries) := ((Upd.alloc NoF W2 _).trans (Upd.drew NoF _) (fun _ _ h => h)).cell d7 (fun h => h)
  have d2_0 : ((W2.alloc (.cells (lnRow n fun _ => Ln.nil) LT)).alloc (.cells (rowU s fun _ => 0) UT)).drew.cell? ⟨W.heap.size, 0, none⟩ = some (.int .i64 c.cores) := (((Upd.alloc NoF W2 _).trans (Upd.alloc NoF _ _) (fun _ _ h => h)).trans (Upd.drew NoF _) (fun _ _ h => h)).cell d0 (fun h => h)
  have d2_1 : ((W2.alloc (.cells (lnRow n fun _ => Ln.nil) LT)).alloc (.cells (rowU s fun _ => 0) UT)).drew.cell? ⟨W.heap.size, 1, none⟩ = some (.int .i64 s) := (((Upd.alloc NoF W2 _).trans (Upd.alloc NoF _ _) (fun _ _ h => h)).trans (Upd.drew NoF _) (fun _ _ h => h)).cell d1 (fun h => h)
  have d2_2 : ((W2.alloc (.cells (lnRow n fun _ => Ln.nil) LT)).alloc (.cells (rowU s fun _ => 0) UT)).drew.cell? ⟨W.heap.size, 2, none⟩ = some (.int .i64 y) := (((Upd.alloc NoF W2 _).trans (Upd.alloc NoF _ _) (fun _ _ h => h)).trans (Upd.drew NoF _) (fun _ _ h => h)).cell d2 (fun h => h)
  have d2_3 : ((W2.alloc (.cells (lnRow n fun _ => Ln.nil) LT)).alloc (.cells (rowU s fun _ => 0) UT)).drew.cell? ⟨W.heap.size, 3, none⟩ = some (.int .i64 c.blocks) := (((Upd.alloc NoF W2 _).trans (Upd.alloc NoF _ _) (fun _ _ h => h)).trans (Upd.drew NoF _) (fun _ _ h => h)).cell d3 (fun h => h)
  have d2_4 : ((W2.alloc (.cells (lnRow n fun _ => Ln.nil) LT)).alloc (.cells (rowU s fun _ => 0) UT)).drew.cell? ⟨W.heap.size, 4, none⟩ = some (.int .i64 c.logs) := (((Upd.alloc NoF W2 _).trans (Upd.alloc NoF _ _) (fun _ _ h => h)).trans (Upd.drew NoF _) (fun _ _ h => h)).cell d4 (fun h => h)
  have d2_5 : ((W2.alloc (.cells (lnRow n fun _ => Ln.nil) LT)).alloc (.cells (rowU s fun _ => 0) UT)).drew.cell? ⟨W.heap.size, 5, none⟩ = some (.int .i64 c.backs) := (((Upd.alloc NoF W2 _).trans (Upd.alloc NoF _ _) (fun _ _ h => h)).trans (Upd.drew NoF _) (fun _ _ h => h)).cell d5 (fun h => h)
  have d2_6 : ((W2.alloc (.cells (lnRow n fun _ => Ln.nil) LT)).alloc (.cells (rowU s fun _ => 0) UT)).drew.cell? ⟨W.heap.size, 6, none⟩ = some (.int .i64 c.nest) := (((Upd.alloc NoF W2 _).trans (Upd.alloc NoF _ _) (fun _ _ h => h)).trans (Upd.drew NoF _) (fun _ _ h => h)).cell d6 (fun h => h)
  have d2_7 : ((W2.alloc (.cells (lnRow n fun _ => Ln.nil) LT)).alloc (.cells (rowU s fun _ => 0) UT)).drew.cell? ⟨W.heap.size, 7, none⟩ = some (.int .i64 c.tries) := (((Upd.alloc NoF W2 _).trans (Upd.alloc NoF _ _) (fun _ _ h => h)).trans (Upd.drew NoF _) (fun _ _ h => h)).cell d7 (fun h => h)
  have d3_0 : ((W2.alloc (.cells (rowU s fun _ => 0) UT)).alloc (.cells (lnRow n fun _ => Ln.nil) LT)).drew.cell? ⟨W.heap.size, 0, none⟩ = some (.int .i64 c.cores) := (((Upd.alloc NoF W2 _).trans (Upd.alloc NoF _ _) (fun _ _ h => h)).trans (Upd.drew NoF _) (fun _ _ h => h)).cell d0 (fun h => h)
  have d3_1 : ((W2.alloc (.cells (rowU s fun _ => 0) UT)).alloc (.cells (lnRow n fun _ => Ln.nil) LT)).drew.cell? ⟨W.heap.size, 1, none⟩ = some (.int .i64 s) := (((Upd.alloc NoF W2 _).trans (Upd.alloc NoF _ _) (fun _ _ h => h)).trans (Upd.drew NoF _) (fun _ _ h => h)).cell d1 (fun h => h)
  have d3_2 : ((W2.alloc (.cells (rowU s fun _ => 0) UT)).alloc (.cells (lnRow n fun _ => Ln.nil) LT)).drew.cell? ⟨W.heap.size, 2, none⟩ = some (.int .i64 y) := (((Upd.alloc NoF W2 _).trans (Upd.alloc NoF _ _) (fun _ _ h => h)).trans (Upd.drew NoF _) (fun _ _ h => h)).cell d2 (fun h => h)
  have d3_3 : ((W2.alloc (.cells (rowU s fun _ => 0) UT)).alloc (.cells (lnRow n fun _ => Ln.nil) LT)).drew.cell? ⟨W.heap.size, 3, none⟩ = some (.int .i64 c.blocks) := (((Upd.alloc NoF W2 _).trans (Upd.alloc NoF _ _) (fun _ _ h => h)).trans (Upd.drew NoF _) (fun _ _ h => h)).cell d3 (fun h => h)
  have d3_4 : ((W2.alloc (.cells (rowU s fun _ => 0) UT)).alloc (.cells (lnRow n fun _ => Ln.nil) LT)).drew.cell? ⟨W.heap.size, 4, none⟩ = some (.int .i64 c.logs) := (((Upd.alloc NoF W2 _).trans (Upd.alloc NoF _ _) (fun _ _ h => h)).trans (Upd.drew NoF _) (fun _ _ h => h)).cell d4 (fun h => h)
  have d3_5 : ((W2.alloc (.cells (rowU s fun _ => 0) UT)).alloc (.cells (lnRow n fun _ => Ln.nil) LT)).drew.cell? ⟨W.heap.size, 5, none⟩ = some (.int .i64 c.backs) := (((Upd.alloc NoF W2 _).trans (Upd.alloc NoF _ _) (fun _ _ h => h)).trans (Upd.drew NoF _) (fun _ _ h => h)).cell d5 (fun h => h)
  have d3_6 : ((W2.alloc (.cells (rowU s fun _ => 0) UT)).alloc (.cells (lnRow n fun _ => Ln.nil) LT)).drew.cell? ⟨W.heap.size, 6, none⟩ = some (.int .i64 c.nest) := (((Upd.alloc NoF W2 _).trans (Upd.alloc NoF _ _) (fun _ _ h => h)).trans (Upd.drew NoF _) (fun _ _ h => h)).cell d6 (fun h => h)
  have d3_7 : ((W2.alloc (.cells (rowU s fun _ => 0) UT)).alloc (.cells (lnRow n fun _ => Ln.nil) LT)).drew.cell? ⟨W.heap.size, 7, none⟩ = some (.int .i64 c.tries) := (((Upd.alloc NoF W2 _).trans (Upd.alloc NoF _ _) (fun _ _ h => h)).trans (Upd.drew NoF _) (fun _ _ h => h)).cell d7 (fun h => h)
  have d4_0 : W2.drew.cell? ⟨W.heap.size, 0, none⟩ = some (.int .i64 c.cores) := (Upd.drew NoF W2).cell d0 (fun h => h)
  have d4_1 : W2.drew.cell? ⟨W.heap.size, 1, none⟩ = some (.int .i64 s) := (Upd.drew NoF W2).cell d1 (fun h => h)
  have d4_2 : W2.drew.cell? ⟨W.heap.size, 2, none⟩ = some (.int .i64 y) := (Upd.drew NoF W2).cell d2 (fun h => h)
  have d4_3 : W2.drew.cell? ⟨W.heap.size, 3, none⟩ = some (.int .i64 c.blocks) := (Upd.drew NoF W2).cell d3 (fun h => h)
  have d4_4 : W2.drew.cell? ⟨W.heap.size, 4, none⟩ = some (.int .i64 c.logs) := (Upd.drew NoF W2).cell d4 (fun h => h)
  have d4_5 : W2.drew.cell? ⟨W.heap.size, 5, none⟩ = some (.int .i64 c.backs) := (Upd.drew NoF W2).cell d5 (fun h => h)
  have d4_6 : W2.drew.cell? ⟨W.heap.size, 6, none⟩ = some (.int .i64 c.nest) := (Upd.drew NoF W2).cell d6 (fun h => h)
  have d4_7 : W2.drew.cell? ⟨W.heap.size, 7, none⟩ = some (.int .i64 c.tries) := (Upd.drew NoF W2).cell d7 (fun h => h)
  have HN := Lib.hid hn
  have hcl : ∀ kb gl gm, (Kp.mk kb gl gm n s #[] #[] s y).cells c = #[.int .i64 c.cores, .int .i64 s, .int .i64 y, .int .i64 c.blocks, .int .i64 c.logs, .int .i64 c.backs, .int .i64 c.nest, .int .i64 c.tries, .slice (some ⟨gl, 0, none⟩) n n, .slice (some ⟨gm, 0, none⟩) s s] := fun kb gl gm => by
    unfold Kp.cells; rw [HES.out.1, HES.out.2]; dsimp only; rw [hn]
  have HCL := Lib.hid hcl
  have fin : ∀ (kb gl gm : Nat) (V : World), Upd NoF W2 V → Sep NoF w0 V (boxO kb ((Kp.mk kb gl gm n s #[] #[] s y).cells c) KT :: boxO gl (lnRow n (fun _ => Ln.nil)) LT :: boxO gm (rowU s (fun _ => 0)) UT :: L) →
      ∃ p : Kp, (Ending.returned (.tuple #[ptr kb, .int .i64 0])) = .returned (.tuple #[ptr p.kb, .int .i64 0]) ∧ CIs KT w0 V p c (fun _ => Ln.nil) (fun _ => 0) L ∧ Upd NoF W V := fun kb gl gm V hu hs => by
    refine ⟨Kp.mk kb gl gm n s #[] #[] s y, rfl, ⟨?_, HFT.out kb gl gm, ⟨fun _ => Ln.nil_ok, fun _ => by omega⟩⟩, HU2.out.trans hu (fun _ _ h => h)⟩
    dsimp only
    rw [hn, Array.append_empty, Array.append_empty]
    exact hs
  have HFIN := Lib.hid fin
  clear hu HM HS HS2 HW1 HU1 hn hcl fin
  go_wp2_with fail
  go_region
  · go_wp2
    go_ret2
    refine HFIN.out _ W2.heap.size (W2.heap.size + 1) _ ((((Upd.alloc NoF _ _).trans (Upd.alloc NoF _ _) (fun _ _ h => h)).trans (Upd.alloc NoF _ _) (fun _ _ h => h)).trans (Upd.drew NoF _) (fun _ _ h => h)) ?_
    have a1 := ((HS3.out.alloc (lnRow n (fun _ => Ln.nil)) LT).alloc (rowU s (fun _ => 0)) UT).alloc ((Kp.mk 0 W2.heap.size (W2.heap.size + 1) n s #[] #[] s y).cells c) KT
    rw [World.size_alloc, World.size_alloc] at a1
    have a2 := (swap23 a1).upd0 (Upd.drew NoF _)
    rw [HCL.out] at a2 ⊢
    exact a2
  · go_wp2
    go_ret2
    refine HFIN.out _ (W2.heap.size + 1) W2.heap.size _ ((((Upd.alloc NoF _ _).trans (Upd.alloc NoF _ _) (fun _ _ h => h)).trans (Upd.alloc NoF _ _) (fun _ _ h => h)).trans (Upd.drew NoF _) (fun _ _ h => h)) ?_
    have a1 := ((HS3.out.alloc (rowU s (fun _ => 0)) UT).alloc (lnRow n (fun _ => Ln.nil)) LT).alloc ((Kp.mk 0 (W2.heap.size + 1) W2.heap.size n s #[] #[] s y).cells c) KT
    rw [World.size_alloc, World.size_alloc] at a1
    have a2 := a1.upd0 (Upd.drew NoF _)
    rw [HCL.out] at a2 ⊢
    exact a2
end
end Go.Proofs.YtjgeflbhmhmjdaaGreat.KA
