/- CacheKnown: what the Go function does (printed by tools/mkcknown.py). -/
import Derived.Test.YtaneobggbplkbaaCacheUniq
import Derived.Test.YtaneobggbplkbaaCacheNil
set_option linter.unusedSimpArgs false
set_option linter.unusedVariables false
namespace Go.Proofs.Ytaneobggbplkbaa.KA
open Go.RowKit
open BU (IsU words)
open PL (Cfg CC CV May)
attribute [local go_sem] Oper.semAt_some
attribute [local go_sem ↓] TLin.ld_eq TLin.st_eq TLin.al_eq TLin.bx_eq eqL_eq neL_eq
attribute [local go_sem] TLin.al_run TLin.bx_run
theorem CIs.box {T : TypeId} {w0 W : World} {p : Kp} {c : Cfg} {A : Nat → Ln} {M : Nat → Int} {L : List Obj} (h : CIs T w0 W p c A M L) (cs : Array Value) (U : TypeId) : CIs T w0 (W.alloc (.cells cs U)) p c A M (boxO W.heap.size cs U :: L) :=
  ⟨(h.sep.alloc cs U).sink 3, h.fits, h.ok⟩
def kM3 (p : Kp) : Nat → Int := p.useM (wA2 p) (wM2 p) 4
def kA4 (p : Kp) : Nat → Ln := p.drpA (wA2 p) 6
def kA5 (p : Kp) : Nat → Ln := p.putA (kA4 p) (lineL 5 1)
def kM5 (p : Kp) : Nat → Int := p.putM (kA4 p) (kM3 p) (lineL 5 1)
def kA6 (p : Kp) : Nat → Ln := p.trnA (kA5 p) 4 2
def kA7 (p : Kp) : Nat → Ln := p.wrA (kA6 p) 4 0 1
def kM7 (p : Kp) : Nat → Int := p.wrM (kA6 p) (kM5 p) 4 0
set_option maxRecDepth 100000 in
theorem k_facts (p : Kp) (hs : p.s = 1) (hy : p.y = 2) : (p.place (wA2 p) 4).isSome = true ∧ (p.goes (wA2 p) (kM3 p) 5).isSome = true ∧ (p.gone (wA2 p) (kM3 p) 5).blk = 6 ∧ (p.place (wA2 p) 6).isSome = true ∧ p.putE (kA4 p) (lineL 5 1) = 0 ∧
    p.wrE (kA5 p) 4 0 = 8 ∧ p.wrA (kA5 p) 4 0 1 = kA5 p ∧ p.wrM (kA5 p) (kM5 p) 4 0 = kM5 p ∧ p.trnE (kA5 p) 4 2 = 0 ∧ p.wrE (kA6 p) 4 0 = 0 ∧ (p.place (kA7 p) 6).isSome = false ∧ (p.place (kA7 p) 4).isSome = true ∧
    (p.fnd (kA7 p) 4).st = 3 ∧ (p.fnd (kA7 p) 4).D[0]? = some (.int .u32 1) := by
  obtain ⟨kb, gl, gm, cl, cm, tl, tm, s, y⟩ := p
  dsimp only at hs hy
  subst hs hy
  refine ⟨?_, ?_, ?_, ?_, ?_, ?_, ?_, ?_, ?_, ?_, ?_, ?_, ?_, ?_⟩ <;> kernel_rfl
set_option maxRecDepth 100000 in
set_option maxHeartbeats 4000000 in
theorem known_any (w : World) : Calls Try.prog 6 #[] w fun e w' => e = .returned (.bool true) ∧ Below w.heap.size w w' := by
  go_enter Try.func6, Try.ntmps6
  go_wp2_with fail
  refine (pair_any w).mono ?_
  rintro e v1 ⟨rfl, hu⟩
  have HS1 := Lib.hid ((Sep.zero NoF w).upd0 hu)
  clear hu
  go_wp2_with fail
  refine (new_yes HS1.out pairC pair_may).mono ?_
  rintro e v2 ⟨p, rfl, hk, -⟩
  have hs : p.s = 1 := by have h : (1 : Int) = (p.s : Int) := hk.fits.es; omega
  have hy : p.y = 2 := by have h : (2 : Int) = (p.y : Int) := hk.fits.ew; omega
  obtain ⟨f1, f2, -⟩ := w_facts p hs hy
  have HF := Lib.hid (And.intro f1 f2)
  obtain ⟨k1, k2, k3, k4, k5, k6, k7, k8, k9, k10, k11, k12, k13, k14⟩ := k_facts p hs hy
  have HK := Lib.hid hk
  have F1 := Lib.hid k1; have F2 := Lib.hid k2; have F3 := Lib.hid k3; have F4 := Lib.hid k4; have F5 := Lib.hid k5; have F6 := Lib.hid k6; have F7 := Lib.hid k7; have F8 := Lib.hid k8; have F9 := Lib.hid k9; have F10 := Lib.hid k10; have F11 := Lib.hid k11; have F12 := Lib.hid k12; have F13 := Lib.hid k13; have F14 := Lib.hid k14
  clear hk hs hy f1 f2 HS1 k1 k2 k3 k4 k5 k6 k7 k8 k9 k10 k11 k12 k13 k14
  go_wp2_with fail
  refine (works_any v2).mono ?_
  rintro e v3 ⟨rfl, hu⟩
  have HK1 := Lib.hid (HK.out.upd0 hu)
  clear hu HK
  go_wp2_with fail
  refine (line_any 4 1 (by omega) v3).mono ?_
  rintro e v4a ⟨rfl, hu⟩
  have HK2a := Lib.hid (HK1.out.upd0 hu)
  clear hu
  go_wp2_with fail
  refine (put_is HK2a.out (lineL 4 1) (lineL_ok _ _ (by omega))).mono ?_
  rintro e v4 ⟨rfl, hc, -⟩
  rw [HF.out.1]
  have HK2 := Lib.hid (show CIs KT w v4 p pairC (wA1 p) (wM1 p) [] from hc)
  clear hc HK2a
  go_wp2_with fail
  refine (line_any 6 2 (by omega) v4).mono ?_
  rintro e v5a ⟨rfl, hu⟩
  have HK3a := Lib.hid (HK2.out.upd0 hu)
  clear hu
  go_wp2_with fail
  refine (put_is HK3a.out (lineL 6 2) (lineL_ok _ _ (by omega))).mono ?_
  rintro e v5 ⟨rfl, hc, -⟩
  rw [HF.out.2]
  have HK3 := Lib.hid (show CIs KT w v5 p pairC (wA2 p) (wM2 p) [] from hc)
  clear hc HK3a
  go_wp2_with fail
  refine (kUse_is HK3.out 4).mono ?_
  rintro e v6 ⟨rfl, hc, -⟩
  rw [F1.out]
  have HK4 := Lib.hid (show CIs KT w v6 p pairC (wA2 p) (kM3 p) [] from hc)
  clear hc HK1 HK2 HK3
  go_wp2_with fail
  refine (goes_is HK4.out 5).mono ?_
  rintro e v7 ⟨rfl, hu⟩
  rw [F2.out]
  have HK5 := Lib.hid (HK4.out.upd0 hu)
  clear hu HK4
  have hgo : (p.gone (wA2 p) (kM3 p) 5).Ok := by unfold Kp.gone; split; exact HK5.out.ok.okA _; exact Ln.nil_ok
  have hgN := Ln.Ok.isN hgo.isU
  have hg0 := (Ln.get0 (p.gone (wA2 p) (kM3 p) 5)).trans (by rw [F3.out])
  generalize p.gone (wA2 p) (kM3 p) 5 = g at *
  have s1 := TLin.st_new hgN v7
  have HK6 := Lib.hid (HK5.out.box g.cells LT)
  obtain ⟨v8, hv8⟩ : ∃ X, v7.alloc (.cells g.cells LT) = X := ⟨_, rfl⟩
  rw [hv8] at s1 HK6
  clear hv8 HK5
  have c0 : v8.cell? ⟨v7.heap.size, 0, none⟩ = some (.int .i64 6) := ((HK6.out.sep.box 3 rfl).cell 0).trans hg0
  go_upto_region 5 with fail
  obtain ⟨lb, hlb⟩ : ∃ lb, v7.heap.size = lb := ⟨_, rfl⟩
  rw [hlb] at HK6 c0 ⊢
  clear hlb s1 hg0
  go_wp2_with fail
  refine (drop_is HK6.out 6).mono ?_
  rintro e v9 ⟨rfl, hc, -⟩
  rw [F4.out]
  have HK7 := Lib.hid (show CIs KT w v9 p pairC (kA4 p) (kM3 p) [boxO lb g.cells LT] from hc)
  clear hc HK6 c0
  go_wp2_with fail
  refine (line_any 5 1 (by omega) v9).mono ?_
  rintro e v10a ⟨rfl, hu⟩
  have HK8a := Lib.hid (HK7.out.upd0 hu)
  clear hu
  go_wp2_with fail
  refine (put_is HK8a.out (lineL 5 1) (lineL_ok _ _ (by omega))).mono ?_
  rintro e v10 ⟨rfl, hc, -⟩
  rw [F5.out]
  have HK8 := Lib.hid (show CIs KT w v10 p pairC (kA5 p) (kM5 p) [boxO lb g.cells LT] from hc)
  clear hc HK8a
  go_wp2_with fail
  refine (write_is HK8.out 4 0 1).mono ?_
  rintro e v11 ⟨rfl, hc, -⟩
  rw [F6.out]
  rw [F7.out, F8.out] at hc
  have HK9 := Lib.hid hc
  clear hc HK7 HK8
  go_wp2_with fail
  refine (turn_is HK9.out 4 2 (by omega)).mono ?_
  rintro e v12 ⟨rfl, hc, -⟩
  rw [F9.out]
  have HK10 := Lib.hid (show CIs KT w v12 p pairC (kA6 p) (kM5 p) [boxO lb g.cells LT] from hc)
  clear hc HK9
  go_wp2_with fail
  refine (write_is HK10.out 4 0 1).mono ?_
  rintro e v13 ⟨rfl, hc, -⟩
  rw [F10.out]
  have HK11 := Lib.hid (show CIs KT w v13 p pairC (kA7 p) (kM7 p) [boxO lb g.cells LT] from hc)
  clear hc HK10
  go_wp2_with fail
  refine (find_is HK11.out 6).mono ?_
  rintro e v14 ⟨rfl, hu⟩
  rw [F11.out]
  have HK12 := Lib.hid (HK11.out.upd0 hu)
  clear hu HK11
  generalize (p.fnd (kA7 p) 6).cells = y6 at *
  go_wp2_with fail
  refine (find_is HK12.out 4).mono ?_
  rintro e v15 ⟨rfl, hu⟩
  rw [F12.out]
  have HK13 := Lib.hid (HK12.out.upd0 hu)
  clear hu HK12
  have hyo := fnd_ok (p := p) HK13.out.ok 4
  have hyN := Ln.Ok.isN hyo.isU
  have hy1 := (Ln.get1 (p.fnd (kA7 p) 4)).trans (by rw [F13.out])
  have hy2 := (Ln.getD (p.fnd (kA7 p) 4) 0).trans F14.out
  generalize p.fnd (kA7 p) 4 = y at *
  obtain ⟨s2, -⟩ := TLin.st_at hgN hyN (HK13.out.sep.box 3 rfl)
  have hsm := HK13.out.sep.setM 3 rfl 0 y.cells.toList
  rw [setMany_all g.cells y.cells (by rw [hgN.1, hyN.1])] at hsm
  obtain ⟨v16, hv16⟩ : ∃ X, v15.setCells lb 0 y.cells.toList = X := ⟨_, rfl⟩
  rw [hv16] at s2 hsm
  have HS := Lib.hid (show Sep NoF w v16 [boxO p.kb (p.cells pairC) KT, boxO p.gl (lnRow (p.s * p.y) (kA7 p) ++ p.tl) LT, boxO p.gm (rowU p.s (kM7 p) ++ p.tm) UT, boxO lb y.cells LT] from hsm)
  clear hv16 hsm HK13 hgN hgo
  go_wp2_with fail
  refine (find_no 0 v16).mono ?_
  rintro e v17 ⟨rfl, hu⟩
  have HS1 := Lib.hid (HS.out.upd0 hu)
  clear hu s2 HS
  have s3 := TLin.st_new TLin.isZ v17
  have HS2 := Lib.hid (HS1.out.upd0 (Upd.alloc NoF v17 (.cells TLin.Z LT)))
  clear HS1
  go_wp2_with fail
  obtain ⟨v18, hv18⟩ : ∃ X, v17.alloc (.cells TLin.Z LT) = X := ⟨_, rfl⟩
  rw [hv18] at HS2 ⊢
  clear hv18 s3
  refine (goes_no 0 v18).mono ?_
  rintro e v19 ⟨rfl, hu⟩
  have HS3 := Lib.hid (HS2.out.upd0 hu)
  clear hu HS2
  have s4 := TLin.st_new TLin.isZ v19
  have HS4 := Lib.hid (HS3.out.upd0 (Upd.alloc NoF v19 (.cells TLin.Z LT)))
  clear HS3
  go_upto_region 12 with fail
  obtain ⟨v20, hv20⟩ : ∃ X, v19.alloc (.cells TLin.Z LT) = X := ⟨_, rfl⟩
  rw [hv20] at HS4 ⊢
  clear hv20 s4
  have c1 : v20.cell? ⟨lb, 1, none⟩ = some (.int .u8 3) := ((HS4.out.box 3 rfl).cell 1).trans hy1
  have c2 : v20.cell? ⟨lb, 2, none⟩ = some (.int .u32 1) := ((HS4.out.box 3 rfl).cell 2).trans hy2
  have l1 := TLin.ld_at hyN (HS4.out.box 3 rfl).whole
  go_wp2_with fail
  refine (put_no y v20).mono ?_
  rintro e v21 ⟨rfl, hu⟩
  have HS5 := Lib.hid (HS4.out.upd0 hu)
  clear hu HS4 c1 c2 l1
  go_wp2_with fail
  refine (write_no 0 0 0 v21).mono ?_
  rintro e v22 ⟨rfl, hu⟩
  have HS5' := Lib.hid (HS5.out.upd0 hu)
  clear hu HS5
  go_wp2_with fail
  refine (turn_no 0 1 v22).mono ?_
  rintro e v23 ⟨rfl, hu⟩
  have HS5'' := Lib.hid (HS5'.out.upd0 hu)
  clear hu HS5'
  go_wp2_with fail
  refine (drop_no 0 v23).mono ?_
  rintro e v24 ⟨rfl, hu⟩
  have HS5''' := Lib.hid (HS5''.out.upd0 hu)
  clear hu HS5''
  go_wp2_with fail
  refine (use_no 0 v24).mono ?_
  rintro e v25 ⟨rfl, hu⟩
  have HS5'''' := Lib.hid (HS5'''.out.upd0 hu)
  clear hu HS5'''
  go_wp2_with fail
  refine (len_no v25).mono ?_
  rintro e v26 ⟨rfl, hu⟩
  have HS5''''' := Lib.hid (HS5''''.out.upd0 hu)
  clear hu HS5''''
  go_wp2_with fail
  refine (copy_no v26).mono ?_
  rintro e v27 ⟨rfl, hu⟩
  have HS5'''''' := Lib.hid (HS5'''''.out.upd0 hu)
  clear hu HS5'''''
  go_wp2
  go_ret
  exact ⟨rfl, HS5''''''.out.below⟩
end Go.Proofs.Ytaneobggbplkbaa.KA
