/- Package cache: what is no cache; the statements' line, pair, works (printed by tools/mkcachew.py). -/
import Derived.Test.YtaneobggbplkbaaCacheH
import Derived.Test.YtaneobggbplkbaaReg
set_option linter.unusedSimpArgs false
set_option linter.unusedVariables false
namespace Go.Proofs.Ytaneobggbplkbaa.KA
open Go.RowKit
open BU (IsU words)
open PL (Cfg CC CV May)
attribute [local go_sem] Oper.semAt_some
attribute [local go_sem ↓] TLin.ld_eq TLin.st_eq TLin.al_eq TLin.bx_eq eqL_eq neL_eq
attribute [local go_sem] TLin.al_run TLin.bx_run
section
variable {w0 W W' : World} {p : Kp} {T : TypeId} {c : Cfg} {A : Nat → Ln} {M : Nat → Int} {L : List Obj}
set_option maxRecDepth 100000 in
theorem new_no (c : Cfg) (hc : ¬ May c) (w : World) : Calls Try.prog 9 #[CV c] w fun e w' => e = .returned (.tuple #[.pointer none, .int .i64 2]) ∧ Upd NoF w w' := by
  have HM := Lib.hid (PL.pMay_no c hc)
  have hu1 := Upd.alloc NoF w (.cells (CC c) 23)
  have HU := Lib.hid hu1
  clear hc hu1
  go_enter Try.func9, Try.ntmps9
  go_wp2_with fail
  refine (HM.out _).mono ?_
  rintro e w2 ⟨rfl, hu⟩
  have HU2 := Lib.hid (HU.out.trans hu (fun _ _ h => h))
  clear hu
  go_wp2
  go_ret2
  exact ⟨rfl, HU2.out⟩
def lineL (b s : Int) : Ln := ⟨b, s, TBlk.Z⟩
theorem lineL_cells (b s : Int) : (lineL b s).cells = #[.int .i64 b, .int .u8 s, .int .u32 0, .int .u32 0, .int .u32 0, .int .u32 0, .int .u32 0, .int .u32 0, .int .u32 0, .int .u32 0, .int .u32 0, .int .u32 0, .int .u32 0, .int .u32 0, .int .u32 0, .int .u32 0, .int .u32 0, .int .u32 0] := by
  unfold lineL Ln.cells TBlk.Z; rfl
theorem lineL_ok (b s : Int) (hs : 0 ≤ s ∧ s ≤ 255) : (lineL b s).Ok := ⟨hs, BU.isU_Z⟩
set_option maxRecDepth 100000 in
theorem line_any (b s : Int) (hs : 0 ≤ s ∧ s ≤ 255) (w : World) : Calls Try.prog 11 #[.int .i64 b, .int .u8 s] w fun e w' => e = .returned (.agg (lineL b s).cells) ∧ Upd NoF w w' := by
  have hN := Ln.Ok.isN (lineL_ok b s hs).isU
  have s1 := TLin.st_new hN w
  have HV := Lib.hid (TLin.ldV_at hN (Blk.new w (lineL b s).cells LT).whole)
  have e1 := lineL_cells b s
  have HE := Lib.hid e1
  rw [show Value.agg (lineL b s).cells = Value.agg #[.int .i64 b, .int .u8 s, .int .u32 0, .int .u32 0, .int .u32 0, .int .u32 0, .int .u32 0, .int .u32 0, .int .u32 0, .int .u32 0, .int .u32 0, .int .u32 0, .int .u32 0, .int .u32 0, .int .u32 0, .int .u32 0, .int .u32 0, .int .u32 0] by rw [e1]] at s1
  obtain ⟨X, hX⟩ : ∃ X, w.alloc (.cells (lineL b s).cells LT) = X := ⟨_, rfl⟩
  rw [hX] at s1 HV
  have HU := Lib.hid (show Upd NoF w X by rw [← hX]; exact Upd.alloc NoF w _)
  clear hX hN e1 hs
  go_enter Try.func11, Try.ntmps11
  go_wp2
  have hv := HV.out
  refine bodyPost_ret (v := .agg (lineL b s).cells) ?_ ?_ ?_
  · simp [results, Try.f11, asAddr, hv]
  · rfl
  exact ⟨rfl, HU.out⟩
def pairC : Cfg := { cores := 1, sets := 1, ways := 2, blocks := 10, logs := 1, backs := 1, nest := 1, tries := 0 }
theorem pair_may : May pairC := by unfold May pairC; decide
set_option maxRecDepth 100000 in
theorem pair_any (w : World) : Calls Try.prog 22 #[] w fun e w' => e = .returned (CV pairC) ∧ Upd NoF w w' := by
  go_enter Try.func22, Try.ntmps22
  go_wp2
  exact bodyPost_ret (v := CV pairC) (by simp [results, Try.f22, go_sem]; exact ⟨rfl, rfl, rfl, rfl, rfl, rfl, rfl, rfl⟩) rfl ⟨rfl, Upd.alloc NoF w _⟩
/-- The state of the works: lines 4 and 6. -/
def wA1 (p : Kp) : Nat → Ln := p.putA (fun _ => Ln.nil) (lineL 4 1)
def wM1 (p : Kp) : Nat → Int := p.putM (fun _ => Ln.nil) (fun _ => 0) (lineL 4 1)
def wA2 (p : Kp) : Nat → Ln := p.putA (wA1 p) (lineL 6 2)
def wM2 (p : Kp) : Nat → Int := p.putM (wA1 p) (wM1 p) (lineL 6 2)
set_option maxRecDepth 100000 in
theorem w_facts (p : Kp) (hs : p.s = 1) (hy : p.y = 2) : p.putE (fun _ => Ln.nil) (lineL 4 1) = 0 ∧ p.putE (wA1 p) (lineL 6 2) = 0 ∧ p.putE (wA2 p) (lineL 5 1) = 7 ∧ p.putA (wA2 p) (lineL 5 1) = wA2 p ∧ p.putM (wA2 p) (wM2 p) (lineL 5 1) = wM2 p ∧
    p.goes (wA2 p) (wM2 p) 5 = some 0 ∧ p.gone (wA2 p) (wM2 p) 5 = lineL 4 1 ∧ (lns (p.s * p.y) (wA2 p)).length = 2 := by
  obtain ⟨kb, gl, gm, cl, cm, tl, tm, s, y⟩ := p
  dsimp only at hs hy
  subst hs hy
  refine ⟨?_, ?_, ?_, ?_, ?_, ?_, ?_, ?_⟩ <;> kernel_rfl
set_option maxRecDepth 100000 in
set_option maxHeartbeats 2000000 in
theorem works_any (w : World) : Calls Try.prog 8 #[] w fun e w' => e = .returned (.bool true) ∧ Upd NoF w w' := by
  go_enter Try.func8, Try.ntmps8
  go_wp2_with fail
  refine (pair_any w).mono ?_
  rintro e v1 ⟨rfl, hu⟩
  have HS1 := Lib.hid ((Sep.zero NoF w).upd0 hu)
  clear hu
  go_wp2_with fail
  refine (new_yes HS1.out pairC pair_may).mono ?_
  rintro e v2 ⟨p, rfl, hk, -⟩
  have hs : p.s = 1 := by have h : (1 : Int) = (p.s : Int) := hk.fits.es; omega
  have hy : p.y = 2 := by have h : (2 : Int) = (p.y : Int) := hk.fits.ew; omega
  obtain ⟨f1, f2, f3, f4, f5, f6, f7, f8⟩ := w_facts p hs hy
  have HF := Lib.hid (And.intro f1 (And.intro f2 (And.intro f3 (And.intro f4 (And.intro f5 (And.intro f6 (And.intro f7 f8)))))))
  have HK2 := Lib.hid hk
  clear hk hs hy f1 f2 f3 f4 f5 f6 f7 f8 HS1
  go_wp2_with fail
  refine (line_any 4 1 (by omega) v2).mono ?_
  rintro e v3 ⟨rfl, hu⟩
  have HK2a := Lib.hid (HK2.out.upd0 hu)
  clear hu
  go_wp2_with fail
  refine (put_is HK2a.out (lineL 4 1) (lineL_ok _ _ (by omega))).mono ?_
  rintro e v4 ⟨rfl, hk, -⟩
  rw [HF.out.1]
  have HK3 := Lib.hid (show CIs KT w v4 p pairC (wA1 p) (wM1 p) [] from hk)
  clear hk HK2a
  go_wp2_with fail
  refine (line_any 6 2 (by omega) v4).mono ?_
  rintro e v5 ⟨rfl, hu⟩
  have HK3a := Lib.hid (HK3.out.upd0 hu)
  clear hu
  go_wp2_with fail
  refine (put_is HK3a.out (lineL 6 2) (lineL_ok _ _ (by omega))).mono ?_
  rintro e v6 ⟨rfl, hk, -⟩
  rw [HF.out.2.1]
  have HK4 := Lib.hid (show CIs KT w v6 p pairC (wA2 p) (wM2 p) [] from hk)
  clear hk HK3a
  go_wp2_with fail
  refine (line_any 5 1 (by omega) v6).mono ?_
  rintro e v7 ⟨rfl, hu⟩
  have HK4a := Lib.hid (HK4.out.upd0 hu)
  clear hu
  go_wp2_with fail
  refine (put_is HK4a.out (lineL 5 1) (lineL_ok _ _ (by omega))).mono ?_
  rintro e v8 ⟨rfl, hk, -⟩
  rw [HF.out.2.2.1]
  have HK5 := Lib.hid (show CIs KT w v8 p pairC (wA2 p) (wM2 p) [] from (by rw [HF.out.2.2.2.1, HF.out.2.2.2.2.1] at hk; exact hk))
  clear hk HK4a
  go_wp2_with fail
  refine (goes_is HK5.out 5).mono ?_
  rintro e v9 ⟨rfl, hu⟩
  have HK6 := Lib.hid (HK5.out.upd0 hu)
  rw [HF.out.2.2.2.2.2.1, HF.out.2.2.2.2.2.2.1]
  clear hu HK5
  have hN := Ln.Ok.isN (lineL_ok 4 1 (by omega)).isU
  have s1 := TLin.st_new hN v9
  have heq : ∀ X, (eqL (.agg (lineL 4 1).cells) (.agg (lineL 4 1).cells)).run Try.prog X = .ok (.bool true) X := fun X => by rw [eqL_run (lineL_ok 4 1 (by omega)).isU (lineL_ok 4 1 (by omega)).isU X, Ln.same_self]
  obtain ⟨xx, hxx⟩ : ∃ xx, (lineL 4 1).cells = xx := ⟨_, rfl⟩
  rw [hxx] at s1 hN heq ⊢
  have hu := Upd.alloc NoF v9 (.cells xx LT)
  have q1 := Blk.new v9 xx LT
  obtain ⟨v10, hv10⟩ : ∃ X, v9.alloc (.cells xx LT) = X := ⟨_, rfl⟩
  rw [hv10] at s1 q1 hu
  have HQ := Lib.hid (fun (X : World) (h : Upd NoF v10 X) => TLin.ld_at hN (q1.upd h (fun h => h)).whole)
  have HK7 := Lib.hid (HK6.out.upd0 hu)
  have HXX := Lib.hid hxx
  clear hv10 hu q1 hN hxx
  go_wp2_with fail
  refine wp_region_held_drew (S := (fun X => Upd NoF v10 X)) (by kernel_rfl) (Upd.drew NoF v10) (fun hHeld => ?_)
  refine reg_on (i := 0) (v := .bool true) rfl (by kernel_rfl) (by kernel_rfl) (by kernel_rfl) (fun _ _ _ h => h) (by kernel_rfl) hHeld ?yr1_0 ?_
  case yr1_0 => (intro w hSw; (try dsimp only at hSw); have l1 := HQ.out w hSw; go_simp; first | done | with_reducible rfl)
  simp only [Act.put, List.setIfInBounds_toArray, List.set_cons_zero, List.set_cons_succ, List.getElem_toArray, List.getElem_cons_succ, List.getElem_cons_zero]
  refine reg_on (i := 1) (v := .bool true) rfl (by kernel_rfl) (by kernel_rfl) (by kernel_rfl) (fun _ _ _ h => h) (by kernel_rfl) hHeld ?yr1_1 ?_
  case yr1_1 => (intro w hSw; (try dsimp only at hSw); have l1 := HQ.out w hSw; go_simp; first | done | with_reducible rfl)
  simp only [Act.put, List.setIfInBounds_toArray, List.set_cons_zero, List.set_cons_succ, List.getElem_toArray, List.getElem_cons_succ, List.getElem_cons_zero]
  refine reg_on (i := 2) (v := .agg xx) rfl (by kernel_rfl) (by kernel_rfl) (by kernel_rfl) (fun _ _ _ h => h) (by kernel_rfl) hHeld ?yr1_2 ?_
  case yr1_2 => (intro w hSw; (try dsimp only at hSw); have l1 := HQ.out w hSw; go_simp; first | done | with_reducible rfl)
  simp only [Act.put, List.setIfInBounds_toArray, List.set_cons_zero, List.set_cons_succ, List.getElem_toArray, List.getElem_cons_succ, List.getElem_cons_zero]
  refine reg_step (i := 3) (by kernel_rfl) rfl (by kernel_rfl) (fun K hK => ?_)
  go_simp
  refine (line_any 4 1 (by omega) _).mono ?_
  rintro e w11 ⟨rfl, hu⟩
  rw [HXX.out]
  have HS : (fun X => Upd NoF v10 X) w11 := Upd.trans hHeld hu (fun _ _ h => h)
  have HK8 := Lib.hid (HK7.out.upd0 HS)
  have HSa := Lib.hid HS
  clear hu
  go_wp2_with fail
  refine hK.out _ _ HS (fun hHeld2 => ?_)
  clear hK hHeld2 hHeld
  have hHeld := HS
  clear HS
  try simp only [Act.put, List.setIfInBounds_toArray, List.set_cons_zero, List.set_cons_succ, List.getElem_toArray, List.getElem_cons_succ, List.getElem_cons_zero]
  refine reg_on (i := 4) (v := .bool true) rfl (by kernel_rfl) (by kernel_rfl) (by kernel_rfl) (fun _ _ _ h => h) (by kernel_rfl) hHeld ?yr1_4 ?_
  case yr1_4 => (intro w hSw; (try dsimp only at hSw); have h4 := heq w; go_simp; first | done | with_reducible rfl)
  simp only [Act.put, List.setIfInBounds_toArray, List.set_cons_zero, List.set_cons_succ, List.getElem_toArray, List.getElem_cons_succ, List.getElem_cons_zero]
  refine reg_on (i := 5) (v := .bool true) rfl (by kernel_rfl) (by kernel_rfl) (by kernel_rfl) (fun _ _ _ h => h) (by kernel_rfl) hHeld ?yr1_5 ?_
  case yr1_5 => (intro w hSw; (try dsimp only at hSw); have l1 := HQ.out w hSw; go_simp; first | done | with_reducible rfl)
  simp only [Act.put, List.setIfInBounds_toArray, List.set_cons_zero, List.set_cons_succ, List.getElem_toArray, List.getElem_cons_succ, List.getElem_cons_zero]
  refine reg_on (i := 6) (v := .bool true) rfl (by kernel_rfl) (by kernel_rfl) (by kernel_rfl) (fun _ _ _ h => h) (by kernel_rfl) hHeld ?yr1_6 ?_
  case yr1_6 => (intro w hSw; (try dsimp only at hSw); have l1 := HQ.out w hSw; go_simp; first | done | with_reducible rfl)
  simp only [Act.put, List.setIfInBounds_toArray, List.set_cons_zero, List.set_cons_succ, List.getElem_toArray, List.getElem_cons_succ, List.getElem_cons_zero]
  refine reg_on (i := 7) (v := ?vr1_7) rfl (by kernel_rfl) (by kernel_rfl) (by kernel_rfl) (fun _ _ _ h => h) (by kernel_rfl) hHeld ?yr1_7 ?_
  case yr1_7 => (intro w hSw; (try dsimp only at hSw); have l1 := HQ.out w hSw; go_simp; first | done | with_reducible rfl)
  simp only [Act.put, List.setIfInBounds_toArray, List.set_cons_zero, List.set_cons_succ, List.getElem_toArray, List.getElem_cons_succ, List.getElem_cons_zero]
  refine reg_step (i := 8) (by kernel_rfl) rfl (by kernel_rfl) (fun K hK => ?_)
  go_simp
  refine (len_is HK8.out).mono ?_
  rintro e w12 ⟨rfl, hu⟩
  rw [HF.out.2.2.2.2.2.2.2]
  have HS : (fun X => Upd NoF v10 X) w12 := (HK8.out.sep.upd.trans hu (fun _ _ h => h) |> fun _ => Upd.trans HSa.out hu (fun _ _ h => h))
  have HK9 := Lib.hid (HK8.out.upd0 hu)
  clear hu
  go_wp2_with fail
  refine hK.out _ _ HS (fun hHeld2 => ?_)
  clear hK hHeld2 hHeld
  have hHeld := HS
  clear HS
  try simp only [Act.put, List.setIfInBounds_toArray, List.set_cons_zero, List.set_cons_succ, List.getElem_toArray, List.getElem_cons_succ, List.getElem_cons_zero]
  refine reg_on (i := 9) (v := .bool true) rfl (by kernel_rfl) (by kernel_rfl) (by kernel_rfl) (fun _ _ _ h => h) (by kernel_rfl) hHeld ?yr1_9 ?_
  case yr1_9 => (intro w hSw; (try dsimp only at hSw); have l1 := HQ.out w hSw; go_simp; first | done | with_reducible rfl)
  simp only [Act.put, List.setIfInBounds_toArray, List.set_cons_zero, List.set_cons_succ, List.getElem_toArray, List.getElem_cons_succ, List.getElem_cons_zero]
  refine reg_on (i := 10) (v := .bool true) rfl (by kernel_rfl) (by kernel_rfl) (by kernel_rfl) (fun _ _ _ h => h) (by kernel_rfl) hHeld ?yr1_10 ?_
  case yr1_10 => (intro w hSw; (try dsimp only at hSw); have l1 := HQ.out w hSw; go_simp; first | done | with_reducible rfl)
  simp only [Act.put, List.setIfInBounds_toArray, List.set_cons_zero, List.set_cons_succ, List.getElem_toArray, List.getElem_cons_succ, List.getElem_cons_zero]
  refine reg_on (i := 11) (v := .bool true) rfl (by kernel_rfl) (by kernel_rfl) (by kernel_rfl) (fun _ _ _ h => h) (by kernel_rfl) hHeld ?yr1_11 ?_
  case yr1_11 => (intro w hSw; (try dsimp only at hSw); have l1 := HQ.out w hSw; go_simp; first | done | with_reducible rfl)
  simp only [Act.put, List.setIfInBounds_toArray, List.set_cons_zero, List.set_cons_succ, List.getElem_toArray, List.getElem_cons_succ, List.getElem_cons_zero]
  refine wpAnyH_done (by kernel_rfl) ?_ _
  clear hHeld
  go_wp2_with fail
  go_ret
  exact ⟨rfl, HK9.out.sep.upd⟩
end
end Go.Proofs.Ytaneobggbplkbaa.KA
