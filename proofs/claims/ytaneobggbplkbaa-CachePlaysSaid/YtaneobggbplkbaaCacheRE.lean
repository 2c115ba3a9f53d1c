/- The reference of the cache: Goes (printed by tools/mkcre.py). -/
import Derived.Test.YtaneobggbplkbaaCacheRD
set_option linter.unusedSimpArgs false
set_option linter.unusedVariables false
namespace Go.Proofs.Ytaneobggbplkbaa.KA
open Go.RowKit
open BU (IsU words)
open PL (Cfg CC CV May)
attribute [local go_sem] Oper.semAt_some
attribute [local go_sem ↓] TLin.ld_eq TLin.st_eq TLin.al_eq TLin.bx_eq
attribute [local go_sem] TLin.al_run TLin.bx_run
section
variable {w0 W W' : World} {p : Kp} {T : TypeId} {c : Cfg} {A : Nat → Ln} {M : Nat → Int} {L : List Obj}
set_option maxRecDepth 100000 in
set_option maxHeartbeats 4000000 in
theorem rgoes_is (h : CIs T w0 W p c A M L) (hg : Good p A) (hu : Uniq p A) (b : Int) : Calls Try.prog 43 #[ptr p.kb, .int .i64 b] W fun e W' =>
    e = .returned (.tuple #[.agg (p.gone A M b).cells, .bool (p.goes A M b).isSome]) ∧ Upd NoF W W' := by
  have hu1 := Upd.alloc NoF W (.cells TLin.Z LT)
  have h1 := h.upd0 hu1
  have HPL := Lib.hid (rplace_is h1 hg hu b)
  have HFR := fun hm => Lib.hid (rfree_is h1 b hm)
  have hub : ∀ (X Y : World) (vs : List Value), Upd NoF W X → X.setCells W.heap.size 0 vs = Y → Upd NoF W Y := fun X Y vs hX e => by
    rw [← e]; exact hX.trans (upd_setCells vs 0 _) (fun k hk e => by have e : k = W.heap.size := e; omega)
  have HB := Lib.hid hub
  have HQ := Lib.hid (Blk.new W TLin.Z LT)
  have HU1 := Lib.hid hu1
  clear hub hu1
  cases hm : mayK b with
  | false =>
    have e1 : p.goes A M b = none := by unfold Kp.goes; rw [hm]; rfl
    have e2 : p.gone A M b = Ln.nil := by unfold Kp.gone; rw [e1]
    rw [e1, e2, Ln.nil_cells]
    obtain ⟨s1, q1⟩ := TLin.st_at TLin.isZ TLin.isZ HQ.out
    rw [zlit] at s1
    have HV := Lib.hid (TLin.ldV_at TLin.isZ q1.whole)
    generalize hX : (W.alloc (.cells TLin.Z LT)).setCells W.heap.size 0 TLin.Z.toList = X at *
    have HF := Lib.hid (HB.out _ _ _ HU1.out hX)
    have hnb := mayK_not hm
    clear hX q1 HB h h1 hg hu hm HPL HFR e1 e2
    by_cases c1 : b < 0
    · have g1 : decide (b < 0) = true := by simp; omega
      clear hnb c1
      go_enter Try.func43, Try.ntmps43
      go_wp2_with fail
      have hv := HV.out
      refine bodyPost_ret (v := .tuple #[.agg TLin.Z, .bool false]) ?_ ?_ ?_
      · simp [results, Try.f43, asAddr, hv]
      · rfl
      exact ⟨rfl, HF.out⟩
    · have g1 : decide (b < 0) = false := by simp; omega
      have g2 : decide (255 < b) = true := by simp; omega
      clear hnb c1
      go_enter Try.func43, Try.ntmps43
      go_wp2_with fail
      have hv := HV.out
      refine bodyPost_ret (v := .tuple #[.agg TLin.Z, .bool false]) ?_ ?_ ?_
      · simp [results, Try.f43, asAddr, hv]
      · rfl
      exact ⟨rfl, HF.out⟩
  | true =>
    have hbb := mayK_of hm
    have g1 : decide (b < 0) = false := by simp; omega
    have g2 : decide (255 < b) = false := by simp; omega
    rcases slot_cases p A b with ⟨i, hp, hs⟩ | ⟨hp, hs, hf⟩ | ⟨i, hp, hs, hf⟩
    · have e1 : p.goes A M b = none := by unfold Kp.goes; rw [hm, hp]; rfl
      have e2 : p.gone A M b = Ln.nil := by unfold Kp.gone; rw [e1]
      rw [e1, e2, Ln.nil_cells]
      rw [plI_some hp] at HPL
      obtain ⟨s1, q1⟩ := TLin.st_at TLin.isZ TLin.isZ HQ.out
      rw [zlit] at s1
      have HV := Lib.hid (TLin.ldV_at TLin.isZ q1.whole)
      generalize hX : (W.alloc (.cells TLin.Z LT)).setCells W.heap.size 0 TLin.Z.toList = X at *
      have HF := Lib.hid (HB.out _ _ _ HU1.out hX)
      have hi0 : decide (0 ≤ (i : Int)) = true := by simp
      clear hX q1 HB h h1 hg hu hm HFR e1 e2 hp hs hbb
      go_enter Try.func43, Try.ntmps43
      go_wp2_with fail
      refine HPL.out.mono ?_
      rintro e W2 ⟨rfl, rfl⟩
      go_wp2_with fail
      have hv := HV.out
      refine bodyPost_ret (v := .tuple #[.agg TLin.Z, .bool false]) ?_ ?_ ?_
      · simp [results, Try.f43, asAddr, hv]
      · rfl
      exact ⟨rfl, HF.out⟩
    · have hfr0 : p.fr A b < 0 := by
        unfold Kp.frI at hf
        by_cases h9 : p.fr A b < 0
        · exact h9
        · rw [if_neg h9] at hf; omega
      have hvr := vicV_rng (M (p.set b)) p.y (by have := h.fits.sy.2; omega)
      obtain ⟨v, hv2⟩ : ∃ v : Nat, vicV (M (p.set b)) p.y = v := ⟨_, (Int.toNat_of_nonneg hvr.1).symm⟩
      have e1 : p.goes A M b = some (p.set b * p.y + v) := by unfold Kp.goes; rw [hm, hp]; dsimp only; rw [if_pos rfl, if_pos hfr0, hv2]; rfl
      have e2 : p.gone A M b = A (p.set b * p.y + v) := by unfold Kp.gone; rw [e1]
      rw [e1, e2]
      rw [plI_none hp] at HPL
      have HFR := HFR hm
      rw [hf] at HFR
      have hvy : v < p.y := by omega
      have hlt := h.fits.idx_lt (b := b) hvy
      have hsm := Kp.small h.fits
      have hq := h.fits.set_lt b
      have hse := mayK_set h.fits hm
      have HSE := Lib.hid (fun w => rset_any c h.fits.may b hbb w)
      rw [hse] at HSE
      have HVC := Lib.hid (fun w => rvic_any (M (p.set b)) (h.ok.okM _) p.y (by have := h.fits.sy.2; omega) w)
      rw [hv2] at HVC
      have hxo := h.ok.okA (p.set b * p.y + v)
      have hxN := Ln.Ok.isN hxo.isU
      have HA : Hid (∀ X, Upd NoF (W.alloc (.cells TLin.Z LT)) X → X.cell? ⟨p.kb, 8, none⟩ = some (.slice (some ⟨p.gl, 0, none⟩) (p.s * p.y) p.cl) ∧ X.cell? ⟨p.kb, 2, none⟩ = some (.int .i64 p.y) ∧ X.cell? ⟨p.kb, 9, none⟩ = some (.slice (some ⟨p.gm, 0, none⟩) p.s p.cm) ∧ X.cell? ⟨p.gm, p.set b, none⟩ = some (.int .u8 (M (p.set b))) ∧ (TLin.ld (.pointer (some ⟨p.gl, (p.set b * p.y + v) * 18, none⟩))).run Try.prog X = .ok (.agg (A (p.set b * p.y + v)).cells) X) := Lib.hid (fun X hX => ⟨(h1.bk.upd hX (fun h => h)).cell 8, by rw [← h.fits.ew]; exact (h1.bk.upd hX (fun h => h)).cell 2, (h1.bk.upd hX (fun h => h)).cell 9, ((h1.bm.upd hX (fun h => h)).cell (p.set b)).trans (rowX_get hq), TLin.ld_at hxN (lnRow_range (h1.bl.upd hX (fun h => h)) hxo.isU hlt)⟩)
      have HCF := Lib.hid (fun X (hX : Upd NoF (W.alloc (.cells TLin.Z LT)) X) => (h1.bk.upd hX (fun h => h)))
      have hsb : ((p.set b * p.y : Nat) : Int) ≤ 64 := by have := Kp.row_le (y := p.y) hq; omega
      have w1 : IntKind.i64.wrap ((p.set b : Int) * (p.y : Int)) = ((p.set b * p.y : Nat) : Int) := by
        rw [show ((p.set b * p.y : Nat) : Int) = (p.set b : Int) * p.y by simp] at *
        exact IntWalk.i64_in _ (by omega)
      have w2 : IntKind.i64.wrap (((p.set b * p.y : Nat) : Int) + (v : Int)) = ((p.set b * p.y + v : Nat) : Int) := by rw [IntWalk.i64_in _ (by omega)]; simp
      have hin : ((p.set b * p.y + v : Nat) : Int) < ((p.s * p.y : Nat) : Int) := by omega
      have hqs : ((p.set b : Nat) : Int) < (p.s : Int) := by omega
      have HN := Lib.hid (And.intro w1 (And.intro w2 (And.intro hin hqs)))
      clear w1 w2 hin hqs hsb hse hsm hlt hvy hv2 hvr hfr0 hf hp hs hm hbb h h1 hg hu e1 e2 hxo
      generalize M (p.set b) = m at *
      generalize A (p.set b * p.y + v) = x at *
      generalize p.set b * p.y = oo at *
      generalize p.set b = q at *
      generalize p.s * p.y = n at *
      have hn1 : decide ((0 : Int) ≤ -1) = false := by decide
      go_enter Try.func43, Try.ntmps43
      go_wp2_with fail
      refine HPL.out.mono ?_
      rintro e W2 ⟨rfl, rfl⟩
      go_wp2_with fail
      refine HFR.out.mono ?_
      rintro e W3 ⟨rfl, hu⟩
      have HU3 := Lib.hid hu
      clear hu
      have k0 : W3.cell? ⟨p.kb, 0, none⟩ = some (.int .i64 c.cores) := (HCF.out _ HU3.out).cell 0
      have k1 : W3.cell? ⟨p.kb, 1, none⟩ = some (.int .i64 c.sets) := (HCF.out _ HU3.out).cell 1
      have k2 : W3.cell? ⟨p.kb, 2, none⟩ = some (.int .i64 c.ways) := (HCF.out _ HU3.out).cell 2
      have k3 : W3.cell? ⟨p.kb, 3, none⟩ = some (.int .i64 c.blocks) := (HCF.out _ HU3.out).cell 3
      have k4 : W3.cell? ⟨p.kb, 4, none⟩ = some (.int .i64 c.logs) := (HCF.out _ HU3.out).cell 4
      have k5 : W3.cell? ⟨p.kb, 5, none⟩ = some (.int .i64 c.backs) := (HCF.out _ HU3.out).cell 5
      have k6 : W3.cell? ⟨p.kb, 6, none⟩ = some (.int .i64 c.nest) := (HCF.out _ HU3.out).cell 6
      have k7 : W3.cell? ⟨p.kb, 7, none⟩ = some (.int .i64 c.tries) := (HCF.out _ HU3.out).cell 7
      go_wp2_with fail
      refine (HSE.out _).mono ?_
      rintro e W4 ⟨rfl, hu⟩
      have HU4 := Lib.hid (HU3.out.trans hu (fun _ _ h => h))
      clear hu k0 k1 k2 k3 k4 k5 k6 k7
      have hqs := HN.out.2.2.2
      go_wp2_with fail
      go_region_held3 (fun X => Upd NoF (W.alloc (.cells TLin.Z LT)) X ∧ X.cell? ⟨p.kb, 2, none⟩ = some (.int .i64 p.y) ∧ X.cell? ⟨p.kb, 9, none⟩ = some (.slice (some ⟨p.gm, 0, none⟩) p.s p.cm) ∧ X.cell? ⟨p.gm, q, none⟩ = some (.int .u8 m)) (first | assumption | exact ⟨HU4.out.trans (Upd.drew NoF _) (fun _ _ h => h), (HA.out _ (HU4.out.trans (Upd.drew NoF _) (fun _ _ h => h))).2.1, (HA.out _ (HU4.out.trans (Upd.drew NoF _) (fun _ _ h => h))).2.2.1, (HA.out _ (HU4.out.trans (Upd.drew NoF _) (fun _ _ h => h))).2.2.2.1⟩)
        (first | (go_at_call 59; have hS : Upd NoF (W.alloc (.cells TLin.Z LT)) _ ∧ _ := ‹_›; refine (HVC.out _).mono ?_; rintro e w1 ⟨rfl, hu⟩; have HU5 := Lib.hid (hS.1.trans hu (fun _ _ h => h)); have hS' : (fun X => Upd NoF (W.alloc (.cells TLin.Z LT)) X ∧ X.cell? ⟨p.kb, 2, none⟩ = some (.int .i64 p.y) ∧ X.cell? ⟨p.kb, 9, none⟩ = some (.slice (some ⟨p.gm, 0, none⟩) p.s p.cm) ∧ X.cell? ⟨p.gm, q, none⟩ = some (.int .u8 m)) w1 := ⟨HU5.out, (HA.out _ HU5.out).2.1, (HA.out _ HU5.out).2.2.1, (HA.out _ HU5.out).2.2.2.1⟩; clear hu))
      all_goals
        clear hS hS'
        have HU6 := Lib.hid (HU5.out.trans (Upd.drew NoF w1) (fun _ _ h => h))
        obtain ⟨k8, k2, -, -, l1⟩ := HA.out _ HU6.out
        obtain ⟨w1', w2', hin, -⟩ := HN.out
        obtain ⟨s1, q1⟩ := TLin.st_at TLin.isZ hxN (HQ.out.upd HU6.out (fun h => h))
        have HV := Lib.hid (TLin.ldV_at hxN q1.whole)
        have HF := Lib.hid (HB.out _ _ x.cells.toList (HU1.out.trans HU6.out (fun _ _ h => h)) rfl)
        clear q1 hqs
        go_wp2_with fail
        go_region
        all_goals
          go_wp2
          have hv := HV.out
          refine bodyPost_ret (v := .tuple #[.agg x.cells, .bool true]) ?_ ?_ ?_
          · simp [results, Try.f43, asAddr, hv]
          · rfl
          exact ⟨rfl, HF.out⟩
    · have e1 : p.goes A M b = none := by
        have h9 := goes_slot (p := p) (A := A) (M := M) hm
        rw [hs] at h9
        cases hgo : p.goes A M b with
        | none => rfl
        | some k => rw [hgo] at h9; cases h9
      have e2 : p.gone A M b = Ln.nil := by unfold Kp.gone; rw [e1]
      rw [e1, e2, Ln.nil_cells]
      rw [plI_none hp] at HPL
      have HFR := HFR hm
      rw [hf] at HFR
      have hi0 : decide (0 ≤ (i : Int)) = true := by simp
      clear h h1 hg hu hm e1 e2 hp hs hbb hf
      go_enter Try.func43, Try.ntmps43
      go_wp2_with fail
      refine HPL.out.mono ?_
      rintro e W2 ⟨rfl, rfl⟩
      go_wp2_with fail
      refine HFR.out.mono ?_
      rintro e W3 ⟨rfl, hu⟩
      obtain ⟨s1, q1⟩ := TLin.st_at TLin.isZ TLin.isZ (HQ.out.upd hu (fun h => h))
      rw [zlit] at s1
      have HV := Lib.hid (TLin.ldV_at TLin.isZ q1.whole)
      generalize hX : W3.setCells W.heap.size 0 TLin.Z.toList = X at *
      have HF := Lib.hid (HB.out _ _ _ (HU1.out.trans hu (fun _ _ h => h)) hX)
      clear hX q1 HB hu
      go_wp2_with fail
      have hv := HV.out
      refine bodyPost_ret (v := .tuple #[.agg TLin.Z, .bool false]) ?_ ?_ ?_
      · simp [results, Try.f43, asAddr, hv]
      · rfl
      exact ⟨rfl, HF.out⟩
end
end Go.Proofs.Ytaneobggbplkbaa.KA
