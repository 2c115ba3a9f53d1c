/- The reference of the cache: May, Place, Free, Used. -/
import Derived.Test.YtaneobggbplkbaaCacheHas
import Derived.Test.YtaneobggbplkbaaCacheRV
set_option linter.unusedSimpArgs false
set_option linter.unusedVariables false
namespace Go.Proofs.Ytaneobggbplkbaa.KA
open Go.RowKit
open BU (IsU words)
open PL (Cfg CC CV May)
attribute [local go_sem] Oper.semAt_some
attribute [local go_sem ↓] TLin.ld_eq TLin.st_eq TLin.al_eq TLin.bx_eq
attribute [local go_sem] TLin.al_run TLin.bx_run
abbrev RT : TypeId := 81
section
variable {w0 W W' : World} {p : Kp} {T : TypeId} {c : Cfg} {A : Nat → Ln} {M : Nat → Int} {L : List Obj}
set_option maxRecDepth 100000 in
theorem rmay_any (x : Ln) (W : World) : Calls Try.prog 54 #[.agg x.cells] W fun e w' => e = .returned (.bool (mayX x)) ∧ Upd NoF W w' := by
  have hu := Upd.alloc NoF W (.cells x.cells LT)
  have q := Blk.new W x.cells LT
  obtain ⟨V, hV⟩ : ∃ V, W.alloc (.cells x.cells LT) = V := ⟨_, rfl⟩
  rw [hV] at hu q
  have f0 : V.cell? ⟨W.heap.size, 0, none⟩ = some (.int .i64 x.blk) := (q.cell 0).trans x.get0
  have f1 : V.cell? ⟨W.heap.size, 1, none⟩ = some (.int .u8 x.st) := (q.cell 1).trans x.get1
  have HU := Lib.hid hu; have HV := Lib.hid hV
  have hmx : mayX x = (decide (0 ≤ x.blk) && decide (x.blk ≤ 255) && decide (1 ≤ x.st) && decide (x.st ≤ 3)) := by
    unfold mayX mayK
    congr 3
    rw [Bool.eq_iff_iff]
    simp only [decide_eq_true_eq]
    omega
  rw [hmx]
  clear hu q hV hmx
  cases h1 : decide (0 ≤ x.blk) <;> cases h2 : decide (x.blk ≤ 255) <;> cases h3 : decide (1 ≤ x.st)
  all_goals
    go_enter Try.func54, Try.ntmps54
    go_upto_region 1 with fail
    rw [HV.out]
    go_wp2
    go_ret
    exact ⟨by simp, HU.out⟩
/-- Where a block's line stands, as a number. -/
def Kp.plI (p : Kp) (A : Nat → Ln) (b : Int) : Int := match p.place A b with | some i => (i : Int) | none => -1
theorem plI_first (hf : p.Fits c) (hg : Good p A) (hu : Uniq p A) (b : Int) : firstW (hasB b) A 0 (p.s * p.y) = p.plI A b := by
  unfold Kp.plI
  rcases firstW_cases (hasB b) A 0 (p.s * p.y) with ⟨h1, h2⟩ | ⟨j, h1, h2, h3⟩
  · rw [h1]
    cases hp : p.place A b with
    | none => rfl
    | some i =>
      obtain ⟨g1, g2, g3⟩ := place_lt hf hp
      have := h2 i g1
      rw [Nat.zero_add, hasB_iff.2 ⟨g2, g3⟩] at this
      cases this
  · rw [h2]
    rw [Nat.zero_add] at h3
    obtain ⟨g2, g3⟩ := hasB_iff.1 h3
    have := place_eq hf hg hu h1 g2
    rw [g3] at this
    rw [this]
set_option maxRecDepth 100000 in
set_option maxHeartbeats 1000000 in
theorem rplace_is (h : CIs T w0 W p c A M L) (hg : Good p A) (hu : Uniq p A) (b : Int) : Calls Try.prog 55 #[ptr p.kb, .int .i64 b] W fun e W' => e = .returned (.int .i64 (p.plI A b)) ∧ W = W' := by
  rw [← plI_first h.fits hg hu b]
  have k8 : W.cell? ⟨p.kb, 8, none⟩ = some (.slice (some ⟨p.gl, 0, none⟩) (p.s * p.y) p.cl) := h.bk.cell 8
  have hn := (Kp.small h.fits).2.2.2.2.1
  have HL := Lib.hid (fun (j : Nat) (hj : j < p.s * p.y) => And.intro ((h.bl.cell (j * 18 + 0)).trans ((lnX_get (h.ok.okA j).isU hj (show 0 < 18 by omega)).trans (A j).get0)) ((h.bl.cell (j * 18 + 1)).trans ((lnX_get (h.ok.okA j).isU hj (show 1 < 18 by omega)).trans (A j).get1)))
  clear h hg hu
  generalize p.s * p.y = n at *
  go_enter Try.func55, Try.ntmps55
  go_wp2
  go_loopw [5] (fun i wr => ∃ j : Nat, j ≤ n ∧ i = .int .i64 j ∧ W = wr ∧ Hid (∀ q, q < j → hasB b (A (0 + q)) = false)) (fun i _ => n - (intOf i).toNat)
  case atStart => exact ⟨0, Nat.zero_le _, rfl, rfl, fun q hq => by omega⟩
  case round =>
    obtain ⟨j, hj, rfl, rfl, HI⟩ := hrel
    by_cases hlt : j < n
    · obtain ⟨c0, c1⟩ := HL.out j hlt
      rw [Nat.add_zero] at c0
      have HP : Hid (∀ bo : Bool, hasB b (A (0 + j)) = bo → (bo = true → firstW (hasB b) A 0 n = j) ∧ (bo = false → ∀ q, q < j + 1 → hasB b (A (0 + q)) = false)) := Lib.hid (fun bo hbo => ⟨fun e => firstW_hit HI.out hlt (by rw [hbo, e]), fun e q hq => by
        by_cases e2 : q = j
        · subst e2; rw [hbo, e]
        · exact HI.out q (by omega)⟩)
      have hw1 : IntKind.i64.wrap ((j : Int) + 1) = ((j + 1 : Nat) : Int) := by rw [IntWalk.i64_in _ (by omega)]; simp
      have hhb : hasB b (A (0 + j)) = ((A j).st != 0 && (A j).blk == b) := by rw [Nat.zero_add]; rfl
      cases h1 : ((A j).st != 0)
      · have H2 := Lib.hid ((HP.out false (by rw [hhb, h1]; rfl)).2 rfl)
        clear HP hhb
        go_wp2_with fail
        exact ⟨⟨j + 1, by omega, by go_num, trivial, H2.out⟩, by simp [intOf]; omega⟩
      · cases h2 : ((A j).blk == b)
        · have H2 := Lib.hid ((HP.out false (by rw [hhb, h1, h2]; rfl)).2 rfl)
          clear HP hhb
          go_wp2_with fail
          exact ⟨⟨j + 1, by omega, by go_num, trivial, H2.out⟩, by simp [intOf]; omega⟩
        · have H1 := Lib.hid ((HP.out true (by rw [hhb, h1, h2]; rfl)).1 rfl)
          clear HP hhb
          go_wp2
          go_ret
          exact ⟨by rw [H1.out]; rfl, rfl⟩
    · obtain rfl : n = j := by omega
      have H1 := Lib.hid (firstW_none HI.out)
      go_wp2
      go_ret
      exact ⟨by rw [H1.out]; rfl, rfl⟩
/-- The lowest free way of a block's set, as a place. -/
def Kp.frI (p : Kp) (A : Nat → Ln) (b : Int) : Int := if p.fr A b < 0 then -1 else ((p.set b * p.y + (p.fr A b).toNat : Nat) : Int)
set_option maxRecDepth 100000 in
set_option maxHeartbeats 2000000 in
theorem rfree_is (h : CIs T w0 W p c A M L) (b : Int) (hm : mayK b = true) : Calls Try.prog 56 #[ptr p.kb, .int .i64 b] W fun e W' => e = .returned (.int .i64 (p.frI A b)) ∧ Upd NoF W W' := by
  unfold Kp.frI Kp.fr
  obtain ⟨z, hz⟩ : ∃ z, (if firstW freeB A (p.set b * p.y) p.y < 0 then -1 else ((p.set b * p.y + (firstW freeB A (p.set b * p.y) p.y).toNat : Nat) : Int)) = z := ⟨_, rfl⟩
  rw [hz]
  have HZ := Lib.hid hz
  clear hz
  have hbb := mayK_of hm
  have hse := mayK_set h.fits hm
  have HS := Lib.hid (rset_any c h.fits.may b hbb W)
  rw [hse] at HS
  have hq := h.fits.set_lt b
  have hrl := Kp.row_le (y := p.y) hq
  obtain ⟨hs16, hy4, hy1, hs1, hn, hn1⟩ := Kp.small h.fits
  have hew := h.fits.ew
  have HI := Lib.hid (And.intro h.bk (And.intro h.bl h.ok.okA))
  have HK8 : Hid (∀ W2, Upd NoF W W2 → W2.cell? ⟨p.kb, 8, none⟩ = some (.slice (some ⟨p.gl, 0, none⟩) (p.s * p.y) p.cl)) := Lib.hid (fun W2 hu => (h.bk.upd hu (fun h => h)).cell 8)
  have k0 : W.cell? ⟨p.kb, 0, none⟩ = some (.int .i64 c.cores) := h.bk.cell 0
  have k1 : W.cell? ⟨p.kb, 1, none⟩ = some (.int .i64 c.sets) := h.bk.cell 1
  have k2 : W.cell? ⟨p.kb, 2, none⟩ = some (.int .i64 c.ways) := h.bk.cell 2
  have k3 : W.cell? ⟨p.kb, 3, none⟩ = some (.int .i64 c.blocks) := h.bk.cell 3
  have k4 : W.cell? ⟨p.kb, 4, none⟩ = some (.int .i64 c.logs) := h.bk.cell 4
  have k5 : W.cell? ⟨p.kb, 5, none⟩ = some (.int .i64 c.backs) := h.bk.cell 5
  have k6 : W.cell? ⟨p.kb, 6, none⟩ = some (.int .i64 c.nest) := h.bk.cell 6
  have k7 : W.cell? ⟨p.kb, 7, none⟩ = some (.int .i64 c.tries) := h.bk.cell 7
  clear h hbb hse hm
  generalize p.set b = q at *
  generalize p.s * p.y = n at *
  have hqn : ((q * p.y : Nat) : Int) ≤ 64 := by omega
  have w1 : IntKind.i64.wrap ((q : Int) * (p.y : Int)) = ((q * p.y : Nat) : Int) := by
    rw [show ((q * p.y : Nat) : Int) = (q : Int) * p.y by simp] at *
    exact IntWalk.i64_in _ (by omega)
  have HW1 := Lib.hid w1
  generalize ho : q * p.y = o at *
  have HN := Lib.hid (And.intro hrl (And.intro hqn (And.intro hn hew)))
  clear w1 ho hrl hqn hn hn1 hew hq hs16 hy4 hy1 hs1
  go_enter Try.func56, Try.ntmps56
  go_wp2_with fail
  refine HS.out.mono ?_
  rintro e W2 ⟨rfl, hu⟩
  have HU := Lib.hid hu
  clear hu k0 k1 k2 k3 k4 k5 k6 k7 HS
  go_wp2
  go_loopw [6] (fun i wr => ∃ j : Nat, j ≤ p.y ∧ i = .int .i64 j ∧ Hid ((∀ q, q < j → freeB (A (o + q)) = false) ∧ Upd NoF W wr)) (fun i _ => p.y - (intOf i).toNat)
  case atStart => exact ⟨0, Nat.zero_le _, rfl, fun q hq => by omega, HU.out⟩
  case round =>
    obtain ⟨j, hj, rfl, HR⟩ := hrel
    obtain ⟨hrl, hqn, hn, hew⟩ := HN.out
    have k2 : wr.cell? ⟨p.kb, 2, none⟩ = some (.int .i64 p.y) := by rw [← hew]; exact (HI.out.1.upd HR.out.2 (fun h => h)).cell 2
    by_cases hlt : j < p.y
    · have k8 : wr.cell? ⟨p.kb, 8, none⟩ = some (.slice (some ⟨p.gl, 0, none⟩) n p.cl) := HK8.out _ HR.out.2
      have c1 : wr.cell? ⟨p.gl, (o + j) * 18 + 1, none⟩ = some (.int .u8 (A (o + j)).st) := ((HI.out.2.1.upd HR.out.2 (fun h => h)).cell ((o + j) * 18 + 1)).trans ((lnX_get (HI.out.2.2 _).isU (show o + j < n by omega) (show 1 < 18 by omega)).trans (Ln.get1 _))
      have HP : Hid (∀ bo : Bool, freeB (A (o + j)) = bo → (bo = true → firstW freeB A o p.y = j) ∧ (bo = false → ∀ q, q < j + 1 → freeB (A (o + q)) = false)) := Lib.hid (fun bo hbo => ⟨fun e => firstW_hit HR.out.1 hlt (by rw [hbo, e]), fun e q hq => by
        by_cases e2 : q = j
        · subst e2; rw [hbo, e]
        · exact HR.out.1 q (by omega)⟩)
      have w1 := HW1.out
      have w2 : IntKind.i64.wrap ((o : Int) + (j : Int)) = ((o + j : Nat) : Int) := by rw [IntWalk.i64_in _ (by omega)]; simp
      have w3 : IntKind.i64.wrap ((j : Int) + 1) = ((j + 1 : Nat) : Int) := by rw [IntWalk.i64_in _ (by omega)]; simp
      have hin : ((o + j : Nat) : Int) < (n : Int) := by omega
      have hfb : freeB (A (o + j)) = ((A (o + j)).st == 0) := rfl
      clear hew hrl hqn hn
      go_upto_region 5 with fail
      go_quiet (fail)
      have HU2 := Lib.hid (HR.out.2.trans (Upd.drewN NoF _ nq) (fun _ _ h => h))
      cases h1 : ((A (o + j)).st == 0)
      · have H2 := Lib.hid ((HP.out false (by rw [hfb, h1])).2 rfl)
        clear HP hfb
        go_wp2_with fail
        exact ⟨⟨j + 1, by omega, by go_num, H2.out, HU2.out⟩, by simp [intOf]; omega⟩
      · have H1 := Lib.hid ((HP.out true (by rw [hfb, h1])).1 rfl)
        clear HP hfb
        go_wp2
        go_ret
        refine ⟨?_, HU2.out⟩
        show Ending.returned (.int .i64 ((o : Int) + (j : Int))) = _
        rw [← HZ.out, H1.out, if_neg (by omega)]
        simp
    · obtain rfl : p.y = j := by omega
      have H1 := Lib.hid (firstW_none HR.out.1)
      go_wp2
      go_ret
      exact ⟨by rw [← HZ.out, H1.out]; rfl, HR.out.2⟩
set_option maxRecDepth 100000 in
set_option maxHeartbeats 4000000 in
theorem rused_is (h : CIs T w0 W p c A M L) (i : Nat) (hi : i < p.s * p.y) : Calls Try.prog 57 #[ptr p.kb, .int .i64 i] W fun e W' =>
    e = .returned (.tuple #[]) ∧ CIs T w0 W' p c A (p.used M i) L := by
  have hsm := Kp.small h.fits
  have hy := h.fits.sy.2
  have hyp : 0 < p.y := hsm.2.2.1
  have hq : i / p.y < p.s := Nat.div_lt_of_lt_mul (by rw [Nat.mul_comm]; exact hi)
  have hj : i % p.y < p.y := Nat.mod_lt _ hyp
  unfold Kp.used
  have d1 : (i : Int) / (p.y : Int) = ((i / p.y : Nat) : Int) := by simp
  have d2 : (i : Int) % (p.y : Int) = ((i % p.y : Nat) : Int) := by simp
  have d1' : Int.tdiv (i : Int) (p.y : Int) = ((i / p.y : Nat) : Int) := by rw [Int.tdiv_eq_ediv_of_nonneg (by omega)]; simp
  have d2' : Int.tmod (i : Int) (p.y : Int) = ((i % p.y : Nat) : Int) := by rw [Int.tmod_eq_emod_of_nonneg (by omega)]; simp
  generalize i / p.y = q at *
  generalize i % p.y = j at *
  have HC := Lib.hid (fun w => ruse_any (M (q)) (h.ok.okM _) p.y (j : Int) (by omega) (by omega) (by omega) w)
  have hz := useV_rng (h.ok.okM (q)) (p.y : Int) (j : Int) (by omega) (by omega)
  have k2 : ∀ X, Upd NoF W X → X.cell? ⟨p.kb, 2, none⟩ = some (.int .i64 p.y) := fun X hu => by rw [← h.fits.ew]; exact (h.bk.upd hu (fun h => h)).cell 2
  have k9 : ∀ X, Upd NoF W X → X.cell? ⟨p.kb, 9, none⟩ = some (.slice (some ⟨p.gm, 0, none⟩) p.s p.cm) := fun X hu => (h.bk.upd hu (fun h => h)).cell 9
  have m1 : ∀ X, Upd NoF W X → X.cell? ⟨p.gm, q, none⟩ = some (.int .u8 (M (q))) := fun X hu => ((h.bm.upd hu (fun h => h)).cell _).trans (rowX_get hq)
  have m2 : ∀ X, Upd NoF W X → X.frozen? ⟨p.gm, q, none⟩ = false := fun X hu => (h.bm.upd hu (fun h => h)).frozen _
  have d3 : IntKind.i64.wrap (q : Int) = (q : Int) := IntWalk.i64_in _ (by omega)
  have d4 : IntKind.i64.wrap (j : Int) = (j : Int) := IntWalk.i64_in _ (by omega)
  have d5 : ((p.y : Int) == 0) = false := by simp; omega
  have d6 : (q : Int) < (p.s : Int) := by omega
  have d7 : ¬ p.y = 0 := by omega
  have HI := Lib.hid h
  have HQ := Lib.hid (And.intro hq hz)
  have HK := Lib.hid (fun X hu => (And.intro hu (And.intro (k2 X hu) (And.intro (k9 X hu) (m1 X hu))) : (fun X => Upd NoF W X ∧ X.cell? ⟨p.kb, 2, none⟩ = some (.int .i64 p.y) ∧ X.cell? ⟨p.kb, 9, none⟩ = some (.slice (some ⟨p.gm, 0, none⟩) p.s p.cm) ∧ X.cell? ⟨p.gm, q, none⟩ = some (.int .u8 (M (q)))) X))
  have HM2 := Lib.hid m2
  have k2 := k2 W (Upd.refl _ _)
  clear h hsm hy hq hj hz k9 m1 m2 hi hyp
  generalize useV (M (q)) p.y (j : Int) = z at *
  generalize M (q) = x at *
  go_enter Try.func57, Try.ntmps57
  go_wp2_with fail
  clear k2
  go_region_held3 (fun X => Upd NoF W X ∧ X.cell? ⟨p.kb, 2, none⟩ = some (.int .i64 p.y) ∧ X.cell? ⟨p.kb, 9, none⟩ = some (.slice (some ⟨p.gm, 0, none⟩) p.s p.cm) ∧ X.cell? ⟨p.gm, q, none⟩ = some (.int .u8 x)) (first | assumption | exact HK.out _ (Upd.drew NoF W))
    (first | (go_at_call 62; have hS : Upd NoF W _ ∧ _ := ‹_›; refine (HC.out _).mono ?_; rintro e w1 ⟨rfl, hu⟩; have HU1 := Lib.hid (hS.1.trans hu (fun _ _ h => h)); have hS' : (fun X => Upd NoF W X ∧ X.cell? ⟨p.kb, 2, none⟩ = some (.int .i64 p.y) ∧ X.cell? ⟨p.kb, 9, none⟩ = some (.slice (some ⟨p.gm, 0, none⟩) p.s p.cm) ∧ X.cell? ⟨p.gm, q, none⟩ = some (.int .u8 x)) w1 := HK.out _ HU1.out; clear hu))
  all_goals
    obtain ⟨-, -, c9, -⟩ := hS'
    have m2 := HM2.out _ HU1.out
    have m1 := (HK.out _ HU1.out).2.2.2
    clear hS
    go_wp2
    go_end0
    exact ⟨rfl, (HI.out.upd0 HU1.out).mem HQ.out.1 HQ.out.2⟩
end
end Go.Proofs.Ytaneobggbplkbaa.KA
