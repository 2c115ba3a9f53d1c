/- The reference of the cache: Drop, Use, Turn, Write, Find (printed by tools/mkcr.py). -/
import Derived.Test.YtaneobggbplkbaaCacheRB
set_option linter.unusedSimpArgs false
set_option linter.unusedVariables false
namespace Go.Proofs.Ytaneobggbplkbaa.KA
open Go.RowKit
open BU (IsU words)
open PL (Cfg CC CV May)
attribute [local go_sem] Oper.semAt_some
attribute [local go_sem ↓] TLin.ld_eq TLin.st_eq TLin.al_eq TLin.bx_eq
attribute [local go_sem] TLin.al_run TLin.bx_run
section
variable {w0 W W' : World} {p : Kp} {T : TypeId} {c : Cfg} {A : Nat → Ln} {M : Nat → Int} {L : List Obj}
set_option maxRecDepth 100000 in
set_option maxHeartbeats 1000000 in
theorem rdrop_is (h : CIs T w0 W p c A M L) (hg : Good p A) (hu : Uniq p A) (b : Int) : Calls Try.prog 41 #[ptr p.kb, .int .i64 b] W fun e W' =>
    e = .returned (.bool (p.place A b).isSome) ∧ CIs T w0 W' p c (p.drpA A b) M L := by
  unfold Kp.drpA
  have HI := Lib.hid h
  have HPL := Lib.hid (fun (X : World) (hX : CIs T w0 X p c A M L) => rplace_is hX hg hu b)
  cases hp : p.place A b with
  | none =>
    have hpI := plI_none hp
    clear h hg hu hp
    dsimp only
    go_enter Try.func41, Try.ntmps41
    go_wp2_with fail
    refine (HPL.out _ HI.out).mono ?_
    rintro e W2 ⟨rfl, rfl⟩
    rw [hpI]
    clear hpI HPL
    go_wp2
    go_ret
    exact ⟨rfl, HI.out⟩
  | some i =>
    have hpI := plI_some hp
    obtain ⟨hi, hif, hib⟩ := place_lt h.fits hp
    have hi0 : decide ((i : Int) < 0) = false := by simp
    have hii : (i : Int) < ((p.s * p.y : Nat) : Int) := by omega
    clear h hg hu hp hif hib
    dsimp only
    have s1 := st_line HI.out hi Ln.nil_ok
    have HI2 := Lib.hid (HI.out.line hi Ln.nil_ok)
    rw [Ln.nil_cells, zlit] at s1
    rw [Ln.nil_cells] at HI2
    have k8 : W.cell? ⟨p.kb, 8, none⟩ = some (.slice (some ⟨p.gl, 0, none⟩) (p.s * p.y) p.cl) := HI.out.bk.cell 8
    go_enter Try.func41, Try.ntmps41
    go_wp2_with fail
    refine (HPL.out _ HI.out).mono ?_
    rintro e W2 ⟨rfl, rfl⟩
    rw [hpI]
    clear hpI HPL
    go_wp2
    go_ret
    exact ⟨rfl, HI2.out⟩
set_option maxRecDepth 100000 in
set_option maxHeartbeats 1000000 in
theorem rkUse_is (h : CIs T w0 W p c A M L) (hg : Good p A) (hu : Uniq p A) (b : Int) : Calls Try.prog 42 #[ptr p.kb, .int .i64 b] W fun e W' =>
    e = .returned (.bool (p.place A b).isSome) ∧ CIs T w0 W' p c A (p.useM A M b) L := by
  unfold Kp.useM
  have HI := Lib.hid h
  have HPL := Lib.hid (fun (X : World) (hX : CIs T w0 X p c A M L) => rplace_is hX hg hu b)
  cases hp : p.place A b with
  | none =>
    have hpI := plI_none hp
    clear h hg hu hp
    dsimp only
    go_enter Try.func42, Try.ntmps42
    go_wp2_with fail
    refine (HPL.out _ HI.out).mono ?_
    rintro e W2 ⟨rfl, rfl⟩
    rw [hpI]
    clear hpI HPL
    go_wp2
    go_ret
    exact ⟨rfl, HI.out⟩
  | some i =>
    have hpI := plI_some hp
    obtain ⟨hi, hif, hib⟩ := place_lt h.fits hp
    have hi0 : decide ((i : Int) < 0) = false := by simp
    have hii : (i : Int) < ((p.s * p.y : Nat) : Int) := by omega
    clear h hg hu hp hif hib
    dsimp only
    go_enter Try.func42, Try.ntmps42
    go_wp2_with fail
    refine (HPL.out _ HI.out).mono ?_
    rintro e W2 ⟨rfl, rfl⟩
    rw [hpI]
    clear hpI HPL
    go_wp2_with fail
    refine (rused_is HI.out i hi).mono ?_
    rintro e W3 ⟨rfl, hc⟩
    have HI3 := Lib.hid hc
    clear hc
    go_wp2
    go_ret
    exact ⟨rfl, HI3.out⟩
set_option maxRecDepth 100000 in
set_option maxHeartbeats 1000000 in
theorem rturn_is (h : CIs T w0 W p c A M L) (hg : Good p A) (hu : Uniq p A) (b s : Int) (hs : 0 ≤ s ∧ s ≤ 255) : Calls Try.prog 45 #[ptr p.kb, .int .i64 b, .int .u8 s] W fun e W' =>
    e = .returned (.int .i64 (p.trnE A b s)) ∧ CIs T w0 W' p c (p.trnA A b s) M L := by
  unfold Kp.trnE Kp.trnA maySt
  have HI := Lib.hid h
  have HPL := Lib.hid (fun (X : World) (hX : CIs T w0 X p c A M L) => rplace_is hX hg hu b)
  cases hp : p.place A b with
  | none =>
    have hpI := plI_none hp
    clear h hg hu hp
    dsimp only
    go_enter Try.func45, Try.ntmps45
    go_wp2_with fail
    refine (HPL.out _ HI.out).mono ?_
    rintro e W2 ⟨rfl, rfl⟩
    rw [hpI]
    clear hpI HPL
    go_wp2
    go_ret
    exact ⟨rfl, HI.out⟩
  | some i =>
    have hpI := plI_some hp
    obtain ⟨hi, hif, hib⟩ := place_lt h.fits hp
    have hi0 : decide ((i : Int) < 0) = false := by simp
    have hii : (i : Int) < ((p.s * p.y : Nat) : Int) := by omega
    clear h hg hu hp hif hib
    dsimp only
    by_cases c1 : s < 1
    · have g1 : decide (s < 1) = true := by simp; omega
      have g2 : decide (1 ≤ s) = false := by simp; omega
      rw [g2]
      simp only [Bool.false_and, Bool.false_eq_true, if_false]
      clear c1 g2
      go_enter Try.func45, Try.ntmps45
      go_wp2_with fail
      refine (HPL.out _ HI.out).mono ?_
      rintro e W2 ⟨rfl, rfl⟩
      rw [hpI]
      clear hpI HPL
      go_wp2
      go_ret
      exact ⟨rfl, HI.out⟩
    · have g1 : decide (s < 1) = false := by simp; omega
      have g2 : decide (1 ≤ s) = true := by simp; omega
      rw [g2]
      simp only [Bool.true_and]
      by_cases c2 : 3 < s
      · have g3 : decide (3 < s) = true := by simp; omega
        have g4 : decide (s ≤ 3) = false := by simp; omega
        rw [g4]
        simp only [Bool.false_eq_true, if_false]
        clear c1 c2 g2 g4
        go_enter Try.func45, Try.ntmps45
        go_wp2_with fail
        refine (HPL.out _ HI.out).mono ?_
        rintro e W2 ⟨rfl, rfl⟩
        rw [hpI]
        clear hpI HPL
        go_wp2
        go_ret
        exact ⟨rfl, HI.out⟩
      · have g3 : decide (3 < s) = false := by simp; omega
        have g4 : decide (s ≤ 3) = true := by simp; omega
        rw [g4]
        simp only [if_true]
        clear c1 c2 g2 g4
        have k8 : W.cell? ⟨p.kb, 8, none⟩ = some (.slice (some ⟨p.gl, 0, none⟩) (p.s * p.y) p.cl) := HI.out.bk.cell 8
        have hx : ({ A i with st := s } : Ln).Ok := ⟨hs, (HI.out.ok.okA i).isU⟩
        have v1 : W.cell? ⟨p.gl, i * 18 + 1, none⟩ = some (.int .u8 (A i).st) := (HI.out.bl.cell (i * 18 + 1)).trans ((lnX_get (HI.out.ok.okA i).isU hi (show 1 < 18 by omega)).trans (Ln.get1 _))
        have v2 : W.frozen? ⟨p.gl, i * 18 + 1, none⟩ = false := HI.out.bl.frozen _
        have HI2 := Lib.hid (HI.out.cell hi hx (show 1 < 18 by omega) (cells_st (A i) s))
        go_enter Try.func45, Try.ntmps45
        go_wp2_with fail
        refine (HPL.out _ HI.out).mono ?_
        rintro e W2 ⟨rfl, rfl⟩
        rw [hpI]
        clear hpI HPL
        go_wp2
        go_ret
        exact ⟨rfl, HI2.out⟩
set_option maxRecDepth 100000 in
set_option maxHeartbeats 2000000 in
theorem rwrite_is (h : CIs T w0 W p c A M L) (hg : Good p A) (hu : Uniq p A) (b w z : Int) : Calls Try.prog 44 #[ptr p.kb, .int .i64 b, .int .i64 w, .int .u32 z] W fun e W' =>
    e = .returned (.int .i64 (p.wrE A b w)) ∧ CIs T w0 W' p c (p.wrA A b w z) (p.wrM A M b w) L := by
  unfold Kp.wrE Kp.wrA Kp.wrM mayW
  have HI := Lib.hid h
  have HPL := Lib.hid (fun (X : World) (hX : CIs T w0 X p c A M L) => rplace_is hX hg hu b)
  cases hp : p.place A b with
  | none =>
    have hpI := plI_none hp
    clear h hg hu hp
    dsimp only
    go_enter Try.func44, Try.ntmps44
    go_wp2_with fail
    refine (HPL.out _ HI.out).mono ?_
    rintro e W2 ⟨rfl, rfl⟩
    rw [hpI]
    clear hpI HPL
    go_wp2
    go_ret
    exact ⟨rfl, HI.out⟩
  | some i =>
    have hpI := plI_some hp
    obtain ⟨hi, hif, hib⟩ := place_lt h.fits hp
    have hi0 : decide ((i : Int) < 0) = false := by simp
    have hii : (i : Int) < ((p.s * p.y : Nat) : Int) := by omega
    clear h hg hu hp hif hib
    dsimp only
    by_cases c1 : w < 0
    · have g1 : decide (w < 0) = true := by simp; omega
      have g2 : decide (0 ≤ w) = false := by simp; omega
      rw [g2]
      simp only [Bool.false_and, Bool.false_eq_true, if_false]
      clear c1 g2
      go_enter Try.func44, Try.ntmps44
      go_wp2_with fail
      refine (HPL.out _ HI.out).mono ?_
      rintro e W2 ⟨rfl, rfl⟩
      rw [hpI]
      clear hpI HPL
      go_wp2
      go_ret
      exact ⟨rfl, HI.out⟩
    · have g1 : decide (w < 0) = false := by simp; omega
      have g2 : decide (0 ≤ w) = true := by simp; omega
      rw [g2]
      simp only [Bool.true_and]
      by_cases c2 : 15 < w
      · have g3 : decide (15 < w) = true := by simp; omega
        have g4 : decide (w < 16) = false := by simp; omega
        rw [g4]
        simp only [Bool.false_eq_true, if_false]
        clear c1 c2 g2 g4
        go_enter Try.func44, Try.ntmps44
        go_wp2_with fail
        refine (HPL.out _ HI.out).mono ?_
        rintro e W2 ⟨rfl, rfl⟩
        rw [hpI]
        clear hpI HPL
        go_wp2
        go_ret
        exact ⟨rfl, HI.out⟩
      · have g3 : decide (15 < w) = false := by simp; omega
        have g4 : decide (w < 16) = true := by simp; omega
        rw [g4]
        simp only [if_true]
        obtain ⟨n, rfl⟩ : ∃ n : Nat, w = n := ⟨w.toNat, by omega⟩
        have hn : n < 16 := by omega
        clear c1 c2 g2 g4
        have k8 : W.cell? ⟨p.kb, 8, none⟩ = some (.slice (some ⟨p.gl, 0, none⟩) (p.s * p.y) p.cl) := HI.out.bk.cell 8
        have hU := (HI.out.ok.okA i).isU
        have v1 : W.cell? ⟨p.gl, i * 18 + 1, none⟩ = some (.int .u8 (A i).st) := (HI.out.bl.cell (i * 18 + 1)).trans ((lnX_get hU hi (show 1 < 18 by omega)).trans (Ln.get1 _))
        by_cases c3 : (A i).st = 1
        · have g5 : ((A i).st == 1) = true := by simpa using c3
          simp only [if_pos c3]
          clear c3
          go_enter Try.func44, Try.ntmps44
          go_wp2_with fail
          refine (HPL.out _ HI.out).mono ?_
          rintro e W2 ⟨rfl, rfl⟩
          rw [hpI]
          clear hpI HPL
          go_wp2
          go_ret
          exact ⟨rfl, HI.out⟩
        · have g5 : ((A i).st == 1) = false := by simpa using c3
          simp only [if_neg c3]
          clear c3
          obtain ⟨d, hd⟩ := isU_get hU hn
          have v3 : W.cell? ⟨p.gl, i * 18 + 2 + n, none⟩ = some (.int .u32 d) := by
            rw [Nat.add_assoc]
            exact (HI.out.bl.cell (i * 18 + (2 + n))).trans ((lnX_get hU hi (show 2 + n < 18 by omega)).trans ((Ln.getD _ _).trans hd))
          have v4 : W.frozen? ⟨p.gl, i * 18 + 2 + n, none⟩ = false := HI.out.bl.frozen _
          have hx2 : ({ A i with D := (A i).D.setIfInBounds n (.int .u32 z) } : Ln).Ok := ⟨(HI.out.ok.okA i).st, isU_set hU _ _⟩
          have HI2 := HI.out.cell hi hx2 (show 2 + n < 18 by omega) (cells_D (A i) n (.int .u32 z))
          rw [← Nat.add_assoc] at HI2
          obtain ⟨W4, hW4⟩ : ∃ X, W.setCell ⟨p.gl, i * 18 + 2 + n, none⟩ (.int .u32 z) = X := ⟨_, rfl⟩
          rw [hW4] at HI2
          have HI2 := Lib.hid HI2
          have HW4 := Lib.hid hW4
          have hx3 : (wrL (A i) n z).Ok := ⟨by show 0 ≤ (3 : Int) ∧ (3 : Int) ≤ 255; omega, isU_set hU _ _⟩
          have hn16 : ((n : Nat) : Int) < 16 := by omega
          clear hd hx2 hW4
          go_enter Try.func44, Try.ntmps44
          go_wp2_with fail
          refine (HPL.out _ HI.out).mono ?_
          rintro e W2 ⟨rfl, rfl⟩
          rw [hpI]
          clear hpI HPL
          go_upto_region 9 with fail
          rw [HW4.out]
          clear v1 v3 v4 HW4 k8
          have k8 : W4.cell? ⟨p.kb, 8, none⟩ = some (.slice (some ⟨p.gl, 0, none⟩) (p.s * p.y) p.cl) := HI2.out.bk.cell 8
          have hU2 := (HI2.out.ok.okA i).isU
          have v1 : W4.cell? ⟨p.gl, i * 18 + 1, none⟩ = some (.int .u8 (updL A i { A i with D := (A i).D.setIfInBounds n (.int .u32 z) } i).st) := (HI2.out.bl.cell (i * 18 + 1)).trans ((lnX_get hU2 hi (show 1 < 18 by omega)).trans (Ln.get1 _))
          have v2 : W4.frozen? ⟨p.gl, i * 18 + 1, none⟩ = false := HI2.out.bl.frozen _
          have hc3 := HI2.out.cell hi hx3 (show 1 < 18 by omega) (v := .int .u8 3) (by
            rw [updL_self, ← cells_st]
            unfold wrL
            rw [Int.toNat_natCast])
          rw [updL_updL] at hc3
          have HI3 := Lib.hid hc3
          obtain ⟨W5, hW5⟩ : ∃ X, W4.setCell ⟨p.gl, i * 18 + 1, none⟩ (.int .u8 3) = X := ⟨_, rfl⟩
          rw [hW5] at HI3
          have HW5 := Lib.hid hW5
          clear hc3 hU hU2 hx3 hW5
          go_upto_region 10 with fail
          rw [HW5.out]
          clear v1 v2 HW5 k8 HI2
          go_wp2_with fail
          refine (rused_is HI3.out i hi).mono ?_
          rintro e W6 ⟨rfl, hc⟩
          have HI6 := Lib.hid hc
          clear hc
          go_wp2
          go_ret
          exact ⟨rfl, HI6.out⟩
end
end Go.Proofs.Ytaneobggbplkbaa.KA
