/- The reference of the cache: Put, Drop, Use. -/
import Derived.Test.YtaneobggbplkbaaCacheRA
set_option linter.unusedSimpArgs false
set_option linter.unusedVariables false
namespace Go.Proofs.Ytaneobggbplkbaa.KA
open Go.RowKit
open BU (IsU words)
open PL (Cfg CC CV May)
attribute [local go_sem] Oper.semAt_some
attribute [local go_sem ↓] TLin.ld_eq TLin.st_eq TLin.al_eq TLin.bx_eq
attribute [local go_sem] TLin.al_run TLin.bx_run
section
variable {w0 W W' : World} {p : Kp} {T : TypeId} {c : Cfg} {A : Nat → Ln} {M : Nat → Int} {L : List Obj}
theorem st_line (h : CIs T w0 W p c A M L) {i : Nat} (hi : i < p.s * p.y) {x : Ln} (hx : x.Ok) : (TLin.st (.pointer (some ⟨p.gl, i * 18, none⟩)) (.agg x.cells)).run Try.prog W = .ok () (W.setCells p.gl (i * 18) x.cells.toList) :=
  st_mid (Ln.Ok.isN hx.isU) h.bl (by rw [Array.size_append, lnRow_size]; omega)
theorem plI_some {b : Int} {i : Nat} (h : p.place A b = some i) : p.plI A b = i := by unfold Kp.plI; rw [h]
theorem plI_none {b : Int} (h : p.place A b = none) : p.plI A b = -1 := by unfold Kp.plI; rw [h]
theorem CIs.box' (h : CIs T w0 W p c A M L) (cs : Array Value) (U : TypeId) : CIs T w0 (W.alloc (.cells cs U)) p c A M (boxO W.heap.size cs U :: L) :=
  ⟨(h.sep.alloc cs U).sink 3, h.fits, h.ok⟩
theorem CIs.drop' {O : Obj} (h : CIs T w0 W p c A M (O :: L)) : CIs T w0 W p c A M L := ⟨h.sep.drop 3 (by simp), h.fits, h.ok⟩
/-- A line is laid at a place, which is then used. -/
theorem slot_cases (p : Kp) (A : Nat → Ln) (b : Int) : (∃ i, p.place A b = some i ∧ p.slot A b = some i) ∨ (p.place A b = none ∧ p.slot A b = none ∧ p.frI A b = -1) ∨ ∃ i, p.place A b = none ∧ p.slot A b = some i ∧ p.frI A b = (i : Int) := by
  unfold Kp.slot Kp.frI
  cases hp : p.place A b with
  | some i => exact .inl ⟨i, rfl, rfl⟩
  | none =>
    dsimp only
    by_cases h : p.fr A b < 0
    · exact .inr (.inl ⟨rfl, by rw [if_pos h], by rw [if_pos h]⟩)
    · exact .inr (.inr ⟨_, rfl, by rw [if_neg h], by rw [if_neg h]⟩)
set_option maxRecDepth 100000 in
set_option maxHeartbeats 2000000 in
theorem rput_is (h : CIs T w0 W p c A M L) (hg : Good p A) (hu : Uniq p A) (x : Ln) (hx : x.Ok) : Calls Try.prog 40 #[ptr p.kb, .agg x.cells] W fun e W' =>
    e = .returned (.int .i64 (p.putE A x)) ∧ CIs T w0 W' p c (p.putA A x) (p.putM A M x) L := by
  unfold Kp.putE Kp.putA Kp.putM
  have h1 := h.box' x.cells LT
  obtain ⟨W1, hW1⟩ : ∃ W1, W.alloc (.cells x.cells LT) = W1 := ⟨_, rfl⟩
  rw [hW1] at h1
  have HW := Lib.hid hW1
  have hxN := Ln.Ok.isN hx.isU
  have l1 := TLin.ld_at hxN (h1.sep.box 3 rfl).whole
  have HMX := Lib.hid (rmay_any x W1)
  have HI := Lib.hid h1
  have HXO := Lib.hid hx
  have HGU := Lib.hid (And.intro hg hu)
  clear h h1 hW1 hx hg hu
  cases hm : mayX x
  · rw [hm] at HMX
    simp only [Bool.false_eq_true, if_false]
    clear hm
    go_enter Try.func40, Try.ntmps40
    go_upto_region 1 with fail
    rw [HW.out]
    go_wp2_with fail
    refine HMX.out.mono ?_
    rintro e W2 ⟨rfl, hu⟩
    have HI2 := Lib.hid (HI.out.upd0 hu).drop'
    clear hu
    go_wp2
    go_ret
    exact ⟨rfl, HI2.out⟩
  · rw [hm] at HMX
    simp only [if_true]
    have hmk : mayK x.blk = true := by unfold mayX at hm; revert hm; cases mayK x.blk <;> simp
    rcases slot_cases p A x.blk with ⟨i, hp, hs⟩ | ⟨hp, hs, hf⟩ | ⟨i, hp, hs, hf⟩
    · obtain ⟨hi, -⟩ := slot_facts HI.out.fits HGU.out.1 HGU.out.2 hs
      rw [hs]
      dsimp only
      have hpI := plI_some hp
      clear hm hs hp hmk
      go_enter Try.func40, Try.ntmps40
      go_upto_region 1 with fail
      rw [HW.out]
      go_wp2_with fail
      refine HMX.out.mono ?_
      rintro e W2 ⟨rfl, hu⟩
      have HI2 := Lib.hid (HI.out.upd0 hu)
      clear hu l1
      have f0 : W2.cell? ⟨W.heap.size, 0, none⟩ = some (.int .i64 x.blk) := ((HI2.out.sep.box 3 rfl).cell 0).trans x.get0
      go_wp2_with fail
      refine (rplace_is HI2.out HGU.out.1 HGU.out.2 x.blk).mono ?_
      rintro e W3 ⟨rfl, rfl⟩
      rw [hpI]
      clear hpI
      have HI3 := Lib.hid (HI2.out.upd0 (Upd.drew NoF W2))
      have l1 := TLin.ld_at hxN (HI3.out.sep.box 3 rfl).whole
      have s1 := st_line HI3.out hi HXO.out
      have k8 : W2.drew.cell? ⟨p.kb, 8, none⟩ = some (.slice (some ⟨p.gl, 0, none⟩) (p.s * p.y) p.cl) := HI3.out.bk.cell 8
      have HI4 := Lib.hid (HI3.out.line hi HXO.out)
      have hii : (i : Int) < ((p.s * p.y : Nat) : Int) := by omega
      have hi0 : decide ((i : Int) < 0) = false := by simp
      clear f0
      go_wp2_with fail
      go_region
      all_goals
        obtain ⟨W4, hW4⟩ : ∃ X, W2.drew.setCells p.gl (i * 18) x.cells.toList = X := ⟨_, rfl⟩
        rw [hW4] at HI4 ⊢
        clear hW4 l1 s1 k8 HI3
        go_wp2_with fail
        refine (rused_is HI4.out i hi).mono ?_
        rintro e W5 ⟨rfl, hc⟩
        have HI5 := Lib.hid hc.drop'
        clear hc
        go_wp2
        go_ret
        exact ⟨rfl, HI5.out⟩
    · rw [hs]
      dsimp only
      have hpI := plI_none hp
      have hfI := hf
      clear hm hs hp hf
      go_enter Try.func40, Try.ntmps40
      go_upto_region 1 with fail
      rw [HW.out]
      go_wp2_with fail
      refine HMX.out.mono ?_
      rintro e W2 ⟨rfl, hu⟩
      have HI2 := Lib.hid (HI.out.upd0 hu)
      clear hu l1
      have f0 : W2.cell? ⟨W.heap.size, 0, none⟩ = some (.int .i64 x.blk) := ((HI2.out.sep.box 3 rfl).cell 0).trans x.get0
      go_wp2_with fail
      refine (rplace_is HI2.out HGU.out.1 HGU.out.2 x.blk).mono ?_
      rintro e W3 ⟨rfl, rfl⟩
      rw [hpI]
      clear hpI
      have HFR := rfree_is HI2.out x.blk hmk
      rw [hfI] at HFR
      have HFR := Lib.hid HFR
      clear hfI hmk
      go_wp2_with fail
      refine HFR.out.mono ?_
      rintro e W4 ⟨rfl, hu⟩
      have HI3 := Lib.hid (HI2.out.upd0 hu).drop'
      clear hu HFR
      go_wp2
      go_ret
      exact ⟨rfl, HI3.out⟩
    · obtain ⟨hi, -⟩ := slot_facts HI.out.fits HGU.out.1 HGU.out.2 hs
      rw [hs]
      dsimp only
      have hpI := plI_none hp
      have hfI := hf
      clear hm hs hp hf
      go_enter Try.func40, Try.ntmps40
      go_upto_region 1 with fail
      rw [HW.out]
      go_wp2_with fail
      refine HMX.out.mono ?_
      rintro e W2 ⟨rfl, hu⟩
      have HI2 := Lib.hid (HI.out.upd0 hu)
      clear hu l1
      have f0 : W2.cell? ⟨W.heap.size, 0, none⟩ = some (.int .i64 x.blk) := ((HI2.out.sep.box 3 rfl).cell 0).trans x.get0
      go_wp2_with fail
      refine (rplace_is HI2.out HGU.out.1 HGU.out.2 x.blk).mono ?_
      rintro e W3 ⟨rfl, rfl⟩
      rw [hpI]
      clear hpI
      have HFR := rfree_is HI2.out x.blk hmk
      rw [hfI] at HFR
      have HFR := Lib.hid HFR
      clear hfI hmk
      go_wp2_with fail
      refine HFR.out.mono ?_
      rintro e W4' ⟨rfl, hu⟩
      have HI2b := Lib.hid (HI2.out.upd0 hu)
      clear hu HFR
      have HI3 := Lib.hid (HI2b.out.upd0 (Upd.drew NoF W4'))
      have l1 := TLin.ld_at hxN (HI3.out.sep.box 3 rfl).whole
      have s1 := st_line HI3.out hi HXO.out
      have k8 : W4'.drew.cell? ⟨p.kb, 8, none⟩ = some (.slice (some ⟨p.gl, 0, none⟩) (p.s * p.y) p.cl) := HI3.out.bk.cell 8
      have HI4 := Lib.hid (HI3.out.line hi HXO.out)
      have hii : (i : Int) < ((p.s * p.y : Nat) : Int) := by omega
      have hi0 : decide ((i : Int) < 0) = false := by simp
      clear f0
      go_wp2_with fail
      go_region
      all_goals
        obtain ⟨W4, hW4⟩ : ∃ X, W4'.drew.setCells p.gl (i * 18) x.cells.toList = X := ⟨_, rfl⟩
        rw [hW4] at HI4 ⊢
        clear hW4 l1 s1 k8 HI3
        go_wp2_with fail
        refine (rused_is HI4.out i hi).mono ?_
        rintro e W5 ⟨rfl, hc⟩
        have HI5 := Lib.hid hc.drop'
        clear hc
        go_wp2
        go_ret
        exact ⟨rfl, HI5.out⟩
end
end Go.Proofs.Ytaneobggbplkbaa.KA
