/- CachePlays: one call on both (printed by tools/mkcdoes.py). -/
import Derived.Test.YtaneobggbplkbaaCacheTwo
set_option linter.unusedSimpArgs false
set_option linter.unusedVariables false
namespace Go.Proofs.Ytaneobggbplkbaa.KA
open Go.RowKit
open BU (IsU words)
open PL (Cfg CC CV May)
attribute [local go_sem] Oper.semAt_some
attribute [local go_sem ↓] TLin.ld_eq TLin.st_eq TLin.al_eq TLin.bx_eq eqL_eq neL_eq
attribute [local go_sem] TLin.al_run TLin.bx_run
section
variable {w0 W W' : World} {p r : Kp} {c : Cfg} {A : Nat → Ln} {M : Nat → Int} {L : List Obj}
theorem CIs.box6 {T T' : TypeId} {c' : Cfg} {A' : Nat → Ln} {M' : Nat → Int} (h : CIs T w0 W p c A M (r.ob T' c' A' M' L)) (cs : Array Value) (U : TypeId) : CIs T w0 (W.alloc (.cells cs U)) p c A M (r.ob T' c' A' M' (boxO W.heap.size cs U :: L)) :=
  ⟨(h.sep.alloc cs U).sink 6, h.fits, h.ok⟩
theorem CIs.drop6 {T T' : TypeId} {c' : Cfg} {A' : Nat → Ln} {M' : Nat → Int} {O : Obj} (h : CIs T w0 W p c A M (r.ob T' c' A' M' (O :: L))) : CIs T w0 W p c A M (r.ob T' c' A' M' L) :=
  ⟨h.sep.drop 6 (by unfold Kp.ob; simp), h.fits, h.ok⟩
set_option maxRecDepth 100000 in
set_option maxHeartbeats 8000000 in
theorem does_any (h : CIs KT w0 W p c A M (r.ob RT c A M L)) (hl : Like p r) (hrf : r.Fits c) (hg : Good p A) (hu : Uniq p A) (kk bb ww ss xx : Int) (hsd : 0 ≤ ss ∧ ss ≤ 255) :
    Calls Try.prog 24 #[ptr p.kb, ptr r.kb, .agg (opC kk bb ww ss xx)] W fun e W' => ∃ (p2 : Kp) (A2 : Nat → Ln) (M2 : Nat → Int),
      e = .returned (.tuple #[ptr p2.kb, .bool true]) ∧ CIs KT w0 W' p2 c A2 M2 (r.ob RT c A2 M2 L) ∧ Like p2 r ∧ Good p2 A2 ∧ Uniq p2 A2 := by
  have h1 := h.box6 (opC kk bb ww ss xx) OT
  obtain ⟨W1, hW1⟩ : ∃ X, W.alloc (.cells (opC kk bb ww ss xx) OT) = X := ⟨_, rfl⟩
  rw [hW1] at h1
  have HW1 := Lib.hid hW1
  have HI1 := Lib.hid h1
  have HRF := Lib.hid hrf
  have HOK := Lib.hid h.ok
  have HGU := Lib.hid (And.intro hg hu)
  have HGR := Lib.hid (And.intro ((hl.all.2.2.2.2.2.2.2.2.2.2.2.2.2.2.1 A).2 hg) ((hl.all.2.2.2.2.2.2.2.2.2.2.2.2.2.2.2 A).2 hu))
  have HLK := Lib.hid hl
  have p1 : W1.cell? ⟨W.heap.size, 1, none⟩ = some (.int .i64 bb) := (HI1.out.sep.box 6 rfl).cell 1
  have p3 : W1.cell? ⟨W.heap.size, 3, none⟩ = some (.int .u8 ss) := (HI1.out.sep.box 6 rfl).cell 3
  clear h h1 hW1 hg hu hl hrf
  go_enter Try.func24, Try.ntmps24
  go_upto_region 1 with fail
  rw [HW1.out]
  go_wp2_with fail
  refine (line_any bb ss hsd W1).mono ?_
  rintro e W2 ⟨rfl, hu⟩
  have HI2 := Lib.hid (HI1.out.upd0 hu)
  have hN := Ln.Ok.isN (lineL_ok bb ss hsd).isU
  have s1 := TLin.st_new hN W2
  have h3 := HI2.out.box6 (lineL bb ss).cells LT
  obtain ⟨W3, hW3⟩ : ∃ X, W2.alloc (.cells (lineL bb ss).cells LT) = X := ⟨_, rfl⟩
  rw [hW3] at s1 h3
  rw [← lineJ_zero bb ss xx] at h3
  have HI3 := Lib.hid h3
  clear h3 hW3 hN p1 p3 HI1 HI2 hu
  go_upto_region 2 with fail
  obtain ⟨lb, hlb⟩ : ∃ b, W2.heap.size = b := ⟨_, rfl⟩
  obtain ⟨ob, hob⟩ : ∃ b, W.heap.size = b := ⟨_, rfl⟩
  rw [hlb, hob] at HI3 ⊢
  clear s1 hlb hob HW1
  go_wp2_with fail
  go_loopw [24] (fun i wr => ∃ j : Nat, j ≤ 16 ∧ i = .int .i64 j ∧ Hid (CIs KT w0 wr p c A M (r.ob RT c A M (boxO lb (lineJ bb ss xx j).cells LT :: boxO ob (opC kk bb ww ss xx) OT :: L)))) (fun i _ => 16 - (intOf i).toNat)
  case atStart => exact ⟨0, Nat.zero_le _, rfl, HI3⟩
  case round =>
    clear HI3
    obtain ⟨j, hj, rfl, HI⟩ := hrel
    by_cases hlt : j < 16
    · have p4 : wr.cell? ⟨ob, 4, none⟩ = some (.int .u32 xx) := (HI.out.sep.box 7 rfl).cell 4
      have v1 : wr.cell? ⟨lb, 2 + j, none⟩ = some (.int .u32 (if j < j then xx else 0)) := ((HI.out.sep.box 6 rfl).cell (2 + j)).trans (lineJ_get bb ss xx j j hlt)
      rw [if_neg (Nat.lt_irrefl j)] at v1
      have v2 : wr.frozen? ⟨lb, 2 + j, none⟩ = false := (HI.out.sep.box 6 rfl).frozen (2 + j)
      have hj16 : ((j : Nat) : Int) < 16 := by omega
      have hw1 : IntKind.i64.wrap ((j : Int) + 1) = ((j + 1 : Nat) : Int) := by rw [IntWalk.i64_in _ (by omega)]; simp
      have HI4 : Hid (CIs KT w0 (wr.setCell ⟨lb, 2 + j, none⟩ (.int .u32 xx)) p c A M (r.ob RT c A M (boxO lb (lineJ bb ss xx (j + 1)).cells LT :: boxO ob (opC kk bb ww ss xx) OT :: L))) := Lib.hid (by
        rw [lineJ_succ]
        exact ⟨HI.out.sep.set 6 rfl (2 + j) (.int .u32 xx), HI.out.fits, HI.out.ok⟩)
      go_wp2_with fail
      exact ⟨⟨j + 1, by omega, by go_num, HI4⟩, by simp [intOf]; omega⟩
    · obtain rfl : j = 16 := by omega
      have hxo := lineJ_ok bb ss xx 16 hsd
      have hxN := Ln.Ok.isN hxo.isU
      have HID := Lib.hid (HI.out.upd0 (Upd.drew NoF wr))
      have p0 : wr.cell? ⟨ob, 0, none⟩ = some (.int .i64 kk) := (HI.out.sep.box 7 rfl).cell 0
      clear hlt hj
      by_cases k0 : kk = 0
      · subst k0
        generalize lineJ bb ss xx 16 = x at *
        have hS0 : (fun X => (TLin.ld (.pointer (some ⟨lb, 0, none⟩))).run Try.prog X = .ok (.agg x.cells) X) wr.drew := TLin.ld_at hxN (HID.out.sep.box 6 rfl).whole
        go_wp2_with fail
        go_region_held3 (fun X => (TLin.ld (.pointer (some ⟨lb, 0, none⟩))).run Try.prog X = .ok (.agg x.cells) X) (first | assumption | exact hS0) (first | (go_at_call 10; refine (put_is HID.out x hxo).mono ?_; rintro e wa ⟨rfl, hs, -⟩; have HSa := Lib.hid hs; have hS' : (fun X => (TLin.ld (.pointer (some ⟨lb, 0, none⟩))).run Try.prog X = .ok (.agg x.cells) X) wa := TLin.ld_at hxN (HSa.out.sep.box 6 rfl).whole; clear hs) | (go_at_call 40; refine (rput_is (HSa.out.rot HRF.out HOK.out) HGR.out.1 HGR.out.2 x hxo).mono ?_; rintro e wb ⟨he, hs⟩; rw [HLK.out.all.1] at he; subst he; have HSb := Lib.hid hs; have hS' : (fun X => (TLin.ld (.pointer (some ⟨lb, 0, none⟩))).run Try.prog X = .ok (.agg x.cells) X) wb := TLin.ld_at hxN (HSb.out.sep.box 6 rfl).whole; clear hs))
        all_goals
          have hfin : CIs KT w0 wb p c (p.putA A x) (p.putM A M x) (r.ob RT c (p.putA A x) (p.putM A M x) L) := by
            have h := HSb.out.rot HID.out.fits HSa.out.ok
            rw [HLK.out.all.2.1, HLK.out.all.2.2.1] at h
            exact h.drop6.drop6
          have HFIN := Lib.hid hfin
          clear hfin hS'
          go_wp2
          go_ret2
          exact ⟨p, _, _, rfl, HFIN.out, HLK.out, HGU.out.1.put _, HGU.out.2.put HID.out.fits HGU.out.1 _⟩
      · have g0 : (kk == 0) = false := by simpa using k0
        by_cases k1 : kk = 1
        · subst k1
          have hS0 : (fun X => X.cell? ⟨ob, 1, none⟩ = some (.int .i64 bb)) wr.drew := (HID.out.sep.box 7 rfl).cell 1
          go_wp2_with fail
          go_region_held3 (fun X => X.cell? ⟨ob, 1, none⟩ = some (.int .i64 bb)) (first | assumption | exact hS0) (first | (go_at_call 16; refine (drop_is HID.out bb).mono ?_; rintro e wa ⟨rfl, hs, -⟩; have HSa := Lib.hid hs; have hS' : (fun X => X.cell? ⟨ob, 1, none⟩ = some (.int .i64 bb)) wa := (HSa.out.sep.box 7 rfl).cell 1; clear hs) | (go_at_call 41; refine (rdrop_is (HSa.out.rot HRF.out HOK.out) HGR.out.1 HGR.out.2 bb).mono ?_; rintro e wb ⟨he, hs⟩; rw [HLK.out.all.2.2.2.1] at he; subst he; have HSb := Lib.hid hs; have hS' : (fun X => X.cell? ⟨ob, 1, none⟩ = some (.int .i64 bb)) wb := (HSb.out.sep.box 7 rfl).cell 1; clear hs))
          all_goals
            have hfin : CIs KT w0 wb p c (p.drpA A bb) M (r.ob RT c (p.drpA A bb) M L) := by
              have h := HSb.out.rot HID.out.fits HSa.out.ok
              rw [HLK.out.all.2.2.2.2.1] at h
              exact h.drop6.drop6
            have HFIN := Lib.hid hfin
            clear hfin hS'
            go_wp2
            go_ret2
            exact ⟨p, _, _, rfl, HFIN.out, HLK.out, HGU.out.1.drp _, HGU.out.2.drp _⟩
        · have g1 : (kk == 1) = false := by simpa using k1
          by_cases k2 : kk = 2
          · subst k2
            have hS0 : (fun X => X.cell? ⟨ob, 1, none⟩ = some (.int .i64 bb)) wr.drew := (HID.out.sep.box 7 rfl).cell 1
            go_wp2_with fail
            go_region_held3 (fun X => X.cell? ⟨ob, 1, none⟩ = some (.int .i64 bb)) (first | assumption | exact hS0) (first | (go_at_call 12; refine (kUse_is HID.out bb).mono ?_; rintro e wa ⟨rfl, hs, -⟩; have HSa := Lib.hid hs; have hS' : (fun X => X.cell? ⟨ob, 1, none⟩ = some (.int .i64 bb)) wa := (HSa.out.sep.box 7 rfl).cell 1; clear hs) | (go_at_call 42; refine (rkUse_is (HSa.out.rot HRF.out HOK.out) HGR.out.1 HGR.out.2 bb).mono ?_; rintro e wb ⟨he, hs⟩; rw [HLK.out.all.2.2.2.1] at he; subst he; have HSb := Lib.hid hs; have hS' : (fun X => X.cell? ⟨ob, 1, none⟩ = some (.int .i64 bb)) wb := (HSb.out.sep.box 7 rfl).cell 1; clear hs))
            all_goals
              have hfin : CIs KT w0 wb p c A (p.useM A M bb) (r.ob RT c A (p.useM A M bb) L) := by
                have h := HSb.out.rot HID.out.fits HSa.out.ok
                rw [HLK.out.all.2.2.2.2.2.1] at h
                exact h.drop6.drop6
              have HFIN := Lib.hid hfin
              clear hfin hS'
              go_wp2
              go_ret2
              exact ⟨p, _, _, rfl, HFIN.out, HLK.out, HGU.out.1, HGU.out.2⟩
          · have g2 : (kk == 2) = false := by simpa using k2
            by_cases k3 : kk = 3
            · subst k3
              have p1 : wr.cell? ⟨ob, 1, none⟩ = some (.int .i64 bb) := (HI.out.sep.box 7 rfl).cell 1
              have hgo : (p.gone A M bb).Ok := by unfold Kp.gone; split; exact HI.out.ok.okA _; exact Ln.nil_ok
              have hgN := Ln.Ok.isN hgo.isU
              have heq : ∀ X, (eqL (.agg (p.gone A M bb).cells) (.agg (p.gone A M bb).cells)).run Try.prog X = .ok (.bool true) X := fun X => by rw [eqL_run hgo.isU hgo.isU X, Ln.same_self]
              have HC1 := Lib.hid (goes_is HI.out bb)
              have HC2 := Lib.hid (fun X (hX : CIs KT w0 X p c A M (r.ob RT c A M (boxO lb (lineJ bb ss xx 16).cells LT :: boxO ob (opC 3 bb ww ss xx) OT :: L))) => rgoes_is (hX.rot HRF.out HOK.out) HGR.out.1 HGR.out.2 bb)
              have ha := HLK.out.all
              rw [ha.2.2.2.2.2.2.2.2.2.2.2.1, ha.2.2.2.2.2.2.2.2.2.2.2.2.1] at HC2
              clear ha
              generalize (p.gone A M bb).cells = y at *
              generalize (p.goes A M bb).isSome = o at *
              go_wp2_with fail
              refine HC1.out.mono ?_
              rintro e w1 ⟨rfl, hu⟩
              have HI1 := Lib.hid (HI.out.upd0 hu)
              clear hu p1 HC1
              have s1 := TLin.st_new hgN w1
              have q1 := Blk.new w1 y LT
              have HI2 := Lib.hid (HI1.out.upd0 (Upd.alloc NoF w1 (.cells y LT)))
              obtain ⟨w2, hw2⟩ : ∃ X, w1.alloc (.cells y LT) = X := ⟨_, rfl⟩
              rw [hw2] at s1 q1 HI2
              have HQ1 := Lib.hid q1
              clear hw2 q1
              have p1 : w2.cell? ⟨ob, 1, none⟩ = some (.int .i64 bb) := (HI2.out.sep.box 7 rfl).cell 1
              go_wp2_with fail
              refine (HC2.out _ HI2.out).mono ?_
              rintro e w3 ⟨rfl, hu⟩
              have HI3 := Lib.hid (HI2.out.upd0 hu)
              have HQ3 := Lib.hid (HQ1.out.upd hu (fun h => h))
              clear hu p1 HC2
              have s2 := TLin.st_new hgN w3
              have q2 := Blk.new w3 y LT
              have q3 := HQ3.out.alloc (.cells y LT)
              have HI4 := Lib.hid (HI3.out.upd0 (Upd.alloc NoF w3 (.cells y LT)))
              obtain ⟨w4, hw4⟩ : ∃ X, w3.alloc (.cells y LT) = X := ⟨_, rfl⟩
              rw [hw4] at s2 q2 q3 HI4
              have l1 := TLin.ld_at hgN q3.whole
              have l2 := TLin.ld_at hgN q2.whole
              have HFIN := Lib.hid (HI4.out.drop6.drop6)
              clear hw4 q2 q3 HI4
              go_wp2
              go_ret2
              exact ⟨p, _, _, rfl, HFIN.out, HLK.out, HGU.out.1, HGU.out.2⟩
            · have g3 : (kk == 3) = false := by simpa using k3
              by_cases k4 : kk = 4
              · subst k4
                have hS0 : (fun X => X.cell? ⟨ob, 1, none⟩ = some (.int .i64 bb) ∧ X.cell? ⟨ob, 2, none⟩ = some (.int .i64 ww) ∧ X.cell? ⟨ob, 4, none⟩ = some (.int .u32 xx)) wr.drew := ⟨(HID.out.sep.box 7 rfl).cell 1, (HID.out.sep.box 7 rfl).cell 2, (HID.out.sep.box 7 rfl).cell 4⟩
                go_wp2_with fail
                go_region_held3 (fun X => X.cell? ⟨ob, 1, none⟩ = some (.int .i64 bb) ∧ X.cell? ⟨ob, 2, none⟩ = some (.int .i64 ww) ∧ X.cell? ⟨ob, 4, none⟩ = some (.int .u32 xx)) (first | assumption | exact hS0) (first | (go_at_call 17; refine (write_is HID.out bb ww xx).mono ?_; rintro e wa ⟨rfl, hs, -⟩; have HSa := Lib.hid hs; have hS' : (fun X => X.cell? ⟨ob, 1, none⟩ = some (.int .i64 bb) ∧ X.cell? ⟨ob, 2, none⟩ = some (.int .i64 ww) ∧ X.cell? ⟨ob, 4, none⟩ = some (.int .u32 xx)) wa := ⟨(HSa.out.sep.box 7 rfl).cell 1, (HSa.out.sep.box 7 rfl).cell 2, (HSa.out.sep.box 7 rfl).cell 4⟩; clear hs) | (go_at_call 44; refine (rwrite_is (HSa.out.rot HRF.out HOK.out) HGR.out.1 HGR.out.2 bb ww xx).mono ?_; rintro e wb ⟨he, hs⟩; rw [HLK.out.all.2.2.2.2.2.2.2.2.1] at he; subst he; have HSb := Lib.hid hs; have hS' : (fun X => X.cell? ⟨ob, 1, none⟩ = some (.int .i64 bb) ∧ X.cell? ⟨ob, 2, none⟩ = some (.int .i64 ww) ∧ X.cell? ⟨ob, 4, none⟩ = some (.int .u32 xx)) wb := ⟨(HSb.out.sep.box 7 rfl).cell 1, (HSb.out.sep.box 7 rfl).cell 2, (HSb.out.sep.box 7 rfl).cell 4⟩; clear hs))
                all_goals
                  have hfin : CIs KT w0 wb p c (p.wrA A bb ww xx) (p.wrM A M bb ww) (r.ob RT c (p.wrA A bb ww xx) (p.wrM A M bb ww) L) := by
                    have h := HSb.out.rot HID.out.fits HSa.out.ok
                    rw [HLK.out.all.2.2.2.2.2.2.2.2.2.1, HLK.out.all.2.2.2.2.2.2.2.2.2.2.1] at h
                    exact h.drop6.drop6
                  have HFIN := Lib.hid hfin
                  clear hfin hS'
                  go_wp2
                  go_ret2
                  exact ⟨p, _, _, rfl, HFIN.out, HLK.out, HGU.out.1.wr HID.out.fits _ _ _, HGU.out.2.wr HID.out.fits _ _ _⟩
              · have g4 : (kk == 4) = false := by simpa using k4
                by_cases k5 : kk = 5
                · subst k5
                  have hS0 : (fun X => X.cell? ⟨ob, 1, none⟩ = some (.int .i64 bb) ∧ X.cell? ⟨ob, 3, none⟩ = some (.int .u8 ss)) wr.drew := ⟨(HID.out.sep.box 7 rfl).cell 1, (HID.out.sep.box 7 rfl).cell 3⟩
                  go_wp2_with fail
                  go_region_held3 (fun X => X.cell? ⟨ob, 1, none⟩ = some (.int .i64 bb) ∧ X.cell? ⟨ob, 3, none⟩ = some (.int .u8 ss)) (first | assumption | exact hS0) (first | (go_at_call 18; refine (turn_is HID.out bb ss hsd).mono ?_; rintro e wa ⟨rfl, hs, -⟩; have HSa := Lib.hid hs; have hS' : (fun X => X.cell? ⟨ob, 1, none⟩ = some (.int .i64 bb) ∧ X.cell? ⟨ob, 3, none⟩ = some (.int .u8 ss)) wa := ⟨(HSa.out.sep.box 7 rfl).cell 1, (HSa.out.sep.box 7 rfl).cell 3⟩; clear hs) | (go_at_call 45; refine (rturn_is (HSa.out.rot HRF.out HOK.out) HGR.out.1 HGR.out.2 bb ss hsd).mono ?_; rintro e wb ⟨he, hs⟩; rw [HLK.out.all.2.2.2.2.2.2.1] at he; subst he; have HSb := Lib.hid hs; have hS' : (fun X => X.cell? ⟨ob, 1, none⟩ = some (.int .i64 bb) ∧ X.cell? ⟨ob, 3, none⟩ = some (.int .u8 ss)) wb := ⟨(HSb.out.sep.box 7 rfl).cell 1, (HSb.out.sep.box 7 rfl).cell 3⟩; clear hs))
                  all_goals
                    have hfin : CIs KT w0 wb p c (p.trnA A bb ss) M (r.ob RT c (p.trnA A bb ss) M L) := by
                      have h := HSb.out.rot HID.out.fits HSa.out.ok
                      rw [HLK.out.all.2.2.2.2.2.2.2.1] at h
                      exact h.drop6.drop6
                    have HFIN := Lib.hid hfin
                    clear hfin hS'
                    go_wp2
                    go_ret2
                    exact ⟨p, _, _, rfl, HFIN.out, HLK.out, HGU.out.1.trn HID.out.fits _ _, HGU.out.2.trn HID.out.fits _ _⟩
                · have g5 : (kk == 5) = false := by simpa using k5
                  by_cases k6 : kk = 6
                  · subst k6
                    have p1 : wr.cell? ⟨ob, 1, none⟩ = some (.int .i64 bb) := (HI.out.sep.box 7 rfl).cell 1
                    have hgo : (p.fnd A bb).Ok := fnd_ok HI.out.ok bb
                    have hgN := Ln.Ok.isN hgo.isU
                    have heq : ∀ X, (eqL (.agg (p.fnd A bb).cells) (.agg (p.fnd A bb).cells)).run Try.prog X = .ok (.bool true) X := fun X => by rw [eqL_run hgo.isU hgo.isU X, Ln.same_self]
                    have HC1 := Lib.hid (find_is HI.out bb)
                    have HC2 := Lib.hid (fun X (hX : CIs KT w0 X p c A M (r.ob RT c A M (boxO lb (lineJ bb ss xx 16).cells LT :: boxO ob (opC 6 bb ww ss xx) OT :: L))) => rfind_is (hX.rot HRF.out HOK.out) HGR.out.1 HGR.out.2 bb)
                    have ha := HLK.out.all
                    rw [ha.2.2.2.1, ha.2.2.2.2.2.2.2.2.2.2.2.2.2.1] at HC2
                    clear ha
                    generalize (p.fnd A bb).cells = y at *
                    generalize (p.place A bb).isSome = o at *
                    go_wp2_with fail
                    refine HC1.out.mono ?_
                    rintro e w1 ⟨rfl, hu⟩
                    have HI1 := Lib.hid (HI.out.upd0 hu)
                    clear hu p1 HC1
                    have s1 := TLin.st_new hgN w1
                    have q1 := Blk.new w1 y LT
                    have HI2 := Lib.hid (HI1.out.upd0 (Upd.alloc NoF w1 (.cells y LT)))
                    obtain ⟨w2, hw2⟩ : ∃ X, w1.alloc (.cells y LT) = X := ⟨_, rfl⟩
                    rw [hw2] at s1 q1 HI2
                    have HQ1 := Lib.hid q1
                    clear hw2 q1
                    have p1 : w2.cell? ⟨ob, 1, none⟩ = some (.int .i64 bb) := (HI2.out.sep.box 7 rfl).cell 1
                    go_wp2_with fail
                    refine (HC2.out _ HI2.out).mono ?_
                    rintro e w3 ⟨rfl, hu⟩
                    have HI3 := Lib.hid (HI2.out.upd0 hu)
                    have HQ3 := Lib.hid (HQ1.out.upd hu (fun h => h))
                    clear hu p1 HC2
                    have s2 := TLin.st_new hgN w3
                    have q2 := Blk.new w3 y LT
                    have q3 := HQ3.out.alloc (.cells y LT)
                    have HI4 := Lib.hid (HI3.out.upd0 (Upd.alloc NoF w3 (.cells y LT)))
                    obtain ⟨w4, hw4⟩ : ∃ X, w3.alloc (.cells y LT) = X := ⟨_, rfl⟩
                    rw [hw4] at s2 q2 q3 HI4
                    have l1 := TLin.ld_at hgN q3.whole
                    have l2 := TLin.ld_at hgN q2.whole
                    have HFIN := Lib.hid (HI4.out.drop6.drop6)
                    clear hw4 q2 q3 HI4
                    go_wp2
                    go_ret2
                    exact ⟨p, _, _, rfl, HFIN.out, HLK.out, HGU.out.1, HGU.out.2⟩
                  · have g6 : (kk == 6) = false := by simpa using k6
                    by_cases k7 : kk = 7
                    · subst k7
                      go_wp2_with fail
                      refine (copy_is HI.out).mono ?_
                      rintro e w1 ⟨q, rfl, hc, hqs, hqy, -⟩
                      have HC := Lib.hid hc
                      have HQS := Lib.hid (show Like p q from ⟨hqs, hqy⟩)
                      clear hc hqs hqy
                      have p1 : w1.cell? ⟨ob, 1, none⟩ = some (.int .i64 bb) := (HC.out.sep.box 10 rfl).cell 1
                      have HP := Lib.hid (HC.out.rot HI.out.fits HI.out.ok)
                      go_wp2_with fail
                      refine (drop_is HP.out bb).mono ?_
                      rintro e w2 ⟨rfl, hs, -⟩
                      have hfin := ((hs.rot HC.out.fits HC.out.ok).drop3).drop6.drop6
                      have HFIN := Lib.hid hfin
                      clear hfin hs p1 HP
                      go_wp2
                      go_ret2
                      exact ⟨q, _, _, rfl, HFIN.out, HQS.out.symm.trans HLK.out, (HQS.out.all.2.2.2.2.2.2.2.2.2.2.2.2.2.2.1 A).2 HGU.out.1, (HQS.out.all.2.2.2.2.2.2.2.2.2.2.2.2.2.2.2 A).2 HGU.out.2⟩
                    · have g7 : (kk == 7) = false := by simpa using k7
                      have HFIN := Lib.hid (HI.out.drop6.drop6)
                      go_wp2
                      go_ret2
                      exact ⟨p, _, _, rfl, HFIN.out, HLK.out, HGU.out.1, HGU.out.2⟩
end
end Go.Proofs.Ytaneobggbplkbaa.KA
