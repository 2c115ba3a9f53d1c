/- CacheRoom: what the Go function does (printed by tools/mkcache.py). -/
import Derived.Test.YtaneobggbplkbaaCacheLaw
set_option linter.unusedSimpArgs false
set_option linter.unusedVariables false
namespace Go.Proofs.Ytaneobggbplkbaa.KA
open Go.RowKit
open BU (IsU words)
open PL (Cfg CC CV May)
attribute [local go_sem] Oper.semAt_some
attribute [local go_sem ↓] TLin.ld_eq TLin.st_eq TLin.al_eq TLin.bx_eq eqL_eq neL_eq
attribute [local go_sem] TLin.al_run TLin.bx_run
theorem CIs.box {T : TypeId} {w0 W : World} {p : Kp} {c : Cfg} {A : Nat → Ln} {M : Nat → Int} {L : List Obj} (h : CIs T w0 W p c A M L) (cs : Array Value) (U : TypeId) : CIs T w0 (W.alloc (.cells cs U)) p c A M (boxO W.heap.size cs U :: L) :=
  ⟨(h.sep.alloc cs U).sink 3, h.fits, h.ok⟩
theorem CIs.drop {T : TypeId} {w0 W : World} {p : Kp} {c : Cfg} {A : Nat → Ln} {M : Nat → Int} {O : Obj} {L : List Obj} (h : CIs T w0 W p c A M (O :: L)) : CIs T w0 W p c A M L :=
  ⟨h.sep.drop 3 (by simp), h.fits, h.ok⟩
set_option maxRecDepth 100000 in
set_option maxHeartbeats 4000000 in
theorem room_any (c : Cfg) (a1 : Option Addr) (len1 cap1 : Nat) (V : Nat → Nat → Value) (K B Ww Ss X : Nat → Int) (b : Int) (w : World) (h1 : IsRowF w a1 len1 cap1 5 V) (hV : ∀ i, i < len1 → V i 0 = .int .i64 (K i) ∧ V i 1 = .int .i64 (B i) ∧ V i 2 = .int .i64 (Ww i) ∧ V i 3 = .int .u8 (Ss i) ∧ V i 4 = .int .u32 (X i))
    (hB : ∀ i, i < len1 → (0 ≤ Ss i ∧ Ss i ≤ 255) ∧ True) :
    Calls Try.prog 3 #[CV c, .slice a1 len1 cap1, .int .i64 b] w fun e w' => e = .returned (.bool true) ∧ Below w.heap.size w w' := by
  have HC := Lib.hid (script_at h1 hV)
  have HB := Lib.hid hB
  obtain ⟨lc1, m1, _⟩ := h1
  clear hV hB
  unfold maxLen at m1
  obtain ⟨W0, hW0⟩ : ∃ W0, w.alloc (.cells (CC c) 23) = W0 := ⟨_, rfl⟩
  have HS0 : Hid (Sep NoF w W0 [cfgO w.heap.size c]) := Lib.hid (by rw [← hW0]; exact (Sep.zero NoF w).alloc _ _)
  have e0 : W0.cell? ⟨w.heap.size, 0, none⟩ = some (.int .i64 c.cores) := (HS0.out.box 0 rfl).cell 0
  have e1 : W0.cell? ⟨w.heap.size, 1, none⟩ = some (.int .i64 c.sets) := (HS0.out.box 0 rfl).cell 1
  have e2 : W0.cell? ⟨w.heap.size, 2, none⟩ = some (.int .i64 c.ways) := (HS0.out.box 0 rfl).cell 2
  have e3 : W0.cell? ⟨w.heap.size, 3, none⟩ = some (.int .i64 c.blocks) := (HS0.out.box 0 rfl).cell 3
  have e4 : W0.cell? ⟨w.heap.size, 4, none⟩ = some (.int .i64 c.logs) := (HS0.out.box 0 rfl).cell 4
  have e5 : W0.cell? ⟨w.heap.size, 5, none⟩ = some (.int .i64 c.backs) := (HS0.out.box 0 rfl).cell 5
  have e6 : W0.cell? ⟨w.heap.size, 6, none⟩ = some (.int .i64 c.nest) := (HS0.out.box 0 rfl).cell 6
  have e7 : W0.cell? ⟨w.heap.size, 7, none⟩ = some (.int .i64 c.tries) := (HS0.out.box 0 rfl).cell 7
  have HW0 := Lib.hid hW0
  clear hW0
  by_cases g1 : 300 < len1
  · have hb1 : decide ((300 : Int) < (len1 : Int)) = true := by simp; omega
    clear e0 e1 e2 e3 e4 e5 e6 e7
    go_enter Try.func3, Try.ntmps3
    go_wp2_with fail
    rw [HW0.out]
    refine (works_any _).mono ?_
    rintro e w9 ⟨rfl, hu⟩
    have HS9 := Lib.hid (HS0.out.upd0 hu)
    clear hu
    go_wp2
    go_ret
    exact ⟨rfl, HS9.out.below⟩
  · have hb1 : decide ((300 : Int) < (len1 : Int)) = false := by simp; omega
    by_cases hm : May c
    · have HM := Lib.hid hm
      clear hm
      go_enter Try.func3, Try.ntmps3
      go_upto_region 1 with fail
      rw [HW0.out]
      go_wp2_with fail
      refine (new_yes HS0.out c HM.out).mono ?_
      rintro e w2 ⟨p, rfl, hk2, -⟩
      have HK2 := Lib.hid hk2
      have HF := Lib.hid hk2.fits
      clear hk2 e0 e1 e2 e3 e4 e5 e6 e7 HW0 HS0
      obtain ⟨cb, hcb⟩ : ∃ cb, w.heap.size = cb := ⟨_, rfl⟩
      rw [hcb] at HK2 ⊢
      have HCB := Lib.hid hcb
      clear hcb
      go_wp2_with fail
      go_loopw [27] (fun i wr => ∃ (k : Nat) (A : Nat → Ln) (M : Nat → Int), k ≤ len1 ∧ i = .int .i64 k ∧ Hid (Good p A ∧ CIs KT w wr p c A M [cfgO cb c])) (fun i _ => len1 - (intOf i).toNat)
      case atStart => exact ⟨0, _, _, Nat.zero_le _, rfl, Good.nil, HK2.out⟩
      case round =>
        clear HK2
        obtain ⟨k, A, M, hk, rfl, HI0⟩ := hrel
        have HG := Lib.hid HI0.out.1
        have HI := Lib.hid HI0.out.2
        clear HI0
        by_cases hlt : k < len1
        · skip
          obtain ⟨x, g, q, rfl, hxa, hgl, z0, z1, z2, z3, z4⟩ := HC.out k hlt
          have y0 := HI.out.sep.old z0
          have y1 := HI.out.sep.old z1
          have y2 := HI.out.sep.old z2
          have y3 := HI.out.sep.old z3
          have y4 := HI.out.sep.old z4
          have hsd := (HB.out k hlt).1
          clear z0 z1 z2 z3 z4
          generalize K k = kk at *
          generalize B k = bb at *
          generalize Ww k = ww at *
          generalize Ss k = ss at *
          generalize X k = xx at *
          have HI5 := Lib.hid (HI.out.box (opC kk bb ww ss xx) OT)
          obtain ⟨w5, hw5⟩ : ∃ X, wr.alloc (.cells (opC kk bb ww ss xx) OT) = X := ⟨_, rfl⟩
          rw [hw5] at HI5
          have p0 : w5.cell? ⟨wr.heap.size, 0, none⟩ = some (.int .i64 kk) := (HI5.out.sep.box 3 rfl).cell 0
          have p1 : w5.cell? ⟨wr.heap.size, 1, none⟩ = some (.int .i64 bb) := (HI5.out.sep.box 3 rfl).cell 1
          have p2 : w5.cell? ⟨wr.heap.size, 2, none⟩ = some (.int .i64 ww) := (HI5.out.sep.box 3 rfl).cell 2
          have p3 : w5.cell? ⟨wr.heap.size, 3, none⟩ = some (.int .u8 ss) := (HI5.out.sep.box 3 rfl).cell 3
          have p4 : w5.cell? ⟨wr.heap.size, 4, none⟩ = some (.int .u32 xx) := (HI5.out.sep.box 3 rfl).cell 4
          have HW5 := Lib.hid hw5
          clear hw5 HI
          go_upto_region 9 with fail
          rw [HW5.out]
          clear y0 y1 y2 y3 y4 HW5
          obtain ⟨ob, hob⟩ : ∃ b, wr.heap.size = b := ⟨_, rfl⟩
          rw [hob] at HI5 p0 p1 p2 p3 p4 ⊢
          clear hob
          by_cases k0 : kk = 0
          · subst k0
            go_wp2_with fail
            refine (line_any bb ss hsd w5).mono ?_
            rintro e w6 ⟨rfl, hu⟩
            have HI6 := Lib.hid (HI5.out.upd0 hu)
            clear hu
            go_wp2_with fail
            refine (put_is HI6.out (lineL bb ss) (lineL_ok _ _ hsd)).mono ?_
            rintro e w7 ⟨rfl, hc, -⟩
            have HI7 := Lib.hid hc.drop
            clear hc
            go_wp2_with fail
            exact ⟨⟨k + 1, _, _, by omega, by go_num, HG.out.put _, HI7.out⟩, by simp [intOf]; omega⟩
          · have e0 : (kk == 0) = false := by simpa using k0
            go_wp2_with fail
            refine (kUse_is HI5.out bb).mono ?_
            rintro e w7 ⟨rfl, hc, -⟩
            have HI7 := Lib.hid hc.drop
            clear hc
            go_wp2_with fail
            exact ⟨⟨k + 1, _, _, by omega, by go_num, HG.out, HI7.out⟩, by simp [intOf]; omega⟩
        · obtain rfl : k = len1 := by omega
          go_wp2_with fail
          refine (goes_is HI.out b).mono ?_
          rintro e v1 ⟨rfl, hu⟩
          have HV1 := Lib.hid (HI.out.upd0 hu)
          clear hu HI
          have hN := Ln.Ok.isN (show (p.gone A M b).Ok by unfold Kp.gone; split; exact HV1.out.ok.okA _; exact Ln.nil_ok).isU
          have s1 := TLin.st_new hN v1
          have HV2 := Lib.hid (HV1.out.box (p.gone A M b).cells LT)
          obtain ⟨v2, hv2⟩ : ∃ X, v1.alloc (.cells (p.gone A M b).cells LT) = X := ⟨_, rfl⟩
          rw [hv2] at s1 HV2
          obtain ⟨lb, hlb⟩ : ∃ lb, v1.heap.size = lb := ⟨_, rfl⟩
          rw [hlb] at HV2
          have l0 : v2.cell? ⟨lb, 0, none⟩ = some (.int .i64 (p.gone A M b).blk) := ((HV2.out.sep.box 3 rfl).cell 0).trans (Ln.get0 _)
          have HV := Lib.hid (And.intro hv2 hlb)
          clear hN hv2 hlb
          cases hm : mayK b
          · have hnb := mayK_not hm
            have hg : p.goes A M b = none := by unfold Kp.goes; rw [hm]; rfl
            have hpb := put_bad (p := p) (A := A) hm
            rw [hg]
            have HPB := Lib.hid hpb
            clear hg hpb hm l0
            by_cases b0 : b < 0
            · have gb : decide (b < 0) = true := by simp; omega
              clear hnb b0
              go_upto_region 14 with fail
              rw [HV.out.2]
              go_wp2_with fail
              refine (line_any b 1 (by omega) _).mono ?_
              rintro e v3 ⟨rfl, hu⟩
              have HV3 := Lib.hid (HV2.out.upd0 hu)
              clear hu
              go_wp2_with fail
              refine (put_is HV3.out (lineL b 1) (lineL_ok _ _ (by omega))).mono ?_
              rintro e v4 ⟨rfl, hc, -⟩
              rw [HPB.out]
              have HV4 := Lib.hid hc.sep
              clear hc
              go_wp2_with fail
              refine (works_any _).mono ?_
              rintro e v5 ⟨rfl, hu⟩
              have HV5 := Lib.hid (HV4.out.upd0 hu)
              clear hu
              go_wp2
              go_ret
              exact ⟨rfl, HV5.out.below⟩
            · have gb : decide (b < 0) = false := by simp; omega
              have gb2 : decide (256 ≤ b) = true := by simp; omega
              clear hnb b0
              go_upto_region 14 with fail
              rw [HV.out.2]
              go_wp2_with fail
              refine (line_any b 1 (by omega) _).mono ?_
              rintro e v3 ⟨rfl, hu⟩
              have HV3 := Lib.hid (HV2.out.upd0 hu)
              clear hu
              go_wp2_with fail
              refine (put_is HV3.out (lineL b 1) (lineL_ok _ _ (by omega))).mono ?_
              rintro e v4 ⟨rfl, hc, -⟩
              rw [HPB.out]
              have HV4 := Lib.hid hc.sep
              clear hc
              go_wp2_with fail
              refine (works_any _).mono ?_
              rintro e v5 ⟨rfl, hu⟩
              have HV5 := Lib.hid (HV4.out.upd0 hu)
              clear hu
              go_wp2
              go_ret
              exact ⟨rfl, HV5.out.below⟩
          · have hbm := mayK_of hm
            have gb : decide (b < 0) = false := by simp; omega
            have gb2 : decide (256 ≤ b) = false := by simp; omega
            have HPL := Lib.hid (put_line (p := p) (A := A) (M := M) hm)
            cases hg : p.goes A M b with
            | none =>
              rw [hg] at HPL
              have hgn : p.gone A M b = Ln.nil := by unfold Kp.gone; rw [hg]
              have HGN := Lib.hid hgn
              clear hg hgn hbm hm
              go_upto_region 14 with fail
              rw [HV.out.2]
              go_wp2_with fail
              refine (copy_is HV2.out).mono ?_
              rintro e v3 ⟨p', rfl, hc, hps, hpy, -⟩
              have HV3 := Lib.hid hc
              have HPS := Lib.hid (And.intro hps hpy)
              clear hc hps hpy
              go_wp2_with fail
              refine (line_any b 1 (by omega) _).mono ?_
              rintro e v4 ⟨rfl, hu⟩
              have HV4 := Lib.hid (HV3.out.upd0 hu)
              clear hu
              go_wp2_with fail
              refine (put_is HV4.out (lineL b 1) (lineL_ok _ _ (by omega))).mono ?_
              rintro e v5 ⟨rfl, hc, -⟩
              have HV5 := Lib.hid (hc.rot HF.out HV2.out.ok).drop3
              have hpe : p'.putE A (lineL b 1) = 0 := by rw [putE_same HPS.out.1 HPS.out.2]; exact HPL.out
              rw [hpe]
              clear hc hpe
              go_wp2_with fail
              go_quiet (fail)
              have HV6 := Lib.hid (HV5.out.upd0 (Upd.drewN NoF v5 nq))
              go_wp2_with fail
              refine (line_any b 1 (by omega) _).mono ?_
              rintro e v7 ⟨rfl, hu⟩
              have HV7 := Lib.hid (HV6.out.upd0 hu)
              clear hu
              go_wp2_with fail
              refine (put_is HV7.out (lineL b 1) (lineL_ok _ _ (by omega))).mono ?_
              rintro e v8 ⟨rfl, hc, -⟩
              rw [show p.putE A (lineL b 1) = 0 from HPL.out]
              have HV8 := Lib.hid hc.sep
              clear hc
              go_wp2_with fail
              refine (works_any _).mono ?_
              rintro e v9 ⟨rfl, hu⟩
              have HV9 := Lib.hid (HV8.out.upd0 hu)
              clear hu
              go_wp2
              go_ret
              exact ⟨rfl, HV9.out.below⟩
            | some i =>
              rw [hg] at HPL
              obtain ⟨_, q1, q2, q3⟩ := goes_at HF.out HG.out hg
              have hgn : p.gone A M b = A i := by unfold Kp.gone; rw [hg]
              obtain ⟨i2, hp2⟩ := Option.isSome_iff_exists.1 q3
              have hpa := put_after hm hp2 q2
              have hml : mayK (A i).blk = true := by unfold mayX at q1; revert q1; cases mayK (A i).blk <;> simp
              have hs1 := mayK_set HF.out hml
              have hs2 := mayK_set HF.out hm
              rw [q2, ← hs2] at hs1
              rw [hgn] at HV2 HV l0 s1 ⊢
              have HX := Lib.hid (And.intro hpa (And.intro hs1 (And.intro (mayK_of hml) hbm)))
              have HP2 := Lib.hid hp2
              clear hg hgn q1 q2 q3 hpa hml hs1 hs2 hm hp2 hbm
              go_upto_region 14 with fail
              rw [HV.out.2]
              go_wp2_with fail
              refine (copy_is HV2.out).mono ?_
              rintro e v3 ⟨p', rfl, hc, hps, hpy, -⟩
              have HV3 := Lib.hid hc
              have HPS := Lib.hid (And.intro hps hpy)
              clear hc hps hpy
              go_wp2_with fail
              refine (line_any b 1 (by omega) _).mono ?_
              rintro e v4 ⟨rfl, hu⟩
              have HV4 := Lib.hid (HV3.out.upd0 hu)
              clear hu
              go_wp2_with fail
              refine (put_is HV4.out (lineL b 1) (lineL_ok _ _ (by omega))).mono ?_
              rintro e v5 ⟨rfl, hc, -⟩
              have HV5 := Lib.hid (hc.rot HF.out HV2.out.ok).drop3
              have hpe : p'.putE A (lineL b 1) = 7 := by rw [putE_same HPS.out.1 HPS.out.2]; exact HPL.out
              rw [hpe]
              clear hc hpe
              go_wp2_with fail
              have HV5d := Lib.hid (HV5.out.upd0 (Upd.drew NoF v5))
              refine wp_region_held_drew (S := (fun X => (∀ k, X.cell? ⟨cb, k, none⟩ = (CC c)[k]?) ∧ X.cell? ⟨lb, 0, none⟩ = some (.int .i64 (A i).blk))) (by kernel_rfl) (⟨fun k => (HV5d.out.sep.box 4 rfl).cell k, ((HV5d.out.sep.box 3 rfl).cell 0).trans (Ln.get0 _)⟩) (fun hHeld => ?_)
              refine reg_on (i := 0) (v := .bool true) rfl (by kernel_rfl) (by kernel_rfl) (by kernel_rfl) (fun _ _ _ h => h) (by kernel_rfl) hHeld ?yr1_0 ?_
              case yr1_0 => (intro w hSw; (try dsimp only at hSw); obtain ⟨ec, c1⟩ := hSw; have c2 := ec 0; have c3 := ec 1; have c4 := ec 2; have c5 := ec 3; have c6 := ec 4; have c7 := ec 5; have c8 := ec 6; have c9 := ec 7; clear ec; simp only [List.getElem?_toArray, List.getElem?_cons_zero, List.getElem?_cons_succ] at c2 c3 c4 c5 c6 c7 c8 c9; go_simp; first | done | with_reducible rfl)
              simp only [Act.put, List.setIfInBounds_toArray, List.set_cons_zero, List.set_cons_succ, List.getElem_toArray, List.getElem_cons_succ, List.getElem_cons_zero]
              refine reg_on (i := 1) (v := .bool true) rfl (by kernel_rfl) (by kernel_rfl) (by kernel_rfl) (fun _ _ _ h => h) (by kernel_rfl) hHeld ?yr1_1 ?_
              case yr1_1 => (intro w hSw; (try dsimp only at hSw); obtain ⟨ec, c1⟩ := hSw; have c2 := ec 0; have c3 := ec 1; have c4 := ec 2; have c5 := ec 3; have c6 := ec 4; have c7 := ec 5; have c8 := ec 6; have c9 := ec 7; clear ec; simp only [List.getElem?_toArray, List.getElem?_cons_zero, List.getElem?_cons_succ] at c2 c3 c4 c5 c6 c7 c8 c9; go_simp; first | done | with_reducible rfl)
              simp only [Act.put, List.setIfInBounds_toArray, List.set_cons_zero, List.set_cons_succ, List.getElem_toArray, List.getElem_cons_succ, List.getElem_cons_zero]
              refine reg_on (i := 2) (v := CV c) rfl (by kernel_rfl) (by kernel_rfl) (by kernel_rfl) (fun _ _ _ h => h) (by kernel_rfl) hHeld ?yr1_2 ?_
              case yr1_2 => (intro w hSw; (try dsimp only at hSw); obtain ⟨ec, c1⟩ := hSw; have c2 := ec 0; have c3 := ec 1; have c4 := ec 2; have c5 := ec 3; have c6 := ec 4; have c7 := ec 5; have c8 := ec 6; have c9 := ec 7; clear ec; simp only [List.getElem?_toArray, List.getElem?_cons_zero, List.getElem?_cons_succ] at c2 c3 c4 c5 c6 c7 c8 c9; go_simp; first | done | with_reducible rfl)
              simp only [Act.put, List.setIfInBounds_toArray, List.set_cons_zero, List.set_cons_succ, List.getElem_toArray, List.getElem_cons_succ, List.getElem_cons_zero]
              refine reg_on (i := 3) (v := ?vr1_3) rfl (by kernel_rfl) (by kernel_rfl) (by kernel_rfl) (fun _ _ _ h => h) (by kernel_rfl) hHeld ?yr1_3 ?_
              case yr1_3 => (intro w hSw; (try dsimp only at hSw); obtain ⟨ec, c1⟩ := hSw; have c2 := ec 0; have c3 := ec 1; have c4 := ec 2; have c5 := ec 3; have c6 := ec 4; have c7 := ec 5; have c8 := ec 6; have c9 := ec 7; clear ec; simp only [List.getElem?_toArray, List.getElem?_cons_zero, List.getElem?_cons_succ] at c2 c3 c4 c5 c6 c7 c8 c9; go_simp; first | done | with_reducible rfl)
              simp only [Act.put, List.setIfInBounds_toArray, List.set_cons_zero, List.set_cons_succ, List.getElem_toArray, List.getElem_cons_succ, List.getElem_cons_zero]
              refine reg_on (i := 4) (v := .int .i64 (A i).blk) rfl (by kernel_rfl) (by kernel_rfl) (by kernel_rfl) (fun _ _ _ h => h) (by kernel_rfl) hHeld ?yr1_4 ?_
              case yr1_4 => (intro w hSw; (try dsimp only at hSw); obtain ⟨ec, c1⟩ := hSw; have c2 := ec 0; have c3 := ec 1; have c4 := ec 2; have c5 := ec 3; have c6 := ec 4; have c7 := ec 5; have c8 := ec 6; have c9 := ec 7; clear ec; simp only [List.getElem?_toArray, List.getElem?_cons_zero, List.getElem?_cons_succ] at c2 c3 c4 c5 c6 c7 c8 c9; go_simp; first | done | with_reducible rfl)
              simp only [Act.put, List.setIfInBounds_toArray, List.set_cons_zero, List.set_cons_succ, List.getElem_toArray, List.getElem_cons_succ, List.getElem_cons_zero]
              refine reg_on (i := 6) (v := CV c) rfl (by kernel_rfl) (by kernel_rfl) (by kernel_rfl) (fun _ _ _ h => h) (by kernel_rfl) hHeld ?yr1_6 ?_
              case yr1_6 => (intro w hSw; (try dsimp only at hSw); obtain ⟨ec, c1⟩ := hSw; have c2 := ec 0; have c3 := ec 1; have c4 := ec 2; have c5 := ec 3; have c6 := ec 4; have c7 := ec 5; have c8 := ec 6; have c9 := ec 7; clear ec; simp only [List.getElem?_toArray, List.getElem?_cons_zero, List.getElem?_cons_succ] at c2 c3 c4 c5 c6 c7 c8 c9; go_simp; first | done | with_reducible rfl)
              simp only [Act.put, List.setIfInBounds_toArray, List.set_cons_zero, List.set_cons_succ, List.getElem_toArray, List.getElem_cons_succ, List.getElem_cons_zero]
              refine reg_on (i := 7) (v := ?vr1_7) rfl (by kernel_rfl) (by kernel_rfl) (by kernel_rfl) (fun _ _ _ h => h) (by kernel_rfl) hHeld ?yr1_7 ?_
              case yr1_7 => (intro w hSw; (try dsimp only at hSw); obtain ⟨ec, c1⟩ := hSw; have c2 := ec 0; have c3 := ec 1; have c4 := ec 2; have c5 := ec 3; have c6 := ec 4; have c7 := ec 5; have c8 := ec 6; have c9 := ec 7; clear ec; simp only [List.getElem?_toArray, List.getElem?_cons_zero, List.getElem?_cons_succ] at c2 c3 c4 c5 c6 c7 c8 c9; go_simp; first | done | with_reducible rfl)
              simp only [Act.put, List.setIfInBounds_toArray, List.set_cons_zero, List.set_cons_succ, List.getElem_toArray, List.getElem_cons_succ, List.getElem_cons_zero]
              refine reg_step (i := 5) (by kernel_rfl) rfl (by kernel_rfl) (fun K hK => ?_)
              go_simp
              refine (set_any c HF.out.may (A i).blk HX.out.2.2.1 _).mono ?_
              rintro e v6 ⟨rfl, hu⟩
              have HV6 := Lib.hid (HV5d.out.upd0 hu)
              have HS : (fun X => (∀ k, X.cell? ⟨cb, k, none⟩ = (CC c)[k]?) ∧ X.cell? ⟨lb, 0, none⟩ = some (.int .i64 (A i).blk)) v6 := ⟨fun k => (HV6.out.sep.box 4 rfl).cell k, ((HV6.out.sep.box 3 rfl).cell 0).trans (Ln.get0 _)⟩
              rw [HX.out.2.1]
              clear hu
              go_wp2_with fail
              refine hK.out _ _ HS (fun hHeld2 => ?_)
              clear hK hHeld2 hHeld
              have hHeld := HS
              clear HS
              try simp only [Act.put, List.setIfInBounds_toArray, List.set_cons_zero, List.set_cons_succ, List.getElem_toArray, List.getElem_cons_succ, List.getElem_cons_zero]
              refine reg_step (i := 8) (by kernel_rfl) rfl (by kernel_rfl) (fun K hK => ?_)
              go_simp
              refine (set_any c HF.out.may b HX.out.2.2.2 _).mono ?_
              rintro e v7 ⟨rfl, hu⟩
              have HV7 := Lib.hid (HV6.out.upd0 hu)
              have HS : (fun X => (∀ k, X.cell? ⟨cb, k, none⟩ = (CC c)[k]?) ∧ X.cell? ⟨lb, 0, none⟩ = some (.int .i64 (A i).blk)) v7 := ⟨fun k => (HV7.out.sep.box 4 rfl).cell k, ((HV7.out.sep.box 3 rfl).cell 0).trans (Ln.get0 _)⟩
              clear hu
              go_wp2_with fail
              refine hK.out _ _ HS (fun hHeld2 => ?_)
              clear hK hHeld2 hHeld
              have hHeld := HS
              clear HS
              try simp only [Act.put, List.setIfInBounds_toArray, List.set_cons_zero, List.set_cons_succ, List.getElem_toArray, List.getElem_cons_succ, List.getElem_cons_zero]
              refine reg_on (i := 9) (v := .bool false) rfl (by kernel_rfl) (by kernel_rfl) (by kernel_rfl) (fun _ _ _ h => h) (by kernel_rfl) hHeld ?yr1_9 ?_
              case yr1_9 => (intro w hSw; (try dsimp only at hSw); obtain ⟨ec, c1⟩ := hSw; have c2 := ec 0; have c3 := ec 1; have c4 := ec 2; have c5 := ec 3; have c6 := ec 4; have c7 := ec 5; have c8 := ec 6; have c9 := ec 7; clear ec; simp only [List.getElem?_toArray, List.getElem?_cons_zero, List.getElem?_cons_succ] at c2 c3 c4 c5 c6 c7 c8 c9; go_simp; first | done | with_reducible rfl)
              simp only [Act.put, List.setIfInBounds_toArray, List.set_cons_zero, List.set_cons_succ, List.getElem_toArray, List.getElem_cons_succ, List.getElem_cons_zero]
              refine reg_on (i := 10) (v := .bool false) rfl (by kernel_rfl) (by kernel_rfl) (by kernel_rfl) (fun _ _ _ h => h) (by kernel_rfl) hHeld ?yr1_10 ?_
              case yr1_10 => (intro w hSw; (try dsimp only at hSw); obtain ⟨ec, c1⟩ := hSw; have c2 := ec 0; have c3 := ec 1; have c4 := ec 2; have c5 := ec 3; have c6 := ec 4; have c7 := ec 5; have c8 := ec 6; have c9 := ec 7; clear ec; simp only [List.getElem?_toArray, List.getElem?_cons_zero, List.getElem?_cons_succ] at c2 c3 c4 c5 c6 c7 c8 c9; go_simp; first | done | with_reducible rfl)
              simp only [Act.put, List.setIfInBounds_toArray, List.set_cons_zero, List.set_cons_succ, List.getElem_toArray, List.getElem_cons_succ, List.getElem_cons_zero]
              refine reg_on (i := 11) (v := ?vr1_11) rfl (by kernel_rfl) (by kernel_rfl) (by kernel_rfl) (fun _ _ _ h => h) (by kernel_rfl) hHeld ?yr1_11 ?_
              case yr1_11 => (intro w hSw; (try dsimp only at hSw); obtain ⟨ec, c1⟩ := hSw; have c2 := ec 0; have c3 := ec 1; have c4 := ec 2; have c5 := ec 3; have c6 := ec 4; have c7 := ec 5; have c8 := ec 6; have c9 := ec 7; clear ec; simp only [List.getElem?_toArray, List.getElem?_cons_zero, List.getElem?_cons_succ] at c2 c3 c4 c5 c6 c7 c8 c9; go_simp; first | done | with_reducible rfl)
              simp only [Act.put, List.setIfInBounds_toArray, List.set_cons_zero, List.set_cons_succ, List.getElem_toArray, List.getElem_cons_succ, List.getElem_cons_zero]
              refine reg_on (i := 12) (v := ?vr1_12) rfl (by kernel_rfl) (by kernel_rfl) (by kernel_rfl) (fun _ _ _ h => h) (by kernel_rfl) hHeld ?yr1_12 ?_
              case yr1_12 => (intro w hSw; (try dsimp only at hSw); obtain ⟨ec, c1⟩ := hSw; have c2 := ec 0; have c3 := ec 1; have c4 := ec 2; have c5 := ec 3; have c6 := ec 4; have c7 := ec 5; have c8 := ec 6; have c9 := ec 7; clear ec; simp only [List.getElem?_toArray, List.getElem?_cons_zero, List.getElem?_cons_succ] at c2 c3 c4 c5 c6 c7 c8 c9; go_simp; first | done | with_reducible rfl)
              simp only [Act.put, List.setIfInBounds_toArray, List.set_cons_zero, List.set_cons_succ, List.getElem_toArray, List.getElem_cons_succ, List.getElem_cons_zero]
              refine reg_on (i := 13) (v := ?vr1_13) rfl (by kernel_rfl) (by kernel_rfl) (by kernel_rfl) (fun _ _ _ h => h) (by kernel_rfl) hHeld ?yr1_13 ?_
              case yr1_13 => (intro w hSw; (try dsimp only at hSw); obtain ⟨ec, c1⟩ := hSw; have c2 := ec 0; have c3 := ec 1; have c4 := ec 2; have c5 := ec 3; have c6 := ec 4; have c7 := ec 5; have c8 := ec 6; have c9 := ec 7; clear ec; simp only [List.getElem?_toArray, List.getElem?_cons_zero, List.getElem?_cons_succ] at c2 c3 c4 c5 c6 c7 c8 c9; go_simp; first | done | with_reducible rfl)
              simp only [Act.put, List.setIfInBounds_toArray, List.set_cons_zero, List.set_cons_succ, List.getElem_toArray, List.getElem_cons_succ, List.getElem_cons_zero]
              refine reg_step (i := 14) (by kernel_rfl) rfl (by kernel_rfl) (fun K hK => ?_)
              go_simp
              refine (drop_is HV7.out (A i).blk).mono ?_
              rintro e v8 ⟨rfl, hc, -⟩
              rw [HP2.out]
              have HV6 := Lib.hid hc
              have HS : (fun X => (∀ k, X.cell? ⟨cb, k, none⟩ = (CC c)[k]?) ∧ X.cell? ⟨lb, 0, none⟩ = some (.int .i64 (A i).blk)) v8 := ⟨fun k => (HV6.out.sep.box 4 rfl).cell k, ((HV6.out.sep.box 3 rfl).cell 0).trans (Ln.get0 _)⟩
              clear hc
              go_wp2_with fail
              refine hK.out _ _ HS (fun hHeld2 => ?_)
              clear hK hHeld2 hHeld
              have hHeld := HS
              clear HS
              try simp only [Act.put, List.setIfInBounds_toArray, List.set_cons_zero, List.set_cons_succ, List.getElem_toArray, List.getElem_cons_succ, List.getElem_cons_zero]
              refine reg_on (i := 15) (v := .bool false) rfl (by kernel_rfl) (by kernel_rfl) (by kernel_rfl) (fun _ _ _ h => h) (by kernel_rfl) hHeld ?yr1_15 ?_
              case yr1_15 => (intro w hSw; (try dsimp only at hSw); obtain ⟨ec, c1⟩ := hSw; have c2 := ec 0; have c3 := ec 1; have c4 := ec 2; have c5 := ec 3; have c6 := ec 4; have c7 := ec 5; have c8 := ec 6; have c9 := ec 7; clear ec; simp only [List.getElem?_toArray, List.getElem?_cons_zero, List.getElem?_cons_succ] at c2 c3 c4 c5 c6 c7 c8 c9; go_simp; first | done | with_reducible rfl)
              simp only [Act.put, List.setIfInBounds_toArray, List.set_cons_zero, List.set_cons_succ, List.getElem_toArray, List.getElem_cons_succ, List.getElem_cons_zero]
              refine reg_on (i := 16) (v := .bool false) rfl (by kernel_rfl) (by kernel_rfl) (by kernel_rfl) (fun _ _ _ h => h) (by kernel_rfl) hHeld ?yr1_16 ?_
              case yr1_16 => (intro w hSw; (try dsimp only at hSw); obtain ⟨ec, c1⟩ := hSw; have c2 := ec 0; have c3 := ec 1; have c4 := ec 2; have c5 := ec 3; have c6 := ec 4; have c7 := ec 5; have c8 := ec 6; have c9 := ec 7; clear ec; simp only [List.getElem?_toArray, List.getElem?_cons_zero, List.getElem?_cons_succ] at c2 c3 c4 c5 c6 c7 c8 c9; go_simp; first | done | with_reducible rfl)
              simp only [Act.put, List.setIfInBounds_toArray, List.set_cons_zero, List.set_cons_succ, List.getElem_toArray, List.getElem_cons_succ, List.getElem_cons_zero]
              refine reg_on (i := 17) (v := .bool false) rfl (by kernel_rfl) (by kernel_rfl) (by kernel_rfl) (fun _ _ _ h => h) (by kernel_rfl) hHeld ?yr1_17 ?_
              case yr1_17 => (intro w hSw; (try dsimp only at hSw); obtain ⟨ec, c1⟩ := hSw; have c2 := ec 0; have c3 := ec 1; have c4 := ec 2; have c5 := ec 3; have c6 := ec 4; have c7 := ec 5; have c8 := ec 6; have c9 := ec 7; clear ec; simp only [List.getElem?_toArray, List.getElem?_cons_zero, List.getElem?_cons_succ] at c2 c3 c4 c5 c6 c7 c8 c9; go_simp; first | done | with_reducible rfl)
              simp only [Act.put, List.setIfInBounds_toArray, List.set_cons_zero, List.set_cons_succ, List.getElem_toArray, List.getElem_cons_succ, List.getElem_cons_zero]
              refine wpAnyH_done (by kernel_rfl) ?_ _
              clear hHeld
              go_wp2_with fail
              refine (line_any b 1 (by omega) _).mono ?_
              rintro e v7 ⟨rfl, hu⟩
              have HV7 := Lib.hid (HV6.out.upd0 hu)
              clear hu
              go_wp2_with fail
              refine (put_is HV7.out (lineL b 1) (lineL_ok _ _ (by omega))).mono ?_
              rintro e v8 ⟨rfl, hc, -⟩
              rw [HX.out.1]
              have HV8 := Lib.hid hc.sep
              clear hc
              go_wp2_with fail
              refine (works_any _).mono ?_
              rintro e v9 ⟨rfl, hu⟩
              have HV9 := Lib.hid (HV8.out.upd0 hu)
              clear hu
              go_wp2
              go_ret
              exact ⟨rfl, HV9.out.below⟩
    · have HN := Lib.hid hm
      clear hm
      go_enter Try.func3, Try.ntmps3
      go_upto_region 1 with fail
      rw [HW0.out]
      go_wp2_with fail
      refine (new_no c HN.out _).mono ?_
      rintro e w2 ⟨rfl, hu⟩
      have HS2 := Lib.hid (HS0.out.upd0 hu)
      clear hu e0 e1 e2 e3 e4 e5 e6 e7
      go_wp2_with fail
      refine (works_any _).mono ?_
      rintro e w9 ⟨rfl, hu⟩
      have HS9 := Lib.hid (HS2.out.upd0 hu)
      clear hu
      go_wp2
      go_ret
      exact ⟨rfl, HS9.out.below⟩
end Go.Proofs.Ytaneobggbplkbaa.KA
