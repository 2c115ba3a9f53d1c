/- NearTells: what the Go function does. -/
import Derived.Test.YtjgeflbhmhmjdaaGMap
import Derived.Test.YtjgeflbhmhmjdaaRowOp17
set_option linter.unusedSimpArgs false
set_option linter.unusedVariables false
namespace Go.Proofs.Ytjgeflbhmhmjdaa.NR
open Go.RowKit
open BU (IsU words)
open PL (Cfg CC CV May)
open KA (Kp CIs OkA LT UT KT)
open DL (DS CD SV stampE beginE beginS endB openE endS failS overV overS)
abbrev OT : TypeId := 39
attribute [local go_sem] Oper.semAt_some
attribute [local go_sem high] guardNote guardBlk
attribute [local go_sem ↓] eqN_eq neN_eq eqB_eq neB_eq TNot.ld_eq TNot.st_eq TNot.al_eq TNot.bx_eq TBlk.ld_eq TBlk.st_eq TBlk.al_eq TBlk.bx_eq TLin.ld_eq TLin.st_eq TLin.al_eq TLin.bx_eq TCfg.ld_eq TCfg.st_eq TCfg.al_eq TCfg.bx_eq TOpN.ld_eq TOpN.st_eq TOpN.al_eq TOpN.bx_eq bdS_eq
attribute [local go_sem] TNot.al_run TNot.bx_run TBlk.al_run TBlk.bx_run TLin.al_run TLin.bx_run TCfg.al_run TCfg.bx_run TOpN.al_run TOpN.bx_run
set_option maxRecDepth 100000 in
set_option maxHeartbeats 8000000 in
theorem ntells_any (c : Cfg) (core : Int) (a1 : Option Addr) (len1 cap1 : Nat) (O : Nat → OpN) (w : World) (h1 : IsRowS w a1 len1 cap1 29 (fun i => (O i).cells)) (hO : ∀ i, i < len1 → (O i).Ok) :
    Calls Try.prog 3 #[CV c, .int .i64 core, .slice a1 len1 cap1] w fun e w' => e = .returned (.bool true) ∧ Below w.heap.size w w' := by
  have HC1 := Lib.hid (fun i (hi : i < len1) => h1.at (by decide) hi)
  have HO := Lib.hid hO
  obtain ⟨lc1, m1, _⟩ := h1
  unfold maxLen at m1
  obtain ⟨W0, hW0⟩ : ∃ W0, w.alloc (.cells (CC c) CT) = W0 := ⟨_, rfl⟩
  obtain ⟨cb, hcb⟩ : ∃ x, w.heap.size = x := ⟨_, rfl⟩
  have HS0 : Hid (Sep NoF w W0 [cfgO cb c]) := Lib.hid (by rw [← hW0, ← hcb]; exact (Sep.zero NoF w).alloc _ _)
  have HW0 := Lib.hid (And.intro hW0 hcb)
  clear hW0 hcb hO
  by_cases g1 : 300 < len1
  · have hb1 : decide ((300 : Int) < (len1 : Int)) = true := by simp; omega
    go_enter Try.func3, Try.ntmps3
    go_upto_region 1 with fail
    rw [HW0.out.1, HW0.out.2]
    go_wp2_with fail
    refine (works_is HS0.out).mono ?_
    rintro e w9 ⟨rfl, hs⟩
    have HS9 := Lib.hid hs
    clear hs
    go_wp2
    go_ret
    exact ⟨rfl, HS9.out.below⟩
  have hb1 : decide ((300 : Int) < (len1 : Int)) = false := by simp; omega
  by_cases hm : May c ∧ (0 ≤ core ∧ core < c.cores)
  · have HNW := Lib.hid (fun W (h : Sep NoF w W [cfgO cb c]) => near_new h c hm.1 core hm.2.1 hm.2.2)
    have HMY := Lib.hid hm
    clear hm
    go_enter Try.func3, Try.ntmps3
    go_upto_region 1 with fail
    rw [HW0.out.1, HW0.out.2]
    have lc : (TCfg.ld (.pointer (some ⟨cb, 0, none⟩))).run Try.prog W0 = .ok (.agg (CC c)) W0 := TCfg.ld_at (CC_isN c) (HS0.out.box 0 rfl).whole
    go_wp2_with fail
    refine (HNW.out _ HS0.out).mono ?_
    rintro e w2 ⟨a, rfl, hs⟩
    have HS3 : Hid (NIs w w2 a (Ns.new c core) [cfgO cb c]) := Lib.hid hs
    clear hs lc HNW HS0 HW0
    have hmk := @run_makeMap Try.prog
    go_upto_region 7 with fail
    clear hmk
    have hmm := GM.mapNew mapH HS3.out.sep
    obtain ⟨mb, hmb⟩ : ∃ x, w2.heap.size = x := ⟨_, rfl⟩
    obtain ⟨w3, hw3⟩ : ∃ X, w2.alloc (.map #[] 0) = X := ⟨_, rfl⟩
    rw [hmb, hw3] at hmm
    have HW3 := Lib.hid (And.intro hw3 hmb)
    have HS4 : Hid (NIs w w3 a (Ns.new c core) [GM.mapO mapH mb 0 (hV (fun _ => none)), cfgO cb c]) := Lib.hid ⟨hmm.sink 8, HS3.out.ok⟩
    have HFT := Lib.hid HS3.out.ok.fits
    clear hmm hw3 hmb HS3
    rw [HW3.out.1, HW3.out.2]
    go_wp2_with fail
    go_loopw [43] (fun iv wr => ∃ (k : Nat) (S : Ns) (N : Nat) (f : Hs), k ≤ len1 ∧ iv = .int .i64 k ∧ Hid (NV a.p S ∧ S.n ≤ k ∧ S.core = core ∧ S.c = c ∧ Tell a.p f S ∧ N ≤ k ∧ NIs w wr a S [GM.mapO mapH mb N (hV f), cfgO cb c])) (fun i _ => len1 - (Go.RowKit.intOf i).toNat)
    case atStart => exact ⟨0, Ns.new c core, 0, _, Nat.zero_le _, rfl, Lib.hid ⟨NV.new _ _ _, Nat.le_refl 0, rfl, rfl, Tell.new c core HFT.out, Nat.le_refl 0, HS4.out⟩⟩
    case round =>
      obtain ⟨k, S, N, f, hk, rfl, HI⟩ := hrel
      obtain ⟨wo, hwo⟩ : ∃ x, x = wr := ⟨_, rfl⟩
      subst hwo
      have HV := Lib.hid HI.out.1
      have hsn := HI.out.2.1
      have HCO := Lib.hid HI.out.2.2.1
      have HCC := Lib.hid HI.out.2.2.2.1
      have HT := Lib.hid HI.out.2.2.2.2.1
      have hNk := HI.out.2.2.2.2.2.1
      have HC0 : Hid (0 ≤ S.core) := Lib.hid (by rw [HCO.out]; exact HMY.out.2.1)
      have HS5a := Lib.hid HI.out.2.2.2.2.2.2
      clear HI HS4 HW3
      by_cases hlt : k < len1
      · obtain ⟨x, g, q, rfl, hxa, hgl, hrg⟩ := HC1.out k hlt
        have hok := HO.out k hlt
        have hrw : wo.rangeAt g q (O k).cells.toList := fun j v hv => HS5a.out.objs.old (hrg j v hv)
        generalize O k = o at *
        have hoN := OpN.isN hok
        have HOK := Lib.hid hok; have HON := Lib.hid hoN
        have l1 := TOpN.ld_at hoN hrw
        have l2 := TOpN.ld_at hoN (World.rangeAt_alloc hrw (.cells TOpN.Z OT))
        have s1 := TOpN.st_new hoN wo
        have hs5 := HS5a.out.alloc o.cells OT
        obtain ⟨V5, hV5⟩ : ∃ X, wo.alloc (.cells o.cells OT) = X := ⟨_, rfl⟩
        obtain ⟨ob, hob⟩ : ∃ x, wo.heap.size = x := ⟨_, rfl⟩
        rw [hV5, hob] at hs5
        have HV5 := Lib.hid (And.intro hV5 hob)
        have HS6 : Hid (NIs w V5 a S [boxO ob o.cells OT, GM.mapO mapH mb N (hV f), cfgO cb c]) := Lib.hid hs5
        clear hok hoN hrw hrg hs5 hV5 hob HS5a
        go_upto_region 10 with fail
        rw [HV5.out.1, HV5.out.2]
        clear l1 l2 s1 HV5
        have p0 : V5.cell? ⟨ob, 0, none⟩ = some (.int .i64 o.kind) := ((HS6.out.sep.box 8 rfl).cell 0).trans o.get0
        go_upto_region 11 with fail
        obtain ⟨kk, hkk⟩ : ∃ x, o.kind = x := ⟨_, rfl⟩
        rw [hkk] at p0
        clear hkk
        go_upto_block 2 with fail
        go_cut [12, 13, 14, 15, 16, 17, 18] from 49 to 138 (fun s12 s13 s14 s15 s16 s17 s18 wx => ∃ (S2 : Ns) (out : List Nt) (N2 : Nat) (f2 : Hs), Hid (NV a.p S2 ∧ S2.n ≤ k + 1 ∧ S2.core = core ∧ S2.c = c ∧ Tell a.p f2 S2 ∧ N2 ≤ k + 1 ∧ Tells f2 core out ∧ NIs w wx a S2 [outO s12 out, boxO ob o.cells OT, GM.mapO mapH mb N2 (hV f2), cfgO cb c]))
        case first =>
          by_cases k0 : kk = 0
          · subst k0
            as_aux_lemma =>
              have p1 : V5.cell? ⟨ob, 1, none⟩ = some (.int .i64 o.b) := ((HS6.out.sep.box 8 rfl).cell 1).trans o.get1
              have p3 : V5.cell? ⟨ob, 3, none⟩ = some (.bool o.yes) := ((HS6.out.sep.box 8 rfl).cell 3).trans o.get3
              have HAK := Lib.hid (ask_is HS6.out o.b o.yes (fun hs => gone_fit HV.out HS6.out.ok hs))
              have HV2 := Lib.hid (HV.out.ask HS6.out.ok o.b o.yes)
              have HN2 := Lib.hid (Nat.le_trans (Nat.le_of_eq (askR_n a.p S o.b o.yes)) (Nat.le_succ_of_le hsn))
              have HT2 := Lib.hid (HT.out.ask HV.out HS6.out.ok o.b o.yes)
              have HC2 := Lib.hid ((askR_core a.p S o.b o.yes).trans HCO.out)
              have HC3 := Lib.hid ((askR_c a.p S o.b o.yes).trans HCC.out)
              obtain ⟨t, ht⟩ : ∃ t, askR a.p S o.b o.yes = t := ⟨_, rfl⟩
              rw [ht] at HAK HV2 HN2 HT2 HC2 HC3
              rw [HCO.out] at HT2
              clear ht
              go_wp2_with fail
              refine HAK.out.mono ?_
              rintro e X1 ⟨v, he, hs⟩
              have he : e = .returned (.tuple #[.bool t.ready, v, .int .i64 t.e]) := he
              subst he
              have HX1 := Lib.hid hs
              clear hs HAK p1 p3
              go_wp2_with fail
              go_meet
              exact ⟨t.S, t.out, N, f, Lib.hid ⟨HV2.out, HN2.out, HC2.out, HC3.out, HT2.out.1, Nat.le_succ_of_le hNk, HT2.out.2, HX1.out⟩⟩
          · have e0 : (kk == 0) = false := by simpa using k0
            by_cases k2 : kk = 2
            · subst k2
              as_aux_lemma =>
                have p1 : V5.cell? ⟨ob, 1, none⟩ = some (.int .i64 o.b) := ((HS6.out.sep.box 8 rfl).cell 1).trans o.get1
                have p2 : V5.cell? ⟨ob, 2, none⟩ = some (.int .i64 o.wd) := ((HS6.out.sep.box 8 rfl).cell 2).trans o.get2
                have p4 : V5.cell? ⟨ob, 4, none⟩ = some (.int .u32 o.x) := ((HS6.out.sep.box 8 rfl).cell 4).trans o.get4
                have HLD := Lib.hid (store_is HS6.out (by omega) o.b o.wd o.x HOK.out.b)
                have HV2 := Lib.hid (HV.out.store HS6.out.ok o.b o.wd o.x)
                have HN2 := Lib.hid (Nat.le_trans (storeS_n a.p S o.b o.wd o.x) (Nat.succ_le_succ hsn))
                have HC2 := Lib.hid ((storeS_core a.p S o.b o.wd o.x).trans HCO.out)
                have HC3 := Lib.hid ((storeS_c a.p S o.b o.wd o.x).trans HCC.out)
                have HT0 := Lib.hid (fun he => HT.out.store0 (b := o.b) (w := o.wd) (z := o.x) he)
                have HT1 := Lib.hid (fun he => HT.out.store1 HV.out HS6.out.ok (b := o.b) (w := o.wd) o.x he)
                have HWW := Lib.hid (fun h => wrE_word (p := a.p) (A := S.A) (b := o.b) (w := o.wd) h)
                obtain ⟨we, hwe⟩ : ∃ x, a.p.wrE S.A o.b o.wd = x := ⟨_, rfl⟩
                obtain ⟨S2, hS2⟩ : ∃ x, storeS a.p S o.b o.wd o.x = x := ⟨_, rfl⟩
                rw [hwe, hS2] at HLD HT0 HT1
                rw [hwe] at HWW
                rw [hS2] at HV2 HN2 HC2 HC3
                clear hwe hS2
                go_wp2_with fail
                refine HLD.out.mono ?_
                rintro e X1 ⟨rfl, hs⟩
                have HX1 : Hid (NIs w X1 a S2 [boxO ob o.cells OT, GM.mapO mapH mb N (hV f), cfgO cb c]) := Lib.hid hs
                clear hs HLD p1 p2 p4 HS6
                by_cases hz : we = 0
                · have ht1 := HT1.out hz
                  obtain ⟨hw0, hw1⟩ := HWW.out hz
                  subst hz
                  have hlk := (GM.mapIs HX1.out.sep 9 rfl).look (a := o.b) HOK.out.b
                  rw [hV_at] at hlk
                  have l1 : (Instr.lookup 30 (.map (some mb)) (.int .i64 o.b) false).run Try.prog X1 = .ok (.agg (hD f o.b)) X1 := hlk
                  have p1 : X1.cell? ⟨ob, 1, none⟩ = some (.int .i64 o.b) := ((HX1.out.sep.box 8 rfl).cell 1).trans o.get1
                  obtain ⟨n, hn⟩ : ∃ n : Nat, o.wd = n := ⟨o.wd.toNat, by omega⟩
                  have hu := HT.out.u o.b
                  have HU := Lib.hid hu
                  have s1 := TBlk.st_new (isU_N hu) X1
                  have hs2 := HX1.out.alloc (hD f o.b) BT
                  rw [hn, Int.toNat_natCast] at ht1
                  have HTT := Lib.hid ht1
                  have HN := Lib.hid hn
                  have hn16 : ((n : Nat) : Int) < 16 := by omega
                  have g1 : decide (((n : Nat) : Int) < 0) = false := by simp
                  have g2 : decide ((16 : Int) ≤ ((n : Nat) : Int)) = false := by simp; omega
                  have g3 : n < 16 := by omega
                  clear hlk ht1 hw0 hw1 hn hu HT0 HT1 HWW
                  go_upto_region 18 with fail
                  obtain ⟨X2, hX2⟩ : ∃ X, X1.alloc (.cells (hD f o.b) BT) = X := ⟨_, rfl⟩
                  obtain ⟨bb, hbb⟩ : ∃ x, X1.heap.size = x := ⟨_, rfl⟩
                  rw [hX2, hbb] at hs2 ⊢
                  have HX2 : Hid (NIs w X2 a S2 [boxO bb (hD f o.b) BT, boxO ob o.cells OT, GM.mapO mapH mb N (hV f), cfgO cb c]) := Lib.hid hs2
                  clear hs2 hX2 hbb l1 s1 p1 HX1
                  have p2 : X2.cell? ⟨ob, 2, none⟩ = some (.int .i64 (n : Int)) := by rw [← HN.out]; exact ((HX2.out.sep.box 9 rfl).cell 2).trans o.get2
                  have p4 : X2.cell? ⟨ob, 4, none⟩ = some (.int .u32 o.x) := ((HX2.out.sep.box 9 rfl).cell 4).trans o.get4
                  obtain ⟨y, hy⟩ := HU.out.2 ((hD f o.b)[n]'(by rw [HU.out.1]; exact g3)) (Array.getElem_mem _)
                  have v1 : X2.cell? ⟨bb, n, none⟩ = some (.int .u32 y) := ((HX2.out.sep.box 8 rfl).cell n).trans (by rw [Array.getElem?_eq_getElem (by rw [HU.out.1]; exact g3), hy])
                  have v2 : X2.frozen? ⟨bb, n, none⟩ = false := (HX2.out.sep.box 8 rfl).frozen n
                  have hs3 := HX2.out.setL n (.int .u32 o.x)
                  have hdu : IsU ((hD f o.b).setIfInBounds n (.int .u32 o.x)) := isU_set HU.out _ _
                  clear hy
                  go_upto_region 19 with fail
                  obtain ⟨X3, hX3⟩ : ∃ X, X2.setCell ⟨bb, n, none⟩ (.int .u32 o.x) = X := ⟨_, rfl⟩
                  rw [hX3] at hs3 ⊢
                  obtain ⟨D2, hD2⟩ : ∃ x, (hD f o.b).setIfInBounds n (.int .u32 o.x) = x := ⟨_, rfl⟩
                  rw [hD2] at hs3 hdu HTT
                  have HX3 : Hid (NIs w X3 a S2 [boxO bb D2 BT, boxO ob o.cells OT, GM.mapO mapH mb N (hV f), cfgO cb c]) := Lib.hid hs3
                  clear hs3 hX3 hD2 v1 v2 p2 p4 HX2 g1 g2 HU
                  have p1 : X3.cell? ⟨ob, 1, none⟩ = some (.int .i64 o.b) := ((HX3.out.sep.box 9 rfl).cell 1).trans o.get1
                  have l1 : (TBlk.ld (.pointer (some ⟨bb, 0, none⟩))).run Try.prog X3 = .ok (.agg D2) X3 := TBlk.ld_at (isU_N hdu) (HX3.out.sep.box 8 rfl).whole
                  obtain ⟨X4, hrun, hs, -⟩ := GM.mapPut HX3.out.sep 10 rfl (a := o.b) (by unfold maxLen; omega) HOK.out.b (.agg D2)
                  have l3 : (Instr.mapUpdate 30 (.map (some mb)) (.int .i64 o.b) (.agg D2)).run Try.prog X3 = .ok () X4 := hrun
                  rw [hV_put] at hs
                  have HX4 : Hid (NIs w X4 a S2 [boxO bb D2 BT, boxO ob o.cells OT, GM.mapO mapH mb (GM.putN (hV f) N o.b) (hV (hU f o.b D2)), cfgO cb c]) := Lib.hid ⟨hs, HX3.out.ok⟩
                  have HNN : Hid (GM.putN (hV f) N o.b ≤ k + 1) := Lib.hid (by unfold GM.putN; split <;> omega)
                  clear hrun hs HX3
                  go_wp2_with fail
                  go_meet
                  exact ⟨S2, [], GM.putN (hV f) N o.b, hU f o.b D2, Lib.hid ⟨HV2.out, HN2.out, HC2.out, HC3.out, HTT.out, HNN.out, Tells.nil _ _, HX4.out.pop.outNil⟩⟩
                · have hz0 : (we == 0) = false := by simpa using hz
                  have ht0 := Lib.hid (HT0.out hz)
                  clear hz HT0 HT1 HWW
                  go_wp2_with fail
                  go_meet
                  exact ⟨S2, [], N, f, Lib.hid ⟨HV2.out, HN2.out, HC2.out, HC3.out, ht0.out, Nat.le_succ_of_le hNk, Tells.nil _ _, HX1.out.outNil⟩⟩
            · have e2 : (kk == 2) = false := by simpa using k2
              by_cases k3 : kk = 3
              · subst k3
                as_aux_lemma =>
                  have l5 : (TNot.ld (.pointer (some ⟨ob, 5, none⟩))).run Try.prog V5 = .ok (.agg o.n.cells) V5 := TNot.ld_at (Nt.Ok.isN HOK.out.n.isU) ((HS6.out.sep.box 8 rfl).range 5 _ (fun j v hv => by rw [OpN.getN]; simpa using hv))
                  have HTK := Lib.hid (take_is HS6.out o.n HOK.out.n HOK.out.nb)
                  have HV2 := Lib.hid (HV.out.take HS6.out.ok o.n)
                  have HN2 := Lib.hid (Nat.le_trans (Nat.le_of_eq (takeR_n a.p S o.n)) (Nat.le_succ_of_le hsn))
                  have HC2 := Lib.hid ((takeR_core a.p S o.n).trans HCO.out)
                  have HC3 := Lib.hid ((takeR_c a.p S o.n).trans HCC.out)
                  have HT2 := Lib.hid (HT.out.take HV.out HS6.out.ok HC0.out HOK.out.n rfl)
                  obtain ⟨t, ht⟩ : ∃ t, takeR a.p S o.n = t := ⟨_, rfl⟩
                  rw [ht] at HTK HV2 HN2 HT2 HC2 HC3
                  rw [HCO.out] at HT2
                  clear ht
                  go_wp2_with fail
                  refine HTK.out.mono ?_
                  rintro e X3 ⟨v, he, hs⟩
                  have he : e = .returned (.tuple #[v, .bool t.g, .int .i64 t.e]) := he
                  subst he
                  have HX3 : Hid (NIs w X3 a t.S [outO v t.out, boxO ob o.cells OT, GM.mapO mapH mb N (hV f), cfgO cb c]) := Lib.hid hs
                  clear hs l5 HTK HS6 p0
                  have p5 : X3.cell? ⟨ob, 5, none⟩ = some (.int .u8 o.n.kind) := ((HX3.out.sep.box 9 rfl).cell 5).trans ((o.getN 0).trans o.n.get0)
                  go_upto_region 23 with fail
                  by_cases hz : t.e = 0
                  · have hz1 : (t.e == 0) = true := by simpa using hz
                    by_cases h6 : o.n.kind = 6
                    · have h61 : (o.n.kind == 6) = true := by simpa using h6
                      rw [if_pos ⟨hz, h6⟩] at HT2
                      clear hz h6
                      have p8 : X3.cell? ⟨ob, 8, none⟩ = some (.int .i64 o.n.blk) := ((HX3.out.sep.box 9 rfl).cell 8).trans ((o.getN 3).trans o.n.get3)
                      have l9 : (TBlk.ld (.pointer (some ⟨ob, 13, none⟩))).run Try.prog X3 = .ok (.agg o.n.D) X3 := TBlk.ld_at (isU_N HOK.out.n.isU) ((HX3.out.sep.box 9 rfl).range 13 _ (fun j v hv => by rw [show 13 + j = 5 + (8 + j) by omega, OpN.getN, Nt.getD]; simpa using hv))
                      obtain ⟨X4, hrun, hs, -⟩ := GM.mapPut HX3.out.sep 10 rfl (a := o.n.blk) (by unfold maxLen; omega) HOK.out.nb (.agg o.n.D)
                      have l3 : (Instr.mapUpdate 30 (.map (some mb)) (.int .i64 o.n.blk) (.agg o.n.D)).run Try.prog X3 = .ok () X4 := hrun
                      rw [hV_put] at hs
                      have HX4 : Hid (NIs w X4 a t.S [outO v t.out, boxO ob o.cells OT, GM.mapO mapH mb (GM.putN (hV f) N o.n.blk) (hV (hU f o.n.blk o.n.D)), cfgO cb c]) := Lib.hid ⟨hs, HX3.out.ok⟩
                      have HNN : Hid (GM.putN (hV f) N o.n.blk ≤ k + 1) := Lib.hid (by unfold GM.putN; split <;> omega)
                      clear hrun hs HX3
                      go_wp2_with fail
                      go_meet
                      exact ⟨t.S, t.out, GM.putN (hV f) N o.n.blk, hU f o.n.blk o.n.D, Lib.hid ⟨HV2.out, HN2.out, HC2.out, HC3.out, HT2.out.1, HNN.out, HT2.out.2, HX4.out⟩⟩
                    · have h61 : (o.n.kind == 6) = false := by simpa using h6
                      rw [if_neg (fun h => h6 h.2)] at HT2
                      clear hz h6
                      go_wp2_with fail
                      go_meet
                      exact ⟨t.S, t.out, N, f, Lib.hid ⟨HV2.out, HN2.out, HC2.out, HC3.out, HT2.out.1, Nat.le_succ_of_le hNk, HT2.out.2, HX3.out⟩⟩
                  · have hz1 : (t.e == 0) = false := by simpa using hz
                    rw [if_neg (fun h => hz h.1)] at HT2
                    clear hz
                    go_wp2_with fail
                    go_meet
                    exact ⟨t.S, t.out, N, f, Lib.hid ⟨HV2.out, HN2.out, HC2.out, HC3.out, HT2.out.1, Nat.le_succ_of_le hNk, HT2.out.2, HX3.out⟩⟩
              · have e3 : (kk == 3) = false := by simpa using k3
                by_cases k1 : kk = 1
                · subst k1
                  as_aux_lemma =>
                    have p1 : V5.cell? ⟨ob, 1, none⟩ = some (.int .i64 o.b) := ((HS6.out.sep.box 8 rfl).cell 1).trans o.get1
                    have p2 : V5.cell? ⟨ob, 2, none⟩ = some (.int .i64 o.wd) := ((HS6.out.sep.box 8 rfl).cell 2).trans o.get2
                    have HLD := Lib.hid (load_is HS6.out (by omega) o.b o.wd HOK.out.b)
                    have HLT := Lib.hid (fun he => load_tells (b := o.b) (w := o.wd) HT.out he)
                    obtain ⟨le, hle⟩ : ∃ x, loadE a.p S o.b o.wd = x := ⟨_, rfl⟩
                    obtain ⟨lx, hlx⟩ : ∃ x, loadX a.p S o.b o.wd = x := ⟨_, rfl⟩
                    rw [hle, hlx] at HLD HLT
                    clear hle hlx
                    go_wp2_with fail
                    refine HLD.out.mono ?_
                    rintro e X1 ⟨rfl, hs⟩
                    have HX1 : Hid (NIs w X1 a (loadS a.p S o.b o.wd) [boxO ob o.cells OT, GM.mapO mapH mb N (hV f), cfgO cb c]) := Lib.hid hs
                    clear hs HLD p1 p2
                    by_cases hz : le = 0
                    · subst hz
                      obtain ⟨⟨hw0, hw1⟩, hxx⟩ := HLT.out rfl
                      have hlk := (GM.mapIs HX1.out.sep 9 rfl).look (a := o.b) HOK.out.b
                      rw [hV_at] at hlk
                      have l1 : (Instr.lookup 30 (.map (some mb)) (.int .i64 o.b) false).run Try.prog X1 = .ok (.agg (hD f o.b)) X1 := hlk
                      have p1 : X1.cell? ⟨ob, 1, none⟩ = some (.int .i64 o.b) := ((HX1.out.sep.box 8 rfl).cell 1).trans o.get1
                      obtain ⟨n, hn⟩ : ∃ n : Nat, o.wd = n := ⟨o.wd.toNat, by omega⟩
                      have p2 : X1.cell? ⟨ob, 2, none⟩ = some (.int .i64 (n : Int)) := by rw [← hn]; exact ((HX1.out.sep.box 8 rfl).cell 2).trans o.get2
                      have hu := HT.out.u o.b
                      have hg := wordZ_get hu hw0 hw1
                      rw [hn] at hg hxx
                      rw [Int.toNat_natCast] at hg
                      have hDs := hu.1
                      have hn16 : ((n : Nat) : Int) < 16 := by omega
                      have g1 : decide (((n : Nat) : Int) < 0) = false := by simp
                      have g2 : decide ((16 : Int) ≤ ((n : Nat) : Int)) = false := by simp; omega
                      have g3 : n < 16 := by omega
                      subst hxx
                      have HN := Lib.hid hn
                      have ix := idx_run g3 hg X1
                      clear hlk hw0 hw1 hn hu HLT
                      generalize wordZ (hD f o.b) (n : Int) = wz at *
                      generalize hD f o.b = D at *
                      go_wp2_with fail
                      go_meet
                      exact ⟨loadS a.p S o.b o.wd, [], N, f, Lib.hid ⟨HV.out.load _ _, Nat.le_trans (loadS_n a.p S _ _) (by omega), (loadS_core a.p S _ _).trans HCO.out, (loadS_c a.p S _ _).trans HCC.out, HT.out.load _ _, Nat.le_succ_of_le hNk, Tells.nil _ _, HX1.out.outNil⟩⟩
                    · have hz0 : (le == 0) = false := by simpa using hz
                      clear hz HLT
                      go_wp2_with fail
                      go_meet
                      exact ⟨loadS a.p S o.b o.wd, [], N, f, Lib.hid ⟨HV.out.load _ _, Nat.le_trans (loadS_n a.p S _ _) (by omega), (loadS_core a.p S _ _).trans HCO.out, (loadS_c a.p S _ _).trans HCC.out, HT.out.load _ _, Nat.le_succ_of_le hNk, Tells.nil _ _, HX1.out.outNil⟩⟩
                · have e1 : (kk == 1) = false := by simpa using k1
                  go_wp2_with fail
                  go_meet
                  exact ⟨S, [], N, f, Lib.hid ⟨HV.out, Nat.le_succ_of_le hsn, HCO.out, HCC.out, HT.out, Nat.le_succ_of_le hNk, Tells.nil _ _, HS6.out.outNil⟩⟩
        case rest =>
          as_aux_lemma =>
            obtain ⟨S2, out, N2, f2, HC⟩ := hcut
            have HV2 := Lib.hid HC.out.1
            have hn2 := HC.out.2.1
            have HC2 := Lib.hid HC.out.2.2.1
            have HC3 := Lib.hid HC.out.2.2.2.1
            have HT2 := Lib.hid HC.out.2.2.2.2.1
            have hN2 := HC.out.2.2.2.2.2.1
            have HK := Lib.hid HC.out.2.2.2.2.2.2.1
            have HX := Lib.hid HC.out.2.2.2.2.2.2.2
            clear HC HS6 p0
            obtain ⟨sa, cap, hv, hcap, hcm, -⟩ := NQ.s_row (HX.out.row (i := 0) rfl) (fun x hx => (HK.out.all x hx).isU)
            subst hv
            unfold maxLen at hcm
            have hln := HK.out.len
            go_wp2_with fail
            go_loopw [140] (fun iv wr => ∃ (j : Nat), j ≤ out.length ∧ iv = .int .i64 j ∧ Hid (NIs w wr a S2 [outO (.slice sa out.length cap) out, boxO ob o.cells OT, GM.mapO mapH mb N2 (hV f2), cfgO cb c])) (fun i _ => out.length - (Go.RowKit.intOf i).toNat)
            case atStart => exact ⟨0, Nat.zero_le _, rfl, HX⟩
            case round =>
              obtain ⟨j, hj, rfl, HJ⟩ := hrel
              obtain ⟨wj, hwj⟩ : ∃ x, x = wr := ⟨_, rfl⟩
              subst hwj
              clear HX
              by_cases hjl : j < out.length
              · obtain ⟨n, hn⟩ : ∃ n, out[j]? = some n := ⟨_, List.getElem?_eq_getElem hjl⟩
                have hk := HK.out.all n (List.mem_of_getElem? hn)
                obtain ⟨sa2, cap2, hv2, _, _, hat2⟩ := NQ.s_row (HJ.out.row (i := 0) rfl) (fun x hx => (HK.out.all x hx).isU)
                cases hv2
                obtain ⟨g2, hg2, hr2⟩ := hat2 j n hn
                subst hg2
                have l1 := TNot.ld_at (Nt.Ok.isN hk.isU) hr2
                have l2 := TNot.ld_at (Nt.Ok.isN hk.isU) (World.rangeAt_alloc hr2 (.cells TNot.Z NT))
                have s1 := TNot.st_new (Nt.Ok.isN hk.isU) wj
                have hs5 := HJ.out.alloc n.cells NT
                have HKN := Lib.hid hk
                clear hat2 hn hk hr2
                go_upto_region 32 with fail
                obtain ⟨X6, hX6⟩ : ∃ X, wj.alloc (.cells n.cells NT) = X := ⟨_, rfl⟩
                obtain ⟨nb, hnb⟩ : ∃ x, wj.heap.size = x := ⟨_, rfl⟩
                rw [hX6, hnb] at hs5 ⊢
                have HX6 : Hid (NIs w X6 a S2 [boxO nb n.cells NT, outO (.slice (some ⟨g2, 0, none⟩) out.length cap) out, boxO ob o.cells OT, GM.mapO mapH mb N2 (hV f2), cfgO cb c]) := Lib.hid hs5
                clear hs5 hX6 hnb l1 l2 s1 HJ
                have q1 : X6.cell? ⟨nb, 1, none⟩ = some (.int .i64 core) := ((HX6.out.sep.box 8 rfl).cell 1).trans (by rw [← HKN.out.frm]; exact n.get1)
                have q2 : X6.cell? ⟨nb, 2, none⟩ = some (.int .i64 (-1)) := ((HX6.out.sep.box 8 rfl).cell 2).trans (by rw [← HKN.out.too]; exact n.get2)
                cases hh : n.has
                · have q6 : X6.cell? ⟨nb, 6, none⟩ = some (.bool false) := ((HX6.out.sep.box 8 rfl).cell 6).trans (by rw [← hh]; exact n.get6)
                  clear hh
                  as_aux_lemma =>
                    go_wp2_with fail
                    go_roundw
                    case rel => exact ⟨j + 1, by omega, by go_num, Lib.hid HX6.out.pop⟩
                    case measure => simp [Go.RowKit.intOf]; omega
                · have q6 : X6.cell? ⟨nb, 6, none⟩ = some (.bool true) := ((HX6.out.sep.box 8 rfl).cell 6).trans (by rw [← hh]; exact n.get6)
                  have q3 : X6.cell? ⟨nb, 3, none⟩ = some (.int .i64 n.blk) := ((HX6.out.sep.box 8 rfl).cell 3).trans n.get3
                  have hlk := (GM.mapIs HX6.out.sep 11 rfl).look (a := n.blk) HKN.out.fit
                  rw [hV_at, ← HKN.out.has hh] at hlk
                  have l1 : (Instr.lookup 30 (.map (some mb)) (.int .i64 n.blk) false).run Try.prog X6 = .ok (.agg n.D) X6 := hlk
                  have l2 : (TBlk.ld (.pointer (some ⟨nb, 8, none⟩))).run Try.prog X6 = .ok (.agg n.D) X6 := TBlk.ld_at (isU_N HKN.out.isU) ((HX6.out.sep.box 8 rfl).range 8 _ (fun j v hv => (n.getD j).trans (by simpa using hv)))
                  have hne : (neB (.agg n.D) (.agg n.D)).run Try.prog X6 = .ok (.bool false) X6 := by
                    have := neB_run HKN.out.isU HKN.out.isU X6
                    simpa using this
                  clear hh hlk
                  generalize n.D = D at *
                  as_aux_lemma =>
                    go_wp2_with fail
                    go_roundw
                    case rel => exact ⟨j + 1, by omega, by go_num, Lib.hid HX6.out.pop⟩
                    case measure => simp [Go.RowKit.intOf]; omega
              · obtain rfl : j = out.length := by omega
                have HX7 := Lib.hid HJ.out.pop
                clear HJ HK
                have HDA := Lib.hid (fun W => PL.pData_yes c HMY.out.1 W)
                have lc : (TCfg.ld (.pointer (some ⟨cb, 0, none⟩))).run Try.prog wj = .ok (.agg (CC c)) wj := TCfg.ld_at (CC_isN c) (HX7.out.sep.box 10 rfl).whole
                obtain ⟨dt, hdt⟩ : ∃ x : Nat, c.blocks - c.cores * c.logs = x := ⟨(c.blocks - c.cores * c.logs).toNat, by
                  have := HX7.out.ok.dataR
                  unfold Ns.data at this
                  rw [HC3.out] at this
                  omega⟩
                rw [hdt] at HDA
                have hdl : dt ≤ 256 := by
                  have := HX7.out.ok.dataR
                  unfold Ns.data at this
                  rw [HC3.out, hdt] at this
                  omega
                clear hdt
                go_wp2_with fail
                refine (HDA.out _).mono ?_
                rintro e X8 ⟨rfl, hu⟩
                have HX8 := Lib.hid (HX7.out.upd0 hu)
                clear hu lc HX7
                go_wp2_with fail
                go_loopw [169] (fun iv wr => ∃ (b : Nat), b ≤ dt ∧ iv = .int .i64 b ∧ Hid (NIs w wr a S2 [boxO ob o.cells OT, GM.mapO mapH mb N2 (hV f2), cfgO cb c])) (fun i _ => dt - (Go.RowKit.intOf i).toNat)
                case atStart => exact ⟨0, Nat.zero_le _, rfl, HX8⟩
                case round =>
                  obtain ⟨b, hb, rfl, HB⟩ := hrel
                  obtain ⟨wb, hwb⟩ : ∃ x, x = wr := ⟨_, rfl⟩
                  subst hwb
                  clear HX8
                  by_cases hbl : b < dt
                  · have HLI := Lib.hid (line_is HB.out b)
                    have hlO := KA.fnd_ok (p := a.p) HB.out.ok.okA b
                    have HLN := Lib.hid (Ln.Ok.isN hlO.isU)
                    have HNV := Lib.hid (HV2.out.never b)
                    generalize (a.p.place S2.A b).isSome = is at *
                    generalize a.p.fnd S2.A b = l at *
                    clear hlO
                    go_wp2_with fail
                    refine HLI.out.mono ?_
                    rintro e Y1 ⟨rfl, hu⟩
                    have s1 := TLin.st_new HLN.out Y1
                    have hs2 := (HB.out.upd0 hu).alloc l.cells LT
                    go_upto_region 39 with fail
                    obtain ⟨Y2, hY2⟩ : ∃ X, Y1.alloc (.cells l.cells LT) = X := ⟨_, rfl⟩
                    rw [hY2] at hs2 ⊢
                    have HY2 := Lib.hid hs2
                    clear hs2 hY2 s1 hu HLI HB
                    have HBI := Lib.hid (back_is HY2.out b)
                    have HBN := Lib.hid (isU_N (bkD_isU HY2.out.ok.allU b))
                    generalize bkI S2.zs b = bi at *
                    generalize bkD S2.zs b = bd at *
                    generalize bkL S2.zs b = bl at *
                    go_wp2_with fail
                    refine HBI.out.mono ?_
                    rintro e Y3 ⟨rfl, hu⟩
                    have s1 := TBlk.st_new HBN.out Y3
                    have hs2 := (HY2.out.upd0 hu).alloc bd BT
                    go_upto_region 40 with fail
                    obtain ⟨Y4, hY4⟩ : ∃ X, Y3.alloc (.cells bd BT) = X := ⟨_, rfl⟩
                    rw [hY4] at hs2 ⊢
                    have HY4 := Lib.hid hs2
                    have hnv := HNV.out
                    clear hs2 hY4 s1 hu HBI HY2 HNV
                    cases is
                    · as_aux_lemma =>
                        go_wp2_with fail
                        go_roundw
                        case rel => exact ⟨b + 1, by omega, by go_num, Lib.hid HY4.out.pop.pop⟩
                        case measure => simp [Go.RowKit.intOf]; omega
                    · have hbi : bi = false := by simpa using hnv
                      subst hbi
                      as_aux_lemma =>
                        go_wp2_with fail
                        go_roundw
                        case rel => exact ⟨b + 1, by omega, by go_num, Lib.hid HY4.out.pop.pop⟩
                        case measure => simp [Go.RowKit.intOf]; omega
                  · obtain rfl : b = dt := by omega
                    as_aux_lemma =>
                      go_wp2_with fail
                      go_roundw
                      case rel => exact ⟨k + 1, S2, N2, f2, by omega, by go_num, Lib.hid ⟨HV2.out, hn2, HC2.out, HC3.out, HT2.out, hN2, HB.out.pop⟩⟩
                      case measure => simp [Go.RowKit.intOf]; omega
      · obtain rfl : k = len1 := by omega
        go_wp2_with fail
        refine (works_is HS5a.out.objs).mono ?_
        rintro e w9 ⟨rfl, hs⟩
        have HS9 := Lib.hid hs
        clear hs
        go_wp2
        go_ret
        exact ⟨rfl, HS9.out.below⟩
  · have HNB := Lib.hid (fun W => new_bad c core hm W)
    clear hm
    go_enter Try.func3, Try.ntmps3
    go_upto_region 1 with fail
    rw [HW0.out.1, HW0.out.2]
    have lc : (TCfg.ld (.pointer (some ⟨cb, 0, none⟩))).run Try.prog W0 = .ok (.agg (CC c)) W0 := TCfg.ld_at (CC_isN c) (HS0.out.box 0 rfl).whole
    go_wp2_with fail
    refine (HNB.out _).mono ?_
    rintro e w2 ⟨er, rfl, her, hu⟩
    have HS3 := Lib.hid (HS0.out.upd0 hu)
    clear hu lc HNB HS0 HW0
    go_wp2_with fail
    refine (works_is HS3.out).mono ?_
    rintro e w9 ⟨rfl, hs⟩
    have HS9 := Lib.hid hs
    clear hs
    go_wp2
    go_ret
    exact ⟨rfl, HS9.out.below⟩
end Go.Proofs.Ytjgeflbhmhmjdaa.NR
