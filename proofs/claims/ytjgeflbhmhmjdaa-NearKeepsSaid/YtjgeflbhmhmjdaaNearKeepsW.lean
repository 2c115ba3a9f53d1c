/- NearKeeps: what the Go function does. -/
import Derived.Test.YtjgeflbhmhmjdaaCacheGd
import Derived.Test.YtjgeflbhmhmjdaaNearL
import Derived.Test.YtjgeflbhmhmjdaaRowOp17
import Derived.Test.YtjgeflbhmhmjdaaCacheEq
set_option linter.unusedSimpArgs false
set_option linter.unusedVariables false
namespace Go.Proofs.Ytjgeflbhmhmjdaa.NR
open Go.RowKit
open BU (IsU words)
open PL (Cfg CC CV May)
open KA (Kp CIs OkA LT UT KT)
open DL (DS CD SV stampE beginE beginS endB openE endS failS overV overS)
abbrev OT : TypeId := 39
attribute [local go_sem] Oper.semAt_some
attribute [local go_sem high] guardNote guardBlk guardLine
attribute [local go_sem ↓] eqN_eq neN_eq eqB_eq neB_eq TNot.ld_eq TNot.st_eq TNot.al_eq TNot.bx_eq TBlk.ld_eq TBlk.st_eq TBlk.al_eq TBlk.bx_eq TLin.ld_eq TLin.st_eq TLin.al_eq TLin.bx_eq TCfg.ld_eq TCfg.st_eq TCfg.al_eq TCfg.bx_eq TOpN.ld_eq TOpN.st_eq TOpN.al_eq TOpN.bx_eq bdS_eq eqL_eq neL_eq TSav.ld_eq TSav.st_eq TSav.al_eq TSav.bx_eq
attribute [local go_sem] TNot.al_run TNot.bx_run TBlk.al_run TBlk.bx_run TLin.al_run TLin.bx_run TCfg.al_run TCfg.bx_run TOpN.al_run TOpN.bx_run TSav.al_run TSav.bx_run
set_option maxRecDepth 100000 in
set_option maxHeartbeats 8000000 in
theorem nkeeps_any (c : Cfg) (core : Int) (a1 : Option Addr) (len1 cap1 : Nat) (O : Nat → OpN) (w : World) (h1 : IsRowS w a1 len1 cap1 29 (fun i => (O i).cells)) (hO : ∀ i, i < len1 → (O i).Ok) :
    Calls Try.prog 5 #[CV c, .int .i64 core, .slice a1 len1 cap1] w fun e w' => e = .returned (.bool true) ∧ Below w.heap.size w w' := by
  have HC1 := Lib.hid (fun i (hi : i < len1) => h1.at (by decide) hi)
  have HO := Lib.hid hO
  obtain ⟨lc1, m1, _⟩ := h1
  unfold maxLen at m1
  obtain ⟨W0, hW0⟩ : ∃ W0, w.alloc (.cells (CC c) CT) = W0 := ⟨_, rfl⟩
  obtain ⟨cb, hcb⟩ : ∃ x, w.heap.size = x := ⟨_, rfl⟩
  have HS0 : Hid (Sep NoF w W0 [cfgO cb c]) := Lib.hid (by rw [← hW0, ← hcb]; exact (Sep.zero NoF w).alloc _ _)
  have HW0 := Lib.hid (And.intro hW0 hcb)
  clear hW0 hcb hO
  by_cases g1 : 300 < len1
  · have hb1 : decide ((300 : Int) < (len1 : Int)) = true := by simp; omega
    go_enter Try.func5, Try.ntmps5
    go_upto_region 1 with fail
    rw [HW0.out.1, HW0.out.2]
    go_wp2_with fail
    refine (works_is HS0.out).mono ?_
    rintro e w9 ⟨rfl, hs⟩
    have HS9 := Lib.hid hs
    clear hs
    go_wp2
    go_ret
    exact ⟨rfl, HS9.out.below⟩
  have hb1 : decide ((300 : Int) < (len1 : Int)) = false := by simp; omega
  by_cases hm : May c ∧ (0 ≤ core ∧ core < c.cores)
  · have HNW := Lib.hid (fun W (h : Sep NoF w W [cfgO cb c]) => near_new h c hm.1 core hm.2.1 hm.2.2)
    have HMY := Lib.hid hm
    clear hm
    go_enter Try.func5, Try.ntmps5
    go_upto_region 1 with fail
    rw [HW0.out.1, HW0.out.2]
    have lc : (TCfg.ld (.pointer (some ⟨cb, 0, none⟩))).run Try.prog W0 = .ok (.agg (CC c)) W0 := TCfg.ld_at (CC_isN c) (HS0.out.box 0 rfl).whole
    go_wp2_with fail
    refine (HNW.out _ HS0.out).mono ?_
    rintro e w2 ⟨a, rfl, hs⟩
    have HS3 : Hid (NIs w w2 a (Ns.new c core) [cfgO cb c]) := Lib.hid hs
    clear hs lc HNW HS0 HW0
    go_wp2_with fail
    go_loopw [45] (fun iv wr => ∃ (k : Nat) (S : Ns), k ≤ len1 ∧ iv = .int .i64 k ∧ Hid (NV a.p S ∧ S.n ≤ k ∧ S.core = core ∧ NIs w wr a S [cfgO cb c])) (fun i _ => len1 - (Go.RowKit.intOf i).toNat)
    case atStart => exact ⟨0, Ns.new c core, Nat.zero_le _, rfl, Lib.hid ⟨NV.new _ _ _, Nat.le_refl 0, rfl, HS3.out⟩⟩
    case round =>
      obtain ⟨k, S, hk, rfl, HI⟩ := hrel
      obtain ⟨wo, hwo⟩ : ∃ x, x = wr := ⟨_, rfl⟩
      subst hwo
      have HV := Lib.hid HI.out.1
      have hsn := HI.out.2.1
      have HCO := Lib.hid HI.out.2.2.1
      have HC0 : Hid (0 ≤ S.core) := Lib.hid (by rw [HCO.out]; exact HMY.out.2.1)
      have HS4 := Lib.hid HI.out.2.2.2
      clear HI
      by_cases hlt : k < len1
      · obtain ⟨x, g, q, rfl, hxa, hgl, hrg⟩ := HC1.out k hlt
        have hok := HO.out k hlt
        have hrw : wo.rangeAt g q (O k).cells.toList := fun j v hv => HS4.out.objs.old (hrg j v hv)
        generalize O k = o at *
        have hoN := OpN.isN hok
        have HOK := Lib.hid hok; have HON := Lib.hid hoN
        have l1 := TOpN.ld_at hoN hrw
        have l2 := TOpN.ld_at hoN (World.rangeAt_alloc hrw (.cells TOpN.Z OT))
        have s1 := TOpN.st_new hoN wo
        have hs5 := HS4.out.alloc o.cells OT
        obtain ⟨V5, hV5⟩ : ∃ X, wo.alloc (.cells o.cells OT) = X := ⟨_, rfl⟩
        obtain ⟨ob, hob⟩ : ∃ x, wo.heap.size = x := ⟨_, rfl⟩
        rw [hV5, hob] at hs5
        have HV5 := Lib.hid (And.intro hV5 hob)
        have HS5 : Hid (NIs w V5 a S [boxO ob o.cells OT, cfgO cb c]) := Lib.hid hs5
        clear hok hoN hrw hrg hs5 hV5 hob HS4
        go_upto_region 10 with fail
        rw [HV5.out.1, HV5.out.2]
        clear l1 l2 s1 HV5
        have p8 : V5.cell? ⟨ob, 8, none⟩ = some (.int .i64 o.n.blk) := ((HS5.out.sep.box 8 rfl).cell 8).trans ((o.getN 3).trans o.n.get3)
        obtain ⟨mr, hmr⟩ : ∃ x, (S.f o.n.blk).1 = x := ⟨_, rfl⟩
        obtain ⟨mw, hmw⟩ : ∃ x, (S.f o.n.blk).2 = x := ⟨_, rfl⟩
        obtain ⟨op, hop⟩ : ∃ x, decide (0 < S.d.depth) = x := ⟨_, rfl⟩
        have HMK := Lib.hid (marked_is HS5.out o.n.blk HOK.out.nb)
        rw [hmr, hmw] at HMK
        have HMM := Lib.hid (And.intro hmr (And.intro hmw hop))
        clear hmr hmw
        go_wp2_with fail
        refine HMK.out.mono ?_
        rintro e V6 ⟨rfl, hu⟩
        have HS6 := Lib.hid (HS5.out.upd0 hu)
        clear hu p8 HMK HS5
        go_wp2_with fail
        refine (deal_is HS6.out).mono ?_
        rintro e X1 ⟨rfl, rfl⟩
        go_wp2_with fail
        refine (DL.depth_any a.db S.c.nest S.d _ HS6.out.deal).mono ?_
        rintro e X1 ⟨rfl, rfl⟩
        have p0 : V6.cell? ⟨ob, 0, none⟩ = some (.int .i64 o.kind) := ((HS6.out.sep.box 8 rfl).cell 0).trans o.get0
        go_upto_region 12 with fail
        clear hop
        obtain ⟨kk, hkk⟩ : ∃ x, o.kind = x := ⟨_, rfl⟩
        rw [hkk] at p0
        clear hkk
        go_upto_block 2 with fail
        go_cut [11, 15, 16, 17, 18, 19, 20, 21, 22, 23, 24, 25] from 63 to 217 (fun s11 s15 s16 s17 s18 s19 s20 s21 s22 s23 s24 s25 wx => ∃ (S2 : Ns) (out : List Nt), Hid (NV a.p S2 ∧ S2.n ≤ k + 1 ∧ S2.core = core ∧ Keeps S2 out ∧ NIs w wx a S2 [outO s11 out, boxO ob o.cells OT, cfgO cb c]))
        case first =>
          by_cases k0 : kk = 0
          · subst k0
            as_aux_lemma =>
              have p1 : V6.cell? ⟨ob, 1, none⟩ = some (.int .i64 o.b) := ((HS6.out.sep.box 8 rfl).cell 1).trans o.get1
              have p3 : V6.cell? ⟨ob, 3, none⟩ = some (.bool o.yes) := ((HS6.out.sep.box 8 rfl).cell 3).trans o.get3
              have HAK := Lib.hid (ask_is HS6.out o.b o.yes (fun hs => gone_fit HV.out HS6.out.ok hs))
              have HV2 := Lib.hid (HV.out.ask HS6.out.ok o.b o.yes)
              have HN2 := Lib.hid (Nat.le_trans (Nat.le_of_eq (askR_n a.p S o.b o.yes)) (Nat.le_succ_of_le hsn))
              have HKP := Lib.hid (ask_keeps HV.out HS6.out.ok o.b o.yes)
              have HC2 := Lib.hid ((askR_core a.p S o.b o.yes).trans HCO.out)
              obtain ⟨t, ht⟩ : ∃ t, askR a.p S o.b o.yes = t := ⟨_, rfl⟩
              rw [ht] at HAK HV2 HN2 HKP HC2
              clear ht
              go_wp2_with fail
              refine HAK.out.mono ?_
              rintro e X1 ⟨v, he, hs⟩
              have he : e = .returned (.tuple #[.bool t.ready, v, .int .i64 t.e]) := he
              subst he
              have HX1 := Lib.hid hs
              clear hs HAK p1 p3
              go_wp2_with fail
              go_meet
              exact ⟨t.S, t.out, Lib.hid ⟨HV2.out, HN2.out, HC2.out, HKP.out, HX1.out⟩⟩
          · have e0 : (kk == 0) = false := by simpa using k0
            by_cases k1 : kk = 1
            · subst k1
              as_aux_lemma =>
                have p1 : V6.cell? ⟨ob, 1, none⟩ = some (.int .i64 o.b) := ((HS6.out.sep.box 8 rfl).cell 1).trans o.get1
                have p2 : V6.cell? ⟨ob, 2, none⟩ = some (.int .i64 o.wd) := ((HS6.out.sep.box 8 rfl).cell 2).trans o.get2
                have HLD := Lib.hid (load_is HS6.out (by omega) o.b o.wd HOK.out.b)
                go_wp2_with fail
                refine HLD.out.mono ?_
                rintro e X1 ⟨rfl, hs⟩
                have HX1 := Lib.hid hs
                clear hs HLD p1 p2
                go_wp2_with fail
                go_meet
                exact ⟨loadS a.p S o.b o.wd, [], Lib.hid ⟨HV.out.load _ _, Nat.le_trans (loadS_n a.p S _ _) (by omega), (loadS_core a.p S _ _).trans HCO.out, Keeps.nil _, HX1.out.outNil⟩⟩
            · have e1 : (kk == 1) = false := by simpa using k1
              by_cases k2 : kk = 2
              · subst k2
                as_aux_lemma =>
                  have p1 : V6.cell? ⟨ob, 1, none⟩ = some (.int .i64 o.b) := ((HS6.out.sep.box 8 rfl).cell 1).trans o.get1
                  have p2 : V6.cell? ⟨ob, 2, none⟩ = some (.int .i64 o.wd) := ((HS6.out.sep.box 8 rfl).cell 2).trans o.get2
                  have p4 : V6.cell? ⟨ob, 4, none⟩ = some (.int .u32 o.x) := ((HS6.out.sep.box 8 rfl).cell 4).trans o.get4
                  have HLD := Lib.hid (store_is HS6.out (by omega) o.b o.wd o.x HOK.out.b)
                  go_wp2_with fail
                  refine HLD.out.mono ?_
                  rintro e X1 ⟨rfl, hs⟩
                  have HX1 := Lib.hid hs
                  clear hs HLD p1 p2 p4
                  go_wp2_with fail
                  go_meet
                  exact ⟨storeS a.p S o.b o.wd o.x, [], Lib.hid ⟨HV.out.store HS6.out.ok _ _ _, Nat.le_trans (storeS_n a.p S _ _ _) (by omega), (storeS_core a.p S _ _ _).trans HCO.out, Keeps.nil _, HX1.out.outNil⟩⟩
              · have e2 : (kk == 2) = false := by simpa using k2
                by_cases k3 : kk = 3
                · subst k3
                  as_aux_lemma =>
                    have p8 : V6.cell? ⟨ob, 8, none⟩ = some (.int .i64 o.n.blk) := ((HS6.out.sep.box 8 rfl).cell 8).trans ((o.getN 3).trans o.n.get3)
                    have HLI := Lib.hid (line_is HS6.out o.n.blk)
                    have hlO := KA.fnd_ok (p := a.p) HS6.out.ok.okA o.n.blk
                    have HLU := Lib.hid hlO.isU
                    have HLN := Lib.hid (Ln.Ok.isN hlO.isU)
                    obtain ⟨l, hl⟩ : ∃ x, a.p.fnd S.A o.n.blk = x := ⟨_, rfl⟩
                    obtain ⟨is, his⟩ : ∃ x, (a.p.place S.A o.n.blk).isSome = x := ⟨_, rfl⟩
                    rw [hl] at HLU HLN
                    rw [hl, his] at HLI
                    have HLL := Lib.hid (And.intro hl his)
                    clear hlO hl his
                    go_wp2_with fail
                    refine HLI.out.mono ?_
                    rintro e X1 ⟨rfl, hu⟩
                    have s1 := TLin.st_new HLN.out X1
                    have hs3 := (HS6.out.upd0 hu).alloc l.cells LT
                    go_upto_region 21 with fail
                    obtain ⟨X2, hX2⟩ : ∃ X, X1.alloc (.cells l.cells LT) = X := ⟨_, rfl⟩
                    obtain ⟨lb, hlb⟩ : ∃ x, X1.heap.size = x := ⟨_, rfl⟩
                    rw [hX2, hlb] at hs3 ⊢
                    have HX2 : Hid (NIs w X2 a S [boxO lb l.cells LT, boxO ob o.cells OT, cfgO cb c]) := Lib.hid hs3
                    clear hs3 hX2 hlb s1 hu HLI p8 HS6 p0
                    have l5 : (TNot.ld (.pointer (some ⟨ob, 5, none⟩))).run Try.prog X2 = .ok (.agg o.n.cells) X2 := TNot.ld_at (Nt.Ok.isN HOK.out.n.isU) ((HX2.out.sep.box 9 rfl).range 5 _ (fun j v hv => by rw [OpN.getN]; simpa using hv))
                    have HTK := Lib.hid (take_is HX2.out o.n HOK.out.n HOK.out.nb)
                    have HV2 := Lib.hid (HV.out.take HX2.out.ok o.n)
                    have HN2 := Lib.hid (Nat.le_trans (Nat.le_of_eq (takeR_n a.p S o.n)) (Nat.le_succ_of_le hsn))
                    have HKP := Lib.hid (take_keeps HV.out HX2.out.ok HC0.out HOK.out.n)
                    have HMU := Lib.hid (fun he => take_must (n := o.n) HV.out HC0.out he)
                    have HC2 := Lib.hid ((takeR_core a.p S o.n).trans HCO.out)
                    obtain ⟨t, ht⟩ : ∃ t, takeR a.p S o.n = t := ⟨_, rfl⟩
                    rw [ht] at HTK HV2 HN2 HKP HMU HC2
                    rw [HMM.out.1, HMM.out.2.1, HMM.out.2.2] at HMU
                    clear ht
                    go_wp2_with fail
                    refine HTK.out.mono ?_
                    rintro e X3 ⟨v, he, hs⟩
                    have he : e = .returned (.tuple #[v, .bool t.g, .int .i64 t.e]) := he
                    subst he
                    have HX3 : Hid (NIs w X3 a t.S [outO v t.out, boxO lb l.cells LT, boxO ob o.cells OT, cfgO cb c]) := Lib.hid hs
                    clear hs l5 HTK
                    go_upto_region 23 with fail
                    have p5 : X3.cell? ⟨ob, 5, none⟩ = some (.int .u8 o.n.kind) := ((HX3.out.sep.box 10 rfl).cell 5).trans ((o.getN 0).trans o.n.get0)
                    obtain ⟨b4, hb4⟩ : ∃ x, (o.n.kind == 4) = x := ⟨_, rfl⟩
                    obtain ⟨b5, hb5⟩ : ∃ x, (o.n.kind == 5) = x := ⟨_, rfl⟩
                    have HB45 := Lib.hid (And.intro hb4 hb5)
                    rw [hb4, hb5] at HMU
                    go_cut [18] from 111 to 133 (fun s18 wx => X3 = wx ∧ s18 = .bool (op && (mw && b4 || (mr || mw) && b5)))
                    case first =>
                      clear HMU HX3 HKP HV2 HN2 HC2
                      cases op
                      · go_wp2_with fail
                        go_meet
                        exact ⟨rfl, rfl⟩
                      · cases mr <;> cases mw <;> cases b4 <;> cases b5
                        all_goals
                          go_wp2_with fail
                          go_meet
                          exact ⟨rfl, rfl⟩
                    case rest =>
                    obtain ⟨rfl, rfl⟩ := hcut
                    clear p5 hb4 hb5 HB45
                    obtain ⟨te, hte⟩ : ∃ x, (t.e == 0) = x := ⟨_, rfl⟩
                    have HTE := Lib.hid hte
                    obtain ⟨mu, hmu⟩ : ∃ x, (op && (mw && b4 || (mr || mw) && b5)) = x := ⟨_, rfl⟩
                    rw [hmu] at HMU ⊢
                    clear hmu
                    cases te
                    · go_wp2_with fail
                      go_meet
                      exact ⟨t.S, t.out, Lib.hid ⟨HV2.out, HN2.out, HC2.out, HKP.out, HX3.out.pop2⟩⟩
                    cases mu
                    · go_wp2_with fail
                      go_meet
                      exact ⟨t.S, t.out, Lib.hid ⟨HV2.out, HN2.out, HC2.out, HKP.out, HX3.out.pop2⟩⟩
                    have htt := HMU.out (by simpa using HTE.out) rfl
                    have h1 : t.S = askedS1 S o.n := by rw [htt]
                    have h2 : t.out = [refuseN S o.n] := by rw [htt]
                    rw [h1] at HX3 HV2 HN2 HKP HC2
                    rw [h2] at HX3 HKP
                    clear htt h1 h2 HMU
                    have hS2A : (askedS1 S o.n).A = S.A := rfl
                    have hS2d : stampE (askedS1 S o.n).d = stampE S.d := rfl
                    have hrn : (refuseN S o.n).stamp = stampE S.d := rfl
                    have hrk : (refuseN S o.n).kind = 10 := rfl
                    have hru : IsU (refuseN S o.n).D := isUZ
                    obtain ⟨sa, cap, hv, hcap, hcm, hat⟩ := NQ.s_row (HX3.out.row (i := 0) rfl) (fun x hx => by simp at hx; subst hx; exact hru)
                    have hv : v = .slice sa 1 cap := hv
                    have hcap : 1 ≤ cap := hcap
                    subst hv
                    obtain ⟨sg, hsg, -⟩ := hat 0 (refuseN S o.n) rfl
                    subst hsg
                    unfold maxLen at hcm
                    have HA := Lib.hid (And.intro hS2A (And.intro hS2d (And.intro hrn (And.intro hrk hru))))
                    clear hat hS2A hS2d hrn hrk hru
                    obtain ⟨S2, hS2⟩ : ∃ x, askedS1 S o.n = x := ⟨_, rfl⟩
                    obtain ⟨rn, hrn⟩ : ∃ x, refuseN S o.n = x := ⟨_, rfl⟩
                    rw [hS2] at HX3 HV2 HN2 HKP HC2 HA
                    rw [hrn] at HX3 HKP HA
                    have HS2 := Lib.hid hS2
                    clear hS2 hrn
                    have p8 : X3.cell? ⟨ob, 8, none⟩ = some (.int .i64 o.n.blk) := ((HX3.out.sep.box 10 rfl).cell 8).trans ((o.getN 3).trans o.n.get3)
                    have HLI := Lib.hid (line_is HX3.out o.n.blk)
                    have ef : a.p.fnd S2.A o.n.blk = l := by rw [HA.out.1]; exact HLL.out.1
                    have ep : (a.p.place S2.A o.n.blk).isSome = is := by rw [HA.out.1]; exact HLL.out.2
                    rw [ef, ep] at HLI
                    clear ef ep
                    go_wp2_with fail
                    refine HLI.out.mono ?_
                    rintro e X4 ⟨rfl, hu⟩
                    have s1 := TLin.st_new HLN.out X4
                    have hs5 := (HX3.out.upd0 hu).alloc l.cells LT
                    go_upto_region 26 with fail
                    obtain ⟨X5, hX5⟩ : ∃ X, X4.alloc (.cells l.cells LT) = X := ⟨_, rfl⟩
                    obtain ⟨mb, hmb⟩ : ∃ x, X4.heap.size = x := ⟨_, rfl⟩
                    rw [hX5, hmb] at hs5 ⊢
                    have HX5 : Hid (NIs w X5 a S2 [boxO mb l.cells LT, outO (.slice (some ⟨sg, 0, none⟩) 1 cap) [rn], boxO lb l.cells LT, boxO ob o.cells OT, cfgO cb c]) := Lib.hid hs5
                    clear hs5 hX5 hmb s1 hu HLI p8 HX3
                    have hd3 : ∀ n, NIs w (X5.drewN n) a S2 [boxO mb l.cells LT, outO (.slice (some ⟨sg, 0, none⟩) 1 cap) [rn], boxO lb l.cells LT, boxO ob o.cells OT, cfgO cb c] := fun n => HX5.out.upd0 (Upd.drewN NoF X5 n)
                    have lm : ∀ n, (TLin.ld (.pointer (some ⟨mb, 0, none⟩))).run Try.prog (X5.drewN n) = .ok (.agg l.cells) (X5.drewN n) := fun n => TLin.ld_at HLN.out ((hd3 n).sep.box 8 rfl).whole
                    have ll : ∀ n, (TLin.ld (.pointer (some ⟨lb, 0, none⟩))).run Try.prog (X5.drewN n) = .ok (.agg l.cells) (X5.drewN n) := fun n => TLin.ld_at HLN.out ((hd3 n).sep.box 10 rfl).whole
                    have hne : ∀ n, (neL (.agg l.cells) (.agg l.cells)).run Try.prog (X5.drewN n) = .ok (.bool false) (X5.drewN n) := fun n => by
                      have := neL_run HLU.out HLU.out (X5.drewN n)
                      rw [Ln.same_self] at this
                      exact this
                    have hrr : ∀ n, (X5.drewN n).rangeAt sg (0 * 24) rn.cells.toList := fun n => by
                      obtain ⟨sa2, cap2, hv2, _, _, hat2⟩ := NQ.s_row ((hd3 n).row (i := 1) rfl) (fun x hx => by simp at hx; subst hx; exact HA.out.2.2.2.2)
                      cases hv2
                      obtain ⟨g2, hg2, hr2⟩ := hat2 0 rn rfl
                      cases hg2
                      exact hr2
                    have qk : ∀ n, (X5.drewN n).cell? ⟨sg, 0, none⟩ = some (.int .u8 10) := fun n => by
                      have h := hrr n 0 (.int .u8 rn.kind) (by simpa using rn.get0)
                      rw [HA.out.2.2.2.1] at h
                      exact h
                    have qs : ∀ n, (X5.drewN n).cell? ⟨sg, 4, none⟩ = some (.int .u64 (stampE S2.d)) := fun n => by
                      have h := hrr n 4 (.int .u64 rn.stamp) (by simpa using rn.get4)
                      rw [HA.out.2.2.1, ← HA.out.2.1] at h
                      exact h
                    have HDE := Lib.hid (fun n => deal_is (hd3 n))
                    have HST := Lib.hid (fun n => DL.stamp_any a.db S2.c.nest S2.d _ (hd3 n).deal)
                    clear hrr hd3
                    generalize l.cells = lc at *
                    generalize stampE S2.d = stv at *
                    go_quiet (first | (go_at_call 16; exact Calls.quiet_of_same ((HDE.out _).mono (fun _ _ h => ⟨h.1, h.2.symm⟩))) | (go_at_call 20; exact Calls.quiet_of_same ((HST.out _).mono (fun _ _ h => ⟨h.1, h.2.symm⟩))))
                    have HH := Lib.hid (HX5.out.upd0 (Upd.drewN NoF X5 nq))
                    clear HX5
                    go_wp2_with fail
                    go_meet
                    exact ⟨S2, [rn], Lib.hid ⟨HV2.out, HN2.out, HC2.out, HKP.out, HH.out.pop.pop2⟩⟩
                · have e3 : (kk == 3) = false := by simpa using k3
                  by_cases k4 : kk = 4
                  · subst k4
                    as_aux_lemma =>
                      have HSD := Lib.hid (HS6.out.upd0 (Upd.drew NoF V6))
                      have hS0 : (fun X : World => X.cell? ⟨ob, 4, none⟩ = some (.int .u32 o.x)) V6.drew := ((HSD.out.sep.box 8 rfl).cell 4).trans o.get4
                      have y3 := fun w => bdS_run w
                      have HWR : Hid (IntKind.u64.wrap (o.x + 1) = o.x + 1 ∧ IntKind.u64.wrap o.x = o.x) := Lib.hid ⟨IntWalk.u64_in _ (by have := HOK.out.x; omega), IntWalk.u64_in _ (by have := HOK.out.x; omega)⟩
                      go_wp2_with fail
                      refine wp_region_held_drew (S := (fun X : World => X.cell? ⟨ob, 4, none⟩ = some (.int .u32 o.x))) (by kernel_rfl) (hS0) (fun hHeld => ?_)
                      clear hS0
                      obtain ⟨X0, hX0⟩ : ∃ X, V6.drew = X := ⟨_, rfl⟩
                      rw [hX0] at hHeld HSD ⊢
                      clear hX0
                      refine rgn 0 (v := ?vq1) hHeld ?yq1 ?_
                      case yq1 => (intro w hSw; (try dsimp only at hSw); have k4 := hSw; go_simp; try with_reducible rfl)
                      simp only [Act.put, rn1, rn2, rn3, rn4, rn5, rn6]
                      refine rgn 2 (v := ?vq2) hHeld ?yq2 ?_
                      case yq2 => (intro w hSw; (try dsimp only at hSw); have k4 := hSw; go_simp; try with_reducible rfl)
                      simp only [Act.put, rn1, rn2, rn3, rn4, rn5, rn6]
                      refine rgn 3 (v := ?vq3) hHeld ?yq3 ?_
                      case yq3 => (intro w hSw; (try dsimp only at hSw); have k4 := hSw; go_simp; try with_reducible rfl)
                      simp only [Act.put, rn1, rn2, rn3, rn4, rn5, rn6]
                      refine rgn 4 (v := ?vq4) hHeld ?yq4 ?_
                      case yq4 => (intro w hSw; (try dsimp only at hSw); have k4 := hSw; go_simp; try with_reducible rfl)
                      simp only [Act.put, rn1, rn2, rn3, rn4, rn5, rn6]
                      refine rgn 5 (v := .int .u64 o.x) hHeld ?yq5 ?_
                      case yq5 => (intro w hSw; (try dsimp only at hSw); have k4 := hSw; have e1 := HWR.out.1; have e2 := HWR.out.2; go_simp; try with_reducible rfl)
                      simp only [Act.put, rn1, rn2, rn3, rn4, rn5, rn6]
                      refine rgn 6 (v := .int .u64 (o.x + 1)) hHeld ?yq6 ?_
                      case yq6 => (intro w hSw; (try dsimp only at hSw); have k4 := hSw; have e1 := HWR.out.1; have e2 := HWR.out.2; go_simp; try with_reducible rfl)
                      simp only [Act.put, rn1, rn2, rn3, rn4, rn5, rn6]
                      refine reg_step (i := 1) (by kernel_rfl) rfl (by kernel_rfl) (fun K hK => ?_)
                      go_simp
                      refine (deal_is HSD.out).mono ?_
                      rintro e X1 ⟨rfl, rfl⟩
                      have HS := hHeld
                      go_wp2_with fail
                      refine hK.out _ _ HS (fun hHeld2 => ?_)
                      clear hK hHeld2 hHeld; have hHeld := HS; clear HS
                      try simp only [Act.put, rn1, rn2, rn3, rn4, rn5, rn6]
                      refine reg_step (i := 7) (by kernel_rfl) rfl (by kernel_rfl) (fun K hK => ?_)
                      go_simp
                      refine (dbegin_is HSD.out 0 (o.x + 1) (by have := HOK.out.x; omega)).mono ?_
                      rintro e X2 ⟨rfl, hs⟩
                      have HX2 := Lib.hid hs
                      have HS : (fun X : World => X.cell? ⟨ob, 4, none⟩ = some (.int .u32 o.x)) X2 := ((hs.sep.box 8 rfl).cell 4).trans o.get4
                      clear hs
                      go_wp2_with fail
                      refine hK.out _ _ HS (fun hHeld2 => ?_)
                      clear hK hHeld2 hHeld; have hHeld := HS; clear HS
                      try simp only [Act.put, rn1, rn2, rn3, rn4, rn5, rn6]
                      refine wpAnyH_done (by kernel_rfl) ?_ _
                      clear hHeld
                      go_wp2_with fail
                      go_meet
                      exact ⟨{ S with d := beginS S.c.nest S.d 0 (o.x + 1) }, [], Lib.hid ⟨HV.out.begin (st := o.x + 1) (by have := HOK.out.x; omega) HS6.out.ok, Nat.le_succ_of_le hsn, HCO.out, Keeps.nil _, HX2.out.outNil⟩⟩
                  · have e4 : (kk == 4) = false := by simpa using k4
                    by_cases k5 : kk = 5
                    · subst k5
                      as_aux_lemma =>
                        go_wp2_with fail
                        refine (deal_is HS6.out).mono ?_
                        rintro e X1 ⟨rfl, rfl⟩
                        go_wp2_with fail
                        refine (dend_is HS6.out).mono ?_
                        rintro e X2 ⟨rfl, hs⟩
                        have HX2 := Lib.hid hs
                        clear hs
                        cases endB S.d
                        · go_wp2_with fail
                          go_meet
                          exact ⟨{ S with d := endS S.d }, [], Lib.hid ⟨HV.out.end_, Nat.le_succ_of_le hsn, HCO.out, Keeps.nil _, HX2.out.outNil⟩⟩
                        · go_wp2_with fail
                          refine (clear_is HX2.out).mono ?_
                          rintro e X3 ⟨rfl, hs⟩
                          have HX3 := Lib.hid hs
                          clear hs
                          go_wp2_with fail
                          go_meet
                          exact ⟨_, [], Lib.hid ⟨HV.out.end_.clear, Nat.zero_le _, HCO.out, Keeps.nil _, HX3.out.outNil⟩⟩
                    · have e5 : (kk == 5) = false := by simpa using k5
                      by_cases k6 : kk = 6
                      · subst k6
                        as_aux_lemma =>
                          have HSD := Lib.hid (HS6.out.upd0 (Upd.drew NoF V6))
                          have hS0 : (fun X : World => X.cell? ⟨ob, 4, none⟩ = some (.int .u32 o.x)) V6.drew := ((HSD.out.sep.box 8 rfl).cell 4).trans o.get4
                          go_wp2_with fail
                          refine wp_region_held_drew (S := (fun X : World => X.cell? ⟨ob, 4, none⟩ = some (.int .u32 o.x))) (by kernel_rfl) (hS0) (fun hHeld => ?_)
                          clear hS0
                          obtain ⟨X0, hX0⟩ : ∃ X, V6.drew = X := ⟨_, rfl⟩
                          rw [hX0] at hHeld HSD ⊢
                          clear hX0
                          refine rgn 0 (v := ?vq7) hHeld ?yq7 ?_
                          case yq7 => (intro w hSw; (try dsimp only at hSw); have k4 := hSw; go_simp; try with_reducible rfl)
                          simp only [Act.put, rn1, rn2, rn3, rn4, rn5, rn6]
                          refine rgn 2 (v := ?vq8) hHeld ?yq8 ?_
                          case yq8 => (intro w hSw; (try dsimp only at hSw); have k4 := hSw; go_simp; try with_reducible rfl)
                          simp only [Act.put, rn1, rn2, rn3, rn4, rn5, rn6]
                          refine rgn 3 (v := ?vq9) hHeld ?yq9 ?_
                          case yq9 => (intro w hSw; (try dsimp only at hSw); have k4 := hSw; go_simp; try with_reducible rfl)
                          simp only [Act.put, rn1, rn2, rn3, rn4, rn5, rn6]
                          refine reg_step (i := 1) (by kernel_rfl) rfl (by kernel_rfl) (fun K hK => ?_)
                          go_simp
                          refine (deal_is HSD.out).mono ?_
                          rintro e X1 ⟨rfl, rfl⟩
                          have HS := hHeld
                          go_wp2_with fail
                          refine hK.out _ _ HS (fun hHeld2 => ?_)
                          clear hK hHeld2 hHeld; have hHeld := HS; clear HS
                          try simp only [Act.put, rn1, rn2, rn3, rn4, rn5, rn6]
                          refine reg_step (i := 4) (by kernel_rfl) rfl (by kernel_rfl) (fun K hK => ?_)
                          go_simp
                          refine (dfail_is HSD.out o.x HOK.out.x).mono ?_
                          rintro e X2 ⟨rfl, hs⟩
                          have HX2 := Lib.hid hs
                          have HS : (fun X : World => X.cell? ⟨ob, 4, none⟩ = some (.int .u32 o.x)) X2 := ((hs.sep.box 8 rfl).cell 4).trans o.get4
                          clear hs
                          go_wp2_with fail
                          refine hK.out _ _ HS (fun hHeld2 => ?_)
                          clear hK hHeld2 hHeld; have hHeld := HS; clear HS
                          try simp only [Act.put, rn1, rn2, rn3, rn4, rn5, rn6]
                          refine wpAnyH_done (by kernel_rfl) ?_ _
                          clear hHeld
                          go_wp2_with fail
                          go_meet
                          exact ⟨{ S with d := failS S.d o.x }, [], Lib.hid ⟨HV.out.fail _, Nat.le_succ_of_le hsn, HCO.out, Keeps.nil _, HX2.out.outNil⟩⟩
                      · have e6 : (kk == 6) = false := by simpa using k6
                        by_cases k7 : kk = 7
                        · subst k7
                          as_aux_lemma =>
                            go_wp2_with fail
                            refine (deal_is HS6.out).mono ?_
                            rintro e X1 ⟨rfl, rfl⟩
                            cases hfa : S.d.fa
                            · have HOV : Hid (Calls Try.prog 24 #[ptr a.db] V6 fun e W' => e = .returned (.tuple #[SV 0, .int .u32 0, .int .i64 8]) ∧ NIs w W' a { S with d := overS S.d } [boxO ob o.cells OT, cfgO cb c]) := Lib.hid (by have h := dover_is HS6.out; unfold DL.overV at h; rw [hfa] at h; exact h)
                              have HFA := Lib.hid hfa
                              clear hfa
                              go_wp2_with fail
                              refine HOV.out.mono ?_
                              rintro e X2 ⟨rfl, hs⟩
                              have s1 := TSav.st_new (SC_isN 0) X2
                              have hs3 := hs.alloc (DL.SC 0) SVT
                              obtain ⟨X3, hX3⟩ : ∃ X, X2.alloc (.cells (DL.SC 0) SVT) = X := ⟨_, rfl⟩
                              rw [hX3] at s1 hs3
                              have HX3 := Lib.hid hs3
                              clear hs hs3 HOV hX3
                              go_wp2_with fail
                              go_meet
                              exact ⟨{ S with d := overS S.d }, [], Lib.hid ⟨HV.out.over, Nat.le_succ_of_le hsn, HCO.out, Keeps.nil _, HX3.out.pop.outNil⟩⟩
                            · have HOV : Hid (Calls Try.prog 24 #[ptr a.db] V6 fun e W' => e = .returned (.tuple #[SV S.d.n, .int .u32 S.d.ca, .int .i64 0]) ∧ NIs w W' a { S with d := overS S.d } [boxO ob o.cells OT, cfgO cb c]) := Lib.hid (by have h := dover_is HS6.out; unfold DL.overV at h; rw [hfa] at h; exact h)
                              have HFA := Lib.hid hfa
                              clear hfa
                              go_wp2_with fail
                              refine HOV.out.mono ?_
                              rintro e X2 ⟨rfl, hs⟩
                              have s1 := TSav.st_new (SC_isN S.d.n) X2
                              have hs3 := hs.alloc (DL.SC S.d.n) SVT
                              obtain ⟨X3, hX3⟩ : ∃ X, X2.alloc (.cells (DL.SC S.d.n) SVT) = X := ⟨_, rfl⟩
                              rw [hX3] at s1 hs3
                              have HX3 := Lib.hid hs3
                              clear hs hs3 HOV hX3
                              go_wp2_with fail
                              refine (clear_is HX3.out).mono ?_
                              rintro e X4 ⟨rfl, hs⟩
                              have HX4 := Lib.hid hs
                              clear hs s1
                              go_wp2_with fail
                              go_meet
                              exact ⟨_, [], Lib.hid ⟨HV.out.over.clear, Nat.zero_le _, HCO.out, Keeps.nil _, HX4.out.pop.outNil⟩⟩
                        · have e7 : (kk == 7) = false := by simpa using k7
                          go_wp2_with fail
                          go_meet
                          exact ⟨S, [], Lib.hid ⟨HV.out, Nat.le_succ_of_le hsn, HCO.out, Keeps.nil _, HS6.out.outNil⟩⟩
        case rest =>
          as_aux_lemma =>
            obtain ⟨S2, out, HC⟩ := hcut
            have HV2 := Lib.hid HC.out.1
            have hn2 := HC.out.2.1
            have HC2 := Lib.hid HC.out.2.2.1
            have HK := Lib.hid HC.out.2.2.2.1
            have HX := Lib.hid HC.out.2.2.2.2
            clear HC HS6 p0
            obtain ⟨sa, cap, hv, hcap, hcm, -⟩ := NQ.s_row (HX.out.row (i := 0) rfl) (fun x hx => (HK.out.all x hx).isU)
            subst hv
            unfold maxLen at hcm
            have hln := HK.out.len
            go_wp2_with fail
            go_loopw [219] (fun iv wr => ∃ (j : Nat), j ≤ out.length ∧ iv = .int .i64 j ∧ Hid (NIs w wr a S2 [outO (.slice sa out.length cap) out, boxO ob o.cells OT, cfgO cb c])) (fun i _ => out.length - (Go.RowKit.intOf i).toNat)
            case atStart => exact ⟨0, Nat.zero_le _, rfl, HX⟩
            case round =>
              obtain ⟨j, hj, rfl, HJ⟩ := hrel
              obtain ⟨wj, hwj⟩ : ∃ x, x = wr := ⟨_, rfl⟩
              subst hwj
              clear HX
              by_cases hjl : j < out.length
              · obtain ⟨n, hn⟩ : ∃ n, out[j]? = some n := ⟨_, List.getElem?_eq_getElem hjl⟩
                have hk := HK.out.all n (List.mem_of_getElem? hn)
                obtain ⟨sa2, cap2, hv2, _, _, hat2⟩ := NQ.s_row (HJ.out.row (i := 0) rfl) (fun x hx => (HK.out.all x hx).isU)
                cases hv2
                obtain ⟨g2, hg2, hr2⟩ := hat2 j n hn
                subst hg2
                have l1 := TNot.ld_at (Nt.Ok.isN hk.isU) hr2
                have l2 := TNot.ld_at (Nt.Ok.isN hk.isU) (World.rangeAt_alloc hr2 (.cells TNot.Z NT))
                have s1 := TNot.st_new (Nt.Ok.isN hk.isU) wj
                have hs5 := HJ.out.alloc n.cells NT
                have HKN := Lib.hid hk
                clear hat2 hn hk hr2
                go_upto_region 43 with fail
                obtain ⟨X5, hX5⟩ : ∃ X, wj.alloc (.cells n.cells NT) = X := ⟨_, rfl⟩
                obtain ⟨nb, hnb⟩ : ∃ x, wj.heap.size = x := ⟨_, rfl⟩
                rw [hX5, hnb] at hs5 ⊢
                have HX5 : Hid (NIs w X5 a S2 [boxO nb n.cells NT, outO (.slice (some ⟨g2, 0, none⟩) out.length cap) out, boxO ob o.cells OT, cfgO cb c]) := Lib.hid hs5
                clear hs5 hX5 hnb l1 l2 s1 HJ
                have p3 : X5.cell? ⟨nb, 3, none⟩ = some (.int .i64 n.blk) := ((HX5.out.sep.box 8 rfl).cell 3).trans n.get3
                have HMK := Lib.hid (marked_is HX5.out n.blk HKN.out.fit)
                obtain ⟨nr, hnr⟩ : ∃ x, (S2.f n.blk).1 = x := ⟨_, rfl⟩
                obtain ⟨nw, hnw⟩ : ∃ x, (S2.f n.blk).2 = x := ⟨_, rfl⟩
                rw [hnr, hnw] at HMK
                have hput := HKN.out.put
                have hack := HKN.out.ack
                rw [hnr, hnw] at hput
                rw [hnw] at hack
                have HPU := Lib.hid hput; have HAC := Lib.hid hack
                clear hnr hnw hput hack
                go_wp2_with fail
                refine HMK.out.mono ?_
                rintro e X6 ⟨rfl, hu⟩
                have HX6 := Lib.hid (HX5.out.upd0 hu)
                clear hu p3 HMK HX5
                have q0 : X6.cell? ⟨nb, 0, none⟩ = some (.int .u8 n.kind) := ((HX6.out.sep.box 8 rfl).cell 0).trans n.get0
                have q6 : X6.cell? ⟨nb, 6, none⟩ = some (.bool n.has) := ((HX6.out.sep.box 8 rfl).cell 6).trans n.get6
                have q7 : X6.cell? ⟨nb, 7, none⟩ = some (.bool n.stick) := ((HX6.out.sep.box 8 rfl).cell 7).trans n.get7
                go_upto_region 44 with fail
                by_cases hk3 : n.kind = 3
                · have hst := HPU.out hk3
                  rw [hk3] at q0
                  rw [hst] at q7
                  clear hst hk3 q6
                  cases nr <;> cases nw
                  all_goals
                    as_aux_lemma =>
                      go_wp2_with fail
                      go_roundw
                      case rel => exact ⟨j + 1, by omega, by go_num, Lib.hid HX6.out.pop⟩
                      case measure => simp [Go.RowKit.intOf]; omega
                · have e3 : (n.kind == 3) = false := by simpa using hk3
                  by_cases hk9 : n.kind = 9
                  · have hac := Lib.hid (HAC.out hk9)
                    rw [hk9] at q0
                    clear hk3 hk9 e3 q7
                    cases hh : n.has
                    · rw [hh] at q6
                      clear hh
                      as_aux_lemma =>
                        go_wp2_with fail
                        go_roundw
                        case rel => exact ⟨j + 1, by omega, by go_num, Lib.hid HX6.out.pop⟩
                        case measure => simp [Go.RowKit.intOf]; omega
                    · rw [hh] at q6
                      cases nw
                      · clear hh
                        as_aux_lemma =>
                          go_wp2_with fail
                          go_roundw
                          case rel => exact ⟨j + 1, by omega, by go_num, Lib.hid HX6.out.pop⟩
                          case measure => simp [Go.RowKit.intOf]; omega
                      · have hdp : decide (0 < S2.d.depth) = false := by
                          have := hac.out hh rfl
                          simpa using this
                        clear hh
                        as_aux_lemma =>
                          go_wp2_with fail
                          refine (deal_is HX6.out).mono ?_
                          rintro e X7 ⟨rfl, rfl⟩
                          go_wp2_with fail
                          refine (DL.depth_any a.db S2.c.nest S2.d _ HX6.out.deal).mono ?_
                          rintro e X7 ⟨rfl, rfl⟩
                          go_wp2_with fail
                          go_roundw
                          case rel => exact ⟨j + 1, by omega, by go_num, Lib.hid HX6.out.pop⟩
                          case measure => simp [Go.RowKit.intOf]; omega
                  · have e9 : (n.kind == 9) = false := by simpa using hk9
                    clear hk3 hk9 q6 q7
                    as_aux_lemma =>
                      go_wp2_with fail
                      go_roundw
                      case rel => exact ⟨j + 1, by omega, by go_num, Lib.hid HX6.out.pop⟩
                      case measure => simp [Go.RowKit.intOf]; omega
              · obtain rfl : j = out.length := by omega
                go_wp2_with fail
                go_roundw
                case rel => exact ⟨k + 1, S2, by omega, by go_num, Lib.hid ⟨HV2.out, hn2, HC2.out, HJ.out.pop.pop⟩⟩
                case measure => simp [Go.RowKit.intOf]; omega
      · obtain rfl : k = len1 := by omega
        go_wp2_with fail
        refine (works_is HS4.out.objs).mono ?_
        rintro e w9 ⟨rfl, hs⟩
        have HS9 := Lib.hid hs
        clear hs
        go_wp2
        go_ret
        exact ⟨rfl, HS9.out.below⟩
  · have HNB := Lib.hid (fun W => new_bad c core hm W)
    clear hm
    go_enter Try.func5, Try.ntmps5
    go_upto_region 1 with fail
    rw [HW0.out.1, HW0.out.2]
    have lc : (TCfg.ld (.pointer (some ⟨cb, 0, none⟩))).run Try.prog W0 = .ok (.agg (CC c)) W0 := TCfg.ld_at (CC_isN c) (HS0.out.box 0 rfl).whole
    go_wp2_with fail
    refine (HNB.out _).mono ?_
    rintro e w2 ⟨er, rfl, her, hu⟩
    have HS3 := Lib.hid (HS0.out.upd0 hu)
    clear hu lc HNB HS0 HW0
    go_wp2_with fail
    refine (works_is HS3.out).mono ?_
    rintro e w9 ⟨rfl, hs⟩
    have HS9 := Lib.hid hs
    clear hs
    go_wp2
    go_ret
    exact ⟨rfl, HS9.out.below⟩
end Go.Proofs.Ytjgeflbhmhmjdaa.NR
