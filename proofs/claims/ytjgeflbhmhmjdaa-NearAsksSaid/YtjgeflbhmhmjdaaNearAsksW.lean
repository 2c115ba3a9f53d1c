/- NearAsks: what the Go function does. -/
import Derived.Test.YtjgeflbhmhmjdaaCacheGd
import Derived.Test.YtjgeflbhmhmjdaaRowOp17
set_option linter.unusedSimpArgs false
set_option linter.unusedVariables false
namespace Go.Proofs.Ytjgeflbhmhmjdaa.NR
open Go.RowKit
open BU (IsU words)
open PL (Cfg CC CV May)
open KA (Kp CIs OkA LT UT KT)
open DL (DS CD SV stampE beginE beginS endB openE endS failS overV overS)
abbrev OT : TypeId := 39
attribute [local go_sem] Oper.semAt_some
attribute [local go_sem high] guardNote guardBlk
attribute [local go_sem ↓] eqN_eq neN_eq eqB_eq neB_eq TNot.ld_eq TNot.st_eq TNot.al_eq TNot.bx_eq TBlk.ld_eq TBlk.st_eq TBlk.al_eq TBlk.bx_eq TLin.ld_eq TLin.st_eq TLin.al_eq TLin.bx_eq TCfg.ld_eq TCfg.st_eq TCfg.al_eq TCfg.bx_eq TOpN.ld_eq TOpN.st_eq TOpN.al_eq TOpN.bx_eq bdS_eq
attribute [local go_sem] TNot.al_run TNot.bx_run TBlk.al_run TBlk.bx_run TLin.al_run TLin.bx_run TCfg.al_run TCfg.bx_run TOpN.al_run TOpN.bx_run
set_option maxRecDepth 100000 in
set_option maxHeartbeats 8000000 in
theorem nasks_any (c : Cfg) (core : Int) (a1 : Option Addr) (len1 cap1 : Nat) (O : Nat → OpN) (w : World) (h1 : IsRowS w a1 len1 cap1 29 (fun i => (O i).cells)) (hO : ∀ i, i < len1 → (O i).Ok) :
    Calls Try.prog 4 #[CV c, .int .i64 core, .slice a1 len1 cap1] w fun e w' => e = .returned (.bool true) ∧ Below w.heap.size w w' := by
  have HC1 := Lib.hid (fun i (hi : i < len1) => h1.at (by decide) hi)
  have HO := Lib.hid hO
  obtain ⟨lc1, m1, _⟩ := h1
  unfold maxLen at m1
  obtain ⟨W0, hW0⟩ : ∃ W0, w.alloc (.cells (CC c) CT) = W0 := ⟨_, rfl⟩
  obtain ⟨cb, hcb⟩ : ∃ x, w.heap.size = x := ⟨_, rfl⟩
  have HS0 : Hid (Sep NoF w W0 [cfgO cb c]) := Lib.hid (by rw [← hW0, ← hcb]; exact (Sep.zero NoF w).alloc _ _)
  have HW0 := Lib.hid (And.intro hW0 hcb)
  clear hW0 hcb hO
  by_cases g1 : 300 < len1
  · have hb1 : decide ((300 : Int) < (len1 : Int)) = true := by simp; omega
    go_enter Try.func4, Try.ntmps4
    go_upto_region 1 with fail
    rw [HW0.out.1, HW0.out.2]
    go_wp2_with fail
    refine (works_is HS0.out).mono ?_
    rintro e w9 ⟨rfl, hs⟩
    have HS9 := Lib.hid hs
    clear hs
    go_wp2
    go_ret
    exact ⟨rfl, HS9.out.below⟩
  have hb1 : decide ((300 : Int) < (len1 : Int)) = false := by simp; omega
  by_cases hm : May c ∧ (0 ≤ core ∧ core < c.cores)
  · have HNW := Lib.hid (fun W (h : Sep NoF w W [cfgO cb c]) => near_new h c hm.1 core hm.2.1 hm.2.2)
    have HMY := Lib.hid hm
    clear hm
    go_enter Try.func4, Try.ntmps4
    go_upto_region 1 with fail
    rw [HW0.out.1, HW0.out.2]
    have lc : (TCfg.ld (.pointer (some ⟨cb, 0, none⟩))).run Try.prog W0 = .ok (.agg (CC c)) W0 := TCfg.ld_at (CC_isN c) (HS0.out.box 0 rfl).whole
    go_wp2_with fail
    refine (HNW.out _ HS0.out).mono ?_
    rintro e w2 ⟨a, rfl, hs⟩
    have HS3 : Hid (NIs w w2 a (Ns.new c core) [cfgO cb c]) := Lib.hid hs
    clear hs lc HNW HS0 HW0
    go_wp2_with fail
    go_loopw [40] (fun iv wr => ∃ (k : Nat) (S : Ns), k ≤ len1 ∧ iv = .int .i64 k ∧ Hid (NV a.p S ∧ S.n ≤ k ∧ NIs w wr a S [cfgO cb c])) (fun i _ => len1 - (Go.RowKit.intOf i).toNat)
    case atStart => exact ⟨0, Ns.new c core, Nat.zero_le _, rfl, Lib.hid ⟨NV.new _ _ _, Nat.le_refl 0, HS3.out⟩⟩
    case round =>
      obtain ⟨k, S, hk, rfl, HI⟩ := hrel
      obtain ⟨wo, hwo⟩ : ∃ x, x = wr := ⟨_, rfl⟩
      subst hwo
      have HV := Lib.hid HI.out.1
      have hsn := HI.out.2.1
      have HS4 := Lib.hid HI.out.2.2
      clear HI
      by_cases hlt : k < len1
      · obtain ⟨x, g, q, rfl, hxa, hgl, hrg⟩ := HC1.out k hlt
        have hok := HO.out k hlt
        have hrw : wo.rangeAt g q (O k).cells.toList := fun j v hv => HS4.out.objs.old (hrg j v hv)
        generalize O k = o at *
        have hoN := OpN.isN hok
        have HOK := Lib.hid hok; have HON := Lib.hid hoN
        have l1 := TOpN.ld_at hoN hrw
        have l2 := TOpN.ld_at hoN (World.rangeAt_alloc hrw (.cells TOpN.Z OT))
        have s1 := TOpN.st_new hoN wo
        have hs5 := HS4.out.alloc o.cells OT
        obtain ⟨V5, hV5⟩ : ∃ X, wo.alloc (.cells o.cells OT) = X := ⟨_, rfl⟩
        obtain ⟨ob, hob⟩ : ∃ x, wo.heap.size = x := ⟨_, rfl⟩
        rw [hV5, hob] at hs5
        have HV5 := Lib.hid (And.intro hV5 hob)
        have HS5 : Hid (NIs w V5 a S [boxO ob o.cells OT, cfgO cb c]) := Lib.hid hs5
        clear hok hoN hrw hrg hs5 hV5 hob HS4
        go_upto_region 9 with fail
        rw [HV5.out.1, HV5.out.2]
        clear l1 l2 s1 HV5
        obtain ⟨qn, hqn⟩ : ∃ x, (if S.wa then S.q else Nt.nil) = x := ⟨_, rfl⟩
        have HQU : Hid (IsU qn.D) := Lib.hid (by rw [← hqn]; split; exact HS5.out.ok.q.isU; exact isUZ)
        have HWT := Lib.hid (waits_is HS5.out)
        rw [hqn] at HWT
        have HQN := Lib.hid hqn
        clear hqn
        go_wp2_with fail
        refine HWT.out.mono ?_
        rintro e V6 ⟨rfl, hu⟩
        have s1 := TNot.st_new (Nt.Ok.isN HQU.out) V6
        have hs7 := (HS5.out.upd0 hu).alloc qn.cells NT
        obtain ⟨V7, hV7⟩ : ∃ X, V6.alloc (.cells qn.cells NT) = X := ⟨_, rfl⟩
        obtain ⟨xb, hxb⟩ : ∃ x, V6.heap.size = x := ⟨_, rfl⟩
        rw [hV7, hxb] at hs7
        have HV7 := Lib.hid (And.intro hV7 hxb)
        have HS7 : Hid (NIs w V7 a S [boxO xb qn.cells NT, boxO ob o.cells OT, cfgO cb c]) := Lib.hid hs7
        have p0 : V7.cell? ⟨ob, 0, none⟩ = some (.int .i64 o.kind) := ((hs7.sep.box 9 rfl).cell 0).trans o.get0
        clear hs7 hV7 hxb HS5 HWT hu
        go_upto_region 10 with fail
        rw [HV7.out.1, HV7.out.2]
        clear s1 HV7
        obtain ⟨kk, hkk⟩ : ∃ x, o.kind = x := ⟨_, rfl⟩
        rw [hkk] at p0
        clear hkk
        go_upto_region 11 with fail
        by_cases k0 : kk = 0
        · subst k0
          as_aux_lemma =>
            have p1 : V7.cell? ⟨ob, 1, none⟩ = some (.int .i64 o.b) := ((HS7.out.sep.box 9 rfl).cell 1).trans o.get1
            have p3 : V7.cell? ⟨ob, 3, none⟩ = some (.bool o.yes) := ((HS7.out.sep.box 9 rfl).cell 3).trans o.get3
            have HAK0 := Lib.hid (ask_is HS7.out o.b o.yes (fun hs => gone_fit HV.out HS7.out.ok hs))
            have HV2a := Lib.hid (HV.out.ask HS7.out.ok o.b o.yes)
            have HN2 := Lib.hid (askR_n a.p S o.b o.yes)
            rcases ask_sum HV.out HS7.out.ok o.b o.yes with e | ⟨h0, e⟩ | ⟨h0, e⟩ | ⟨h0, e⟩ | ⟨h0, S2, m, hmb, hmu, hw2, hq2, e | ⟨pn, hpk, hpb, hpu, e⟩⟩
            · have HE := Lib.hid e
              clear e
              cases hwa : S.wa
              · have HWA := Lib.hid hwa
                clear hwa
                as_aux_lemma =>
                  have HAK : Hid (Calls Try.prog 8 #[ptr a.nb, .int .i64 o.b, .bool o.yes] V7 fun e W' => ∃ v, e = .returned (.tuple #[.bool false, v, .int .i64 2]) ∧ NIs w W' a S (outO v [] :: [boxO xb qn.cells NT, boxO ob o.cells OT, cfgO cb c])) := Lib.hid (by have := HAK0.out; rw [HE.out] at this; exact this)
                  have HV2 : Hid (NV a.p S ∧ (S).n ≤ k + 1) := Lib.hid (by have h1 := HV2a.out; have h2 := HN2.out; rw [HE.out] at h1 h2; exact ⟨h1, Nat.le_trans (Nat.le_of_eq h2) (Nat.le_succ_of_le hsn)⟩)
                  clear HAK0 HE HV2a HN2
                  go_wp2_with fail
                  refine HAK.out.mono ?_
                  rintro e X1 ⟨v, rfl, hs⟩
                  obtain ⟨sa, cap, hv, hcap, hcm, hat⟩ := NQ.s_row (hs.row (i := 0) rfl) (fun x hx => by cases hx)
                  have hv : v = .slice sa 0 cap := hv
                  have hcap : 0 ≤ cap := hcap
                  subst hv
                  have HAT := Lib.hid hat
                  unfold maxLen at hcm
                  have HX1 := Lib.hid hs
                  clear hs HAK hat p1 p3
                  have HWT := Lib.hid (waits_is HX1.out)
                  rw [HWA.out] at HWT
                  simp only [Bool.false_eq_true, if_false] at HWT
                  have HNt.nil : Hid (IsU (Nt.nil).D) := Lib.hid isUZ
                  go_wp2_with fail
                  refine HWT.out.mono ?_
                  rintro e X2 ⟨rfl, hu⟩
                  have s1 := TNot.st_new (Nt.Ok.isN HNt.nil.out) X2
                  have hs3 := (HX1.out.upd0 hu).alloc (Nt.nil).cells NT
                  go_upto_region 14 with fail
                  obtain ⟨X3, hX3⟩ : ∃ X, X2.alloc (.cells (Nt.nil).cells NT) = X := ⟨_, rfl⟩
                  obtain ⟨mb, hmb⟩ : ∃ x, X2.heap.size = x := ⟨_, rfl⟩
                  rw [hX3, hmb] at hs3 ⊢
                  have HX3 : Hid (NIs w X3 a S [boxO mb (Nt.nil).cells NT, outO (.slice sa 0 cap) [], boxO xb qn.cells NT, boxO ob o.cells OT, cfgO cb c]) := Lib.hid hs3
                  clear hs3 hX3 hmb s1 hu HWT HX1
                  go_wp2_with fail
                  go_quiet (fail)
                  have HH := Lib.hid ((HX3.out.upd0 (Upd.drewN NoF X3 nq)).pop.pop)
                  clear HX3
                  go_wp2_with fail
                  go_roundw
                  case rel => exact ⟨k + 1, S, by omega, by go_num, Lib.hid ⟨HV2.out.1, HV2.out.2, HH.out.pop.pop⟩⟩
                  case measure => simp [Go.RowKit.intOf]; omega
              · have HWA := Lib.hid hwa
                clear hwa
                as_aux_lemma =>
                  have HAK : Hid (Calls Try.prog 8 #[ptr a.nb, .int .i64 o.b, .bool o.yes] V7 fun e W' => ∃ v, e = .returned (.tuple #[.bool false, v, .int .i64 2]) ∧ NIs w W' a S (outO v [] :: [boxO xb qn.cells NT, boxO ob o.cells OT, cfgO cb c])) := Lib.hid (by have := HAK0.out; rw [HE.out] at this; exact this)
                  have HV2 : Hid (NV a.p S ∧ (S).n ≤ k + 1) := Lib.hid (by have h1 := HV2a.out; have h2 := HN2.out; rw [HE.out] at h1 h2; exact ⟨h1, Nat.le_trans (Nat.le_of_eq h2) (Nat.le_succ_of_le hsn)⟩)
                  clear HAK0 HE HV2a HN2
                  go_wp2_with fail
                  refine HAK.out.mono ?_
                  rintro e X1 ⟨v, rfl, hs⟩
                  obtain ⟨sa, cap, hv, hcap, hcm, hat⟩ := NQ.s_row (hs.row (i := 0) rfl) (fun x hx => by cases hx)
                  have hv : v = .slice sa 0 cap := hv
                  have hcap : 0 ≤ cap := hcap
                  subst hv
                  have HAT := Lib.hid hat
                  unfold maxLen at hcm
                  have HX1 := Lib.hid hs
                  clear hs HAK hat p1 p3
                  have HWT := Lib.hid (waits_is HX1.out)
                  rw [HWA.out] at HWT
                  simp only [if_true] at HWT
                  have HS.q : Hid (IsU (S.q).D) := Lib.hid HX1.out.ok.q.isU
                  go_wp2_with fail
                  refine HWT.out.mono ?_
                  rintro e X2 ⟨rfl, hu⟩
                  have s1 := TNot.st_new (Nt.Ok.isN HS.q.out) X2
                  have hs3 := (HX1.out.upd0 hu).alloc (S.q).cells NT
                  go_upto_region 14 with fail
                  obtain ⟨X3, hX3⟩ : ∃ X, X2.alloc (.cells (S.q).cells NT) = X := ⟨_, rfl⟩
                  obtain ⟨mb, hmb⟩ : ∃ x, X2.heap.size = x := ⟨_, rfl⟩
                  rw [hX3, hmb] at hs3 ⊢
                  have HX3 : Hid (NIs w X3 a S [boxO mb (S.q).cells NT, outO (.slice sa 0 cap) [], boxO xb qn.cells NT, boxO ob o.cells OT, cfgO cb c]) := Lib.hid hs3
                  clear hs3 hX3 hmb s1 hu HWT HX1
                  have lm : (TNot.ld (.pointer (some ⟨mb, 0, none⟩))).run Try.prog X3 = .ok (.agg S.q.cells) X3 := TNot.ld_at (Nt.Ok.isN HS.q.out) (HX3.out.sep.box 8 rfl).whole
                  have lx : (TNot.ld (.pointer (some ⟨xb, 0, none⟩))).run Try.prog X3 = .ok (.agg qn.cells) X3 := TNot.ld_at (Nt.Ok.isN HQU.out) (HX3.out.sep.box 10 rfl).whole
                  have hne : (neN (.agg S.q.cells) (.agg qn.cells)).run Try.prog X3 = .ok (.bool false) X3 := by
                    have hqq : qn = S.q := by rw [← HQN.out, HWA.out]; rfl
                    rw [hqq]
                    have := neN_run HS.q.out HS.q.out X3
                    rwa [same_self] at this
                  generalize S.q.cells = mc at *
                  generalize qn.cells = nc at *
                  go_wp2_with fail
                  go_quiet (fail)
                  have HH := Lib.hid ((HX3.out.upd0 (Upd.drewN NoF X3 nq)).pop.pop)
                  clear HX3
                  go_wp2_with fail
                  go_roundw
                  case rel => exact ⟨k + 1, S, by omega, by go_num, Lib.hid ⟨HV2.out.1, HV2.out.2, HH.out.pop.pop⟩⟩
                  case measure => simp [Go.RowKit.intOf]; omega
            · have HE := Lib.hid e
              have HWA := Lib.hid h0
              rw [h0]
              clear e h0
              as_aux_lemma =>
                have HAK : Hid (Calls Try.prog 8 #[ptr a.nb, .int .i64 o.b, .bool o.yes] V7 fun e W' => ∃ v, e = .returned (.tuple #[.bool false, v, .int .i64 8]) ∧ NIs w W' a S (outO v [] :: [boxO xb qn.cells NT, boxO ob o.cells OT, cfgO cb c])) := Lib.hid (by have := HAK0.out; rw [HE.out] at this; exact this)
                have HV2 : Hid (NV a.p S ∧ (S).n ≤ k + 1) := Lib.hid (by have h1 := HV2a.out; have h2 := HN2.out; rw [HE.out] at h1 h2; exact ⟨h1, Nat.le_trans (Nat.le_of_eq h2) (Nat.le_succ_of_le hsn)⟩)
                clear HAK0 HE HV2a HN2
                go_wp2_with fail
                refine HAK.out.mono ?_
                rintro e X1 ⟨v, rfl, hs⟩
                obtain ⟨sa, cap, hv, hcap, hcm, hat⟩ := NQ.s_row (hs.row (i := 0) rfl) (fun x hx => by cases hx)
                have hv : v = .slice sa 0 cap := hv
                have hcap : 0 ≤ cap := hcap
                subst hv
                have HAT := Lib.hid hat
                unfold maxLen at hcm
                have HX1 := Lib.hid hs
                clear hs HAK hat p1 p3
                have HWT := Lib.hid (waits_is HX1.out)
                rw [HWA.out] at HWT
                simp only [if_true] at HWT
                have HS.q : Hid (IsU (S.q).D) := Lib.hid HX1.out.ok.q.isU
                go_wp2_with fail
                refine HWT.out.mono ?_
                rintro e X2 ⟨rfl, hu⟩
                have s1 := TNot.st_new (Nt.Ok.isN HS.q.out) X2
                have hs3 := (HX1.out.upd0 hu).alloc (S.q).cells NT
                go_upto_region 14 with fail
                obtain ⟨X3, hX3⟩ : ∃ X, X2.alloc (.cells (S.q).cells NT) = X := ⟨_, rfl⟩
                obtain ⟨mb, hmb⟩ : ∃ x, X2.heap.size = x := ⟨_, rfl⟩
                rw [hX3, hmb] at hs3 ⊢
                have HX3 : Hid (NIs w X3 a S [boxO mb (S.q).cells NT, outO (.slice sa 0 cap) [], boxO xb qn.cells NT, boxO ob o.cells OT, cfgO cb c]) := Lib.hid hs3
                clear hs3 hX3 hmb s1 hu HWT HX1
                have lm : (TNot.ld (.pointer (some ⟨mb, 0, none⟩))).run Try.prog X3 = .ok (.agg S.q.cells) X3 := TNot.ld_at (Nt.Ok.isN HS.q.out) (HX3.out.sep.box 8 rfl).whole
                have lx : (TNot.ld (.pointer (some ⟨xb, 0, none⟩))).run Try.prog X3 = .ok (.agg qn.cells) X3 := TNot.ld_at (Nt.Ok.isN HQU.out) (HX3.out.sep.box 10 rfl).whole
                have hne : (neN (.agg S.q.cells) (.agg qn.cells)).run Try.prog X3 = .ok (.bool false) X3 := by
                  have hqq : qn = S.q := by rw [← HQN.out, HWA.out]; rfl
                  rw [hqq]
                  have := neN_run HS.q.out HS.q.out X3
                  rwa [same_self] at this
                generalize S.q.cells = mc at *
                generalize qn.cells = nc at *
                go_wp2_with fail
                go_quiet (fail)
                have HH := Lib.hid ((HX3.out.upd0 (Upd.drewN NoF X3 nq)).pop.pop)
                clear HX3
                go_wp2_with fail
                go_roundw
                case rel => exact ⟨k + 1, S, by omega, by go_num, Lib.hid ⟨HV2.out.1, HV2.out.2, HH.out.pop.pop⟩⟩
                case measure => simp [Go.RowKit.intOf]; omega
            · have HE := Lib.hid e
              have HWA := Lib.hid h0
              rw [h0]
              clear e h0
              as_aux_lemma =>
                have HAK : Hid (Calls Try.prog 8 #[ptr a.nb, .int .i64 o.b, .bool o.yes] V7 fun e W' => ∃ v, e = .returned (.tuple #[.bool true, v, .int .i64 0]) ∧ NIs w W' a S (outO v [] :: [boxO xb qn.cells NT, boxO ob o.cells OT, cfgO cb c])) := Lib.hid (by have := HAK0.out; rw [HE.out] at this; exact this)
                have HV2 : Hid (NV a.p S ∧ (S).n ≤ k + 1) := Lib.hid (by have h1 := HV2a.out; have h2 := HN2.out; rw [HE.out] at h1 h2; exact ⟨h1, Nat.le_trans (Nat.le_of_eq h2) (Nat.le_succ_of_le hsn)⟩)
                clear HAK0 HE HV2a HN2
                go_wp2_with fail
                refine HAK.out.mono ?_
                rintro e X1 ⟨v, rfl, hs⟩
                obtain ⟨sa, cap, hv, hcap, hcm, hat⟩ := NQ.s_row (hs.row (i := 0) rfl) (fun x hx => by cases hx)
                have hv : v = .slice sa 0 cap := hv
                have hcap : 0 ≤ cap := hcap
                subst hv
                have HAT := Lib.hid hat
                unfold maxLen at hcm
                have HX1 := Lib.hid hs
                clear hs HAK hat p1 p3
                have HWT := Lib.hid (waits_is HX1.out)
                rw [HWA.out] at HWT
                simp only [Bool.false_eq_true, if_false] at HWT
                have HNt.nil : Hid (IsU (Nt.nil).D) := Lib.hid isUZ
                go_wp2_with fail
                refine HWT.out.mono ?_
                rintro e X2 ⟨rfl, hu⟩
                have s1 := TNot.st_new (Nt.Ok.isN HNt.nil.out) X2
                have hs3 := (HX1.out.upd0 hu).alloc (Nt.nil).cells NT
                go_upto_region 14 with fail
                obtain ⟨X3, hX3⟩ : ∃ X, X2.alloc (.cells (Nt.nil).cells NT) = X := ⟨_, rfl⟩
                obtain ⟨mb, hmb⟩ : ∃ x, X2.heap.size = x := ⟨_, rfl⟩
                rw [hX3, hmb] at hs3 ⊢
                have HX3 : Hid (NIs w X3 a S [boxO mb (Nt.nil).cells NT, outO (.slice sa 0 cap) [], boxO xb qn.cells NT, boxO ob o.cells OT, cfgO cb c]) := Lib.hid hs3
                clear hs3 hX3 hmb s1 hu HWT HX1
                go_wp2_with fail
                go_quiet (fail)
                have HH := Lib.hid ((HX3.out.upd0 (Upd.drewN NoF X3 nq)).pop.pop)
                clear HX3
                go_wp2_with fail
                go_roundw
                case rel => exact ⟨k + 1, S, by omega, by go_num, Lib.hid ⟨HV2.out.1, HV2.out.2, HH.out.pop.pop⟩⟩
                case measure => simp [Go.RowKit.intOf]; omega
            · have HE := Lib.hid e
              have HWA := Lib.hid h0
              rw [h0]
              clear e h0
              as_aux_lemma =>
                have HAK : Hid (Calls Try.prog 8 #[ptr a.nb, .int .i64 o.b, .bool o.yes] V7 fun e W' => ∃ v, e = .returned (.tuple #[.bool false, v, .int .i64 110]) ∧ NIs w W' a S (outO v [] :: [boxO xb qn.cells NT, boxO ob o.cells OT, cfgO cb c])) := Lib.hid (by have := HAK0.out; rw [HE.out] at this; exact this)
                have HV2 : Hid (NV a.p S ∧ (S).n ≤ k + 1) := Lib.hid (by have h1 := HV2a.out; have h2 := HN2.out; rw [HE.out] at h1 h2; exact ⟨h1, Nat.le_trans (Nat.le_of_eq h2) (Nat.le_succ_of_le hsn)⟩)
                clear HAK0 HE HV2a HN2
                go_wp2_with fail
                refine HAK.out.mono ?_
                rintro e X1 ⟨v, rfl, hs⟩
                obtain ⟨sa, cap, hv, hcap, hcm, hat⟩ := NQ.s_row (hs.row (i := 0) rfl) (fun x hx => by cases hx)
                have hv : v = .slice sa 0 cap := hv
                have hcap : 0 ≤ cap := hcap
                subst hv
                have HAT := Lib.hid hat
                unfold maxLen at hcm
                have HX1 := Lib.hid hs
                clear hs HAK hat p1 p3
                have HWT := Lib.hid (waits_is HX1.out)
                rw [HWA.out] at HWT
                simp only [Bool.false_eq_true, if_false] at HWT
                have HNt.nil : Hid (IsU (Nt.nil).D) := Lib.hid isUZ
                go_wp2_with fail
                refine HWT.out.mono ?_
                rintro e X2 ⟨rfl, hu⟩
                have s1 := TNot.st_new (Nt.Ok.isN HNt.nil.out) X2
                have hs3 := (HX1.out.upd0 hu).alloc (Nt.nil).cells NT
                go_upto_region 14 with fail
                obtain ⟨X3, hX3⟩ : ∃ X, X2.alloc (.cells (Nt.nil).cells NT) = X := ⟨_, rfl⟩
                obtain ⟨mb, hmb⟩ : ∃ x, X2.heap.size = x := ⟨_, rfl⟩
                rw [hX3, hmb] at hs3 ⊢
                have HX3 : Hid (NIs w X3 a S [boxO mb (Nt.nil).cells NT, outO (.slice sa 0 cap) [], boxO xb qn.cells NT, boxO ob o.cells OT, cfgO cb c]) := Lib.hid hs3
                clear hs3 hX3 hmb s1 hu HWT HX1
                go_wp2_with fail
                go_quiet (fail)
                have HH := Lib.hid ((HX3.out.upd0 (Upd.drewN NoF X3 nq)).pop.pop)
                clear HX3
                go_wp2_with fail
                go_roundw
                case rel => exact ⟨k + 1, S, by omega, by go_num, Lib.hid ⟨HV2.out.1, HV2.out.2, HH.out.pop.pop⟩⟩
                case measure => simp [Go.RowKit.intOf]; omega
            · have HE := Lib.hid e
              have HWA := Lib.hid h0
              have HMB := Lib.hid hmb; have HMU := Lib.hid hmu; have HW2 := Lib.hid hw2; have HQ2 := Lib.hid hq2
              rw [h0]
              clear e h0 hmb hmu hw2 hq2
              as_aux_lemma =>
                have HAK : Hid (Calls Try.prog 8 #[ptr a.nb, .int .i64 o.b, .bool o.yes] V7 fun e W' => ∃ v, e = .returned (.tuple #[.bool false, v, .int .i64 0]) ∧ NIs w W' a S2 (outO v [m] :: [boxO xb qn.cells NT, boxO ob o.cells OT, cfgO cb c])) := Lib.hid (by have := HAK0.out; rw [HE.out] at this; exact this)
                have HV2 : Hid (NV a.p S2 ∧ (S2).n ≤ k + 1) := Lib.hid (by have h1 := HV2a.out; have h2 := HN2.out; rw [HE.out] at h1 h2; exact ⟨h1, Nat.le_trans (Nat.le_of_eq h2) (Nat.le_succ_of_le hsn)⟩)
                clear HAK0 HE HV2a HN2
                go_wp2_with fail
                refine HAK.out.mono ?_
                rintro e X1 ⟨v, rfl, hs⟩
                obtain ⟨sa, cap, hv, hcap, hcm, hat⟩ := NQ.s_row (hs.row (i := 0) rfl) (fun x hx => by simp at hx; subst hx; exact HMU.out)
                have hv : v = .slice sa 1 cap := hv
                have hcap : 1 ≤ cap := hcap
                subst hv
                have HAT := Lib.hid hat
                unfold maxLen at hcm
                have HX1 := Lib.hid hs
                clear hs HAK hat p1 p3
                have HWT := Lib.hid (waits_is HX1.out)
                rw [HW2.out, HQ2.out] at HWT
                simp only [if_true] at HWT
                have Hm : Hid (IsU (m).D) := Lib.hid HMU.out
                go_wp2_with fail
                refine HWT.out.mono ?_
                rintro e X2 ⟨rfl, hu⟩
                have s1 := TNot.st_new (Nt.Ok.isN Hm.out) X2
                have hs3 := (HX1.out.upd0 hu).alloc (m).cells NT
                go_upto_region 14 with fail
                obtain ⟨X3, hX3⟩ : ∃ X, X2.alloc (.cells (m).cells NT) = X := ⟨_, rfl⟩
                obtain ⟨mb, hmb⟩ : ∃ x, X2.heap.size = x := ⟨_, rfl⟩
                rw [hX3, hmb] at hs3 ⊢
                have HX3 : Hid (NIs w X3 a S2 [boxO mb (m).cells NT, outO (.slice sa 1 cap) [m], boxO xb qn.cells NT, boxO ob o.cells OT, cfgO cb c]) := Lib.hid hs3
                clear hs3 hX3 hmb s1 hu HWT HX1
                have hd3 : ∀ n, NIs w (X3.drewN n) a S2 [boxO mb m.cells NT, outO (.slice sa 1 cap) [m], boxO xb qn.cells NT, boxO ob o.cells OT, cfgO cb c] := fun n => HX3.out.upd0 (Upd.drewN NoF X3 n)
                have lm : ∀ n, (TNot.ld (.pointer (some ⟨mb, 0, none⟩))).run Try.prog (X3.drewN n) = .ok (.agg m.cells) (X3.drewN n) := fun n => TNot.ld_at (Nt.Ok.isN HMU.out) ((hd3 n).sep.box 8 rfl).whole
                have hne : ∀ n, (neN (.agg m.cells) (.agg m.cells)).run Try.prog (X3.drewN n) = .ok (.bool false) (X3.drewN n) := fun n => by
                  have := neN_run HMU.out HMU.out (X3.drewN n)
                  rwa [same_self] at this
                have qb : ∀ n, (X3.drewN n).cell? ⟨mb, 3, none⟩ = some (.int .i64 o.b) := fun n => (((hd3 n).sep.box 8 rfl).cell 3).trans (by rw [← HMB.out]; exact m.get3)
                have pb : ∀ n, (X3.drewN n).cell? ⟨ob, 1, none⟩ = some (.int .i64 o.b) := fun n => (((hd3 n).sep.box 11 rfl).cell 1).trans o.get1
                obtain ⟨sg, hsg, hr0⟩ := HAT.out 0 m rfl
                subst hsg
                have hrr : ∀ n k' m', [m][k']? = some m' → (X3.drewN n).rangeAt sg (k' * 24) m'.cells.toList := fun n k' m' hk' => by
                  obtain ⟨sa2, cap2, hv2, _, _, hat2⟩ := NQ.s_row ((hd3 n).row (i := 1) rfl) (fun x hx => by simp at hx; subst hx; exact HMU.out)
                  cases hv2
                  obtain ⟨g2, hg2, hr2⟩ := hat2 k' m' hk'
                  cases hg2
                  exact hr2
                have lo : ∀ n, (TNot.ld (.pointer (some ⟨sg, 0, none⟩))).run Try.prog (X3.drewN n) = .ok (.agg m.cells) (X3.drewN n) := fun n => TNot.ld_at (Nt.Ok.isN HMU.out) (hrr n 0 m rfl)
                skip
                clear hd3 hrr hr0 HAT
                generalize m.cells = mc at *
                go_wp2_with fail
                go_quiet (fail)
                have HH := Lib.hid ((HX3.out.upd0 (Upd.drewN NoF X3 nq)).pop.pop)
                clear HX3
                go_wp2_with fail
                go_roundw
                case rel => exact ⟨k + 1, S2, by omega, by go_num, Lib.hid ⟨HV2.out.1, HV2.out.2, HH.out.pop.pop⟩⟩
                case measure => simp [Go.RowKit.intOf]; omega
            · have HE := Lib.hid e
              have HWA := Lib.hid h0
              have HMB := Lib.hid hmb; have HMU := Lib.hid hmu; have HW2 := Lib.hid hw2; have HQ2 := Lib.hid hq2
              have HPK := Lib.hid hpk; have HPB := Lib.hid hpb; have HPU := Lib.hid hpu
              rw [h0]
              clear e h0 hmb hmu hw2 hq2 hpk hpb hpu
              as_aux_lemma =>
                have HAK : Hid (Calls Try.prog 8 #[ptr a.nb, .int .i64 o.b, .bool o.yes] V7 fun e W' => ∃ v, e = .returned (.tuple #[.bool false, v, .int .i64 0]) ∧ NIs w W' a S2 (outO v [pn, m] :: [boxO xb qn.cells NT, boxO ob o.cells OT, cfgO cb c])) := Lib.hid (by have := HAK0.out; rw [HE.out] at this; exact this)
                have HV2 : Hid (NV a.p S2 ∧ (S2).n ≤ k + 1) := Lib.hid (by have h1 := HV2a.out; have h2 := HN2.out; rw [HE.out] at h1 h2; exact ⟨h1, Nat.le_trans (Nat.le_of_eq h2) (Nat.le_succ_of_le hsn)⟩)
                clear HAK0 HE HV2a HN2
                go_wp2_with fail
                refine HAK.out.mono ?_
                rintro e X1 ⟨v, rfl, hs⟩
                obtain ⟨sa, cap, hv, hcap, hcm, hat⟩ := NQ.s_row (hs.row (i := 0) rfl) (fun x hx => by simp at hx; rcases hx with rfl | rfl; exact HPU.out; exact HMU.out)
                have hv : v = .slice sa 2 cap := hv
                have hcap : 2 ≤ cap := hcap
                subst hv
                have HAT := Lib.hid hat
                unfold maxLen at hcm
                have HX1 := Lib.hid hs
                clear hs HAK hat p1 p3
                have HWT := Lib.hid (waits_is HX1.out)
                rw [HW2.out, HQ2.out] at HWT
                simp only [if_true] at HWT
                have Hm : Hid (IsU (m).D) := Lib.hid HMU.out
                go_wp2_with fail
                refine HWT.out.mono ?_
                rintro e X2 ⟨rfl, hu⟩
                have s1 := TNot.st_new (Nt.Ok.isN Hm.out) X2
                have hs3 := (HX1.out.upd0 hu).alloc (m).cells NT
                go_upto_region 14 with fail
                obtain ⟨X3, hX3⟩ : ∃ X, X2.alloc (.cells (m).cells NT) = X := ⟨_, rfl⟩
                obtain ⟨mb, hmb⟩ : ∃ x, X2.heap.size = x := ⟨_, rfl⟩
                rw [hX3, hmb] at hs3 ⊢
                have HX3 : Hid (NIs w X3 a S2 [boxO mb (m).cells NT, outO (.slice sa 2 cap) [pn, m], boxO xb qn.cells NT, boxO ob o.cells OT, cfgO cb c]) := Lib.hid hs3
                clear hs3 hX3 hmb s1 hu HWT HX1
                have hd3 : ∀ n, NIs w (X3.drewN n) a S2 [boxO mb m.cells NT, outO (.slice sa 2 cap) [pn, m], boxO xb qn.cells NT, boxO ob o.cells OT, cfgO cb c] := fun n => HX3.out.upd0 (Upd.drewN NoF X3 n)
                have lm : ∀ n, (TNot.ld (.pointer (some ⟨mb, 0, none⟩))).run Try.prog (X3.drewN n) = .ok (.agg m.cells) (X3.drewN n) := fun n => TNot.ld_at (Nt.Ok.isN HMU.out) ((hd3 n).sep.box 8 rfl).whole
                have hne : ∀ n, (neN (.agg m.cells) (.agg m.cells)).run Try.prog (X3.drewN n) = .ok (.bool false) (X3.drewN n) := fun n => by
                  have := neN_run HMU.out HMU.out (X3.drewN n)
                  rwa [same_self] at this
                have qb : ∀ n, (X3.drewN n).cell? ⟨mb, 3, none⟩ = some (.int .i64 o.b) := fun n => (((hd3 n).sep.box 8 rfl).cell 3).trans (by rw [← HMB.out]; exact m.get3)
                have pb : ∀ n, (X3.drewN n).cell? ⟨ob, 1, none⟩ = some (.int .i64 o.b) := fun n => (((hd3 n).sep.box 11 rfl).cell 1).trans o.get1
                obtain ⟨sg, hsg, hr0⟩ := HAT.out 1 m rfl
                subst hsg
                have hrr : ∀ n k' m', [pn, m][k']? = some m' → (X3.drewN n).rangeAt sg (k' * 24) m'.cells.toList := fun n k' m' hk' => by
                  obtain ⟨sa2, cap2, hv2, _, _, hat2⟩ := NQ.s_row ((hd3 n).row (i := 1) rfl) (fun x hx => by simp at hx; rcases hx with rfl | rfl; exact HPU.out; exact HMU.out)
                  cases hv2
                  obtain ⟨g2, hg2, hr2⟩ := hat2 k' m' hk'
                  cases hg2
                  exact hr2
                have lo : ∀ n, (TNot.ld (.pointer (some ⟨sg, 24, none⟩))).run Try.prog (X3.drewN n) = .ok (.agg m.cells) (X3.drewN n) := fun n => TNot.ld_at (Nt.Ok.isN HMU.out) (hrr n 1 m rfl)
                have qk : ∀ n, (X3.drewN n).cell? ⟨sg, 0, none⟩ = some (.int .u8 3) := fun n => by
                  have h := hrr n 0 pn rfl 0 (.int .u8 pn.kind) (by simpa using pn.get0)
                  rw [HPK.out] at h
                  exact h
                have qd : ∀ n, (X3.drewN n).cell? ⟨sg, 3, none⟩ = some (.int .i64 pn.blk) := fun n => by
                  have h := hrr n 0 pn rfl 3 (.int .i64 pn.blk) (by simpa using pn.get3)
                  exact h
                have hpb : (pn.blk == o.b) = false := by simpa using HPB.out
                clear hd3 hrr hr0 HAT
                generalize m.cells = mc at *
                go_wp2_with fail
                go_quiet (fail)
                have HH := Lib.hid ((HX3.out.upd0 (Upd.drewN NoF X3 nq)).pop.pop)
                clear HX3
                go_wp2_with fail
                go_roundw
                case rel => exact ⟨k + 1, S2, by omega, by go_num, Lib.hid ⟨HV2.out.1, HV2.out.2, HH.out.pop.pop⟩⟩
                case measure => simp [Go.RowKit.intOf]; omega
        · have e0 : (kk == 0) = false := by simpa using k0
          by_cases k1 : kk = 1
          · subst k1
            as_aux_lemma =>
              have p1 : V7.cell? ⟨ob, 1, none⟩ = some (.int .i64 o.b) := ((HS7.out.sep.box 9 rfl).cell 1).trans o.get1
              have p2 : V7.cell? ⟨ob, 2, none⟩ = some (.int .i64 o.wd) := ((HS7.out.sep.box 9 rfl).cell 2).trans o.get2
              have HLD := Lib.hid (load_is HS7.out (by omega) o.b o.wd HOK.out.b)
              go_wp2_with fail
              refine HLD.out.mono ?_
              rintro e X1 ⟨rfl, hs⟩
              have HX1 := Lib.hid hs
              clear hs HLD p1 p2
              go_wp2_with fail
              go_roundw
              case rel => exact ⟨k + 1, loadS a.p S o.b o.wd, by omega, by go_num, Lib.hid ⟨HV.out.load _ _, Nat.le_trans (loadS_n a.p S _ _) (by omega), HX1.out.pop.pop⟩⟩
              case measure => simp [Go.RowKit.intOf]; omega
          · have e1 : (kk == 1) = false := by simpa using k1
            by_cases k2 : kk = 2
            · subst k2
              as_aux_lemma =>
                have p1 : V7.cell? ⟨ob, 1, none⟩ = some (.int .i64 o.b) := ((HS7.out.sep.box 9 rfl).cell 1).trans o.get1
                have p2 : V7.cell? ⟨ob, 2, none⟩ = some (.int .i64 o.wd) := ((HS7.out.sep.box 9 rfl).cell 2).trans o.get2
                have p4 : V7.cell? ⟨ob, 4, none⟩ = some (.int .u32 o.x) := ((HS7.out.sep.box 9 rfl).cell 4).trans o.get4
                have HLD := Lib.hid (store_is HS7.out (by omega) o.b o.wd o.x HOK.out.b)
                go_wp2_with fail
                refine HLD.out.mono ?_
                rintro e X1 ⟨rfl, hs⟩
                have HX1 := Lib.hid hs
                clear hs HLD p1 p2 p4
                go_wp2_with fail
                go_roundw
                case rel => exact ⟨k + 1, storeS a.p S o.b o.wd o.x, by omega, by go_num, Lib.hid ⟨HV.out.store HS7.out.ok _ _ _, Nat.le_trans (storeS_n a.p S _ _ _) (by omega), HX1.out.pop.pop⟩⟩
                case measure => simp [Go.RowKit.intOf]; omega
            · have e2 : (kk == 2) = false := by simpa using k2
              by_cases k3 : kk = 3
              · subst k3
                as_aux_lemma =>
                  have p5 : V7.cell? ⟨ob, 5, none⟩ = some (.int .u8 o.n.kind) := ((HS7.out.sep.box 9 rfl).cell 5).trans ((o.getN 0).trans o.n.get0)
                  have l5 : (TNot.ld (.pointer (some ⟨ob, 5, none⟩))).run Try.prog V7 = .ok (.agg o.n.cells) V7 := TNot.ld_at (Nt.Ok.isN HOK.out.n.isU) ((HS7.out.sep.box 9 rfl).range 5 _ (fun j v hv => by rw [OpN.getN]; simpa using hv))
                  have HTK := Lib.hid (take_is HS7.out o.n HOK.out.n HOK.out.nb)
                  have HV2 := Lib.hid (HV.out.take HS7.out.ok o.n)
                  have HN2 := Lib.hid (takeR_n a.p S o.n)
                  have htw := take_wa a.p S o.n
                  obtain ⟨t, ht⟩ : ∃ t, takeR a.p S o.n = t := ⟨_, rfl⟩
                  rw [ht] at HTK HV2 HN2 htw
                  clear ht p5
                  have HTW := Lib.hid htw
                  clear htw
                  go_wp2_with fail
                  refine HTK.out.mono ?_
                  rintro e X1 ⟨v, he, hs⟩
                  have he : e = .returned (.tuple #[v, .bool t.g, .int .i64 t.e]) := he
                  subst he
                  have HX1 : Hid (NIs w X1 a t.S [boxO xb qn.cells NT, boxO ob o.cells OT, cfgO cb c]) := Lib.hid hs.pop
                  clear hs l5 HTK
                  obtain ⟨qm, hqm⟩ : ∃ x, (if t.S.wa then t.S.q else Nt.nil) = x := ⟨_, rfl⟩
                  have HQM : Hid (IsU qm.D) := Lib.hid (by rw [← hqm]; split; exact HX1.out.ok.q.isU; exact isUZ)
                  have HWT := Lib.hid (waits_is HX1.out)
                  rw [hqm] at HWT
                  have HQM2 := Lib.hid hqm
                  clear hqm
                  go_wp2_with fail
                  refine HWT.out.mono ?_
                  rintro e X2 ⟨rfl, hu⟩
                  have s1 := TNot.st_new (Nt.Ok.isN HQM.out) X2
                  have hs3 := (HX1.out.upd0 hu).alloc qm.cells NT
                  go_upto_region 26 with fail
                  obtain ⟨X3, hX3⟩ : ∃ X, X2.alloc (.cells qm.cells NT) = X := ⟨_, rfl⟩
                  obtain ⟨mb, hmb⟩ : ∃ x, X2.heap.size = x := ⟨_, rfl⟩
                  rw [hX3, hmb] at hs3 ⊢
                  have HX3 : Hid (NIs w X3 a t.S [boxO mb qm.cells NT, boxO xb qn.cells NT, boxO ob o.cells OT, cfgO cb c]) := Lib.hid hs3
                  clear hs3 hX3 hmb s1 hu HWT HX1
                  have p5 : X3.cell? ⟨ob, 5, none⟩ = some (.int .u8 o.n.kind) := ((HX3.out.sep.box 10 rfl).cell 5).trans ((o.getN 0).trans o.n.get0)
                  have p8 : X3.cell? ⟨ob, 8, none⟩ = some (.int .i64 o.n.blk) := ((HX3.out.sep.box 10 rfl).cell 8).trans ((o.getN 3).trans o.n.get3)
                  have q3 : X3.cell? ⟨xb, 3, none⟩ = some (.int .i64 qn.blk) := ((HX3.out.sep.box 9 rfl).cell 3).trans qn.get3
                  have lm : (TNot.ld (.pointer (some ⟨mb, 0, none⟩))).run Try.prog X3 = .ok (.agg qm.cells) X3 := TNot.ld_at (Nt.Ok.isN HQM.out) (HX3.out.sep.box 8 rfl).whole
                  have lx : (TNot.ld (.pointer (some ⟨xb, 0, none⟩))).run Try.prog X3 = .ok (.agg qn.cells) X3 := TNot.ld_at (Nt.Ok.isN HQU.out) (HX3.out.sep.box 9 rfl).whole
                  have hx3 := HX3.out.pop
                  rcases HTW.out with ⟨e1, e2⟩ | ⟨e1, e2, e3, e4, e5⟩
                  · have hqq : qm = qn := by rw [← HQM2.out, ← HQN.out, e1, e2]
                    subst hqq
                    have hne := neN_run HQM.out HQM.out X3
                    rw [same_self] at hne
                    have HH := Lib.hid hx3
                    clear hx3 HX3 HTW
                    rw [e1]
                    clear e1 e2 HQM2 HQN
                    generalize qm.blk = qmb at *
                    generalize qm.cells = mc at *
                    generalize o.n.blk = ob5 at *
                    generalize o.n.kind = ok5 at *
                    cases S.wa
                    · cases hk6 : (ok5 == 6)
                      · as_aux_lemma =>
                          go_wp2_with fail
                          go_roundw
                          case rel => exact ⟨k + 1, t.S, by omega, by go_num, Lib.hid ⟨HV2.out, by rw [HN2.out]; omega, HH.out.pop.pop⟩⟩
                          case measure => simp [Go.RowKit.intOf]; omega
                      · as_aux_lemma =>
                          go_wp2_with fail
                          go_roundw
                          case rel => exact ⟨k + 1, t.S, by omega, by go_num, Lib.hid ⟨HV2.out, by rw [HN2.out]; omega, HH.out.pop.pop⟩⟩
                          case measure => simp [Go.RowKit.intOf]; omega
                    · cases hk6 : (ok5 == 6)
                      · as_aux_lemma =>
                          go_wp2_with fail
                          go_roundw
                          case rel => exact ⟨k + 1, t.S, by omega, by go_num, Lib.hid ⟨HV2.out, by rw [HN2.out]; omega, HH.out.pop.pop⟩⟩
                          case measure => simp [Go.RowKit.intOf]; omega
                      · as_aux_lemma =>
                          go_wp2_with fail
                          go_roundw
                          case rel => exact ⟨k + 1, t.S, by omega, by go_num, Lib.hid ⟨HV2.out, by rw [HN2.out]; omega, HH.out.pop.pop⟩⟩
                          case measure => simp [Go.RowKit.intOf]; omega
                  · have HH := Lib.hid hx3
                    have hqn : qn = S.q := by rw [← HQN.out, e1]; rfl
                    have hbk : (o.n.blk != qn.blk) = false := by rw [hqn, e5]; simp
                    clear hx3 HX3 HTW lm lx HQM2 HQN
                    rw [e1, e2, e3]
                    rw [hqn] at q3 hbk
                    clear e1 e2 e3 e5 hqn
                    rcases e4 with hk6 | hk7
                    · rw [hk6] at p5
                      as_aux_lemma =>
                        go_wp2_with fail
                        go_roundw
                        case rel => exact ⟨k + 1, t.S, by omega, by go_num, Lib.hid ⟨HV2.out, by rw [HN2.out]; omega, HH.out.pop.pop⟩⟩
                        case measure => simp [Go.RowKit.intOf]; omega
                    · rw [hk7] at p5
                      as_aux_lemma =>
                        go_wp2_with fail
                        go_roundw
                        case rel => exact ⟨k + 1, t.S, by omega, by go_num, Lib.hid ⟨HV2.out, by rw [HN2.out]; omega, HH.out.pop.pop⟩⟩
                        case measure => simp [Go.RowKit.intOf]; omega
              · have e3 : (kk == 3) = false := by simpa using k3
                by_cases k4 : kk = 4
                · subst k4
                  as_aux_lemma =>
                    have HSD := Lib.hid (HS7.out.upd0 (Upd.drew NoF V7))
                    have hS0 : (fun X : World => X.cell? ⟨ob, 4, none⟩ = some (.int .u32 o.x)) V7.drew := ((HSD.out.sep.box 9 rfl).cell 4).trans o.get4
                    have y3 := fun w => bdS_run w
                    have HWR : Hid (IntKind.u64.wrap (o.x + 1) = o.x + 1 ∧ IntKind.u64.wrap o.x = o.x) := Lib.hid ⟨IntWalk.u64_in _ (by have := HOK.out.x; omega), IntWalk.u64_in _ (by have := HOK.out.x; omega)⟩
                    go_wp2_with fail
                    refine wp_region_held_drew (S := (fun X : World => X.cell? ⟨ob, 4, none⟩ = some (.int .u32 o.x))) (by kernel_rfl) (hS0) (fun hHeld => ?_)
                    clear hS0
                    obtain ⟨X0, hX0⟩ : ∃ X, V7.drew = X := ⟨_, rfl⟩
                    rw [hX0] at hHeld HSD ⊢
                    clear hX0
                    refine rgn 0 (v := ?vq1) hHeld ?yq1 ?_
                    case yq1 => (intro w hSw; (try dsimp only at hSw); have k4 := hSw; go_simp; try with_reducible rfl)
                    simp only [Act.put, rn1, rn2, rn3, rn4, rn5, rn6]
                    refine rgn 2 (v := ?vq2) hHeld ?yq2 ?_
                    case yq2 => (intro w hSw; (try dsimp only at hSw); have k4 := hSw; go_simp; try with_reducible rfl)
                    simp only [Act.put, rn1, rn2, rn3, rn4, rn5, rn6]
                    refine rgn 3 (v := ?vq3) hHeld ?yq3 ?_
                    case yq3 => (intro w hSw; (try dsimp only at hSw); have k4 := hSw; go_simp; try with_reducible rfl)
                    simp only [Act.put, rn1, rn2, rn3, rn4, rn5, rn6]
                    refine rgn 4 (v := ?vq4) hHeld ?yq4 ?_
                    case yq4 => (intro w hSw; (try dsimp only at hSw); have k4 := hSw; go_simp; try with_reducible rfl)
                    simp only [Act.put, rn1, rn2, rn3, rn4, rn5, rn6]
                    refine rgn 5 (v := .int .u64 o.x) hHeld ?yq5 ?_
                    case yq5 => (intro w hSw; (try dsimp only at hSw); have k4 := hSw; have e1 := HWR.out.1; have e2 := HWR.out.2; go_simp; try with_reducible rfl)
                    simp only [Act.put, rn1, rn2, rn3, rn4, rn5, rn6]
                    refine rgn 6 (v := .int .u64 (o.x + 1)) hHeld ?yq6 ?_
                    case yq6 => (intro w hSw; (try dsimp only at hSw); have k4 := hSw; have e1 := HWR.out.1; have e2 := HWR.out.2; go_simp; try with_reducible rfl)
                    simp only [Act.put, rn1, rn2, rn3, rn4, rn5, rn6]
                    refine reg_step (i := 1) (by kernel_rfl) rfl (by kernel_rfl) (fun K hK => ?_)
                    go_simp
                    refine (deal_is HSD.out).mono ?_
                    rintro e X1 ⟨rfl, rfl⟩
                    have HS := hHeld
                    go_wp2_with fail
                    refine hK.out _ _ HS (fun hHeld2 => ?_)
                    clear hK hHeld2 hHeld; have hHeld := HS; clear HS
                    try simp only [Act.put, rn1, rn2, rn3, rn4, rn5, rn6]
                    refine reg_step (i := 7) (by kernel_rfl) rfl (by kernel_rfl) (fun K hK => ?_)
                    go_simp
                    refine (dbegin_is HSD.out 0 (o.x + 1) (by have := HOK.out.x; omega)).mono ?_
                    rintro e X2 ⟨rfl, hs⟩
                    have HX2 := Lib.hid hs
                    have HS : (fun X : World => X.cell? ⟨ob, 4, none⟩ = some (.int .u32 o.x)) X2 := ((hs.sep.box 9 rfl).cell 4).trans o.get4
                    clear hs
                    go_wp2_with fail
                    refine hK.out _ _ HS (fun hHeld2 => ?_)
                    clear hK hHeld2 hHeld; have hHeld := HS; clear HS
                    try simp only [Act.put, rn1, rn2, rn3, rn4, rn5, rn6]
                    refine wpAnyH_done (by kernel_rfl) ?_ _
                    clear hHeld
                    go_wp2_with fail
                    go_roundw
                    case rel => exact ⟨k + 1, { S with d := beginS S.c.nest S.d 0 (o.x + 1) }, by omega, by go_num, Lib.hid ⟨HV.out.begin (st := o.x + 1) (by have := HOK.out.x; omega) HS7.out.ok, Nat.le_succ_of_le hsn, HX2.out.pop.pop⟩⟩
                    case measure => simp [Go.RowKit.intOf]; omega
                · have e4 : (kk == 4) = false := by simpa using k4
                  go_wp2_with fail
                  go_roundw
                  case rel => exact ⟨k + 1, S, by omega, by go_num, Lib.hid ⟨HV.out, by omega, HS7.out.pop.pop⟩⟩
                  case measure => simp [Go.RowKit.intOf]; omega
      · obtain rfl : k = len1 := by omega
        go_wp2_with fail
        refine (works_is HS4.out.objs).mono ?_
        rintro e w9 ⟨rfl, hs⟩
        have HS9 := Lib.hid hs
        clear hs
        go_wp2
        go_ret
        exact ⟨rfl, HS9.out.below⟩
  · have HNB := Lib.hid (fun W => new_bad c core hm W)
    clear hm
    go_enter Try.func4, Try.ntmps4
    go_upto_region 1 with fail
    rw [HW0.out.1, HW0.out.2]
    have lc : (TCfg.ld (.pointer (some ⟨cb, 0, none⟩))).run Try.prog W0 = .ok (.agg (CC c)) W0 := TCfg.ld_at (CC_isN c) (HS0.out.box 0 rfl).whole
    go_wp2_with fail
    refine (HNB.out _).mono ?_
    rintro e w2 ⟨er, rfl, her, hu⟩
    have HS3 := Lib.hid (HS0.out.upd0 hu)
    clear hu lc HNB HS0 HW0
    go_wp2_with fail
    refine (works_is HS3.out).mono ?_
    rintro e w9 ⟨rfl, hs⟩
    have HS9 := Lib.hid hs
    clear hs
    go_wp2
    go_ret
    exact ⟨rfl, HS9.out.below⟩
end Go.Proofs.Ytjgeflbhmhmjdaa.NR
