/- NearPlays: any plan, any core, any calls: each answer, and what it has behind it. -/
import Derived.Test.YtjgeflbhmhmjdaaGreatNearDo
set_option linter.unusedSimpArgs false
set_option linter.unusedVariables false
namespace Go.Proofs.YtjgeflbhmhmjdaaGreat.NR
open Go.RowKit
open BU (IsU words)
open PL (Cfg CC CV May)
open KA (Kp CIs OkA LT UT Like)
open DL (DS CD SV stampE beginE beginS endB openE endS failS overV overS)
attribute [local go_sem] Oper.semAt_some
attribute [local go_sem high] guardNote guardBlk guardLine
attribute [local go_sem ↓] eqN_eq neN_eq eqB_eq neB_eq neL_eq TNot.ld_eq TNot.st_eq TNot.al_eq TNot.bx_eq TBlk.ld_eq TBlk.st_eq TBlk.al_eq TBlk.bx_eq TLin.ld_eq TLin.st_eq TLin.al_eq TLin.bx_eq TCfg.ld_eq TCfg.st_eq TCfg.al_eq TCfg.bx_eq TOpN.ld_eq TOpN.st_eq TOpN.al_eq TOpN.bx_eq
attribute [local go_sem] TNot.al_run TNot.bx_run TBlk.al_run TBlk.bx_run TLin.al_run TLin.bx_run TCfg.al_run TCfg.bx_run TOpN.al_run TOpN.bx_run
section
variable {w0 W W' V : World} {a : Ad} {r : Rd} {S R : Ns} {L : List Obj}
theorem Js.toR (h : Js w0 W a r S L) : RIs w0 W r S (a.objs S L) := h.n.toR (rok h.v h.n.ok)
theorem Js.upd0 (h : Js w0 W a r S L) (hu : Upd NoF W W') : Js w0 W' a r S L := ⟨h.n.upd0 hu, h.v⟩
theorem Js.alloc (h : Js w0 W a r S L) (cs : Array Value) (T : TypeId) : Js w0 (W.alloc (.cells cs T)) a r S (boxO W.heap.size cs T :: L) := ⟨h.n.allocR cs T, h.v⟩
theorem Js.pop {Φ : Obj} (h : Js w0 W a r S (Φ :: L)) : Js w0 W a r S L := ⟨h.n.popR, h.v⟩
theorem Js.objs (h : Js w0 W a r S L) : Sep NoF w0 W L := by
  have h1 := h.n.objs
  exact ((((((((h1.drop 0 (by simp)).drop 0 (by simp)).drop 0 (by simp)).drop 0 (by simp)).drop 0 (by simp)).drop 0 (by simp)).drop 0 (by simp)).drop 0 (by simp)).drop 0 (by simp)
set_option maxRecDepth 100000 in
set_option maxHeartbeats 8000000 in
theorem nplays_any (c : Cfg) (core : Int) (a1 : Option Addr) (len1 cap1 : Nat) (O : Nat → OpN) (w : World) (h1 : IsRowS w a1 len1 cap1 29 (fun i => (O i).cells)) (hO : ∀ i, i < len1 → (O i).Ok) :
    Calls Tryz.prog 4 #[CV c, .int .i64 core, .slice a1 len1 cap1] w fun e w' => e = .returned (.bool true) ∧ Below w.heap.size w w' := by
  have HC1 := Lib.hid (fun i (hi : i < len1) => h1.at (by decide) hi)
  have HO := Lib.hid hO
  obtain ⟨lc1, m1, _⟩ := h1
  unfold maxLen at m1
  obtain ⟨W0, hW0⟩ : ∃ W0, w.alloc (.cells (CC c) CT) = W0 := ⟨_, rfl⟩
  obtain ⟨cb, hcb⟩ : ∃ x, w.heap.size = x := ⟨_, rfl⟩
  have HS0 : Hid (Sep NoF w W0 [cfgO cb c]) := Lib.hid (by rw [← hW0, ← hcb]; exact (Sep.zero NoF w).alloc _ _)
  have HW0 := Lib.hid (And.intro hW0 hcb)
  clear hW0 hcb hO
  by_cases g1 : 300 < len1
  · have hb1 : decide ((300 : Int) < (len1 : Int)) = true := by simp; omega
    go_enter Tryz.func4, Tryz.ntmps4
    go_upto_region 1 with fail
    rw [HW0.out.1, HW0.out.2]
    go_wp2_with fail
    refine (works_is HS0.out).mono ?_
    rintro e w9 ⟨rfl, hs⟩
    have HS9 := Lib.hid hs
    clear hs
    go_wp2
    go_ret
    exact ⟨rfl, HS9.out.below⟩
  have hb1 : decide ((300 : Int) < (len1 : Int)) = false := by simp; omega
  by_cases hm : May c
  · by_cases hcr : 0 ≤ core ∧ core < c.cores
    · have HMY := Lib.hid hm
      have HCR := Lib.hid hcr
      have HNW := Lib.hid (fun W (h : Sep NoF w W [cfgO cb c]) => near_new h c hm core hcr.1 hcr.2)
      have HRW := Lib.hid (fun W (L' : List Obj) (h : Sep NoF w W L') => rnear_new h c hm core hcr.1 hcr.2)
      have HDA := Lib.hid (PL.rdata_any c hm.1 hm.2.2.1 hm.2.1)
      obtain ⟨dt, hdt⟩ : ∃ d : Nat, c.blocks - c.cores * c.logs = (d : Int) := ⟨(c.blocks - c.cores * c.logs).toNat, by have := hm; unfold May at this; omega⟩
      have hdt2 : dt ≤ 256 := by have := MK.data_le hm; omega
      rw [hdt] at HDA
      clear hm hcr hdt
      go_enter Tryz.func4, Tryz.ntmps4
      go_upto_region 1 with fail
      rw [HW0.out.1, HW0.out.2]
      have lc : (TCfg.ld (.pointer (some ⟨cb, 0, none⟩))).run Tryz.prog W0 = .ok (.agg (CC c)) W0 := TCfg.ld_at (CC_isN c) (HS0.out.box 0 rfl).whole
      go_wp2_with fail
      refine (HNW.out _ HS0.out).mono ?_
      rintro e w2 ⟨a0, rfl, hs⟩
      have HS3 : Hid (NIs w w2 a0 (Ns.new c core) [cfgO cb c]) := Lib.hid hs
      clear hs lc HNW HS0 HW0
      have lc : (TCfg.ld (.pointer (some ⟨cb, 0, none⟩))).run Tryz.prog w2 = .ok (.agg (CC c)) w2 := TCfg.ld_at (CC_isN c) (HS3.out.sep.box 8 rfl).whole
      go_wp2_with fail
      refine (HRW.out _ _ HS3.out.sep).mono ?_
      rintro e w3 ⟨r0, rfl, hs⟩
      have HS4 : Hid (Js w w3 a0 r0 (Ns.new c core) [cfgO cb c]) := Lib.hid ⟨hs.toN HS3.out.ok, ⟨⟨by have h1 := HS3.out.ok.fits.es; have h2 := hs.ok.ok.fits.es; omega, by have h1 := HS3.out.ok.fits.ew; have h2 := hs.ok.ok.fits.ew; omega⟩, NV.new _ _ _, fun h => (by cases h), HCR.out, fun b hb => (by cases hb), hs.ok.ok.fits⟩⟩
      clear hs lc HRW HS3
      obtain ⟨rn, hrn⟩ : ∃ x, r0.nb = x := ⟨_, rfl⟩
      rw [hrn]
      have HRN := Lib.hid hrn
      clear hrn
      go_wp2_with fail
      go_loopw [7, 60] (fun kv i wr => ∃ (k : Nat) (a : Ad) (r : Rd) (S : Ns), k ≤ len1 ∧ kv = ptr a.nb ∧ i = .int .i64 k ∧ Hid (r.nb = rn ∧ S.n ≤ k ∧ S.c = c ∧ Js w wr a r S [cfgO cb c])) (fun _ i _ => len1 - (Go.RowKit.intOf i).toNat)
      case atStart => exact ⟨0, a0, r0, Ns.new c core, Nat.zero_le _, rfl, rfl, Lib.hid ⟨HRN.out, Nat.le_refl 0, rfl, HS4.out⟩⟩
      case round =>
        obtain ⟨k, a, r, S, hk, rfl, rfl, HI⟩ := hrel
        obtain ⟨wo, hwo⟩ : ∃ x, x = wr := ⟨_, rfl⟩
        subst hwo
        obtain ⟨hrn, hsn, hsc, hjs⟩ := HI.out
        have HJ := Lib.hid hjs
        have HRN2 := Lib.hid hrn
        have HSC := Lib.hid hsc
        clear HI hjs hrn hsc HS4
        by_cases hlt : k < len1
        · obtain ⟨x, g, q, rfl, hxa, hgl, hrg⟩ := HC1.out k hlt
          have hok := HO.out k hlt
          have hrw : wo.rangeAt g q (O k).cells.toList := fun j v hv => HJ.out.objs.old (hrg j v hv)
          generalize O k = o at *
          have hoN := OpN.isN hok
          have HOK := Lib.hid hok; have HON := Lib.hid hoN
          have l1 := TOpN.ld_at hoN hrw
          have l2 := TOpN.ld_at hoN (World.rangeAt_alloc hrw (.cells TOpN.Z OT))
          have s1 := TOpN.st_new hoN wo
          have hs5 := HJ.out.alloc o.cells OT
          obtain ⟨V5, hV5⟩ : ∃ X, wo.alloc (.cells o.cells OT) = X := ⟨_, rfl⟩
          obtain ⟨ob, hob⟩ : ∃ x, wo.heap.size = x := ⟨_, rfl⟩
          rw [hV5, hob] at hs5
          have HV5 := Lib.hid (And.intro hV5 hob)
          have HS5 := Lib.hid hs5
          have l5 : (TOpN.ld (.pointer (some ⟨ob, 0, none⟩))).run Tryz.prog V5 = .ok (.agg o.cells) V5 := TOpN.ld_at hoN (hs5.n.sep.box 17 rfl).whole
          have hdo := does_is hs5 o hok (by omega)
          rw [HRN2.out] at hdo
          have HDO := Lib.hid hdo
          clear hok hoN hrw hrg hs5 hV5 hob hdo HJ
          go_upto_region 12 with fail
          rw [HV5.out.1, HV5.out.2]
          clear l1 l2 s1 HV5
          go_wp2_with fail
          refine HDO.out.mono ?_
          rintro e V6 ⟨a2, r2, S2, rfl, hr2, hn2, hc2, hs⟩
          have HJ2 := Lib.hid hs.pop
          have HST : Hid (r2.nb = rn ∧ S2.n ≤ k + 1 ∧ S2.c = c) := Lib.hid ⟨hr2, by omega, hc2.trans HSC.out⟩
          clear hs hr2 hn2 hc2 HDO l5 HS5
          obtain ⟨qn, hqn⟩ : ∃ x, (if S2.wa then S2.q else Nt.nil) = x := ⟨_, rfl⟩
          have HQU : Hid (IsU qn.D) := Lib.hid (by rw [← hqn]; split; exact HJ2.out.n.ok.q.isU; exact isUZ)
          have HWT := Lib.hid (waits_is HJ2.out.n)
          rw [hqn] at HWT
          have HQN := Lib.hid hqn
          clear hqn
          go_wp2_with fail
          refine HWT.out.mono ?_
          rintro e V7 ⟨rfl, hu⟩
          have s1 := TNot.st_new (Nt.Ok.isN HQU.out) V7
          have hs7 := (HJ2.out.upd0 hu).alloc qn.cells NT
          obtain ⟨V8, hV8⟩ : ∃ X, V7.alloc (.cells qn.cells NT) = X := ⟨_, rfl⟩
          obtain ⟨xb, hxb⟩ : ∃ x, V7.heap.size = x := ⟨_, rfl⟩
          rw [hV8, hxb] at hs7
          have HV8 := Lib.hid (And.intro hV8 hxb)
          have HS7 := Lib.hid hs7
          have hd : ∀ n, Js w (V8.drewN n) a2 r2 S2 [boxO xb qn.cells NT, cfgO cb c] := fun n => hs7.upd0 (Upd.drewN NoF V8 n)
          have HDD := Lib.hid hd
          have c37 : V8.cell? ⟨rn, 37, none⟩ = some (.bool S2.wa) := by rw [← HST.out.1]; exact hs7.toR.wc
          have c12 : V8.cell? ⟨rn, 12, none⟩ = some (ptr r2.db) := by rw [← HST.out.1]; exact hs7.toR.hd (by decide)
          have c20 : V8.cell? ⟨r2.db, 20, none⟩ = some (.bool S2.d.fl) := hs7.toR.deal.cell 20
          have lm : ∀ n, (TNot.ld (.pointer (some ⟨xb, 0, none⟩))).run Tryz.prog (V8.drewN n) = .ok (.agg qn.cells) (V8.drewN n) := fun n => TNot.ld_at (Nt.Ok.isN HQU.out) ((hd n).n.sep.box 17 rfl).whole
          have HDL := Lib.hid (fun n => deal_is (hd n).n)
          have HSM := Lib.hid (fun n => DL.stamp_any a2.db S2.c.nest S2.d _ (hd n).n.deal)
          have HFL := Lib.hid (fun n => DL.flag_any a2.db S2.c.nest S2.d _ (hd n).n.deal)
          have HRS := Lib.hid (fun n => rdstamp_is (hd n).toR)
          clear hs7 hd hV8 hxb hu HWT HJ2
          go_upto_region 17 with fail
          rw [HV8.out.1, HV8.out.2]
          clear s1 HV8
          have hwq : ∀ b, S2.wa = b → True := fun _ _ => trivial
          clear hwq
          cases hwa : S2.wa
          · rw [hwa] at c37
            generalize S2.d.fl = fl at *
            generalize stampE S2.d = sp at *
            go_quiet (first | (go_at_call 21; exact Calls.quiet_of_same ((HDL.out _).mono (fun _ _ h => ⟨h.1, h.2.symm⟩))) | (go_at_call 25; exact Calls.quiet_of_same ((HSM.out _).mono (fun _ _ h => ⟨h.1, h.2.symm⟩))) | (go_at_call 27; exact Calls.quiet_of_same ((HFL.out _).mono (fun _ _ h => ⟨h.1, h.2.symm⟩))) | (go_at_call 26; exact Calls.quiet_of_same ((HRS.out _).mono (fun _ _ h => ⟨h.1, h.2.symm⟩))))
            have HH := Lib.hid ((HDD.out nq).pop)
            clear HS7 HDD lm HDL HSM HFL HRS c37 c12 c20
            go_wp2_with fail
            go_roundw
            case rel => exact ⟨k + 1, a2, r2, S2, by omega, rfl, by go_num, Lib.hid ⟨HST.out.1, HST.out.2.1, HST.out.2.2, HH.out⟩⟩
            case measure => simp [Go.RowKit.intOf]; omega
          · rw [hwa] at c37
            have hq1 : qn = S2.q := by have := HQN.out; rw [hwa] at this; exact this.symm
            have l13 : ∀ n, (TNot.ld (.pointer (some ⟨rn, 13, none⟩))).run Tryz.prog (V8.drewN n) = .ok (.agg qn.cells) (V8.drewN n) := fun n => by rw [hq1, ← HST.out.1]; exact (HDD.out n).toR.ldq
            have hne : ∀ n, (neN (.agg qn.cells) (.agg qn.cells)).run Tryz.prog (V8.drewN n) = .ok (.bool false) (V8.drewN n) := fun n => by
              have := neN_run HQU.out HQU.out (V8.drewN n)
              rwa [same_self] at this
            clear hq1 HQN
            generalize S2.d.fl = fl at *
            generalize stampE S2.d = sp at *
            generalize hqc : qn.cells = qc at lm l13 hne
            go_quiet (first | (go_at_call 21; exact Calls.quiet_of_same ((HDL.out _).mono (fun _ _ h => ⟨h.1, h.2.symm⟩))) | (go_at_call 25; exact Calls.quiet_of_same ((HSM.out _).mono (fun _ _ h => ⟨h.1, h.2.symm⟩))) | (go_at_call 27; exact Calls.quiet_of_same ((HFL.out _).mono (fun _ _ h => ⟨h.1, h.2.symm⟩))) | (go_at_call 26; exact Calls.quiet_of_same ((HRS.out _).mono (fun _ _ h => ⟨h.1, h.2.symm⟩))))
            have HH := Lib.hid ((HDD.out nq).pop)
            clear HS7 HDD lm HDL HSM HFL HRS c37 c12 c20 l13 hne
            go_wp2_with fail
            go_roundw
            case rel => exact ⟨k + 1, a2, r2, S2, by omega, rfl, by go_num, Lib.hid ⟨HST.out.1, HST.out.2.1, HST.out.2.2, HH.out⟩⟩
            case measure => simp [Go.RowKit.intOf]; omega
        · have lc : (TCfg.ld (.pointer (some ⟨cb, 0, none⟩))).run Tryz.prog wo = .ok (.agg (CC c)) wo := TCfg.ld_at (CC_isN c) (HJ.out.n.sep.box 17 rfl).whole
          go_wp2_with fail
          refine (HDA.out _).mono ?_
          rintro e V1 ⟨rfl, hu⟩
          have HJ1 := Lib.hid (HJ.out.upd0 hu)
          clear hu lc HJ HDA
          go_wp2_with fail
          go_loopw [123] (fun i wr => ∃ b : Nat, b ≤ dt ∧ i = .int .i64 b ∧ Hid (Js w wr a r S [cfgO cb c])) (fun i _ => dt - (Go.RowKit.intOf i).toNat)
          case atStart => exact ⟨0, Nat.zero_le _, rfl, HJ1⟩
          case round =>
            obtain ⟨b, hb, rfl, HI2⟩ := hrel
            obtain ⟨wp, hwp⟩ : ∃ x, x = wr := ⟨_, rfl⟩
            subst hwp
            clear HJ1
            by_cases hlt2 : b < dt
            · have hlk := like_all (S := S) HI2.out.v.like
              have HLU := Lib.hid (KA.fnd_ok (p := a.p) HI2.out.n.ok.okA (b : Int)).isU
              have HBU := Lib.hid (bkD_isU HI2.out.n.ok.allU (b : Int))
              have HLN := Lib.hid (line_is HI2.out.n (b : Int))
              have HFB : Hid (MM.fit (b : Int)) := Lib.hid (fit_k (by unfold KA.mayK; simp only [Bool.and_eq_true, decide_eq_true_eq]; omega))
              have HRF := Lib.hid (fun (X : World) (L' : List Obj) (hx : RIs w X r S L') => rcfind_is hx (b : Int))
              rw [hlk.2.2.2.2.2.2.2.2.2.1, hlk.2.2.2.2.2.2.2.2.2.2] at HRF
              clear hlk
              obtain ⟨l, hl⟩ : ∃ x, a.p.fnd S.A (b : Int) = x := ⟨_, rfl⟩
              obtain ⟨y, hy⟩ : ∃ x, (a.p.place S.A (b : Int)).isSome = x := ⟨_, rfl⟩
              rw [hl, hy] at HLN HRF
              rw [hl] at HLU
              have HLL := Lib.hid (Ln.Ok.isN HLU.out)
              have HBB := Lib.hid (isU_N HBU.out)
              clear hl hy
              go_wp2_with fail
              refine HLN.out.mono ?_
              rintro e X1 ⟨rfl, hu⟩
              have s1 := TLin.st_new HLL.out X1
              have hs := (HI2.out.upd0 hu).alloc l.cells LT
              obtain ⟨X2, hX2⟩ : ∃ X, X1.alloc (.cells l.cells LT) = X := ⟨_, rfl⟩
              obtain ⟨x18, hx18⟩ : ∃ X, X1.heap.size = X := ⟨_, rfl⟩
              rw [hX2, hx18] at hs s1
              have HA2 := Lib.hid hs
              clear hs hu HLN
              go_upto_region 24 with fail
              clear s1 hX2 hx18
              have c9 : X2.cell? ⟨rn, 9, none⟩ = some (ptr r.p.kb) := by rw [← HRN2.out]; exact HA2.out.toR.hd (by decide)
              go_wp2_with fail
              refine (HRF.out _ _ HA2.out.toR).mono ?_
              rintro e X3 ⟨rfl, hu⟩
              have s1 := TLin.st_new HLL.out X3
              have hs := (HA2.out.upd0 hu).alloc l.cells LT
              obtain ⟨X4, hX4⟩ : ∃ X, X3.alloc (.cells l.cells LT) = X := ⟨_, rfl⟩
              obtain ⟨x20, hx20⟩ : ∃ X, X3.heap.size = X := ⟨_, rfl⟩
              rw [hX4, hx20] at hs s1
              have HA4 := Lib.hid hs
              clear hs hu HRF c9 HA2
              go_upto_region 25 with fail
              clear s1 hX4 hx20
              go_wp2_with fail
              refine (back_is HA4.out.n (b : Int)).mono ?_
              rintro e X5 ⟨rfl, hu⟩
              have s1 := TBlk.st_new HBB.out X5
              have hs := (HA4.out.upd0 hu).alloc (bkD S.zs (b : Int)) BT
              obtain ⟨X6, hX6⟩ : ∃ X, X5.alloc (.cells (bkD S.zs (b : Int)) BT) = X := ⟨_, rfl⟩
              obtain ⟨x22, hx22⟩ : ∃ X, X5.heap.size = X := ⟨_, rfl⟩
              rw [hX6, hx22] at hs s1
              have HA6 := Lib.hid hs
              clear hs hu HA4
              go_upto_region 26 with fail
              clear s1 hX6 hx22
              have c10 : X6.cell? ⟨rn, 10, none⟩ = some (ptr r.bb) := by rw [← HRN2.out]; exact HA6.out.toR.hd (by decide)
              go_wp2_with fail
              refine (rbfind_is HA6.out.toR (b : Int)).mono ?_
              rintro e X7 ⟨rfl, hu⟩
              have s1 := TBlk.st_new HBB.out X7
              have hs := (HA6.out.upd0 hu).alloc (bkD S.zs (b : Int)) BT
              obtain ⟨X8, hX8⟩ : ∃ X, X7.alloc (.cells (bkD S.zs (b : Int)) BT) = X := ⟨_, rfl⟩
              obtain ⟨x25, hx25⟩ : ∃ X, X7.heap.size = X := ⟨_, rfl⟩
              rw [hX8, hx25] at hs s1
              have HA8 := Lib.hid hs
              clear hs hu c10 HA6
              go_upto_region 27 with fail
              clear s1 hX8 hx25
              go_wp2_with fail
              refine (marked_is HA8.out.n (b : Int) HFB.out).mono ?_
              rintro e X9 ⟨rfl, hu⟩
              have HA9 := Lib.hid (HA8.out.upd0 hu)
              have c11 : X9.cell? ⟨rn, 11, none⟩ = some (ptr r.rb) := by rw [← HRN2.out]; exact HA9.out.toR.hd (by decide)
              clear hu HA8
              go_wp2_with fail
              refine (rmhas_is HA9.out.toR (b : Int)).mono ?_
              rintro e Xa ⟨rfl, hu⟩
              have HAa := Lib.hid (HA9.out.upd0 hu)
              clear hu HA9 c11
              have k18 : (TLin.ld (.pointer (some ⟨x18, 0, none⟩))).run Tryz.prog Xa = .ok (.agg l.cells) Xa := TLin.ld_at HLL.out (HAa.out.n.sep.box 20 rfl).whole
              have k20 : (TLin.ld (.pointer (some ⟨x20, 0, none⟩))).run Tryz.prog Xa = .ok (.agg l.cells) Xa := TLin.ld_at HLL.out (HAa.out.n.sep.box 19 rfl).whole
              have k22 : (TBlk.ld (.pointer (some ⟨x22, 0, none⟩))).run Tryz.prog Xa = .ok (.agg (bkD S.zs (b : Int))) Xa := TBlk.ld_at HBB.out (HAa.out.n.sep.box 18 rfl).whole
              have k25 : (TBlk.ld (.pointer (some ⟨x25, 0, none⟩))).run Tryz.prog Xa = .ok (.agg (bkD S.zs (b : Int))) Xa := TBlk.ld_at HBB.out (HAa.out.n.sep.box 17 rfl).whole
              have n1 : (neL (.agg l.cells) (.agg l.cells)).run Tryz.prog Xa = .ok (.bool false) Xa := by
                have := neL_run HLU.out HLU.out Xa
                rwa [Ln.same_self] at this
              have n2 : (neB (.agg (bkD S.zs (b : Int))) (.agg (bkD S.zs (b : Int)))).run Tryz.prog Xa = .ok (.bool false) Xa := by
                have := neB_run HBU.out HBU.out Xa
                simpa using this
              have HAb := Lib.hid HAa.out.pop.pop.pop.pop
              clear HAa HLU HBU HLL HBB
              generalize l.cells = lcs at *
              generalize bkD S.zs (b : Int) = bcs at *
              generalize bkL S.zs (b : Int) = blv at *
              generalize bkI S.zs (b : Int) = bis at *
              generalize (S.f (b : Int)).1 = f1 at *
              generalize (S.f (b : Int)).2 = f2 at *
              go_wp2_with fail
              go_roundw
              case rel => exact ⟨b + 1, by omega, by go_num, HAb⟩
              case measure => simp [Go.RowKit.intOf]; omega
            · have HS9s := Lib.hid HI2.out.objs
              go_wp2_with fail
              refine (works_is HS9s.out).mono ?_
              rintro e w9 ⟨rfl, hs⟩
              have HS9 := Lib.hid hs
              clear hs
              go_wp2
              go_ret
              exact ⟨rfl, HS9.out.below⟩
    · have HNR := Lib.hid (fun W => new_range c hm core hcr W)
      have HRR := Lib.hid (fun W => rnear_range c core hm hcr W)
      clear hm hcr
      go_enter Tryz.func4, Tryz.ntmps4
      go_upto_region 1 with fail
      rw [HW0.out.1, HW0.out.2]
      have lc : (TCfg.ld (.pointer (some ⟨cb, 0, none⟩))).run Tryz.prog W0 = .ok (.agg (CC c)) W0 := TCfg.ld_at (CC_isN c) (HS0.out.box 0 rfl).whole
      go_wp2_with fail
      refine (HNR.out _).mono ?_
      rintro e w2 ⟨rfl, hu⟩
      have HS2 := Lib.hid (HS0.out.upd0 hu)
      clear hu lc
      have lc : (TCfg.ld (.pointer (some ⟨cb, 0, none⟩))).run Tryz.prog w2 = .ok (.agg (CC c)) w2 := TCfg.ld_at (CC_isN c) (HS2.out.box 0 rfl).whole
      go_wp2_with fail
      refine (HRR.out _).mono ?_
      rintro e w3 ⟨rfl, hu⟩
      have HS3 := Lib.hid (HS2.out.upd0 hu)
      clear hu lc
      go_wp2_with fail
      refine (works_is HS3.out).mono ?_
      rintro e w9 ⟨rfl, hs⟩
      have HS9 := Lib.hid hs
      clear hs
      go_wp2
      go_ret
      exact ⟨rfl, HS9.out.below⟩
  · have HNR := Lib.hid (fun W => new_no (Sep.zero NoF W) c hm core)
    have HRR := Lib.hid (fun W => rnear_no c core hm W)
    clear hm
    go_enter Tryz.func4, Tryz.ntmps4
    go_upto_region 1 with fail
    rw [HW0.out.1, HW0.out.2]
    have lc : (TCfg.ld (.pointer (some ⟨cb, 0, none⟩))).run Tryz.prog W0 = .ok (.agg (CC c)) W0 := TCfg.ld_at (CC_isN c) (HS0.out.box 0 rfl).whole
    go_wp2_with fail
    refine (HNR.out _).mono ?_
    rintro e w2 ⟨rfl, hu⟩
    have HS2 := Lib.hid (HS0.out.upd0 hu)
    clear hu lc
    have lc : (TCfg.ld (.pointer (some ⟨cb, 0, none⟩))).run Tryz.prog w2 = .ok (.agg (CC c)) w2 := TCfg.ld_at (CC_isN c) (HS2.out.box 0 rfl).whole
    go_wp2_with fail
    refine (HRR.out _).mono ?_
    rintro e w3 ⟨rfl, hu⟩
    have HS3 := Lib.hid (HS2.out.upd0 hu)
    clear hu lc
    go_wp2_with fail
    refine (works_is HS3.out).mono ?_
    rintro e w9 ⟨rfl, hs⟩
    have HS9 := Lib.hid hs
    clear hs
    go_wp2
    go_ret
    exact ⟨rfl, HS9.out.below⟩
end
end Go.Proofs.YtjgeflbhmhmjdaaGreat.NR
