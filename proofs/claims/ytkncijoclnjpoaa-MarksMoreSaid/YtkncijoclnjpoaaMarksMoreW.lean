/- MarksMore: what the Go function does. -/
import Derived.Test.YtkncijoclnjpoaaMarkLaw

set_option linter.unusedSimpArgs false
set_option linter.unusedVariables false
namespace Go.Proofs.Ytkncijoclnjpoaa.MK
open Go.RowKit
open PL (Cfg CC CV May)
attribute [local go_sem] Oper.semAt_some


def le2 (m m' : Bool × Bool) : Prop := (m.1 = true → m'.1 = true) ∧ (m.2 = true → m'.2 = true)
theorem le2_refl (m : Bool × Bool) : le2 m m := ⟨id, id⟩
theorem le2_put (data : Int) (f : Int → Bool × Bool) (x : Int) (r q : Bool) (y : Int) : le2 (f y) (putF data f x r q y) := by
  cases h : mayB data x
  · rw [putF_no h]; exact le2_refl _
  · by_cases e : x = y
    · subst e; rw [putF_same h]; exact ⟨fun h => by rw [h]; rfl, fun h => by rw [h]; rfl⟩
    · rw [putF_other e]; exact le2_refl _
theorem meet_mono {k : Int} {m m' : Bool × Bool} (h : le2 m m') (hm : meetB k m = true) : meetB k m' = true := by
  unfold meetB at *
  split
  · rename_i e; rw [if_pos e] at hm; exact h.2 hm
  · rename_i e
    rw [if_neg e] at hm
    split
    · rename_i e5
      rw [if_pos e5] at hm
      simp only [Bool.or_eq_true] at hm ⊢
      exact hm.imp h.1 h.2
    · rename_i e5; rw [if_neg e5] at hm; cases hm
theorem meet_some {k : Int} {m : Bool × Bool} (hm : meetB k m = true) : (m.1 || m.2) = true := by
  unfold meetB at hm
  split at hm
  · rw [hm, Bool.or_true]
  · split at hm
    · exact hm
    · cases hm

set_option maxRecDepth 100000 in
set_option maxHeartbeats 4000000 in
theorem more_any (c : Cfg) (a1 : Option Addr) (len1 cap1 : Nat) (V : Nat → Nat → Value) (K B T : Nat → Int) (kind block : Int) (w : World) (h1 : IsRowF w a1 len1 cap1 3 V) (hV : ∀ i, i < len1 → V i 0 = .int .i64 (K i) ∧ V i 1 = .int .i64 (B i) ∧ V i 2 = .int .u8 (T i))
    (hB : ∀ i, i < len1 → (-9223372036854775808 ≤ B i ∧ B i ≤ 9223372036854775807) ∧ True) (hbl : -9223372036854775808 ≤ block ∧ block ≤ 9223372036854775807) :
    Calls Try.prog 4 #[CV c, .slice a1 len1 cap1, .int .u8 kind, .int .i64 block] w fun e w' => e = .returned (.bool true) ∧ Below w.heap.size w w' := by
  have HC := Lib.hid (script_at h1 hV)
  have HB := Lib.hid hB
  obtain ⟨lc1, m1, _⟩ := h1
  clear hV hB
  unfold maxLen at m1
  obtain ⟨W0, hW0⟩ : ∃ W0, w.alloc (.cells (CC c) 23) = W0 := ⟨_, rfl⟩
  have HS0 : Hid (Sep NoF w W0 [cfgO w.heap.size c]) := Lib.hid (by rw [← hW0]; exact (Sep.zero NoF w).alloc _ _)
  have HW0 := Lib.hid hW0
  clear hW0
  by_cases g1 : 300 < len1
  · have hb1 : decide ((300 : Int) < (len1 : Int)) = true := by simp; omega
    go_enter Try.func4, Try.ntmps4
    go_wp2_with fail
    rw [HW0.out]
    refine (works_any _).mono ?_
    rintro e w9 ⟨rfl, hu⟩
    have HS9 := Lib.hid (HS0.out.upd0 hu)
    clear hu
    go_wp2
    go_ret
    exact ⟨rfl, HS9.out.below⟩
  · have hb1 : decide ((300 : Int) < (len1 : Int)) = false := by simp; omega
    by_cases hm : May c
    · have HM := Lib.hid hm
      clear hm
      go_enter Try.func4, Try.ntmps4
      go_wp2_with fail
      rw [HW0.out]
      refine (new_yes HS0.out c HM.out).mono ?_
      rintro e w2 ⟨kb, mb, rfl, hk2⟩
      have HK2 := Lib.hid hk2
      clear hk2
      obtain ⟨cb, hcb⟩ : ∃ cb, w.heap.size = cb := ⟨_, rfl⟩
      rw [hcb] at HK2 ⊢
      generalize c.blocks - c.cores * c.logs = data at *
      go_wp2_with fail
      have hm0 : meetB kind (none2 block) = false := by unfold meetB; split <;> first | rfl | (split <;> rfl)
      go_loopw [11, 31] (fun mv i wr => ∃ (k n : Nat) (f : Int → Bool × Bool), k ≤ len1 ∧ i = .int .i64 k ∧ mv = .bool (meetB kind (f block)) ∧ n ≤ k ∧ Hid (KIs w wr kb mb n data f [cfgO cb c])) (fun _ i _ => len1 - (intOf i).toNat)
      case atStart => exact ⟨0, 0, none2, Nat.zero_le _, rfl, by rw [hm0], Nat.zero_le _, HK2.out⟩
      case round =>
        clear HK2 HS0 HW0
        obtain ⟨k, n, f, hk, rfl, rfl, hn, HI⟩ := hrel
        by_cases hlt : k < len1
        · skip
          obtain ⟨x, g, q, rfl, hxa, hgl, z0, z1, z2⟩ := HC.out k hlt
          have y0 := HI.out.sep.old z0
          have y1 := HI.out.sep.old z1
          have y2 := HI.out.sep.old z2
          have hbd := (HB.out k hlt).1
          clear z0 z1 z2
          generalize K k = kk at *
          generalize B k = bb at *
          generalize T k = tt at *
          have HI5 := Lib.hid (HI.out.box #[.int .i64 kk, .int .i64 bb, .int .u8 tt] 31)
          obtain ⟨w5, hw5⟩ : ∃ X, wr.alloc (.cells #[.int .i64 kk, .int .i64 bb, .int .u8 tt] 31) = X := ⟨_, rfl⟩
          rw [hw5] at HI5
          have p0 : w5.cell? ⟨wr.heap.size, 0, none⟩ = some (.int .i64 kk) := (HI5.out.sep.box 1 rfl).cell 0
          have p1 : w5.cell? ⟨wr.heap.size, 1, none⟩ = some (.int .i64 bb) := (HI5.out.sep.box 1 rfl).cell 1
          have HW5 := Lib.hid hw5
          clear hw5 HI
          go_upto_region 10 with fail
          rw [HW5.out]
          clear y0 y1 y2 HW5
          go_upto_block 2 with fail
          go_cut [] from 37 to 48 (fun wx => ∃ (n2 : Nat) (f2 : Int → Bool × Bool), n2 ≤ n + 1 ∧ le2 (f block) (f2 block) ∧ Hid (KIs w wx kb mb n2 data f2 [opO wr.heap.size kk bb tt, cfgO cb c]))
          case first =>
            by_cases k0 : kk = 0
            · subst k0
              have HRD := Lib.hid (read_any HI5.out (by omega) bb (fit_small hbd))
              have hle := le2_put data f bb true false block
              clear HI5
              go_wp2_with fail
              refine HRD.out.mono ?_
              rintro e w6 ⟨rfl, hk6⟩
              have HK6 := Lib.hid hk6
              clear hk6 HRD
              go_wp2_with fail
              go_meet
              exact ⟨n + 1, _, Nat.le_refl _, hle, HK6.out⟩
            · have e0 : (kk == 0) = false := by simpa using k0
              by_cases k1 : kk = 1
              · subst k1
                have HRD := Lib.hid (write_any HI5.out (by omega) bb (fit_small hbd))
                have hle := le2_put data f bb false true block
                clear HI5
                go_wp2_with fail
                refine HRD.out.mono ?_
                rintro e w6 ⟨rfl, hk6⟩
                have HK6 := Lib.hid hk6
                clear hk6 HRD
                go_wp2_with fail
                go_meet
                exact ⟨n + 1, _, Nat.le_refl _, hle, HK6.out⟩
              · have e1 : (kk == 1) = false := by simpa using k1
                go_wp2_with fail
                go_meet
                exact ⟨n, f, Nat.le_succ n, le2_refl _, HI5.out⟩
          case rest =>
            obtain ⟨n2, f2, hn2, hle, HK6⟩ := hcut
            clear HI5 p0 p1
            have hmono := fun h => meet_mono (k := kind) hle h
            have hsome := fun h => meet_some (k := kind) (m := f2 block) h
            have HMK := Lib.hid (fun (X : World) (hu : Upd NoF wc X) => meets_any (HK6.out.upd0 hu) kind block (fit_small hbl))
            have HM4 := Lib.hid (fun (X : World) (hu : Upd NoF wc X) => meets_any (HK6.out.upd0 hu) 4 block (fit_small hbl))
            have HM5 := Lib.hid (fun (X : World) (hu : Upd NoF wc X) => meets_any (HK6.out.upd0 hu) 5 block (fit_small hbl))
            have HH := Lib.hid (fun (X : World) (hu : Upd NoF wc X) => has_any (HK6.out.upd0 hu) block (fit_small hbl))
            have h4 : meetB 4 (f2 block) = (f2 block).2 := by unfold meetB; rw [if_pos rfl]
            have h5 : meetB 5 (f2 block) = ((f2 block).1 || (f2 block).2) := by unfold meetB; rw [if_neg (by decide), if_pos rfl]
            rw [h4] at HM4
            rw [h5] at HM5
            have HFIN := Lib.hid (fun (X : World) (hu : Upd NoF wc X) => (HK6.out.upd0 hu).drop)
            have hmeq : meetB kind (f2 block) = meetB kind (f2 block) := rfl
            generalize hm2 : meetB kind (f2 block) = m2 at *
            generalize hm1 : meetB kind (f block) = m1 at *
            have HM2 := Lib.hid hm2
            clear h4 h5 hle hm2 hm1 hmeq
            generalize hfb : f2 block = fb at *
            obtain ⟨p, q⟩ := fb
            have HFB := Lib.hid hfb
            cases p <;> cases q <;> cases m2 <;> cases m1
            all_goals first
              | (exfalso; have := hsome rfl; simp at this; done)
              | (exfalso; have := hmono rfl; cases this; done)
              | skip
            all_goals
              clear hmono hsome hfb
              go_wp2_with fail
              refine (HMK.out _ (Upd.refl _ _)).mono ?_
              rintro e x1 ⟨rfl, hu1⟩
              go_wp2_with fail
              refine (HH.out _ hu1).mono ?_
              rintro e x2 ⟨rfl, hu⟩
              have hu2 := hu1.trans hu (fun _ _ h => h)
              clear hu hu1
              go_wp2_with fail
              refine (HM4.out _ hu2).mono ?_
              rintro e x3 ⟨rfl, hu⟩
              have hu3 := hu2.trans hu (fun _ _ h => h)
              clear hu hu2
              go_wp2_with fail
              first
                | (refine (HM5.out _ hu3).mono ?_
                   rintro e x4 ⟨rfl, hu⟩
                   have hu4 := hu3.trans hu (fun _ _ h => h)
                   clear hu hu3
                   go_wp2_with fail
                   exact ⟨⟨k + 1, n2, f2, by omega, by go_num, by rw [HFB.out, HM2.out], by omega, HFIN.out _ hu4⟩, by simp [intOf]; omega⟩)
                | exact ⟨⟨k + 1, n2, f2, by omega, by go_num, by rw [HFB.out, HM2.out], by omega, HFIN.out _ hu3⟩, by simp [intOf]; omega⟩
        · obtain rfl : len1 = k := by omega
          go_wp2_with fail
          refine (clear_any HI.out).mono ?_
          rintro e x1 ⟨rfl, hk⟩
          have HC1 := Lib.hid hk
          clear hk
          have HMK := meets_any HC1.out kind block (fit_small hbl)
          rw [hm0] at HMK
          have HMK := Lib.hid HMK
          go_wp2_with fail
          refine HMK.out.mono ?_
          rintro e x2 ⟨rfl, hu⟩
          have HC2 := Lib.hid (HC1.out.upd0 hu)
          clear hu
          go_wp2_with fail
          refine (all_any HC2.out (by decide)).mono ?_
          rintro e x3 ⟨v, ss, rfl, _, hmem, _, hk⟩
          have hnil : ss = [] := by
            cases ss with
            | nil => rfl
            | cons a l => have := (hmem a).1 (by simp); cases this
          subst hnil
          obtain ⟨a9, cap9, rfl, _⟩ := (hk.sep.row 1 rfl).slice
          have HC3 := Lib.hid hk
          clear hk hmem
          go_wp2_with fail
          refine (works_any _).mono ?_
          rintro e w9 ⟨rfl, hu⟩
          have HS9 := Lib.hid (HC3.out.sep.upd0 hu)
          clear hu
          go_wp2
          go_ret
          exact ⟨rfl, HS9.out.below⟩
    · have HN := Lib.hid (new_no c hm)
      clear hm
      go_enter Try.func4, Try.ntmps4
      go_wp2_with fail
      rw [HW0.out]
      refine (HN.out W0).mono ?_
      rintro e w2 ⟨rfl, hu⟩
      have HS2 := Lib.hid (HS0.out.upd0 hu)
      clear hu
      go_wp2_with fail
      refine (works_any _).mono ?_
      rintro e w9 ⟨rfl, hu⟩
      have HS9 := Lib.hid (HS2.out.upd0 hu)
      clear hu
      go_wp2
      go_ret
      exact ⟨rfl, HS9.out.below⟩
end Go.Proofs.Ytkncijoclnjpoaa.MK
