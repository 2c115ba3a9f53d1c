/- MarksAll: what the Go function does. -/
import Derived.Test.YtkncijoclnjpoaaMarkLaw
import Derived.Test.YtkncijoclnjpoaaMarkAllIn
set_option linter.unusedSimpArgs false
set_option linter.unusedVariables false
namespace Go.Proofs.Ytkncijoclnjpoaa.MK
open Go.RowKit
open PL (Cfg CC CV May)
attribute [local go_sem] Oper.semAt_some

set_option maxRecDepth 100000 in
set_option maxHeartbeats 4000000 in
theorem all_law (c : Cfg) (a1 : Option Addr) (len1 cap1 : Nat) (V : Nat → Nat → Value) (K B T : Nat → Int) (w : World) (h1 : IsRowF w a1 len1 cap1 3 V) (hV : ∀ i, i < len1 → V i 0 = .int .i64 (K i) ∧ V i 1 = .int .i64 (B i) ∧ V i 2 = .int .u8 (T i))
    (hB : ∀ i, i < len1 → (-9223372036854775808 ≤ B i ∧ B i ≤ 9223372036854775807) ∧ True) :
    Calls Try.prog 5 #[CV c, .slice a1 len1 cap1] w fun e w' => e = .returned (.bool true) ∧ Below w.heap.size w w' := by
  have HC := Lib.hid (script_at h1 hV)
  have HB := Lib.hid hB
  obtain ⟨lc1, m1, _⟩ := h1
  clear hV hB
  unfold maxLen at m1
  obtain ⟨W0, hW0⟩ : ∃ W0, w.alloc (.cells (CC c) 23) = W0 := ⟨_, rfl⟩
  have HS0 : Hid (Sep NoF w W0 [cfgO w.heap.size c]) := Lib.hid (by rw [← hW0]; exact (Sep.zero NoF w).alloc _ _)
  have HW0 := Lib.hid hW0
  clear hW0
  by_cases g1 : 300 < len1
  · have hb1 : decide ((300 : Int) < (len1 : Int)) = true := by simp; omega
    go_enter Try.func5, Try.ntmps5
    go_wp2_with fail
    rw [HW0.out]
    refine (works_any _).mono ?_
    rintro e w9 ⟨rfl, hu⟩
    have HS9 := Lib.hid (HS0.out.upd0 hu)
    clear hu
    go_wp2
    go_ret
    exact ⟨rfl, HS9.out.below⟩
  · have hb1 : decide ((300 : Int) < (len1 : Int)) = false := by simp; omega
    by_cases hm : May c
    · have HM := Lib.hid hm
      clear hm
      go_enter Try.func5, Try.ntmps5
      go_wp2_with fail
      rw [HW0.out]
      refine (new_yes HS0.out c HM.out).mono ?_
      rintro e w2 ⟨kb, mb, rfl, hk2⟩
      have HK2 := Lib.hid hk2
      clear hk2
      obtain ⟨cb, hcb⟩ : ∃ cb, w.heap.size = cb := ⟨_, rfl⟩
      rw [hcb] at HK2 ⊢
      have hdat := data_le HM.out
      generalize c.blocks - c.cores * c.logs = data at *
      go_wp2_with fail
      go_loopw [31] (fun i wr => ∃ (k n : Nat) (f : Int → Bool × Bool), k ≤ len1 ∧ i = .int .i64 k ∧ n ≤ k ∧ Hid (InData data f ∧ KIs w wr kb mb n data f [cfgO cb c])) (fun i _ => len1 - (intOf i).toNat)
      case atStart => exact ⟨0, 0, none2, Nat.zero_le _, rfl, Nat.zero_le _, InData.none2 data, HK2.out⟩
      case round =>
        clear HK2 HS0 HW0
        obtain ⟨k, n, f, hk, rfl, hn, HI0⟩ := hrel
        have HID := Lib.hid HI0.out.1
        have HI := Lib.hid HI0.out.2
        clear HI0
        by_cases hlt : k < len1
        · skip
          obtain ⟨x, g, q, rfl, hxa, hgl, z0, z1, z2⟩ := HC.out k hlt
          have y0 := HI.out.sep.old z0
          have y1 := HI.out.sep.old z1
          have y2 := HI.out.sep.old z2
          have hbd := (HB.out k hlt).1
          clear z0 z1 z2
          generalize K k = kk at *
          generalize B k = bb at *
          generalize T k = tt at *
          have HI5 := Lib.hid (HI.out.box #[.int .i64 kk, .int .i64 bb, .int .u8 tt] 31)
          obtain ⟨w5, hw5⟩ : ∃ X, wr.alloc (.cells #[.int .i64 kk, .int .i64 bb, .int .u8 tt] 31) = X := ⟨_, rfl⟩
          rw [hw5] at HI5
          have p0 : w5.cell? ⟨wr.heap.size, 0, none⟩ = some (.int .i64 kk) := (HI5.out.sep.box 1 rfl).cell 0
          have p1 : w5.cell? ⟨wr.heap.size, 1, none⟩ = some (.int .i64 bb) := (HI5.out.sep.box 1 rfl).cell 1
          have HW5 := Lib.hid hw5
          clear hw5 HI
          go_upto_region 9 with fail
          rw [HW5.out]
          clear y0 y1 y2 HW5
          go_upto_block 2 with fail
          go_cut [] from 37 to 52 (fun wx => ∃ (n2 : Nat) (f2 : Int → Bool × Bool), n2 ≤ n + 1 ∧ Hid (InData data f2 ∧ KIs w wx kb mb n2 data f2 [opO wr.heap.size kk bb tt, cfgO cb c]))
          case first =>
            by_cases k0 : kk = 0
            · subst k0
              have HRD := Lib.hid (read_any HI5.out (by omega) bb (fit_small hbd))
              have HID2 := Lib.hid (HID.out.put bb true false)
              clear HI5
              go_wp2_with fail
              refine HRD.out.mono ?_
              rintro e w6 ⟨rfl, hk6⟩
              have HK6 := Lib.hid hk6
              clear hk6 HRD
              go_wp2_with fail
              go_meet
              exact ⟨n + 1, _, Nat.le_refl _, HID2.out, HK6.out⟩
            · have e0 : (kk == 0) = false := by simpa using k0
              by_cases k1 : kk = 1
              · subst k1
                have HRD := Lib.hid (write_any HI5.out (by omega) bb (fit_small hbd))
                have HID2 := Lib.hid (HID.out.put bb false true)
                clear HI5
                go_wp2_with fail
                refine HRD.out.mono ?_
                rintro e w6 ⟨rfl, hk6⟩
                have HK6 := Lib.hid hk6
                clear hk6 HRD
                go_wp2_with fail
                go_meet
                exact ⟨n + 1, _, Nat.le_refl _, HID2.out, HK6.out⟩
              · have e1 : (kk == 1) = false := by simpa using k1
                by_cases k2 : kk = 2
                · subst k2
                  have HCL := Lib.hid (clear_any HI5.out)
                  clear HI5
                  go_wp2_with fail
                  refine HCL.out.mono ?_
                  rintro e w6 ⟨rfl, hk6⟩
                  have HK6 := Lib.hid hk6
                  clear hk6 HCL
                  go_wp2_with fail
                  go_meet
                  exact ⟨0, _, Nat.zero_le _, InData.none2 data, HK6.out⟩
                · have e2 : (kk == 2) = false := by simpa using k2
                  go_wp2_with fail
                  go_meet
                  exact ⟨n, f, Nat.le_succ n, HID.out, HI5.out⟩
          case rest =>
            obtain ⟨n2, f2, hn2, HIK⟩ := hcut
            have HID2 := Lib.hid HIK.out.1
            have HK6 := Lib.hid HIK.out.2
            clear HIK HI5 p0 p1 HID
            obtain ⟨ob, hob⟩ : ∃ b, wr.heap.size = b := ⟨_, rfl⟩
            rw [hob] at HK6 ⊢
            clear hob
            go_wp2_with fail
            refine (all_any HK6.out (by omega)).mono ?_
            rintro e w7 ⟨v, ss, rfl, hpw, hmem, hsl, hk⟩
            have HK7 := Lib.hid hk
            have HPW := Lib.hid hpw; have HMEM := Lib.hid hmem
            clear hk hpw hmem HK6
            obtain ⟨a9, cap9, rfl, hn9, hm9, r9⟩ := ints_at (HK7.out.sep.row 1 rfl)
            unfold maxLen at hm9
            clear r9
            go_wp2_with fail
            go_loopw [10, 57] (fun lv i wr => ∃ j : Nat, j ≤ ss.length ∧ i = .int .i64 j ∧ lv = .int .i64 (lastOf ss j) ∧ Hid (KIs w wr kb mb n2 data f2 [rowO 3 1 (.slice a9 ss.length cap9) ss.length (ss.map VI), opO ob kk bb tt, cfgO cb c])) (fun _ i _ => ss.length - (intOf i).toNat)
            case atStart => exact ⟨0, Nat.zero_le _, rfl, rfl, HK7.out⟩
            case round =>
              clear HK7
              obtain ⟨j, hj, rfl, rfl, HJ⟩ := hrel
              by_cases hjl : j < ss.length
              · obtain ⟨b, hb⟩ : ∃ b, ss[j]? = some b := ⟨_, List.getElem?_eq_getElem hjl⟩
                obtain ⟨a8, cap8, hae, _, _, r9⟩ := ints_at (HJ.out.sep.row 1 rfl)
                cases hae
                obtain ⟨g9, rfl, hc9⟩ := r9 j b hb
                have hbm := List.mem_of_getElem? hb
                have hmk := (HMEM.out b).1 hbm
                have hbr := HID2.out b hmk
                have hlast := lastOf_lt HPW.out (fun a ha => (HID2.out a ((HMEM.out a).1 ha)).1) hb
                have hls := lastOf_succ hb
                have HH := Lib.hid (has_any HJ.out b (fit_small (by omega)))
                have HLS := Lib.hid hls
                have hdb : decide (b ≤ lastOf ss j) = false := by simp; omega
                clear r9 hb hbm hbr hls hlast
                generalize lastOf ss j = la at *
                generalize f2 b = fb at *
                obtain ⟨p, q⟩ := fb
                cases p <;> cases q
                · cases hmk
                all_goals
                  clear hmk
                  go_wp2_with fail
                  refine HH.out.mono ?_
                  rintro e x1 ⟨rfl, hu⟩
                  have HJ2 := Lib.hid (HJ.out.upd0 hu)
                  clear hu HH
                  go_wp2_with fail
                  exact ⟨⟨j + 1, by omega, by go_num, by rw [HLS.out], HJ2.out⟩, by simp [intOf]; omega⟩
              · obtain rfl : ss.length = j := by omega
                have p1 : wr.cell? ⟨ob, 1, none⟩ = some (.int .i64 bb) := (HJ.out.sep.box 2 rfl).cell 1
                have HH := Lib.hid (has_any HJ.out bb (fit_small hbd))
                go_wp2_with fail
                refine HH.out.mono ?_
                rintro e x1 ⟨rfl, hu⟩
                have HJ2 := Lib.hid (HJ.out.upd0 hu)
                clear hu HH
                have p1b : x1.cell? ⟨ob, 1, none⟩ = some (.int .i64 bb) := (HJ2.out.sep.box 2 rfl).cell 1
                have HCT := contains_any x1 _ ss bb (HJ2.out.sep.row 1 rfl)
                have hde : decide (bb ∈ ss) = ((f2 bb).1 || (f2 bb).2) := by
                  have := HMEM.out bb
                  cases h : ((f2 bb).1 || (f2 bb).2)
                  · rw [h] at this; simpa using this
                  · rw [h] at this; simpa using this
                rw [hde] at HCT
                have HCT := Lib.hid HCT
                have HFIN := Lib.hid (fun (X : World) (hu : Upd NoF x1 X) => (HJ2.out.upd0 hu).drop.drop)
                clear hde p1 HJ
                generalize f2 bb = fb at *
                obtain ⟨p, q⟩ := fb
                cases p <;> cases q
                all_goals
                  go_wp2_with fail
                  refine HCT.out.mono ?_
                  rintro e x2 ⟨rfl, hu⟩
                  have HKF := Lib.hid (HFIN.out _ hu)
                  clear hu
                  go_wp2_with fail
                  exact ⟨⟨k + 1, n2, f2, by omega, by go_num, by omega, HID2.out, HKF.out⟩, by simp [intOf]; omega⟩
        · obtain rfl : len1 = k := by omega
          go_wp2_with fail
          refine (works_any _).mono ?_
          rintro e w9 ⟨rfl, hu⟩
          have HS9 := Lib.hid (HI.out.sep.upd0 hu)
          clear hu
          go_wp2
          go_ret
          exact ⟨rfl, HS9.out.below⟩
    · have HN := Lib.hid (new_no c hm)
      clear hm
      go_enter Try.func5, Try.ntmps5
      go_wp2_with fail
      rw [HW0.out]
      refine (HN.out W0).mono ?_
      rintro e w2 ⟨rfl, hu⟩
      have HS2 := Lib.hid (HS0.out.upd0 hu)
      clear hu
      go_wp2_with fail
      refine (works_any _).mono ?_
      rintro e w9 ⟨rfl, hu⟩
      have HS9 := Lib.hid (HS2.out.upd0 hu)
      clear hu
      go_wp2
      go_ret
      exact ⟨rfl, HS9.out.below⟩
end Go.Proofs.Ytkncijoclnjpoaa.MK
