/- MarksApart: what the Go function does. -/
import Derived.Test.YtkncijoclnjpoaaMarkLaw

set_option linter.unusedSimpArgs false
set_option linter.unusedVariables false
namespace Go.Proofs.Ytkncijoclnjpoaa.MK
open Go.RowKit
open PL (Cfg CC CV May)
attribute [local go_sem] Oper.semAt_some

set_option maxRecDepth 100000 in
set_option maxHeartbeats 4000000 in
theorem apart_any (c : Cfg) (a1 : Option Addr) (len1 cap1 : Nat) (V : Nat → Nat → Value) (K B T : Nat → Int) (block : Int) (w : World) (h1 : IsRowF w a1 len1 cap1 3 V) (hV : ∀ i, i < len1 → V i 0 = .int .i64 (K i) ∧ V i 1 = .int .i64 (B i) ∧ V i 2 = .int .u8 (T i))
    (hB : ∀ i, i < len1 → (-9223372036854775808 ≤ B i ∧ B i ≤ 9223372036854775807) ∧ True) (hbl : -9223372036854775808 ≤ block ∧ block ≤ 9223372036854775807) :
    Calls Try.prog 3 #[CV c, .slice a1 len1 cap1, .int .i64 block] w fun e w' => e = .returned (.bool true) ∧ Below w.heap.size w w' := by
  have HC := Lib.hid (script_at h1 hV)
  have HB := Lib.hid hB
  obtain ⟨lc1, m1, _⟩ := h1
  clear hV hB
  unfold maxLen at m1
  obtain ⟨W0, hW0⟩ : ∃ W0, w.alloc (.cells (CC c) 23) = W0 := ⟨_, rfl⟩
  have HS0 : Hid (Sep NoF w W0 [cfgO w.heap.size c]) := Lib.hid (by rw [← hW0]; exact (Sep.zero NoF w).alloc _ _)
  have HW0 := Lib.hid hW0
  clear hW0
  by_cases g1 : 300 < len1
  · have hb1 : decide ((300 : Int) < (len1 : Int)) = true := by simp; omega
    go_enter Try.func3, Try.ntmps3
    go_wp2_with fail
    rw [HW0.out]
    refine (works_any _).mono ?_
    rintro e w9 ⟨rfl, hu⟩
    have HS9 := Lib.hid (HS0.out.upd0 hu)
    clear hu
    go_wp2
    go_ret
    exact ⟨rfl, HS9.out.below⟩
  · have hb1 : decide ((300 : Int) < (len1 : Int)) = false := by simp; omega
    by_cases hm : May c
    · have HM := Lib.hid hm
      clear hm
      go_enter Try.func3, Try.ntmps3
      go_wp2_with fail
      rw [HW0.out]
      refine (new_yes HS0.out c HM.out).mono ?_
      rintro e w2 ⟨kb, mb, rfl, hk2⟩
      have HK2 := Lib.hid hk2
      clear hk2
      obtain ⟨cb, hcb⟩ : ∃ cb, w.heap.size = cb := ⟨_, rfl⟩
      rw [hcb] at HK2 ⊢
      generalize c.blocks - c.cores * c.logs = data at *
      go_wp2_with fail
      go_loopw [9, 10, 29] (fun rv qv i wr => ∃ (k n : Nat) (f : Int → Bool × Bool), k ≤ len1 ∧ i = .int .i64 k ∧ rv = .bool (f block).1 ∧ qv = .bool (f block).2 ∧ n ≤ k ∧ Hid (KIs w wr kb mb n data f [cfgO cb c])) (fun _ _ i _ => len1 - (intOf i).toNat)
      case atStart => exact ⟨0, 0, none2, Nat.zero_le _, rfl, rfl, rfl, Nat.zero_le _, HK2.out⟩
      case round =>
        clear HK2 HS0 HW0
        obtain ⟨k, n, f, hk, rfl, rfl, rfl, hn, HI⟩ := hrel
        by_cases hlt : k < len1
        · skip
          obtain ⟨x, g, q, rfl, hxa, hgl, z0, z1, z2⟩ := HC.out k hlt
          have y0 := HI.out.sep.old z0
          have y1 := HI.out.sep.old z1
          have y2 := HI.out.sep.old z2
          have hbd := (HB.out k hlt).1
          clear z0 z1 z2
          generalize K k = kk at *
          generalize B k = bb at *
          generalize T k = tt at *
          have HI5 := Lib.hid (HI.out.box #[.int .i64 kk, .int .i64 bb, .int .u8 tt] 31)
          obtain ⟨w5, hw5⟩ : ∃ X, wr.alloc (.cells #[.int .i64 kk, .int .i64 bb, .int .u8 tt] 31) = X := ⟨_, rfl⟩
          rw [hw5] at HI5
          have p0 : w5.cell? ⟨wr.heap.size, 0, none⟩ = some (.int .i64 kk) := (HI5.out.sep.box 1 rfl).cell 0
          have p1 : w5.cell? ⟨wr.heap.size, 1, none⟩ = some (.int .i64 bb) := (HI5.out.sep.box 1 rfl).cell 1
          have HW5 := Lib.hid hw5
          clear hw5 HI
          go_upto_region 10 with fail
          rw [HW5.out]
          clear y0 y1 y2 HW5
          by_cases k0 : kk = 0
          · subst k0
            cases hmay : mayB data bb
            · have hp : putE data bb = 2 := putE_no hmay
              have hfn : putF data f bb true false block = f block := by rw [putF_no hmay]
              have hge : True := trivial
              have HRD := read_any HI5.out (by omega) bb (fit_small hbd)
              rw [hp] at HRD
              have HRD := Lib.hid HRD
              clear HI5 hp
              go_wp2_with fail
              refine HRD.out.mono ?_
              rintro e w6 ⟨rfl, hk6⟩
              have HK6 := Lib.hid hk6
              have r0 : w6.cell? ⟨wr.heap.size, 0, none⟩ = some (.int .i64 0) := (HK6.out.sep.box 1 rfl).cell 0
              have r1 : w6.cell? ⟨wr.heap.size, 1, none⟩ = some (.int .i64 bb) := (HK6.out.sep.box 1 rfl).cell 1
              have HH := has_any HK6.out block (fit_small hbl)
              rw [hfn] at HH
              have HH := Lib.hid HH
              clear hk6 HRD
              go_wp2_with fail
              refine HH.out.mono ?_
              rintro e w7 ⟨rfl, hu⟩
              have HK7 := Lib.hid (HK6.out.upd0 hu)
              clear hu HH
              go_wp2_with fail
              exact ⟨⟨k + 1, n + 1, putF data f bb true false, by omega, by go_num, by rw [hfn], by rw [hfn], by omega, HK7.out.drop⟩, by simp [intOf]; omega⟩
            · by_cases hbb : bb = block
              · subst hbb
                have hp : putE data bb = 0 := putE_yes hmay
                have hfn : putF data f bb true false bb = ((f bb).1 || true, (f bb).2 || false) := putF_same hmay f _ _
                rw [Bool.or_true, Bool.or_false] at hfn
                have HRD := read_any HI5.out (by omega) bb (fit_small hbd)
                rw [hp] at HRD
                have HRD := Lib.hid HRD
                clear HI5 hp
                go_wp2_with fail
                refine HRD.out.mono ?_
                rintro e w6 ⟨rfl, hk6⟩
                have HK6 := Lib.hid hk6
                have r0 : w6.cell? ⟨wr.heap.size, 0, none⟩ = some (.int .i64 0) := (HK6.out.sep.box 1 rfl).cell 0
                have r1 : w6.cell? ⟨wr.heap.size, 1, none⟩ = some (.int .i64 bb) := (HK6.out.sep.box 1 rfl).cell 1
                have HH := has_any HK6.out bb (fit_small hbl)
                rw [hfn] at HH
                have HH := Lib.hid HH
                clear hk6 HRD
                go_wp2_with fail
                refine HH.out.mono ?_
                rintro e w7 ⟨rfl, hu⟩
                have HK7 := Lib.hid (HK6.out.upd0 hu)
                clear hu HH
                go_wp2_with fail
                exact ⟨⟨k + 1, n + 1, putF data f bb true false, by omega, by go_num, by rw [hfn], by rw [hfn], by omega, HK7.out.drop⟩, by simp [intOf]; omega⟩
              · have hp : putE data bb = 0 := putE_yes hmay
                have hfn : putF data f bb true false block = f block := putF_other hbb f _ _
                have hge : (bb == block) = false := by simpa using hbb
                have HRD := read_any HI5.out (by omega) bb (fit_small hbd)
                rw [hp] at HRD
                have HRD := Lib.hid HRD
                clear HI5 hp
                go_wp2_with fail
                refine HRD.out.mono ?_
                rintro e w6 ⟨rfl, hk6⟩
                have HK6 := Lib.hid hk6
                have r0 : w6.cell? ⟨wr.heap.size, 0, none⟩ = some (.int .i64 0) := (HK6.out.sep.box 1 rfl).cell 0
                have r1 : w6.cell? ⟨wr.heap.size, 1, none⟩ = some (.int .i64 bb) := (HK6.out.sep.box 1 rfl).cell 1
                have HH := has_any HK6.out block (fit_small hbl)
                rw [hfn] at HH
                have HH := Lib.hid HH
                clear hk6 HRD
                go_wp2_with fail
                refine HH.out.mono ?_
                rintro e w7 ⟨rfl, hu⟩
                have HK7 := Lib.hid (HK6.out.upd0 hu)
                clear hu HH
                go_wp2_with fail
                exact ⟨⟨k + 1, n + 1, putF data f bb true false, by omega, by go_num, by rw [hfn], by rw [hfn], by omega, HK7.out.drop⟩, by simp [intOf]; omega⟩
          · have e0 : (kk == 0) = false := by simpa using k0
            by_cases k1 : kk = 1
            · subst k1
              cases hmay : mayB data bb
              · have hp : putE data bb = 2 := putE_no hmay
                have hfn : putF data f bb false true block = f block := by rw [putF_no hmay]
                have hge : True := trivial
                have HRD := write_any HI5.out (by omega) bb (fit_small hbd)
                rw [hp] at HRD
                have HRD := Lib.hid HRD
                clear HI5 hp
                go_wp2_with fail
                refine HRD.out.mono ?_
                rintro e w6 ⟨rfl, hk6⟩
                have HK6 := Lib.hid hk6
                have r0 : w6.cell? ⟨wr.heap.size, 0, none⟩ = some (.int .i64 1) := (HK6.out.sep.box 1 rfl).cell 0
                have r1 : w6.cell? ⟨wr.heap.size, 1, none⟩ = some (.int .i64 bb) := (HK6.out.sep.box 1 rfl).cell 1
                have HH := has_any HK6.out block (fit_small hbl)
                rw [hfn] at HH
                have HH := Lib.hid HH
                clear hk6 HRD
                go_wp2_with fail
                refine HH.out.mono ?_
                rintro e w7 ⟨rfl, hu⟩
                have HK7 := Lib.hid (HK6.out.upd0 hu)
                clear hu HH
                go_wp2_with fail
                exact ⟨⟨k + 1, n + 1, putF data f bb false true, by omega, by go_num, by rw [hfn], by rw [hfn], by omega, HK7.out.drop⟩, by simp [intOf]; omega⟩
              · by_cases hbb : bb = block
                · subst hbb
                  have hp : putE data bb = 0 := putE_yes hmay
                  have hfn : putF data f bb false true bb = ((f bb).1 || false, (f bb).2 || true) := putF_same hmay f _ _
                  rw [Bool.or_true, Bool.or_false] at hfn
                  have HRD := write_any HI5.out (by omega) bb (fit_small hbd)
                  rw [hp] at HRD
                  have HRD := Lib.hid HRD
                  clear HI5 hp
                  go_wp2_with fail
                  refine HRD.out.mono ?_
                  rintro e w6 ⟨rfl, hk6⟩
                  have HK6 := Lib.hid hk6
                  have r0 : w6.cell? ⟨wr.heap.size, 0, none⟩ = some (.int .i64 1) := (HK6.out.sep.box 1 rfl).cell 0
                  have r1 : w6.cell? ⟨wr.heap.size, 1, none⟩ = some (.int .i64 bb) := (HK6.out.sep.box 1 rfl).cell 1
                  have HH := has_any HK6.out bb (fit_small hbl)
                  rw [hfn] at HH
                  have HH := Lib.hid HH
                  clear hk6 HRD
                  go_wp2_with fail
                  refine HH.out.mono ?_
                  rintro e w7 ⟨rfl, hu⟩
                  have HK7 := Lib.hid (HK6.out.upd0 hu)
                  clear hu HH
                  go_wp2_with fail
                  exact ⟨⟨k + 1, n + 1, putF data f bb false true, by omega, by go_num, by rw [hfn], by rw [hfn], by omega, HK7.out.drop⟩, by simp [intOf]; omega⟩
                · have hp : putE data bb = 0 := putE_yes hmay
                  have hfn : putF data f bb false true block = f block := putF_other hbb f _ _
                  have hge : (bb == block) = false := by simpa using hbb
                  have HRD := write_any HI5.out (by omega) bb (fit_small hbd)
                  rw [hp] at HRD
                  have HRD := Lib.hid HRD
                  clear HI5 hp
                  go_wp2_with fail
                  refine HRD.out.mono ?_
                  rintro e w6 ⟨rfl, hk6⟩
                  have HK6 := Lib.hid hk6
                  have r0 : w6.cell? ⟨wr.heap.size, 0, none⟩ = some (.int .i64 1) := (HK6.out.sep.box 1 rfl).cell 0
                  have r1 : w6.cell? ⟨wr.heap.size, 1, none⟩ = some (.int .i64 bb) := (HK6.out.sep.box 1 rfl).cell 1
                  have HH := has_any HK6.out block (fit_small hbl)
                  rw [hfn] at HH
                  have HH := Lib.hid HH
                  clear hk6 HRD
                  go_wp2_with fail
                  refine HH.out.mono ?_
                  rintro e w7 ⟨rfl, hu⟩
                  have HK7 := Lib.hid (HK6.out.upd0 hu)
                  clear hu HH
                  go_wp2_with fail
                  exact ⟨⟨k + 1, n + 1, putF data f bb false true, by omega, by go_num, by rw [hfn], by rw [hfn], by omega, HK7.out.drop⟩, by simp [intOf]; omega⟩
            · have e1 : (kk == 1) = false := by simpa using k1
              have HH := Lib.hid (has_any HI5.out block (fit_small hbl))
              go_wp2_with fail
              refine HH.out.mono ?_
              rintro e w7 ⟨rfl, hu⟩
              have HK7 := Lib.hid (HI5.out.upd0 hu)
              clear hu HH
              go_wp2_with fail
              exact ⟨⟨k + 1, n, f, by omega, by go_num, rfl, rfl, by omega, HK7.out.drop⟩, by simp [intOf]; omega⟩
        · obtain rfl : len1 = k := by omega
          go_wp2_with fail
          refine (works_any _).mono ?_
          rintro e w9 ⟨rfl, hu⟩
          have HS9 := Lib.hid (HI.out.sep.upd0 hu)
          clear hu
          go_wp2
          go_ret
          exact ⟨rfl, HS9.out.below⟩
    · have HN := Lib.hid (new_no c hm)
      clear hm
      go_enter Try.func3, Try.ntmps3
      go_wp2_with fail
      rw [HW0.out]
      refine (HN.out W0).mono ?_
      rintro e w2 ⟨rfl, hu⟩
      have HS2 := Lib.hid (HS0.out.upd0 hu)
      clear hu
      go_wp2_with fail
      refine (works_any _).mono ?_
      rintro e w9 ⟨rfl, hu⟩
      have HS9 := Lib.hid (HS2.out.upd0 hu)
      clear hu
      go_wp2
      go_ret
      exact ⟨rfl, HS9.out.below⟩
end Go.Proofs.Ytkncijoclnjpoaa.MK
