/- BacksCopies: what the Go function does. -/
import Derived.Test.YtoddipfgkbaeaaaBacksDo
import Derived.Test.YtoddipfgkbaeaaaRowF
set_option linter.unusedSimpArgs false
set_option linter.unusedVariables false
namespace Go.Proofs.Ytoddipfgkbaeaaa.BK
open Go.RowKit
open PL (Cfg CC CV May)
attribute [local go_sem] Oper.semAt_some
attribute [local go_sem ↓] TBlk.ld_eq TBlk.st_eq TBlk.al_eq
attribute [local go_sem] TBlk.al_run

abbrev cfgO (cb : Nat) (c : Cfg) : Obj := boxO cb (CC c) 23
/-- A script that came in. -/
def Script (w : World) (a : Option Addr) (len : Nat) (K B X : Nat → Int) : Prop := ∀ i, i < len → ∃ x g q, a = some x ∧ x.add (i * 3) = ⟨g, q, none⟩ ∧ g < w.heap.size ∧ w.cell? ⟨g, q, none⟩ = some (.int .i64 (K i)) ∧ w.cell? ⟨g, q + 1, none⟩ = some (.int .i64 (B i)) ∧ w.cell? ⟨g, q + 2, none⟩ = some (.int .u32 (X i))
theorem script_of {w : World} {a : Option Addr} {len cap : Nat} {V : Nat → Nat → Value} {K B X : Nat → Int} (h : IsRowF w a len cap 3 V) (hV : ∀ i, i < len → V i 0 = .int .i64 (K i) ∧ V i 1 = .int .i64 (B i) ∧ V i 2 = .int .u32 (X i)) : Script w a len K B X := fun i hi => by
  obtain ⟨x, g, q, hx, hxa, hg, hc⟩ := h.at (by decide) hi
  obtain ⟨h0, h1, h2⟩ := hV i hi
  exact ⟨x, g, q, hx, hxa, hg, by rw [← h0]; exact hc 0 (by decide), by rw [← h1]; exact hc 1 (by decide), by rw [← h2]; exact hc 2 (by decide)⟩
theorem s_do {w W : World} {L : List Obj} {kb : Nat} {data room : Int} {zs : List Bk} (h : Sep NoF w W L) (i : Nat) (hi : L[i]? = some (Bo kb data zs room)) (hv : Inv data room zs) (hu : AllU zs) (hr : room ≤ 65536)
    (a : Option Addr) (len cap : Nat) (K B X : Nat → Int) (hs : Script w a len K B X) (hlc : len ≤ cap) (hcm : cap ≤ maxLen) :
    Calls Try.prog 17 #[ptr kb, .slice a len cap] W fun e W' => (∃ v, e = .returned v) ∧ Sep NoF w W' (L.set i (Bo kb data (runC data room zs K B X len) room)) :=
  Sep.callN h i hi (E := fun e => ∃ v, e = .returned v) (fun F hF hn => do_any W F kb data room zs a len cap K B X hF hv hu hr hlc hcm (fun j hj => by
    obtain ⟨x, g, q, h1, h2, h3, h4, h5, h6⟩ := hs j hj
    exact ⟨x, g, q, h1, h2, fun hf => (hn g hf).elim (fun h => h) (fun h => by omega), h.old h4, h.old h5, h.old h6⟩))
theorem run_ok {data room : Int} {zs : List Bk} (h : Inv data room zs) (hu : AllU zs) (K B X : Nat → Int) : ∀ n, Inv data room (runC data room zs K B X n) ∧ AllU (runC data room zs K B X n)
  | 0 => ⟨h, hu⟩
  | n + 1 => step_ok (run_ok h hu K B X n).1 (run_ok h hu K B X n).2 _ _ _

theorem mul_small' {c : Cfg} (h : May c) : 1 ≤ c.cores * c.logs := (PL.mul_small h.1 h.2.2.1).1
set_option maxRecDepth 100000 in
set_option maxHeartbeats 4000000 in
theorem copies_any (c : Cfg) (a1 : Option Addr) (len1 cap1 : Nat) (V1 : Nat → Nat → Value) (K1 B1 X1 : Nat → Int) (a2 : Option Addr) (len2 cap2 : Nat) (V2 : Nat → Nat → Value) (K2 B2 X2 : Nat → Int) (w : World) (h1 : IsRowF w a1 len1 cap1 3 V1) (h2 : IsRowF w a2 len2 cap2 3 V2)
    (hV1 : ∀ i, i < len1 → V1 i 0 = .int .i64 (K1 i) ∧ V1 i 1 = .int .i64 (B1 i) ∧ V1 i 2 = .int .u32 (X1 i)) (hV2 : ∀ i, i < len2 → V2 i 0 = .int .i64 (K2 i) ∧ V2 i 1 = .int .i64 (B2 i) ∧ V2 i 2 = .int .u32 (X2 i)) :
    Calls Try.prog 5 #[CV c, .slice a1 len1 cap1, .slice a2 len2 cap2] w fun e w' => e = .returned (.bool true) ∧ Below w.heap.size w w' := by
  have HC1 := Lib.hid (script_of h1 hV1); have HC2 := Lib.hid (script_of h2 hV2)
  obtain ⟨lc1, m1, _⟩ := h1
  obtain ⟨lc2, m2, _⟩ := h2
  have HM1 := Lib.hid m1; have HM2 := Lib.hid m2
  clear hV1 hV2
  unfold maxLen at m1 m2
  obtain ⟨W0, hW0⟩ : ∃ W0, w.alloc (.cells (CC c) 23) = W0 := ⟨_, rfl⟩
  have HS0 : Hid (Sep NoF w W0 [cfgO w.heap.size c]) := Lib.hid (by rw [← hW0]; exact (Sep.zero NoF w).alloc _ _)
  have HW0 := Lib.hid hW0
  clear hW0
  by_cases g1 : 200 < len1
  · have hb1 : decide ((200 : Int) < (len1 : Int)) = true := by simp; omega
    go_enter Try.func5, Try.ntmps5
    go_wp2_with fail
    rw [HW0.out]
    refine (works_any _).mono ?_
    rintro e w9 ⟨rfl, hu⟩
    have HS9 := Lib.hid (HS0.out.upd0 hu)
    clear hu
    go_wp2
    go_ret
    exact ⟨rfl, HS9.out.below⟩
  · have hb1 : decide ((200 : Int) < (len1 : Int)) = false := by simp; omega
    by_cases g2 : 200 < len2
    · have hb2 : decide ((200 : Int) < (len2 : Int)) = true := by simp; omega
      go_enter Try.func5, Try.ntmps5
      go_wp2_with fail
      rw [HW0.out]
      refine (works_any _).mono ?_
      rintro e w9 ⟨rfl, hu⟩
      have HS9 := Lib.hid (HS0.out.upd0 hu)
      clear hu
      go_wp2
      go_ret
      exact ⟨rfl, HS9.out.below⟩
    · have hb2 : decide ((200 : Int) < (len2 : Int)) = false := by simp; omega
      by_cases hm : May c
      · have hbk : 1 ≤ c.backs ∧ c.backs ≤ 4 := hm.2.2.2.1
        have hdp : 0 < c.blocks - c.cores * c.logs := by have := hm.2.2.2.2.2.2.2.2; omega
        have hdm : c.blocks - c.cores * c.logs ≤ 256 := by have := mul_small' hm; have := hm.2.1.2; omega
        have hND := new_yes c hm
        have hPD := PL.pData_yes c hm
        clear hm
        generalize hdata : c.blocks - c.cores * c.logs = data at hND hPD hdp hdm
        have HN := Lib.hid hND; have HPD := Lib.hid hPD
        clear hND hPD hdata
        obtain ⟨room, hroom⟩ : ∃ r, c.backs = r := ⟨_, rfl⟩
        rw [hroom] at hbk HN
        clear hroom
        have hr6 : room ≤ 65536 := by omega
        have hv0 := Inv.nil data room (by omega)
        have hu0 : AllU ([] : List Bk) := fun z hz => (by cases hz)
        obtain ⟨hv1, hu1⟩ := run_ok hv0 hu0 K1 B1 X1 len1
        obtain ⟨hv2, hu2⟩ := run_ok hv1 hu1 K2 B2 X2 len2
        have HV0 := Lib.hid hv0; have HUU0 := Lib.hid hu0; have HV1 := Lib.hid hv1; have HUU1 := Lib.hid hu1; have HV2 := Lib.hid hv2; have HUU2 := Lib.hid hu2
        clear hv0 hu0 hv1 hu1 hv2 hu2
        go_enter Try.func5, Try.ntmps5
        go_wp2_with fail
        rw [HW0.out]
        refine (HN.out W0).mono ?_
        rintro e w2 ⟨kb, rfl, hu, hb⟩
        have HS2 := Lib.hid (HS0.out.push hu hb)
        clear hu hb
        obtain ⟨cb, hcb⟩ : ∃ cb, w.heap.size = cb := ⟨_, rfl⟩
        rw [hcb] at HS2 ⊢
        go_wp2_with fail
        refine (s_do HS2.out 0 rfl HV0.out HUU0.out hr6 a1 len1 cap1 K1 B1 X1 HC1.out lc1 HM1.out).mono ?_
        rintro e w3 ⟨⟨v3, rfl⟩, hs⟩
        obtain ⟨z1, hz1⟩ : ∃ z, runC data room [] K1 B1 X1 len1 = z := ⟨_, rfl⟩
        rw [hz1] at hs HV1 HUU1 HV2 HUU2
        clear hz1
        have HS3 : Hid (Sep NoF w w3 [Bo kb data z1 room, cfgO cb c]) := Lib.hid hs
        clear hs
        go_wp2_with fail
        refine (s_copy HS3.out 0 rfl HV1.out hr6).mono ?_
        rintro e w4 ⟨ok, rfl, hs⟩
        have HS4 := Lib.hid hs
        clear hs
        go_wp2_with fail
        refine (s_copy HS4.out 1 rfl HV1.out hr6).mono ?_
        rintro e w5 ⟨tk, rfl, hs⟩
        have HS5 := Lib.hid hs
        clear hs
        go_wp2_with fail
        refine (s_do HS5.out 1 rfl HV1.out HUU1.out hr6 a2 len2 cap2 K2 B2 X2 HC2.out lc2 HM2.out).mono ?_
        rintro e w6 ⟨⟨v6, rfl⟩, hs⟩
        obtain ⟨z2, hz2⟩ : ∃ z, runC data room z1 K2 B2 X2 len2 = z := ⟨_, rfl⟩
        have HZ2 := Lib.hid hz2
        rw [hz2] at hs HV2 HUU2
        clear hz2
        have HS6 : Hid (Sep NoF w w6 [Bo tk data z1 room, Bo ok data z2 room, Bo kb data z1 room, cfgO cb c]) := Lib.hid hs
        clear hs
        obtain ⟨f0, f1, f2, f3, f4, f5, f6, f7⟩ := cfg_cells (HS6.out.box 3 rfl)
        go_wp2_with fail
        refine (HPD.out _).mono ?_
        rintro e w7 ⟨rfl, hu⟩
        have HS7 := Lib.hid (HS6.out.upd0 hu)
        clear hu f0 f1 f2 f3 f4 f5 f6 f7
        go_wp2_with fail
        go_loopw [57] (fun i wr => ∃ k : Nat, (k : Int) ≤ data ∧ i = .int .i64 k ∧ Hid (Sep NoF w wr [Bo tk data z1 room, Bo ok data z2 room, Bo kb data z1 room, cfgO cb c])) (fun i _ => data.toNat - (intOf i).toNat)
        case atStart => exact ⟨0, by omega, rfl, HS7.out⟩
        case round =>
          obtain ⟨k, hk, rfl, HI⟩ := hrel
          by_cases hlt : (k : Int) < data
          · obtain ⟨D, lv, is, hfv, hD⟩ := find_tuple HUU1.out (k : Int)
            have q1 := s_find HI.out 2 rfl (k : Int)
            rw [hfv] at q1
            have HQ1 := Lib.hid q1
            have HFV := Lib.hid hfv; have HD := Lib.hid hD
            clear q1 hfv hD
            go_wp2_with fail
            refine HQ1.out.mono ?_
            rintro e wa ⟨rfl, hs⟩
            have s1 := TBlk.st_new HD.out.isN wa
            have HSa := Lib.hid (hs.alloc D 32)
            have q2 := s_find HSa.out 1 rfl (k : Int)
            rw [HFV.out] at q2
            have HQ2 := Lib.hid q2
            clear q2 hs
            go_wp2_with fail
            refine HQ2.out.mono ?_
            rintro e wb ⟨rfl, hs⟩
            have s2 := TBlk.st_new HD.out.isN wb
            have hsb := hs.alloc D 32
            have l1 := TBlk.ld_at HD.out.isN (hsb.box 1 rfl).whole
            have l2 := TBlk.ld_at HD.out.isN (hsb.box 0 rfl).whole
            have hne := neqU HD.out (wb.alloc (.cells D 32))
            have HSb : Hid (Sep NoF w _ [Bo tk data z1 room, Bo ok data z2 room, Bo kb data z1 room, cfgO cb c]) := Lib.hid ((hsb.drop 0 (Nat.succ_pos _)).drop 0 (Nat.succ_pos _))
            clear hs hsb
            go_wp2_with fail
            exact ⟨⟨k + 1, by omega, by go_num, HSb.out⟩, by simp [intOf]; omega⟩
          · have hke : (k : Int) = data := by omega
            have hkd : decide ((k : Int) < data) = false := by simp; omega
            go_wp2_with fail
            refine (s_do HI.out 2 rfl HV1.out HUU1.out hr6 a2 len2 cap2 K2 B2 X2 HC2.out lc2 HM2.out).mono ?_
            rintro e w8 ⟨⟨v8, rfl⟩, hs⟩
            rw [HZ2.out] at hs
            have HS8 : Hid (Sep NoF w w8 [Bo tk data z1 room, Bo ok data z2 room, Bo kb data z2 room, cfgO cb c]) := Lib.hid hs
            clear hs
            obtain ⟨f0, f1, f2, f3, f4, f5, f6, f7⟩ := cfg_cells (HS8.out.box 3 rfl)
            go_wp2_with fail
            refine (HPD.out _).mono ?_
            rintro e w10 ⟨rfl, hu⟩
            have HS10 := Lib.hid (HS8.out.upd0 hu)
            clear hu f0 f1 f2 f3 f4 f5 f6 f7 hke hkd
            obtain ⟨wo, rfl⟩ : ∃ x, x = wr := ⟨_, rfl⟩
            go_wp2_with fail
            go_loopw [94] (fun i wr => ∃ k : Nat, (k : Int) ≤ data ∧ i = .int .i64 k ∧ Hid (Sep NoF w wr [Bo tk data z1 room, Bo ok data z2 room, Bo kb data z2 room, cfgO cb c])) (fun i _ => data.toNat - (intOf i).toNat)
            case atStart => exact ⟨0, by omega, rfl, HS10.out⟩
            case round =>
              obtain ⟨k, hk, rfl, HI⟩ := hrel
              by_cases hlt : (k : Int) < data
              · obtain ⟨D, lv, is, hfv, hD⟩ := find_tuple HUU2.out (k : Int)
                have q1 := s_find HI.out 2 rfl (k : Int)
                rw [hfv] at q1
                have HQ1 := Lib.hid q1
                have HFV := Lib.hid hfv; have HD := Lib.hid hD
                clear q1 hfv hD
                go_wp2_with fail
                refine HQ1.out.mono ?_
                rintro e wa ⟨rfl, hs⟩
                have s1 := TBlk.st_new HD.out.isN wa
                have HSa := Lib.hid (hs.alloc D 32)
                have q2 := s_find HSa.out 2 rfl (k : Int)
                rw [HFV.out] at q2
                have HQ2 := Lib.hid q2
                clear q2 hs
                go_wp2_with fail
                refine HQ2.out.mono ?_
                rintro e wb ⟨rfl, hs⟩
                have s2 := TBlk.st_new HD.out.isN wb
                have hsb := hs.alloc D 32
                have l1 := TBlk.ld_at HD.out.isN (hsb.box 1 rfl).whole
                have l2 := TBlk.ld_at HD.out.isN (hsb.box 0 rfl).whole
                have hne := neqU HD.out (wb.alloc (.cells D 32))
                have HSb : Hid (Sep NoF w _ [Bo tk data z1 room, Bo ok data z2 room, Bo kb data z2 room, cfgO cb c]) := Lib.hid ((hsb.drop 0 (Nat.succ_pos _)).drop 0 (Nat.succ_pos _))
                clear hs hsb
                go_wp2_with fail
                exact ⟨⟨k + 1, by omega, by go_num, HSb.out⟩, by simp [intOf]; omega⟩
              · have hke : (k : Int) = data := by omega
                have hkd : decide ((k : Int) < data) = false := by simp; omega
                go_wp2_with fail
                refine (works_any _).mono ?_
                rintro e w9 ⟨rfl, hu⟩
                have HS9 := Lib.hid (HI.out.upd0 hu)
                clear hu
                go_wp2
                go_ret
                exact ⟨rfl, HS9.out.below⟩
      · have HN := Lib.hid (new_no c hm)
        clear hm
        go_enter Try.func5, Try.ntmps5
        go_wp2_with fail
        rw [HW0.out]
        refine (HN.out W0).mono ?_
        rintro e w2 ⟨rfl, hu⟩
        have HS2 := Lib.hid (HS0.out.upd0 hu)
        clear hu
        go_wp2_with fail
        refine (works_any _).mono ?_
        rintro e w9 ⟨rfl, hu⟩
        have HS9 := Lib.hid (HS2.out.upd0 hu)
        clear hu
        go_wp2
        go_ret
        exact ⟨rfl, HS9.out.below⟩
end Go.Proofs.Ytoddipfgkbaeaaa.BK
