/- BacksPlay: what the Go function does. -/
import Derived.Test.YtoddipfgkbaeaaaBacksRef3
import Derived.Test.YtoddipfgkbaeaaaBacksKeepW
import Derived.Deep.CutBlock
import Derived.Deep.RegionHeld3
set_option linter.unusedSimpArgs false
set_option linter.unusedVariables false
namespace Go.Proofs.Ytoddipfgkbaeaaa.BK
open Go.RowKit
open PL (Cfg CC CV May)
attribute [local go_sem] Oper.semAt_some
attribute [local go_sem ↓] TBlk.ld_eq TBlk.st_eq TBlk.al_eq
attribute [local go_sem] TBlk.al_run

abbrev DP (x : Int) : Array Value := #[.int .u32 x, .int .u32 x, .int .u32 0, .int .u32 0, .int .u32 0, .int .u32 0, .int .u32 0, .int .u32 0, .int .u32 0, .int .u32 0, .int .u32 0, .int .u32 0, .int .u32 0, .int .u32 0, .int .u32 0, .int .u32 x]
theorem isU_DP (x : Int) : IsU (DP x) := ⟨by kernel_rfl, fun u hu => by
  simp only [DP, List.mem_toArray, List.mem_cons, List.not_mem_nil, or_false] at hu
  by_cases h : u = .int .u32 x
  · exact ⟨x, h⟩
  · exact ⟨0, by simpa [h] using hu⟩⟩

set_option maxRecDepth 100000 in
set_option maxHeartbeats 4000000 in
theorem play_any (c : Cfg) (a1 : Option Addr) (len1 cap1 : Nat) (V1 : Nat → Nat → Value) (K1 B1 X1 : Nat → Int) (w : World) (h1 : IsRowF w a1 len1 cap1 3 V1)
    (hV1 : ∀ i, i < len1 → V1 i 0 = .int .i64 (K1 i) ∧ V1 i 1 = .int .i64 (B1 i) ∧ V1 i 2 = .int .u32 (X1 i)) :
    Calls Try.prog 7 #[CV c, .slice a1 len1 cap1] w fun e w' => e = .returned (.bool true) ∧ Below w.heap.size w w' := by
  have HC1 := Lib.hid (script_of h1 hV1)
  obtain ⟨lc1, m1, _⟩ := h1
  clear hV1
  unfold maxLen at m1
  obtain ⟨W0, hW0⟩ : ∃ W0, w.alloc (.cells (CC c) 23) = W0 := ⟨_, rfl⟩
  have HS0 : Hid (Sep NoF w W0 [cfgO w.heap.size c]) := Lib.hid (by rw [← hW0]; exact (Sep.zero NoF w).alloc _ _)
  have HW0 := Lib.hid hW0
  clear hW0
  by_cases g1 : 300 < len1
  · have hb1 : decide ((300 : Int) < (len1 : Int)) = true := by simp; omega
    go_enter Try.func7, Try.ntmps7
    go_wp2_with fail
    rw [HW0.out]
    refine (works_any _).mono ?_
    rintro e w9 ⟨rfl, hu⟩
    have HS9 := Lib.hid (HS0.out.upd0 hu)
    clear hu
    go_wp2
    go_ret
    exact ⟨rfl, HS9.out.below⟩
  · have hb1 : decide ((300 : Int) < (len1 : Int)) = false := by simp; omega
    by_cases hm : May c
    · have hbk : 1 ≤ c.backs ∧ c.backs ≤ 4 := hm.2.2.2.1
      have hdp : 1 ≤ c.blocks - c.cores * c.logs ∧ c.blocks - c.cores * c.logs ≤ 65536 := ⟨by have := hm.2.2.2.2.2.2.2.2; omega, by have := mul_small' hm; have := hm.2.1.2; omega⟩
      obtain ⟨n, hn⟩ : ∃ n : Nat, (n : Int) = c.blocks - c.cores * c.logs := ⟨(c.blocks - c.cores * c.logs).toNat, by omega⟩
      have hn6 : n ≤ 65536 := by omega
      have hND := new_yes c hm
      have HRN := Lib.hid (fun w => rnew_any c hm n hn w)
      have hrm := PL.rMay_any c
      rw [show decide (May c) = true from decide_eq_true hm] at hrm
      have HRM := Lib.hid hrm
      clear hm hrm
      rw [← hn] at hND
      clear hdp hn
      have HN := Lib.hid hND
      clear hND
      obtain ⟨room, hroom⟩ : ∃ r, c.backs = r := ⟨_, rfl⟩
      have HRO := Lib.hid hroom
      rw [hroom] at hbk HN HRN
      clear hroom
      have hr6 : room ≤ 65536 := by omega
      have HV0 := Lib.hid (Inv.nil (n : Int) room (by omega))
      go_enter Try.func7, Try.ntmps7
      go_wp2_with fail
      rw [HW0.out]
      refine (HN.out W0).mono ?_
      rintro e w2 ⟨kb, rfl, hu, hb⟩
      have HS2 := Lib.hid (HS0.out.push hu hb)
      obtain ⟨f0, f1, f2, f3, f4, f5, f6, f7⟩ := cfg_cells (HS2.out.box 1 rfl)
      clear hu hb
      go_wp2_with fail
      refine (HRM.out w2).mono ?_
      rintro e w3 ⟨rfl, hu⟩
      have HS3 := Lib.hid (HS2.out.upd0 hu)
      clear f0 f1 f2 f3 f4 f5 f6 f7
      obtain ⟨f0, f1, f2, f3, f4, f5, f6, f7⟩ := cfg_cells (HS3.out.box 1 rfl)
      clear hu
      go_wp2_with fail
      refine (HRN.out w3).mono ?_
      rintro e w4 ⟨rb, rfl, hu, hb⟩
      have HS4 := Lib.hid (HS3.out.push hu hb)
      clear hu hb f0 f1 f2 f3 f4 f5 f6 f7
      obtain ⟨cb, hcb⟩ : ∃ cb, w.heap.size = cb := ⟨_, rfl⟩
      rw [hcb] at HS4 ⊢
      go_wp2_with fail
      go_loopw [5, 46] (fun pv i wr => ∃ (k : Nat) (zs : List Bk) (kb : Nat), k ≤ len1 ∧ i = .int .i64 k ∧ pv = ptr kb ∧ Hid (Inv n room zs ∧ AllU zs ∧ Sep NoF w wr [Bo kb n zs room, Ro rb n zs room, cfgO cb c])) (fun _ i _ => len1 - (intOf i).toNat)
      case atStart => exact ⟨0, [], kb, Nat.zero_le _, rfl, rfl, HV0.out, (fun z hz => by cases hz), HS4.out.swap⟩
      case round =>
        obtain ⟨k, zs, kb, hk, rfl, rfl, HI⟩ := hrel
        by_cases hlt : k < len1
        · obtain ⟨x, g, q, rfl, hxa, hgl, g0, g1, g2⟩ := HC1.out k hlt
          replace g0 := HI.out.2.2.old g0
          replace g1 := HI.out.2.2.old g1
          replace g2 := HI.out.2.2.old g2
          generalize K1 k = kk at *
          generalize B1 k = bb at *
          generalize X1 k = xx at *
          obtain ⟨w5, hw5⟩ : ∃ W, wr.alloc (.cells #[.int .i64 kk, .int .i64 bb, .int .u32 xx] 41) = W := ⟨_, rfl⟩
          have HS5 : Hid (Sep NoF w w5 [opB wr.heap.size kk bb xx, Bo kb n zs room, Ro rb n zs room, cfgO cb c]) := Lib.hid (by rw [← hw5]; exact HI.out.2.2.alloc _ _)
          have HV := Lib.hid HI.out.1; have HUU := Lib.hid HI.out.2.1
          have HW5 := Lib.hid hw5
          clear hw5 HI
          go_upto_region 12 with fail
          rw [HW5.out]
          clear HW5
          obtain ⟨ob, hob⟩ : ∃ ob, wr.heap.size = ob := ⟨_, rfl⟩
          rw [hob] at HS5 ⊢
          clear hob
          have p2 : w5.cell? ⟨ob, 2, none⟩ = some (.int .u32 xx) := (HS5.out.box 0 rfl).cell 2
          have s14 := TBlk.st_new (isU_DP xx).isN w5
          have p0a : (w5.alloc (.cells (DP xx) 32)).cell? ⟨ob, 0, none⟩ = some (.int .i64 kk) := ((HS5.out.box 0 rfl).alloc _).cell 0
          obtain ⟨w6, hw6⟩ : ∃ W, w5.alloc (.cells (DP xx) 32) = W := ⟨_, rfl⟩
          have HS6 : Hid (Sep NoF w w6 [blkO w5.heap.size (DP xx), opB ob kk bb xx, Bo kb n zs room, Ro rb n zs room, cfgO cb c]) := Lib.hid (by rw [← hw6]; exact HS5.out.alloc _ _)
          have HW6 := Lib.hid hw6
          clear hw6
          go_upto_block 2 with fail
          rw [HW6.out]
          clear HW6 p2 s14 p0a
          obtain ⟨db, hdb⟩ : ∃ db, w5.heap.size = db := ⟨_, rfl⟩
          rw [hdb] at HS6 ⊢
          clear hdb
          have p0 : w6.cell? ⟨ob, 0, none⟩ = some (.int .i64 kk) := (HS6.out.box 1 rfl).cell 0
          have p1 : w6.cell? ⟨ob, 1, none⟩ = some (.int .i64 bb) := (HS6.out.box 1 rfl).cell 1
          have l14 := TBlk.ld_at (isU_DP xx).isN (HS6.out.box 0 rfl).whole
          have l14d := ((HS6.out.upd0 (Upd.drew NoF w6)).box 0 rfl).whole
          have hUb := Try.underlying32
          have hIb : (Try.prog.info? 32).map (·.size) = some (DP xx).toList.length := TBlk.infoS
          have HS6d := Lib.hid (HS6.out.upd0 (Upd.drew NoF w6))
          go_cut [5, 11] from 47 to 153 (fun s5 s11 wx => ∃ (zz : List Bk) (kb9 : Nat), s5 = ptr kb9 ∧ s11 = .bool true ∧ Hid (Inv n room zz ∧ AllU zz ∧ Sep NoF w wx [blkO db (DP xx), opB ob kk bb xx, Bo kb9 n zz room, Ro rb n zz room, cfgO cb c]))
          case first =>
            by_cases h0 : kk = 0
            · subst h0
              have hc1 := s_put HS6d.out 2 rfl HV.out hr6 bb (DP xx) (isU_DP xx).isN
              have hc2 : ∀ W, Sep NoF w W [blkO db (DP xx), opB ob 0 bb xx, Bo kb n (putS n room zs bb (DP xx)) room, Ro rb n zs room, cfgO cb c] → Calls Try.prog 22 #[ptr rb, .int .i64 bb, .agg (DP xx)] W fun e W' => e = .returned (.int .i64 (putE n room zs bb)) ∧ Sep NoF w W' [blkO db (DP xx), opB ob 0 bb xx, Bo kb n (putS n room zs bb (DP xx)) room, Ro rb n (putS n room zs bb (DP xx)) room, cfgO cb c] := fun W hs => hs.call (E := fun e => e = _) 3 rfl (fun F hF => rput_any W F rb n zs room bb (DP xx) (isU_DP xx).isN hF HV.out rfl hn6)
              generalize hee : putE n room zs bb = ee at hc1 hc2
              clear hee
              have HC1x := Lib.hid hc1; have HC2x := Lib.hid hc2
              clear hc1 hc2
              have HLD := Lib.hid (fun (W : World) (h : W.rangeAt db 0 (DP xx).toList) => TBlk.ld_at (isU_DP xx).isN h)
              have hr27 := fun w => run_underlying (w := w) Try.underlying27
              have hr41 := fun w => run_underlying (w := w) Try.underlying41
              have hs3 := Try.sizeOf3
              have ha3 := Try.isAgg3
              have he1 := fun args w => enters_of Try.func12 (by kernel_rfl) rfl args w
              have he2 := fun args w => enters_of Try.func22 (by kernel_rfl) rfl args w
              go_wp2_with fail
              generalize hPP : Try.prog = P at *
              go_region_held3 (fun W => W.cell? ⟨ob, 1, none⟩ = some (.int .i64 bb) ∧ (TBlk.ld (.pointer (some ⟨db, 0, none⟩))).run P W = .ok (.agg (DP xx)) W) (first | assumption | exact ⟨p1, HLD.out _ l14d⟩) (first | (go_at_call 12; refine HC1x.out.mono ?_; rintro e wa ⟨rfl, hs⟩; have HSa : Hid (Sep NoF w wa [blkO db (DP xx), opB ob 0 bb xx, Bo kb n (putS n room zs bb (DP xx)) room, Ro rb n zs room, cfgO cb c]) := Lib.hid hs; have hS' : (fun W => W.cell? ⟨ob, 1, none⟩ = some (.int .i64 bb) ∧ (TBlk.ld (.pointer (some ⟨db, 0, none⟩))).run P W = .ok (.agg (DP xx)) W) wa := ⟨(HSa.out.box 1 rfl).cell 1, HLD.out _ (HSa.out.box 0 rfl).whole⟩; clear hs) | (go_at_call 22; refine (HC2x.out _ HSa.out).mono ?_; rintro e wb ⟨rfl, hs⟩; have HSb : Hid (Sep NoF w wb [blkO db (DP xx), opB ob 0 bb xx, Bo kb n (putS n room zs bb (DP xx)) room, Ro rb n (putS n room zs bb (DP xx)) room, cfgO cb c]) := Lib.hid hs; have hS' : (fun W => W.cell? ⟨ob, 1, none⟩ = some (.int .i64 bb) ∧ (TBlk.ld (.pointer (some ⟨db, 0, none⟩))).run P W = .ok (.agg (DP xx)) W) wb := ⟨(HSb.out.box 1 rfl).cell 1, HLD.out _ (HSb.out.box 0 rfl).whole⟩; clear hs))
              subst hPP
              go_wp2_with fail
              go_meet
              exact ⟨(putS n room zs bb (DP xx)), kb, rfl, rfl, HV.out.put bb (isU_DP xx).isN, allU_put HUU.out bb (isU_DP xx), HSb.out⟩
            · have h0b : (kk == 0) = false := by simpa using h0
              by_cases h2 : kk = 2
              · subst h2
                have hc1 := s_kill HS6d.out 2 rfl HV.out hr6 bb
                have hc2 : ∀ W, Sep NoF w W [blkO db (DP xx), opB ob 2 bb xx, Bo kb n (killS zs bb) room, Ro rb n zs room, cfgO cb c] → Calls Try.prog 23 #[ptr rb, .int .i64 bb] W fun e W' => e = .returned (.bool (killB zs bb)) ∧ Sep NoF w W' [blkO db (DP xx), opB ob 2 bb xx, Bo kb n (killS zs bb) room, Ro rb n (killS zs bb) room, cfgO cb c] := fun W hs => hs.call (E := fun e => e = _) 3 rfl (fun F hF => rkill_any W F rb n zs room bb hF HV.out rfl hn6)
                generalize hee : killB zs bb = ee at hc1 hc2
                clear hee
                have HC1x := Lib.hid hc1; have HC2x := Lib.hid hc2
                clear hc1 hc2
                go_wp2_with fail
                go_region_held3 (fun W => W.cell? ⟨ob, 1, none⟩ = some (.int .i64 bb) ∧ W.rangeAt db 0 (DP xx).toList) (first | assumption | exact ⟨p1, l14d⟩) (first | (go_at_call 15; refine HC1x.out.mono ?_; rintro e wa ⟨rfl, hs⟩; have HSa : Hid (Sep NoF w wa [blkO db (DP xx), opB ob 2 bb xx, Bo kb n (killS zs bb) room, Ro rb n zs room, cfgO cb c]) := Lib.hid hs; have hS' : (fun W => W.cell? ⟨ob, 1, none⟩ = some (.int .i64 bb) ∧ W.rangeAt db 0 (DP xx).toList) wa := ⟨(HSa.out.box 1 rfl).cell 1, (HSa.out.box 0 rfl).whole⟩; clear hs) | (go_at_call 23; refine (HC2x.out _ HSa.out).mono ?_; rintro e wb ⟨rfl, hs⟩; have HSb : Hid (Sep NoF w wb [blkO db (DP xx), opB ob 2 bb xx, Bo kb n (killS zs bb) room, Ro rb n (killS zs bb) room, cfgO cb c]) := Lib.hid hs; have hS' : (fun W => W.cell? ⟨ob, 1, none⟩ = some (.int .i64 bb) ∧ W.rangeAt db 0 (DP xx).toList) wb := ⟨(HSb.out.box 1 rfl).cell 1, (HSb.out.box 0 rfl).whole⟩; clear hs))
                go_wp2_with fail
                go_meet
                exact ⟨(killS zs bb), kb, rfl, rfl, HV.out.kill bb, allU_kill HUU.out bb, HSb.out⟩
              · have h2b : (kk == 2) = false := by simpa using h2
                by_cases h3 : kk = 3
                · subst h3
                  have hc1 := s_drop HS6d.out 2 rfl HV.out hr6 bb
                  have hc2 : ∀ W, Sep NoF w W [blkO db (DP xx), opB ob 3 bb xx, Bo kb n (dropS zs bb) room, Ro rb n zs room, cfgO cb c] → Calls Try.prog 24 #[ptr rb, .int .i64 bb] W fun e W' => e = .returned (.bool (dropB zs bb)) ∧ Sep NoF w W' [blkO db (DP xx), opB ob 3 bb xx, Bo kb n (dropS zs bb) room, Ro rb n (dropS zs bb) room, cfgO cb c] := fun W hs => hs.call (E := fun e => e = _) 3 rfl (fun F hF => rdrop_any W F rb n zs room bb hF HV.out rfl hn6)
                  generalize hee : dropB zs bb = ee at hc1 hc2
                  clear hee
                  have HC1x := Lib.hid hc1; have HC2x := Lib.hid hc2
                  clear hc1 hc2
                  go_wp2_with fail
                  go_region_held3 (fun W => W.cell? ⟨ob, 1, none⟩ = some (.int .i64 bb) ∧ W.rangeAt db 0 (DP xx).toList) (first | assumption | exact ⟨p1, l14d⟩) (first | (go_at_call 16; refine HC1x.out.mono ?_; rintro e wa ⟨rfl, hs⟩; have HSa : Hid (Sep NoF w wa [blkO db (DP xx), opB ob 3 bb xx, Bo kb n (dropS zs bb) room, Ro rb n zs room, cfgO cb c]) := Lib.hid hs; have hS' : (fun W => W.cell? ⟨ob, 1, none⟩ = some (.int .i64 bb) ∧ W.rangeAt db 0 (DP xx).toList) wa := ⟨(HSa.out.box 1 rfl).cell 1, (HSa.out.box 0 rfl).whole⟩; clear hs) | (go_at_call 24; refine (HC2x.out _ HSa.out).mono ?_; rintro e wb ⟨rfl, hs⟩; have HSb : Hid (Sep NoF w wb [blkO db (DP xx), opB ob 3 bb xx, Bo kb n (dropS zs bb) room, Ro rb n (dropS zs bb) room, cfgO cb c]) := Lib.hid hs; have hS' : (fun W => W.cell? ⟨ob, 1, none⟩ = some (.int .i64 bb) ∧ W.rangeAt db 0 (DP xx).toList) wb := ⟨(HSb.out.box 1 rfl).cell 1, (HSb.out.box 0 rfl).whole⟩; clear hs))
                  go_wp2_with fail
                  go_meet
                  exact ⟨(dropS zs bb), kb, rfl, rfl, HV.out.drop bb, allU_drop HUU.out bb, HSb.out⟩
                · have h3b : (kk == 3) = false := by simpa using h3
                  by_cases h4 : kk = 4
                  · subst h4
                    go_wp2_with fail
                    refine (s_copy HS6.out 2 rfl HV.out hr6).mono ?_
                    rintro e w7 ⟨q2, rfl, hs⟩
                    have HS7 := Lib.hid hs
                    clear hs
                    have p1c : w7.cell? ⟨ob, 1, none⟩ = some (.int .i64 bb) := (HS7.out.box 2 rfl).cell 1
                    go_wp2_with fail
                    refine (s_drop HS7.out 3 rfl HV.out hr6 bb).mono ?_
                    rintro e w8 ⟨rfl, hs⟩
                    have HS8 : Hid (Sep NoF w w8 [Bo q2 n zs room, blkO db (DP xx), opB ob 4 bb xx, Ro rb n zs room, cfgO cb c]) := Lib.hid (hs.drop 3 (by simp))
                    clear hs
                    have HS9 : Hid (Sep NoF w w8 [blkO db (DP xx), opB ob 4 bb xx, Bo q2 n zs room, Ro rb n zs room, cfgO cb c]) := Lib.hid (HS8.out.sink 2)
                    go_wp2_with fail
                    go_meet
                    exact ⟨zs, q2, rfl, rfl, HV.out, HUU.out, HS9.out⟩
                  · have h4b : (kk == 4) = false := by simpa using h4
                    go_wp2_with fail
                    go_meet
                    exact ⟨zs, kb, rfl, rfl, HV.out, HUU.out, HS6.out⟩
          case rest =>
            obtain ⟨zz, kb9, rfl, rfl, hv0, hu0, hs0⟩ := hcut
            have HSc := Lib.hid hs0
            have HVc := Lib.hid hv0; have HUc := Lib.hid hu0
            clear hs0 hv0 hu0 HS5 HS6 HS6d p0 p1 l14 l14d
            obtain ⟨D, lv, ex, hfv, hD⟩ := find_tuple HUc.out bb
            have HD := Lib.hid hD
            have hq1 := s_find HSc.out 2 rfl bb
            rw [hfv] at hq1
            have HFV := Lib.hid hfv; have HQ1 := Lib.hid hq1
            clear hq1
            clear hfv hD
            have pc1 : wc.cell? ⟨ob, 1, none⟩ = some (.int .i64 bb) := (HSc.out.box 1 rfl).cell 1
            go_wp2_with fail
            refine HQ1.out.mono ?_
            rintro e w7 ⟨rfl, hs⟩
            have s7 := TBlk.st_new HD.out.isN w7
            obtain ⟨w8, hw8⟩ : ∃ W, w7.alloc (.cells D 32) = W := ⟨_, rfl⟩
            have HS8 : Hid (Sep NoF w w8 (blkO w7.heap.size D :: [blkO db (DP xx), opB ob kk bb xx, Bo kb9 n zz room, Ro rb n zz room, cfgO cb c])) := Lib.hid (by rw [← hw8]; exact hs.alloc _ _)
            have HW8 := Lib.hid hw8
            clear hw8 hs
            have pc2 : w8.cell? ⟨ob, 1, none⟩ = some (.int .i64 bb) := (HS8.out.box 2 rfl).cell 1
            go_upto_region 26 with fail
            rw [HW8.out]
            clear HW8 s7
            obtain ⟨ab, hab⟩ : ∃ ab, w7.heap.size = ab := ⟨_, rfl⟩
            rw [hab] at HS8 ⊢
            clear hab
            go_wp2_with fail
            refine (HS8.out.reads (E := fun e => e = _) 4 rfl (fun F hF => by have := rfind_any w8 F rb n zz room bb hF HVc.out rfl hn6; rw [HFV.out] at this; exact this)).mono ?_
            rintro e w9 ⟨rfl, hs⟩
            have s9 := TBlk.st_new HD.out.isN w9
            obtain ⟨w10, hw10⟩ : ∃ W, w9.alloc (.cells D 32) = W := ⟨_, rfl⟩
            have HS10 : Hid (Sep NoF w w10 (blkO w9.heap.size D :: blkO ab D :: [blkO db (DP xx), opB ob kk bb xx, Bo kb9 n zz room, Ro rb n zz room, cfgO cb c])) := Lib.hid (by rw [← hw10]; exact hs.alloc _ _)
            have HW10 := Lib.hid hw10
            clear hw10 hs
            go_upto_region 27 with fail
            rw [HW10.out]
            clear HW10 s9
            obtain ⟨eb, heb⟩ : ∃ eb, w9.heap.size = eb := ⟨_, rfl⟩
            rw [heb] at HS10 ⊢
            clear heb
            have hfew := HVc.out.few
            obtain ⟨nz, hnz⟩ : ∃ nz : Int, ((zz).length : Int) = nz := ⟨_, rfl⟩
            have hz0 : 0 ≤ nz := by omega
            have hzr : nz ≤ room := by omega
            have hws : IntKind.i64.wrap (room - nz) = room - nz := IntWalk.i64_in _ (by omega)
            have HLN := Lib.hid (fun (m : Nat) => (HS10.out.upd0 (Upd.drewN NoF w10 m)).looks (E := fun e => e = Ending.returned (.int .i64 nz)) 4 rfl (fun F hF => by have := len_any (w10.drewN m) F kb9 n zz room hF; rw [hnz] at this; exact this))
            have HLR := Lib.hid (fun (m : Nat) => (HS10.out.upd0 (Upd.drewN NoF w10 m)).looks (E := fun e => e = Ending.returned (.int .i64 nz)) 5 rfl (fun F hF => by have := rlen_any (w10.drewN m) F rb n zz room hF HVc.out rfl hn6; rw [hnz] at this; exact this))
            have HRO9 := Lib.hid (fun (m : Nat) => show Calls Try.prog 11 #[ptr kb9] (w10.drewN m) fun e w' => e = .returned (.int .i64 (room - nz)) ∧ ∃ m', w' = (w10.drewN m).drewN m' from by obtain ⟨F, hF⟩ := (HS10.out.upd0 (Upd.drewN NoF w10 m)).has 4 rfl; have := room_q (w10.drewN m) F kb9 n zz room hF (by omega) (by omega) (by omega); rw [hnz] at this; exact this)
            have la := TBlk.ld_at HD.out.isN (HS10.out.box 1 rfl).whole
            have lb := TBlk.ld_at HD.out.isN (HS10.out.box 0 rfl).whole
            have lam := fun m => TBlk.ld_at HD.out.isN ((HS10.out.upd0 (Upd.drewN NoF w10 m)).box 1 rfl).whole
            have lbm := fun m => TBlk.ld_at HD.out.isN ((HS10.out.upd0 (Upd.drewN NoF w10 m)).box 0 rfl).whole
            have f5 : w10.cell? ⟨cb, 5, none⟩ = some (.int .i64 room) := by rw [← HRO.out]; exact (HS10.out.box 6 rfl).cell 5
            have hne := fun (W : World) => neqU HD.out W
            clear hfew hnz
            go_quiet (first | (go_at_call 14; exact Calls.quiet_of_same ((HLN.out _).mono (fun _ _ h => ⟨h.1, h.2.symm⟩))) | (go_at_call 26; exact Calls.quiet_of_same ((HLR.out _).mono (fun _ _ h => ⟨h.1, h.2.symm⟩))) | (go_at_call 11; exact Calls.quiet_of (HRO9.out _)))
            go_wp2_with fail
            exact ⟨⟨k + 1, zz, kb9, by omega, by go_num, rfl, HVc.out, HUc.out, (((HS10.out.upd0 (Upd.drewN NoF _ _)).drop 0 (Nat.succ_pos _)).drop 0 (Nat.succ_pos _)).drop 0 (Nat.succ_pos _) |>.drop 0 (Nat.succ_pos _)⟩, by simp [intOf]; omega⟩
        · obtain rfl : len1 = k := by omega
          have HE := Lib.hid HI.out.2.2
          clear HI
          go_wp2_with fail
          refine (works_any _).mono ?_
          rintro e w9 ⟨rfl, hu⟩
          have HS9 := Lib.hid (HE.out.upd0 hu)
          clear hu
          go_wp2
          go_ret
          exact ⟨rfl, HS9.out.below⟩
    · have HN := Lib.hid (new_no c hm)
      have hrm := PL.rMay_any c
      rw [show decide (May c) = false from decide_eq_false hm] at hrm
      have HRM := Lib.hid hrm
      clear hm hrm
      go_enter Try.func7, Try.ntmps7
      go_wp2_with fail
      rw [HW0.out]
      refine (HN.out W0).mono ?_
      rintro e w2 ⟨rfl, hu⟩
      have HS2 := Lib.hid (HS0.out.upd0 hu)
      obtain ⟨f0, f1, f2, f3, f4, f5, f6, f7⟩ := cfg_cells (HS2.out.box 0 rfl)
      clear hu
      go_wp2_with fail
      refine (HRM.out w2).mono ?_
      rintro e w3 ⟨rfl, hu⟩
      have HS3 := Lib.hid (HS2.out.upd0 hu)
      clear hu
      go_wp2_with fail
      refine (works_any _).mono ?_
      rintro e w9 ⟨rfl, hu⟩
      have HS9 := Lib.hid (HS3.out.upd0 hu)
      clear hu
      go_wp2
      go_ret
      exact ⟨rfl, HS9.out.below⟩
end Go.Proofs.Ytoddipfgkbaeaaa.BK
