/- NetOnce: what the Go function does. -/
import Derived.Test.YtmfhbobjambgaaaNetTook
import Derived.Deep.CutBlock
set_option linter.unusedSimpArgs false
set_option linter.unusedVariables false
namespace Go.Proofs.Ytmfhbobjambgaaa.NE
open Go.RowKit
open BU (IsU words)
open PL (Cfg CC CV May)
open GR (hopsN)
attribute [local go_sem] Oper.semAt_some
attribute [local go_sem ↓] eqN_eq neN_eq eqB_eq neB_eq TNot.ld_eq TNot.st_eq TNot.al_eq TNot.bx_eq
attribute [local go_sem] TNot.al_run TNot.bx_run
set_option maxRecDepth 100000 in
set_option maxHeartbeats 4000000 in
theorem once_any (c : Cfg) (a1 : Option Addr) (len1 cap1 : Nat) (N : Nat → Nt) (a2 : Option Addr) (len2 cap2 : Nat) (Z2 : Nat → Int) (w : World) (h1 : IsRowN w a1 len1 cap1 N) (h2 : IsRow1 w a2 len2 cap2 (fun i => .int .i64 (Z2 i)))
    (hZ2 : ∀ i, i < len2 → -9223372036854775808 ≤ Z2 i ∧ Z2 i ≤ 9223372036854775807) :
    Calls Try.prog 3 #[CV c, .slice a1 len1 cap1, .slice a2 len2 cap2] w fun e w' => e = .returned (.bool true) ∧ Below w.heap.size w w' := by
  have HC1 := Lib.hid (fun i (hi : i < len1) => h1.at hi)
  obtain ⟨lc1, m1, _⟩ := h1
  obtain ⟨lc2, m2, c2⟩ := h2
  unfold maxLen at m1 m2
  have C2 := Lib.hid c2
  have HZ2 := Lib.hid hZ2
  clear c2 hZ2
  obtain ⟨W0, hW0⟩ : ∃ W0, w.alloc (.cells (CC c) 23) = W0 := ⟨_, rfl⟩
  have HS0 : Hid (Sep NoF w W0 [cfgO w.heap.size c]) := Lib.hid (by rw [← hW0]; exact (Sep.zero NoF w).alloc _ _)
  have HW0 := Lib.hid hW0
  clear hW0
  have early : ∀ (b : Bool), b = (decide ((100 : Int) < (len1 : Int)) || decide ((300 : Int) < (len2 : Int))) → True := fun _ _ => trivial
  clear early
  by_cases g1 : 100 < len1 ∨ 300 < len2
  · by_cases g0 : 100 < len1
    · have hb1 : decide ((100 : Int) < (len1 : Int)) = true := by simp; omega
      go_enter Try.func3, Try.ntmps3
      go_wp2_with fail
      rw [HW0.out]
      refine (works_any _).mono ?_
      rintro e w9 ⟨rfl, hu⟩
      have HS9 := Lib.hid (HS0.out.upd0 hu)
      clear hu
      go_wp2
      go_ret
      exact ⟨rfl, HS9.out.below⟩
    · have hb1 : decide ((100 : Int) < (len1 : Int)) = false := by simp; omega
      have hb2 : decide ((300 : Int) < (len2 : Int)) = true := by simp; omega
      go_enter Try.func3, Try.ntmps3
      go_wp2_with fail
      rw [HW0.out]
      refine (works_any _).mono ?_
      rintro e w9 ⟨rfl, hu⟩
      have HS9 := Lib.hid (HS0.out.upd0 hu)
      clear hu
      go_wp2
      go_ret
      exact ⟨rfl, HS9.out.below⟩
  · have hb1 : decide ((100 : Int) < (len1 : Int)) = false := by simp; omega
    have hb2 : decide ((300 : Int) < (len2 : Int)) = false := by simp; omega
    by_cases hm : May c
    · have hcc : c.cores ≤ 16 := hm.1.2
      have HN := Lib.hid (new_yes c hm 200 (by decide) (by decide))
      have HM := Lib.hid hm
      have I0 := Lib.hid (InvT.nil c 200 (by decide))
      clear hm
      go_enter Try.func3, Try.ntmps3
      go_wp2_with fail
      rw [HW0.out]
      refine (HN.out W0).mono ?_
      rintro e w2 ⟨tb, rfl, hu, ht⟩
      have HS2 : Hid (Sep NoF w w2 [notesO (.slice none 0 0) [], To tb c 200 [] 0, cfgO w.heap.size c]) := Lib.hid ((HS0.out.push hu ht).push (Upd.refl _ _) ⟨Row.nil _ _ _, fun k hk => by simp [Value.ownBlock] at hk⟩)
      clear hu ht
      obtain ⟨cb, hcb⟩ : ∃ cb, w.heap.size = cb := ⟨_, rfl⟩
      rw [hcb] at HS2 ⊢
      go_wp2_with fail
      go_loopw [9, 33] (fun tv i wr => ∃ (k : Nat) (ns : List Nt) (sv : Value) (hops : Int), k ≤ len1 ∧ i = .int .i64 k ∧ sv = tv ∧ Hid (InvT c 200 ns ∧ ns.length ≤ k ∧ 0 ≤ hops ∧ hops ≤ 8 * k ∧ Sep NoF w wr [notesO sv ns, To tb c 200 ns hops, cfgO cb c])) (fun _ i _ => len1 - (intOf i).toNat)
      case atStart => exact ⟨0, [], _, 0, Nat.zero_le _, rfl, rfl, I0.out, Nat.le_refl _, by omega, by omega, HS2.out⟩
      case round =>
        obtain ⟨k, ns, sv, hops, hk, rfl, rfl, HI⟩ := hrel
        by_cases hlt : k < len1
        · obtain ⟨hok, x, g, q, rfl, hxa, hgl, hrg⟩ := HC1.out k hlt
          have HOK := Lib.hid hok
          obtain ⟨hv, hl, hp0, hp1, hs⟩ := HI.out
          have hrw : wr.rangeAt g q (N k).cells.toList := fun j v hv => hs.old (hrg j v hv)
          have hrw2 : (wr.alloc (.cells TNot.Z 37)).rangeAt g q (N k).cells.toList := World.rangeAt_alloc hrw _
          generalize N k = n at *
          have l1 := TNot.ld_at (Nt.Ok.isN HOK.out.isU) hrw
          have l2 := TNot.ld_at (Nt.Ok.isN HOK.out.isU) hrw2
          have s1 := TNot.st_new (Nt.Ok.isN HOK.out.isU) wr
          obtain ⟨w5, hw5⟩ : ∃ W, wr.alloc (.cells n.cells 37) = W := ⟨_, rfl⟩
          have HS5 : Hid (Sep NoF w w5 [noteO wr.heap.size n, notesO sv ns, To tb c 200 ns hops, cfgO cb c]) := Lib.hid (by rw [← hw5]; exact hs.alloc _ _)
          have HV := Lib.hid hv
          have HW5 := Lib.hid hw5
          clear hw5 HI hok hrw hrw2 hrg hs hv
          go_upto_region 10 with fail
          rw [HW5.out]
          clear HW5 l1 l2 s1
          obtain ⟨nb, hnb⟩ : ∃ b, wr.heap.size = b := ⟨_, rfl⟩
          rw [hnb] at HS5 ⊢
          clear hnb
          have l9 := TNot.ld_at (Nt.Ok.isN HOK.out.isU) (HS5.out.box 0 rfl).whole
          have hsd := s_send HS5.out 2 rfl HM.out HV.out (by decide) n HOK.out
          have hv2 := HV.out.send hcc HOK.out
          have happ : sendE c 200 ns n = 0 → sendS c 200 ns n = ns ++ [n] := fun he => by unfold sendS; rw [if_pos he]
          have hnot : sendE c 200 ns n ≠ 0 → sendS c 200 ns n = ns := fun he => by unfold sendS; rw [if_neg he]
          generalize sendE c 200 ns n = ee at *
          have HSD := Lib.hid hsd; have HV2 := Lib.hid hv2; have HAP := Lib.hid happ; have HNO := Lib.hid hnot
          clear hsd hv2 happ hnot
          go_upto_if 41 with (go_at_call 11; refine HSD.out.mono ?_; rintro e w6 ⟨rfl, hs⟩; have HS6 : Hid (Sep NoF w w6 [noteO nb n, notesO sv ns, To tb c 200 (sendS c 200 ns n) hops, cfgO cb c]) := Lib.hid hs; clear hs)
          go_cut [9] from 38 to 75 (fun s9 wx => ∃ (ns2 : List Nt) (sv2 : Value), s9 = sv2 ∧ Hid (InvT c 200 ns2 ∧ ns2.length ≤ k + 1 ∧ Sep NoF w wx [notesO sv2 ns2, To tb c 200 ns2 hops, cfgO cb c]))
          case first =>
            by_cases he : ee = 0
            · have es := HAP.out he
              rw [es] at HS6 HV2
              subst he
              clear es HNO HAP
              have l9b := TNot.ld_at (Nt.Ok.isN HOK.out.isU) (HS6.out.box 0 rfl).whole
              have e2 := PN.fold_x (Nt.Ok.isN HOK.out.isU)
              have e3 := (Nt.Ok.isN HOK.out.isU).1
              obtain ⟨v', w7, hrun, hs7⟩ := s_app HS6.out 1 rfl n HOK.out.isU (by omega)
              have HR := Lib.hid hrun
              have HS7 : Hid (Sep NoF w w7 [notesO v' (ns ++ [n]), To tb c 200 (ns ++ [n]) hops, cfgO cb c]) := Lib.hid (hs7.drop 0 (Nat.succ_pos _))
              clear hrun hs7 l9
              go_wp2_with (at_builtin; refine wpList_append_run (w := w6.alloc (.cells n.cells 37)) rfl _ _ 24 rfl rfl rfl HR.out ?_)
              go_meet
              exact ⟨ns ++ [n], v', rfl, HV2.out, by rw [List.length_append]; simp; omega, HS7.out⟩
            · have es := HNO.out he
              rw [es] at HS6
              have heb : (ee == 0) = false := by simpa using he
              have HS7 : Hid (Sep NoF w w6 [notesO sv ns, To tb c 200 ns hops, cfgO cb c]) := Lib.hid (HS6.out.drop 0 (Nat.succ_pos _))
              clear es HNO HAP l9
              go_wp2_with fail
              go_meet
              exact ⟨ns, sv, rfl, HV.out, by omega, HS7.out⟩
          case rest =>
            obtain ⟨ns2, sv2, rfl, HI⟩ := hcut
            clear HS6 HSD HV2 HAP HNO HS5 HV l9 hl
            obtain ⟨hv, hl, hs⟩ := HI.out
            have HV := Lib.hid hv; have HS := Lib.hid hs
            clear hs HI hv
            have hlen0 := HS.out.looks 1 rfl (E := fun e => e = .returned (.int .i64 ns2.length)) (fun F hF => len_any wc F tb c 200 ns2 hops hF)
            have HLEN := Lib.hid hlen0
            clear hlen0
            by_cases hk2 : k < len2
            · obtain ⟨x2, rfl, gz0⟩ := C2.out k hk2
              have gz := HS.out.old gz0
              have hzb := HZ2.out k hk2
              generalize Z2 k = z at *
              have hwr : IntKind.i64.wrap (z.tmod 3) = z.tmod 3 := IntWalk.i64_in _ (by have := Int.tmod_lt_of_pos z (b := 3) (by decide); have := Int.lt_tmod_of_pos z (b := 3) (by decide); omega)
              by_cases h3 : z.tmod 3 = 0
              · have h3b : (z.tmod 3 == 0) = true := by simpa using h3
                by_cases hpos : 0 < ns2.length
                · have HTK := Lib.hid (took_any HS.out hcc HV.out hp0 (by omega) z hzb hpos (by omega))
                  have hVE := Lib.hid (fun j => HV.out.erase j)
                  have hpi : decide ((0 : Int) < (ns2.length : Int)) = true := by simp; omega
                  go_wp2_with (go_at_call 12; refine HLEN.out.mono ?_; rintro e wm ⟨rfl, rfl⟩)
                  refine HTK.out.mono ?_
                  rintro e wt ⟨j, v', hops', hj, rfl, hq0, hq1, hst⟩
                  have HST := Lib.hid hst
                  clear hst
                  go_wp2_with fail
                  exact ⟨⟨k + 1, ns2.eraseIdx j, v', hops', by omega, by go_num, rfl, hVE.out j, by have hE := List.length_eraseIdx_le ns2 j; omega, hq0, by omega, HST.out⟩, by simp [intOf]; omega⟩
                · have hpi : decide ((0 : Int) < (ns2.length : Int)) = false := decide_eq_false (by omega)
                  go_wp2_with (go_at_call 12; refine HLEN.out.mono ?_; rintro e wm ⟨rfl, rfl⟩)
                  exact ⟨⟨k + 1, ns2, _, hops, by omega, by go_num, rfl, HV.out, by omega, hp0, by omega, HS.out⟩, by simp [intOf]; omega⟩
              · have h3b : (z.tmod 3 == 0) = false := by simpa using h3
                go_wp2_with fail
                exact ⟨⟨k + 1, ns2, _, hops, by omega, by go_num, rfl, HV.out, by omega, hp0, by omega, HS.out⟩, by simp [intOf]; omega⟩
            · have hkb : decide ((k : Int) < (len2 : Int)) = false := by simp; omega
              go_wp2_with fail
              exact ⟨⟨k + 1, ns2, _, hops, by omega, by go_num, rfl, HV.out, by omega, hp0, by omega, HS.out⟩, by simp [intOf]; omega⟩
        · obtain rfl : len1 = k := by omega
          obtain ⟨hv, hl, hp0, hp1, hs⟩ := HI.out
          have HV := Lib.hid hv; have HS := Lib.hid hs
          clear HI hv hs
          have h100 : ns.length ≤ 100 := by omega
          have hp2 : hops ≤ 800 := by omega
          clear hp1 hl
          obtain ⟨wq, rfl⟩ : ∃ x, x = wr := ⟨_, rfl⟩
          go_wp2_with fail
          go_loopw [9, 12] (fun tv i wr => ∃ (j : Nat) (ns : List Nt) (sv : Value) (hops : Int), j + ns.length ≤ 100 ∧ i = .int .i64 j ∧ sv = tv ∧ Hid (InvT c 200 ns ∧ 0 ≤ hops ∧ hops ≤ 800 + 8 * j ∧ Sep NoF w wr [notesO sv ns, To tb c 200 ns hops, cfgO cb c])) (fun _ i _ => 100 - (intOf i).toNat)
          case atStart => exact ⟨0, ns, _, hops, by omega, rfl, rfl, HV.out, hp0, by omega, HS.out⟩
          case round =>
            obtain ⟨j, ns3, sv3, hops3, hj, rfl, rfl, HI⟩ := hrel
            obtain ⟨hv3, hr0, hr1, hs3⟩ := HI.out
            have HV3 := Lib.hid hv3; have HS3 := Lib.hid hs3
            clear HI hv3 hs3
            have hlen3 := HS3.out.looks 1 rfl (E := fun e => e = .returned (.int .i64 ns3.length)) (fun F hF => len_any wr F tb c 200 ns3 hops3 hF)
            have HLEN3 := Lib.hid hlen3
            clear hlen3
            by_cases hpos : 0 < ns3.length
            · have hpi : decide ((0 : Int) < (ns3.length : Int)) = true := decide_eq_true (by omega)
              have hVE := Lib.hid (fun j => HV3.out.erase j)
              by_cases hj2 : j < len2
              · obtain ⟨x2, rfl, gz0⟩ := C2.out j hj2
                have gz := HS3.out.old gz0
                have hzb := HZ2.out j hj2
                generalize Z2 j = z at *
                have HTK := Lib.hid (took_any HS3.out hcc HV3.out hr0 (by omega) z hzb hpos (by omega))
                go_wp2_with (go_at_call 12; refine HLEN3.out.mono ?_; rintro e wm ⟨rfl, rfl⟩)
                refine HTK.out.mono ?_
                rintro e wt ⟨q, v', hops', hq, rfl, hq0, hq1, hst⟩
                have HST := Lib.hid hst
                clear hst
                go_wp2_with fail
                exact ⟨⟨j + 1, ns3.eraseIdx q, v', hops', by rw [List.length_eraseIdx, if_pos hq]; omega, by go_num, rfl, hVE.out q, hq0, by omega, HST.out⟩, by simp [intOf]; omega⟩
              · have hjb : decide ((j : Int) < (len2 : Int)) = false := decide_eq_false (by omega)
                have HTK := Lib.hid (took_any HS3.out hcc HV3.out hr0 (by omega) 0 (by decide) hpos (by omega))
                go_wp2_with (go_at_call 12; refine HLEN3.out.mono ?_; rintro e wm ⟨rfl, rfl⟩)
                refine HTK.out.mono ?_
                rintro e wt ⟨q, v', hops', hq, rfl, hq0, hq1, hst⟩
                have HST := Lib.hid hst
                clear hst
                go_wp2_with fail
                exact ⟨⟨j + 1, ns3.eraseIdx q, v', hops', by rw [List.length_eraseIdx, if_pos hq]; omega, by go_num, rfl, hVE.out q, hq0, by omega, HST.out⟩, by simp [intOf]; omega⟩
            · have hpi : decide ((0 : Int) < (ns3.length : Int)) = false := decide_eq_false (by omega)
              have hnil : ns3 = [] := List.eq_nil_of_length_eq_zero (by omega)
              subst hnil
              obtain ⟨a9, cap9, rfl, _⟩ := (HS3.out.row 0 rfl).slice
              go_wp2_with (go_at_call 12; refine HLEN3.out.mono ?_; rintro e wm ⟨rfl, rfl⟩)
              refine (works_any _).mono ?_
              rintro e w9 ⟨rfl, hu⟩
              have HS9 := Lib.hid (HS3.out.upd0 hu)
              clear hu
              go_wp2
              go_ret
              exact ⟨rfl, HS9.out.below⟩
    · have HN := Lib.hid (new_no c 200 (fun h => hm h.1))
      clear hm
      go_enter Try.func3, Try.ntmps3
      go_wp2_with fail
      rw [HW0.out]
      refine (HN.out W0).mono ?_
      rintro e w2 ⟨rfl, hu⟩
      have HS2 := Lib.hid (HS0.out.upd0 hu)
      clear hu
      go_wp2_with fail
      refine (works_any _).mono ?_
      rintro e w9 ⟨rfl, hu⟩
      have HS9 := Lib.hid (HS2.out.upd0 hu)
      clear hu
      go_wp2
      go_ret
      exact ⟨rfl, HS9.out.below⟩
end Go.Proofs.Ytmfhbobjambgaaa.NE
