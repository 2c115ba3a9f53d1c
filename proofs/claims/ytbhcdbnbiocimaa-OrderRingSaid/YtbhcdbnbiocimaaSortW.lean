/- Sorting numbers of 64 bits without sign: the whole. -/
import Derived.Test.YtbhcdbnbiocimaaSortM
import Derived.Test.YtbhcdbnbiocimaaSortH
import Derived.Test.YtbhcdbnbiocimaaSortA
import Derived.Test.YtbhcdbnbiocimaaSortQ
import Derived.Test.YtbhcdbnbiocimaaSortR
import Derived.Test.YtbhcdbnbiocimaaSortS
import Derived.Sort.LotD3
set_option linter.unusedSimpArgs false
set_option linter.unusedVariables false
namespace Go.Proofs.Ytbhcdbnbiocimaa.SU
open Go.RowKit
open Go.Sort (ltInt PermIn SortedIn Below)
/-- Whoever puts the part in order puts the whole in order. -/
structure Goes (a b : Nat) (d : Array Int) (a1 b1 : Nat) (E : Array Int) : Prop where
  bel : Below ltInt a1 b1 E
  res : ∀ R, PermIn a1 b1 E R → SortedIn ltInt a1 b1 R → PermIn a b d R ∧ SortedIn ltInt a b R
section
variable {a b a1 b1 p : Nat} {d E : Array Int}
theorem Goes.perm (h : Goes a b d a1 b1 E) (hb : b1 ≤ E.size) {E2 : Array Int} (hp : PermIn a1 b1 E E2) : Goes a b d a1 b1 E2 :=
  ⟨h.bel.perm hb hp, fun R hR hs => h.res R (Go.Sort.permIn_trans _ _ _ _ _ hp hR) hs⟩
theorem Goes.eq (h : Goes a b d a1 b1 E) (ha : 0 < a1) (hp1 : a1 ≤ p) (hp2 : p < b1) (hb : b1 ≤ E.size) (hnl : ltInt E[a1 - 1]! E[p]! = false) {mid : Nat} {FF : Array Int} (hx : Go.Sort.partitionEqual ltInt E a1 b1 p = (mid, FF)) :
    a1 < mid ∧ mid ≤ b1 ∧ FF.size = E.size ∧ Goes a b d mid b1 FF := by
  obtain ⟨h1, h2, h3, h4, h5⟩ := Go.Sort.round_eq Go.Sort.swo_ltInt (Go.Sort.partitionEqual_holds _) ha hp1 hp2 hb h.bel hnl hx
  exact ⟨h1, h2, h3, h4, fun R hR hs => h.res R (h5 R hR hs).1 (h5 R hR hs).2⟩
theorem Goes.part (h : Goes a b d a1 b1 E) (hp1 : a1 ≤ p) (hp2 : p < b1) (hb : b1 ≤ E.size) {mid : Nat} {ap : Bool} {FF : Array Int} (hx : Go.Sort.partition ltInt E a1 b1 p = (mid, ap, FF)) :
    a1 ≤ mid ∧ mid < b1 ∧ FF.size = E.size ∧ Below ltInt a1 mid FF ∧ Below ltInt (mid + 1) b1 FF ∧ (∀ L, PermIn a1 mid FF L → SortedIn ltInt a1 mid L → Goes a b d (mid + 1) b1 L) ∧ (∀ L, PermIn (mid + 1) b1 FF L → SortedIn ltInt (mid + 1) b1 L → Goes a b d a1 mid L) := by
  obtain ⟨h1, h2, h3, h4, h5, h6, h7⟩ := Go.Sort.round_part Go.Sort.swo_ltInt (Go.Sort.partition_holds _) hp1 hp2 hb h.bel hx
  exact ⟨h1, h2, h3, h4, h5, fun L hL hs => ⟨(h6 L hL hs).1, fun R hR hr => h.res R ((h6 L hL hs).2 R hR hr).1 ((h6 L hL hs).2 R hR hr).2⟩, fun L hL hs => ⟨(h7 L hL hs).1, fun R hR hr => h.res R ((h7 L hL hs).2 R hR hr).1 ((h7 L hL hs).2 R hR hr).2⟩⟩
end
set_option maxRecDepth 100000 in
set_option maxHeartbeats 8000000 in
theorem pdq_any : ∀ (n : Nat) (w0 W : World) (g off : Nat) (d : Array Int) (cap a b lim : Nat), SA w0 W g off d → a ≤ b → b ≤ d.size → d.size ≤ 200 → lim ≤ 300 → Below ltInt a b d → b - a = n →
    Calls Try.prog 11 #[rowV g off d.size cap, .int .i64 a, .int .i64 b, .int .i64 lim] W fun e w' => e = .returned (.tuple #[]) ∧ ∃ R, SA w0 w' g off R ∧ PermIn a b d R ∧ SortedIn ltInt a b R := by
  intro n
  induction n using Nat.strongRecOn with
  | _ n ih =>
  intro w0 W g off d cap a b lim h hab hb hsz hlim hB hn0
  have IH := Lib.hid ih
  have H0 := Lib.hid h
  have HB := Lib.hid hB
  have hn1 : b - a ≤ n := by omega
  clear ih h hB hn0
  go_enter Try.func11, Try.ntmps11
  go_wp2
  go_loopw [1, 2, 3, 8, 9] (fun v1 v2 v3 v8 v9 wr => ∃ (a1 b1 l1 : Nat) (D : Array Int) (x y : Bool), v1 = .int .i64 a1 ∧ v2 = .int .i64 b1 ∧ v3 = .int .i64 l1 ∧ v8 = .bool x ∧ v9 = .bool y ∧ a ≤ a1 ∧ a1 ≤ b1 ∧ b1 ≤ b ∧ l1 ≤ 300 ∧ D.size = d.size ∧ Hid (SA w0 wr g off D ∧ Goes a b d a1 b1 D)) (fun v1 v2 v3 v8 v9 _ => (Go.RowKit.intOf v2).toNat - (Go.RowKit.intOf v1).toNat)
  case atStart => exact ⟨a, b, lim, d, true, true, rfl, rfl, rfl, rfl, rfl, Nat.le_refl _, hab, Nat.le_refl _, hlim, rfl, Lib.hid ⟨H0.out, HB.out, fun R h1 h2 => ⟨h1, h2⟩⟩⟩
  case round =>
    clear H0 HB
    obtain ⟨a1, b1, l1, D, x, y, rfl, rfl, rfl, rfl, rfl, ha1, hab1, hb1, hl1, hs_D, HK⟩ := hrel
    obtain ⟨wj, hwj⟩ : ∃ x, x = wr := ⟨_, rfl⟩
    subst hwj
    have HS_D := Lib.hid HK.out.1
    have HG_D := Lib.hid HK.out.2
    clear HK
    by_cases h12 : b1 - a1 ≤ 12
    · have h12I : (b1 : Int) - (a1 : Int) ≤ 12 := by omega
      have HIN := insertion_any cap a1 b1 HS_D.out hab1 (by omega) (by omega)
      rw [hs_D] at HIN
      have HIN := Lib.hid HIN
      go_wp2_with (go_at_call 13; refine HIN.out.mono ?_; rintro e w2 ⟨rfl, hS⟩)
      refine bodyPost_ret (v := .tuple #[]) (by simp [results, Try.f11]) rfl ?_
      obtain ⟨hP, hO⟩ := Go.Sort.insertionSort_holds Go.Sort.swo_ltInt D a1 b1 hab1 (by omega)
      have := HG_D.out.res _ hP hO
      exact ⟨rfl, _, hS, this.1, this.2⟩
    · have h12I : ¬ (b1 : Int) - (a1 : Int) ≤ 12 := by omega
      have h12D : decide ((b1 : Int) - (a1 : Int) ≤ 12) = false := decide_eq_false h12I
      by_cases hl0 : l1 = 0
      · subst hl0
        have HHP := heapSort_any cap a1 b1 HS_D.out hab1 (by omega) (by omega)
        rw [hs_D] at HHP
        have HHP := Lib.hid HHP
        go_wp2_with (go_at_call 14; refine HHP.out.mono ?_; rintro e w2 ⟨rfl, hS⟩)
        refine bodyPost_ret (v := .tuple #[]) (by simp [results, Try.f11]) rfl ?_
        obtain ⟨hP, hO⟩ := Go.Sort.heapSort_holds Go.Sort.swo_ltInt D a1 b1 hab1 (by omega)
        have := HG_D.out.res _ hP hO
        exact ⟨rfl, _, hS, this.1, this.2⟩
      · have hl0I : ¬ (l1 : Int) = 0 := by omega
        cases x
        · have HBK := break_any cap a1 b1 HS_D.out (by omega) (by omega) (by omega)
          rw [hs_D] at HBK
          have HBK := Lib.hid HBK
          go_upto_region 10 with (go_at_call 15; refine HBK.out.mono ?_; rintro e w1 ⟨rfl, D1, hS, hP⟩; have HS_D1 := Lib.hid hS; have HP1 := Lib.hid hP; clear hS hP)
          obtain ⟨l2, hl2⟩ : ∃ l2 : Nat, (l1 : Int) - 1 = (l2 : Int) := ⟨l1 - 1, by omega⟩
          have hl3 : l2 ≤ 300 := by omega
          simp only [hl2]
          have hs_D1 : D1.size = d.size := HP1.out.1.trans hs_D
          have HG_D1 := Lib.hid (HG_D.out.perm (by omega) HP1.out)
          clear hl2 HBK HS_D HG_D HP1
          have HPV := pivot_any cap a1 b1 HS_D1.out (by omega) (by omega) (by omega)
          rw [hs_D1] at HPV
          have HPV := Lib.hid HPV
          go_upto_region 11 with (go_at_call 16; refine HPV.out.mono ?_; rintro e w2 ⟨p, hn, rfl, hp1, hp2, hS⟩; have HS2 := Lib.hid hS; clear hS)
          clear HPV HS_D1
          have HS_D1 := HS2
          clear HS2
          by_cases h2 : hn = 2
          · subst h2
            have HRV := reverse_any cap a1 b1 HS_D1.out (by omega) (by omega) (by omega)
            rw [hs_D1] at HRV
            have HRV := Lib.hid HRV
            obtain ⟨D2, hD2⟩ : ∃ t, t = Go.Sort.reverseRange D1 a1 b1 := ⟨_, rfl⟩
            rw [← hD2] at HRV
            have hP2 : PermIn a1 b1 D1 D2 := by rw [hD2]; exact Go.Sort.reverseRange_holds D1 a1 b1 (by omega) (by omega)
            have hs_D2 : D2.size = d.size := hP2.1.trans hs_D1
            have HG_D2 := Lib.hid (HG_D1.out.perm (by omega) hP2)
            clear hD2 hP2
            go_upto_region 15 with (go_at_call 17; refine HRV.out.mono ?_; rintro e w3 ⟨rfl, hS⟩; have HS_D2 := Lib.hid hS; clear hS)
            obtain ⟨p, hp3⟩ : ∃ p2 : Nat, (b1 : Int) - 1 - ((p : Int) - (a1 : Int)) = (p2 : Int) := ⟨b1 - 1 - (p - a1), by omega⟩
            have hq1 : a1 ≤ p := by omega
            have hq2 : p < b1 := by omega
            simp only [hp3]
            clear hp3 hp1 hp2 HRV HS_D1 HG_D1
            have hp1 := hq1
            have hp2 := hq2
            clear hq1 hq2
            go_upto_region 17 with fail
            as_aux_lemma =>
              have hsE := hs_D2
              have HSE := HS_D2
              have HGE := HG_D2
              obtain ⟨G, hG⟩ : ∃ G : Nat → Int, ∀ t, G t = D2[t]! := ⟨fun t => D2[t]!, fun _ => rfl⟩
              have HG := Lib.hid hG
              clear hG
              have cw : ∀ t, t < d.size → w3.cell? ⟨g, off + t, none⟩ = some (.int .u64 (G t)) := fun t ht => by rw [HG.out]; exact HSE.out.cell t (by omega)
              have fw : ∀ t, t < d.size → w3.frozen? ⟨g, off + t, none⟩ = false := fun t ht => HSE.out.free t (by omega)
              by_cases ha0 : 0 < a1
              · have ha0I : (0 : Int) < (a1 : Int) := by omega
                cases hl : ltInt (G (a1 - 1)) (G p)
                · have HL := Lib.hid hl
                  go_quiet (first | (go_at_call 19; refine Calls.quiet_of_same (less_quiet _ _ _)))
                  clear cw fw
                  obtain ⟨⟨mid, FF⟩, hF⟩ : ∃ t, t = Go.Sort.partitionEqual ltInt D2 a1 b1 p := ⟨_, rfl⟩
                  have HPE := partEq_any cap a1 b1 p (HSE.out.drewN nq) hp1 hp2 (by omega) (by omega)
                  rw [← hF] at HPE
                  have HPE := Lib.hid HPE
                  obtain ⟨hm1, hm2, hsF0, hGF⟩ := HGE.out.eq ha0 hp1 hp2 (by omega) (by rw [← HG.out, ← HG.out]; exact HL.out) hF.symm
                  have hsF : FF.size = d.size := hsF0.trans hsE
                  have HGF := Lib.hid hGF
                  clear hF hsF0 hGF
                  rw [hsE] at HPE
                  go_wp2_with (go_at_call 20; refine HPE.out.mono ?_; rintro e w5 ⟨rfl, hS⟩)
                  go_roundw
                  case rel => exact ⟨mid, b1, l2, FF, _, _, rfl, rfl, rfl, rfl, rfl, by omega, by omega, by omega, by omega, hsF, Lib.hid ⟨hS, HGF.out⟩⟩
                  case measure => simp [Go.RowKit.intOf]; omega
                · have HL := Lib.hid hl
                  go_quiet (first | (go_at_call 19; refine Calls.quiet_of_same (less_quiet _ _ _)))
                  clear cw fw
                  obtain ⟨⟨mid, apx, FF⟩, hF⟩ : ∃ t, t = Go.Sort.partition ltInt D2 a1 b1 p := ⟨_, rfl⟩
                  have HPT := part_any cap a1 b1 p (HSE.out.drewN nq) hp1 hp2 (by omega) (by omega)
                  rw [← hF] at HPT
                  have HPT := Lib.hid HPT
                  obtain ⟨hm1, hm2, hsF0, hBL, hBR, hL, hR⟩ := HGE.out.part hp1 hp2 (by omega) hF.symm
                  have hsF : FF.size = d.size := hsF0.trans hsE
                  have HBL := Lib.hid hBL
                  have HBR := Lib.hid hBR
                  have HGL := Lib.hid hL
                  have HGR := Lib.hid hR
                  clear hF hsF0 hBL hBR hL hR
                  rw [hsE] at HPT
                  go_upto_region 24 with (go_at_call 21; refine HPT.out.mono ?_; rintro e w5 ⟨ap, rfl, hS⟩; have HS5 := Lib.hid hS; clear hS)
                  by_cases hlr : mid - a1 < b1 - mid
                  · have hlrI : (mid : Int) - (a1 : Int) < (b1 : Int) - (mid : Int) := by omega
                    have HR := Lib.hid (IH.out (mid - a1) (by omega) w0 w5 g off FF cap a1 mid l2 HS5.out hm1 (by omega) (by omega) (by omega) HBL.out rfl)
                    rw [hsF] at HR
                    go_wp2_with (go_at_call 11; refine HR.out.mono ?_; rintro e w6 ⟨rfl, R, hSR, hPR, hOR⟩)
                    go_roundw
                    case rel => exact ⟨mid + 1, b1, l2, R, _, _, by go_num, rfl, rfl, rfl, rfl, by omega, by omega, by omega, by omega, by rw [hPR.1, hsF], Lib.hid ⟨hSR, (HGL.out R hPR hOR)⟩⟩
                    case measure => simp [Go.RowKit.intOf]; omega
                  · have hlrI : ¬ (mid : Int) - (a1 : Int) < (b1 : Int) - (mid : Int) := by omega
                    have hlrD : decide ((mid : Int) - (a1 : Int) < (b1 : Int) - (mid : Int)) = false := decide_eq_false hlrI
                    have HR := Lib.hid (IH.out (b1 - (mid + 1)) (by omega) w0 w5 g off FF cap (mid + 1) b1 l2 HS5.out (by omega) (by omega) (by omega) (by omega) HBR.out rfl)
                    rw [hsF] at HR
                    rw [show ((mid + 1 : Nat) : Int) = (mid : Int) + 1 by omega] at HR
                    go_wp2_with (go_at_call 11; refine HR.out.mono ?_; rintro e w6 ⟨rfl, R, hSR, hPR, hOR⟩)
                    go_roundw
                    case rel => exact ⟨a1, mid, l2, R, _, _, rfl, rfl, rfl, rfl, rfl, by omega, by omega, by omega, by omega, by rw [hPR.1, hsF], Lib.hid ⟨hSR, (HGR.out R hPR hOR)⟩⟩
                    case measure => simp [Go.RowKit.intOf]; omega
              · have ha0I : ¬ (0 : Int) < (a1 : Int) := by omega
                go_quiet (first | (go_at_call 19; refine Calls.quiet_of_same (less_quiet _ _ _)))
                clear cw fw
                obtain ⟨⟨mid, apx, FF⟩, hF⟩ : ∃ t, t = Go.Sort.partition ltInt D2 a1 b1 p := ⟨_, rfl⟩
                have HPT := part_any cap a1 b1 p (HSE.out.drewN nq) hp1 hp2 (by omega) (by omega)
                rw [← hF] at HPT
                have HPT := Lib.hid HPT
                obtain ⟨hm1, hm2, hsF0, hBL, hBR, hL, hR⟩ := HGE.out.part hp1 hp2 (by omega) hF.symm
                have hsF : FF.size = d.size := hsF0.trans hsE
                have HBL := Lib.hid hBL
                have HBR := Lib.hid hBR
                have HGL := Lib.hid hL
                have HGR := Lib.hid hR
                clear hF hsF0 hBL hBR hL hR
                rw [hsE] at HPT
                go_upto_region 24 with (go_at_call 21; refine HPT.out.mono ?_; rintro e w5 ⟨ap, rfl, hS⟩; have HS5 := Lib.hid hS; clear hS)
                by_cases hlr : mid - a1 < b1 - mid
                · have hlrI : (mid : Int) - (a1 : Int) < (b1 : Int) - (mid : Int) := by omega
                  have HR := Lib.hid (IH.out (mid - a1) (by omega) w0 w5 g off FF cap a1 mid l2 HS5.out hm1 (by omega) (by omega) (by omega) HBL.out rfl)
                  rw [hsF] at HR
                  go_wp2_with (go_at_call 11; refine HR.out.mono ?_; rintro e w6 ⟨rfl, R, hSR, hPR, hOR⟩)
                  go_roundw
                  case rel => exact ⟨mid + 1, b1, l2, R, _, _, by go_num, rfl, rfl, rfl, rfl, by omega, by omega, by omega, by omega, by rw [hPR.1, hsF], Lib.hid ⟨hSR, (HGL.out R hPR hOR)⟩⟩
                  case measure => simp [Go.RowKit.intOf]; omega
                · have hlrI : ¬ (mid : Int) - (a1 : Int) < (b1 : Int) - (mid : Int) := by omega
                  have hlrD : decide ((mid : Int) - (a1 : Int) < (b1 : Int) - (mid : Int)) = false := decide_eq_false hlrI
                  have HR := Lib.hid (IH.out (b1 - (mid + 1)) (by omega) w0 w5 g off FF cap (mid + 1) b1 l2 HS5.out (by omega) (by omega) (by omega) (by omega) HBR.out rfl)
                  rw [hsF] at HR
                  rw [show ((mid + 1 : Nat) : Int) = (mid : Int) + 1 by omega] at HR
                  go_wp2_with (go_at_call 11; refine HR.out.mono ?_; rintro e w6 ⟨rfl, R, hSR, hPR, hOR⟩)
                  go_roundw
                  case rel => exact ⟨a1, mid, l2, R, _, _, rfl, rfl, rfl, rfl, rfl, by omega, by omega, by omega, by omega, by rw [hPR.1, hsF], Lib.hid ⟨hSR, (HGR.out R hPR hOR)⟩⟩
                  case measure => simp [Go.RowKit.intOf]; omega
          · have h2I : ¬ (hn : Int) = 2 := by omega
            go_upto_region 17 with fail
            as_aux_lemma =>
              have hsE := hs_D1
              have HSE := HS_D1
              have HGE := HG_D1
              obtain ⟨G, hG⟩ : ∃ G : Nat → Int, ∀ t, G t = D1[t]! := ⟨fun t => D1[t]!, fun _ => rfl⟩
              have HG := Lib.hid hG
              clear hG
              have cw : ∀ t, t < d.size → w2.cell? ⟨g, off + t, none⟩ = some (.int .u64 (G t)) := fun t ht => by rw [HG.out]; exact HSE.out.cell t (by omega)
              have fw : ∀ t, t < d.size → w2.frozen? ⟨g, off + t, none⟩ = false := fun t ht => HSE.out.free t (by omega)
              by_cases ha0 : 0 < a1
              · have ha0I : (0 : Int) < (a1 : Int) := by omega
                cases hl : ltInt (G (a1 - 1)) (G p)
                · have HL := Lib.hid hl
                  go_quiet (first | (go_at_call 19; refine Calls.quiet_of_same (less_quiet _ _ _)))
                  clear cw fw
                  obtain ⟨⟨mid, FF⟩, hF⟩ : ∃ t, t = Go.Sort.partitionEqual ltInt D1 a1 b1 p := ⟨_, rfl⟩
                  have HPE := partEq_any cap a1 b1 p (HSE.out.drewN nq) hp1 hp2 (by omega) (by omega)
                  rw [← hF] at HPE
                  have HPE := Lib.hid HPE
                  obtain ⟨hm1, hm2, hsF0, hGF⟩ := HGE.out.eq ha0 hp1 hp2 (by omega) (by rw [← HG.out, ← HG.out]; exact HL.out) hF.symm
                  have hsF : FF.size = d.size := hsF0.trans hsE
                  have HGF := Lib.hid hGF
                  clear hF hsF0 hGF
                  rw [hsE] at HPE
                  go_wp2_with (go_at_call 20; refine HPE.out.mono ?_; rintro e w5 ⟨rfl, hS⟩)
                  go_roundw
                  case rel => exact ⟨mid, b1, l2, FF, _, _, rfl, rfl, rfl, rfl, rfl, by omega, by omega, by omega, by omega, hsF, Lib.hid ⟨hS, HGF.out⟩⟩
                  case measure => simp [Go.RowKit.intOf]; omega
                · have HL := Lib.hid hl
                  go_quiet (first | (go_at_call 19; refine Calls.quiet_of_same (less_quiet _ _ _)))
                  clear cw fw
                  obtain ⟨⟨mid, apx, FF⟩, hF⟩ : ∃ t, t = Go.Sort.partition ltInt D1 a1 b1 p := ⟨_, rfl⟩
                  have HPT := part_any cap a1 b1 p (HSE.out.drewN nq) hp1 hp2 (by omega) (by omega)
                  rw [← hF] at HPT
                  have HPT := Lib.hid HPT
                  obtain ⟨hm1, hm2, hsF0, hBL, hBR, hL, hR⟩ := HGE.out.part hp1 hp2 (by omega) hF.symm
                  have hsF : FF.size = d.size := hsF0.trans hsE
                  have HBL := Lib.hid hBL
                  have HBR := Lib.hid hBR
                  have HGL := Lib.hid hL
                  have HGR := Lib.hid hR
                  clear hF hsF0 hBL hBR hL hR
                  rw [hsE] at HPT
                  go_upto_region 24 with (go_at_call 21; refine HPT.out.mono ?_; rintro e w5 ⟨ap, rfl, hS⟩; have HS5 := Lib.hid hS; clear hS)
                  by_cases hlr : mid - a1 < b1 - mid
                  · have hlrI : (mid : Int) - (a1 : Int) < (b1 : Int) - (mid : Int) := by omega
                    have HR := Lib.hid (IH.out (mid - a1) (by omega) w0 w5 g off FF cap a1 mid l2 HS5.out hm1 (by omega) (by omega) (by omega) HBL.out rfl)
                    rw [hsF] at HR
                    go_wp2_with (go_at_call 11; refine HR.out.mono ?_; rintro e w6 ⟨rfl, R, hSR, hPR, hOR⟩)
                    go_roundw
                    case rel => exact ⟨mid + 1, b1, l2, R, _, _, by go_num, rfl, rfl, rfl, rfl, by omega, by omega, by omega, by omega, by rw [hPR.1, hsF], Lib.hid ⟨hSR, (HGL.out R hPR hOR)⟩⟩
                    case measure => simp [Go.RowKit.intOf]; omega
                  · have hlrI : ¬ (mid : Int) - (a1 : Int) < (b1 : Int) - (mid : Int) := by omega
                    have hlrD : decide ((mid : Int) - (a1 : Int) < (b1 : Int) - (mid : Int)) = false := decide_eq_false hlrI
                    have HR := Lib.hid (IH.out (b1 - (mid + 1)) (by omega) w0 w5 g off FF cap (mid + 1) b1 l2 HS5.out (by omega) (by omega) (by omega) (by omega) HBR.out rfl)
                    rw [hsF] at HR
                    rw [show ((mid + 1 : Nat) : Int) = (mid : Int) + 1 by omega] at HR
                    go_wp2_with (go_at_call 11; refine HR.out.mono ?_; rintro e w6 ⟨rfl, R, hSR, hPR, hOR⟩)
                    go_roundw
                    case rel => exact ⟨a1, mid, l2, R, _, _, rfl, rfl, rfl, rfl, rfl, by omega, by omega, by omega, by omega, by rw [hPR.1, hsF], Lib.hid ⟨hSR, (HGR.out R hPR hOR)⟩⟩
                    case measure => simp [Go.RowKit.intOf]; omega
              · have ha0I : ¬ (0 : Int) < (a1 : Int) := by omega
                go_quiet (first | (go_at_call 19; refine Calls.quiet_of_same (less_quiet _ _ _)))
                clear cw fw
                obtain ⟨⟨mid, apx, FF⟩, hF⟩ : ∃ t, t = Go.Sort.partition ltInt D1 a1 b1 p := ⟨_, rfl⟩
                have HPT := part_any cap a1 b1 p (HSE.out.drewN nq) hp1 hp2 (by omega) (by omega)
                rw [← hF] at HPT
                have HPT := Lib.hid HPT
                obtain ⟨hm1, hm2, hsF0, hBL, hBR, hL, hR⟩ := HGE.out.part hp1 hp2 (by omega) hF.symm
                have hsF : FF.size = d.size := hsF0.trans hsE
                have HBL := Lib.hid hBL
                have HBR := Lib.hid hBR
                have HGL := Lib.hid hL
                have HGR := Lib.hid hR
                clear hF hsF0 hBL hBR hL hR
                rw [hsE] at HPT
                go_upto_region 24 with (go_at_call 21; refine HPT.out.mono ?_; rintro e w5 ⟨ap, rfl, hS⟩; have HS5 := Lib.hid hS; clear hS)
                by_cases hlr : mid - a1 < b1 - mid
                · have hlrI : (mid : Int) - (a1 : Int) < (b1 : Int) - (mid : Int) := by omega
                  have HR := Lib.hid (IH.out (mid - a1) (by omega) w0 w5 g off FF cap a1 mid l2 HS5.out hm1 (by omega) (by omega) (by omega) HBL.out rfl)
                  rw [hsF] at HR
                  go_wp2_with (go_at_call 11; refine HR.out.mono ?_; rintro e w6 ⟨rfl, R, hSR, hPR, hOR⟩)
                  go_roundw
                  case rel => exact ⟨mid + 1, b1, l2, R, _, _, by go_num, rfl, rfl, rfl, rfl, by omega, by omega, by omega, by omega, by rw [hPR.1, hsF], Lib.hid ⟨hSR, (HGL.out R hPR hOR)⟩⟩
                  case measure => simp [Go.RowKit.intOf]; omega
                · have hlrI : ¬ (mid : Int) - (a1 : Int) < (b1 : Int) - (mid : Int) := by omega
                  have hlrD : decide ((mid : Int) - (a1 : Int) < (b1 : Int) - (mid : Int)) = false := decide_eq_false hlrI
                  have HR := Lib.hid (IH.out (b1 - (mid + 1)) (by omega) w0 w5 g off FF cap (mid + 1) b1 l2 HS5.out (by omega) (by omega) (by omega) (by omega) HBR.out rfl)
                  rw [hsF] at HR
                  rw [show ((mid + 1 : Nat) : Int) = (mid : Int) + 1 by omega] at HR
                  go_wp2_with (go_at_call 11; refine HR.out.mono ?_; rintro e w6 ⟨rfl, R, hSR, hPR, hOR⟩)
                  go_roundw
                  case rel => exact ⟨a1, mid, l2, R, _, _, rfl, rfl, rfl, rfl, rfl, by omega, by omega, by omega, by omega, by rw [hPR.1, hsF], Lib.hid ⟨hSR, (HGR.out R hPR hOR)⟩⟩
                  case measure => simp [Go.RowKit.intOf]; omega
        · go_upto_region 10 with fail
          have HPV := pivot_any cap a1 b1 HS_D.out (by omega) (by omega) (by omega)
          rw [hs_D] at HPV
          have HPV := Lib.hid HPV
          go_upto_region 11 with (go_at_call 16; refine HPV.out.mono ?_; rintro e w2 ⟨p, hn, rfl, hp1, hp2, hS⟩; have HS2 := Lib.hid hS; clear hS)
          clear HPV HS_D
          have HS_D := HS2
          clear HS2
          by_cases h2 : hn = 2
          · subst h2
            have HRV := reverse_any cap a1 b1 HS_D.out (by omega) (by omega) (by omega)
            rw [hs_D] at HRV
            have HRV := Lib.hid HRV
            obtain ⟨D2, hD2⟩ : ∃ t, t = Go.Sort.reverseRange D a1 b1 := ⟨_, rfl⟩
            rw [← hD2] at HRV
            have hP2 : PermIn a1 b1 D D2 := by rw [hD2]; exact Go.Sort.reverseRange_holds D a1 b1 (by omega) (by omega)
            have hs_D2 : D2.size = d.size := hP2.1.trans hs_D
            have HG_D2 := Lib.hid (HG_D.out.perm (by omega) hP2)
            clear hD2 hP2
            go_upto_region 15 with (go_at_call 17; refine HRV.out.mono ?_; rintro e w3 ⟨rfl, hS⟩; have HS_D2 := Lib.hid hS; clear hS)
            obtain ⟨p, hp3⟩ : ∃ p2 : Nat, (b1 : Int) - 1 - ((p : Int) - (a1 : Int)) = (p2 : Int) := ⟨b1 - 1 - (p - a1), by omega⟩
            have hq1 : a1 ≤ p := by omega
            have hq2 : p < b1 := by omega
            simp only [hp3]
            clear hp3 hp1 hp2 HRV HS_D HG_D
            have hp1 := hq1
            have hp2 := hq2
            clear hq1 hq2
            cases y
            · go_upto_region 17 with fail
              as_aux_lemma =>
                have hsE := hs_D2
                have HSE := HS_D2
                have HGE := HG_D2
                obtain ⟨G, hG⟩ : ∃ G : Nat → Int, ∀ t, G t = D2[t]! := ⟨fun t => D2[t]!, fun _ => rfl⟩
                have HG := Lib.hid hG
                clear hG
                have cw : ∀ t, t < d.size → w3.cell? ⟨g, off + t, none⟩ = some (.int .u64 (G t)) := fun t ht => by rw [HG.out]; exact HSE.out.cell t (by omega)
                have fw : ∀ t, t < d.size → w3.frozen? ⟨g, off + t, none⟩ = false := fun t ht => HSE.out.free t (by omega)
                by_cases ha0 : 0 < a1
                · have ha0I : (0 : Int) < (a1 : Int) := by omega
                  cases hl : ltInt (G (a1 - 1)) (G p)
                  · have HL := Lib.hid hl
                    go_quiet (first | (go_at_call 19; refine Calls.quiet_of_same (less_quiet _ _ _)))
                    clear cw fw
                    obtain ⟨⟨mid, FF⟩, hF⟩ : ∃ t, t = Go.Sort.partitionEqual ltInt D2 a1 b1 p := ⟨_, rfl⟩
                    have HPE := partEq_any cap a1 b1 p (HSE.out.drewN nq) hp1 hp2 (by omega) (by omega)
                    rw [← hF] at HPE
                    have HPE := Lib.hid HPE
                    obtain ⟨hm1, hm2, hsF0, hGF⟩ := HGE.out.eq ha0 hp1 hp2 (by omega) (by rw [← HG.out, ← HG.out]; exact HL.out) hF.symm
                    have hsF : FF.size = d.size := hsF0.trans hsE
                    have HGF := Lib.hid hGF
                    clear hF hsF0 hGF
                    rw [hsE] at HPE
                    go_wp2_with (go_at_call 20; refine HPE.out.mono ?_; rintro e w5 ⟨rfl, hS⟩)
                    go_roundw
                    case rel => exact ⟨mid, b1, l1, FF, _, _, rfl, rfl, rfl, rfl, rfl, by omega, by omega, by omega, by omega, hsF, Lib.hid ⟨hS, HGF.out⟩⟩
                    case measure => simp [Go.RowKit.intOf]; omega
                  · have HL := Lib.hid hl
                    go_quiet (first | (go_at_call 19; refine Calls.quiet_of_same (less_quiet _ _ _)))
                    clear cw fw
                    obtain ⟨⟨mid, apx, FF⟩, hF⟩ : ∃ t, t = Go.Sort.partition ltInt D2 a1 b1 p := ⟨_, rfl⟩
                    have HPT := part_any cap a1 b1 p (HSE.out.drewN nq) hp1 hp2 (by omega) (by omega)
                    rw [← hF] at HPT
                    have HPT := Lib.hid HPT
                    obtain ⟨hm1, hm2, hsF0, hBL, hBR, hL, hR⟩ := HGE.out.part hp1 hp2 (by omega) hF.symm
                    have hsF : FF.size = d.size := hsF0.trans hsE
                    have HBL := Lib.hid hBL
                    have HBR := Lib.hid hBR
                    have HGL := Lib.hid hL
                    have HGR := Lib.hid hR
                    clear hF hsF0 hBL hBR hL hR
                    rw [hsE] at HPT
                    go_upto_region 24 with (go_at_call 21; refine HPT.out.mono ?_; rintro e w5 ⟨ap, rfl, hS⟩; have HS5 := Lib.hid hS; clear hS)
                    by_cases hlr : mid - a1 < b1 - mid
                    · have hlrI : (mid : Int) - (a1 : Int) < (b1 : Int) - (mid : Int) := by omega
                      have HR := Lib.hid (IH.out (mid - a1) (by omega) w0 w5 g off FF cap a1 mid l1 HS5.out hm1 (by omega) (by omega) (by omega) HBL.out rfl)
                      rw [hsF] at HR
                      go_wp2_with (go_at_call 11; refine HR.out.mono ?_; rintro e w6 ⟨rfl, R, hSR, hPR, hOR⟩)
                      go_roundw
                      case rel => exact ⟨mid + 1, b1, l1, R, _, _, by go_num, rfl, rfl, rfl, rfl, by omega, by omega, by omega, by omega, by rw [hPR.1, hsF], Lib.hid ⟨hSR, (HGL.out R hPR hOR)⟩⟩
                      case measure => simp [Go.RowKit.intOf]; omega
                    · have hlrI : ¬ (mid : Int) - (a1 : Int) < (b1 : Int) - (mid : Int) := by omega
                      have hlrD : decide ((mid : Int) - (a1 : Int) < (b1 : Int) - (mid : Int)) = false := decide_eq_false hlrI
                      have HR := Lib.hid (IH.out (b1 - (mid + 1)) (by omega) w0 w5 g off FF cap (mid + 1) b1 l1 HS5.out (by omega) (by omega) (by omega) (by omega) HBR.out rfl)
                      rw [hsF] at HR
                      rw [show ((mid + 1 : Nat) : Int) = (mid : Int) + 1 by omega] at HR
                      go_wp2_with (go_at_call 11; refine HR.out.mono ?_; rintro e w6 ⟨rfl, R, hSR, hPR, hOR⟩)
                      go_roundw
                      case rel => exact ⟨a1, mid, l1, R, _, _, rfl, rfl, rfl, rfl, rfl, by omega, by omega, by omega, by omega, by rw [hPR.1, hsF], Lib.hid ⟨hSR, (HGR.out R hPR hOR)⟩⟩
                      case measure => simp [Go.RowKit.intOf]; omega
                · have ha0I : ¬ (0 : Int) < (a1 : Int) := by omega
                  go_quiet (first | (go_at_call 19; refine Calls.quiet_of_same (less_quiet _ _ _)))
                  clear cw fw
                  obtain ⟨⟨mid, apx, FF⟩, hF⟩ : ∃ t, t = Go.Sort.partition ltInt D2 a1 b1 p := ⟨_, rfl⟩
                  have HPT := part_any cap a1 b1 p (HSE.out.drewN nq) hp1 hp2 (by omega) (by omega)
                  rw [← hF] at HPT
                  have HPT := Lib.hid HPT
                  obtain ⟨hm1, hm2, hsF0, hBL, hBR, hL, hR⟩ := HGE.out.part hp1 hp2 (by omega) hF.symm
                  have hsF : FF.size = d.size := hsF0.trans hsE
                  have HBL := Lib.hid hBL
                  have HBR := Lib.hid hBR
                  have HGL := Lib.hid hL
                  have HGR := Lib.hid hR
                  clear hF hsF0 hBL hBR hL hR
                  rw [hsE] at HPT
                  go_upto_region 24 with (go_at_call 21; refine HPT.out.mono ?_; rintro e w5 ⟨ap, rfl, hS⟩; have HS5 := Lib.hid hS; clear hS)
                  by_cases hlr : mid - a1 < b1 - mid
                  · have hlrI : (mid : Int) - (a1 : Int) < (b1 : Int) - (mid : Int) := by omega
                    have HR := Lib.hid (IH.out (mid - a1) (by omega) w0 w5 g off FF cap a1 mid l1 HS5.out hm1 (by omega) (by omega) (by omega) HBL.out rfl)
                    rw [hsF] at HR
                    go_wp2_with (go_at_call 11; refine HR.out.mono ?_; rintro e w6 ⟨rfl, R, hSR, hPR, hOR⟩)
                    go_roundw
                    case rel => exact ⟨mid + 1, b1, l1, R, _, _, by go_num, rfl, rfl, rfl, rfl, by omega, by omega, by omega, by omega, by rw [hPR.1, hsF], Lib.hid ⟨hSR, (HGL.out R hPR hOR)⟩⟩
                    case measure => simp [Go.RowKit.intOf]; omega
                  · have hlrI : ¬ (mid : Int) - (a1 : Int) < (b1 : Int) - (mid : Int) := by omega
                    have hlrD : decide ((mid : Int) - (a1 : Int) < (b1 : Int) - (mid : Int)) = false := decide_eq_false hlrI
                    have HR := Lib.hid (IH.out (b1 - (mid + 1)) (by omega) w0 w5 g off FF cap (mid + 1) b1 l1 HS5.out (by omega) (by omega) (by omega) (by omega) HBR.out rfl)
                    rw [hsF] at HR
                    rw [show ((mid + 1 : Nat) : Int) = (mid : Int) + 1 by omega] at HR
                    go_wp2_with (go_at_call 11; refine HR.out.mono ?_; rintro e w6 ⟨rfl, R, hSR, hPR, hOR⟩)
                    go_roundw
                    case rel => exact ⟨a1, mid, l1, R, _, _, rfl, rfl, rfl, rfl, rfl, by omega, by omega, by omega, by omega, by rw [hPR.1, hsF], Lib.hid ⟨hSR, (HGR.out R hPR hOR)⟩⟩
                    case measure => simp [Go.RowKit.intOf]; omega
            · have HPI := partial_any cap a1 b1 HS_D2.out (by omega) (by omega) (by omega)
              obtain ⟨⟨D3, r3⟩, h3⟩ : ∃ t, t = Go.Sort.partialInsertionSort ltInt D2 a1 b1 := ⟨_, rfl⟩
              rw [← h3, hs_D2] at HPI
              have HPI := Lib.hid HPI
              obtain ⟨hP3, hO3⟩ := Go.Sort.partialInsertionSort_holds Go.Sort.swo_ltInt D2 a1 b1 (by omega) (by omega) HG_D2.out.1
              rw [← h3] at hP3 hO3
              have hs_D3 : D3.size = d.size := hP3.1.trans hs_D2
              have HP3 := Lib.hid hP3
              have HO3 := Lib.hid hO3
              have HG_D3 := Lib.hid (HG_D2.out.perm (by omega) hP3)
              clear h3 hP3 hO3
              cases r3
              · go_upto_region 17 with (go_at_call 18; refine HPI.out.mono ?_; rintro e w4 ⟨rfl, hS⟩; have HS_D3 := Lib.hid hS; clear hS)
                as_aux_lemma =>
                  have hsE := hs_D3
                  have HSE := HS_D3
                  have HGE := HG_D3
                  obtain ⟨G, hG⟩ : ∃ G : Nat → Int, ∀ t, G t = D3[t]! := ⟨fun t => D3[t]!, fun _ => rfl⟩
                  have HG := Lib.hid hG
                  clear hG
                  have cw : ∀ t, t < d.size → w4.cell? ⟨g, off + t, none⟩ = some (.int .u64 (G t)) := fun t ht => by rw [HG.out]; exact HSE.out.cell t (by omega)
                  have fw : ∀ t, t < d.size → w4.frozen? ⟨g, off + t, none⟩ = false := fun t ht => HSE.out.free t (by omega)
                  by_cases ha0 : 0 < a1
                  · have ha0I : (0 : Int) < (a1 : Int) := by omega
                    cases hl : ltInt (G (a1 - 1)) (G p)
                    · have HL := Lib.hid hl
                      go_quiet (first | (go_at_call 19; refine Calls.quiet_of_same (less_quiet _ _ _)))
                      clear cw fw
                      obtain ⟨⟨mid, FF⟩, hF⟩ : ∃ t, t = Go.Sort.partitionEqual ltInt D3 a1 b1 p := ⟨_, rfl⟩
                      have HPE := partEq_any cap a1 b1 p (HSE.out.drewN nq) hp1 hp2 (by omega) (by omega)
                      rw [← hF] at HPE
                      have HPE := Lib.hid HPE
                      obtain ⟨hm1, hm2, hsF0, hGF⟩ := HGE.out.eq ha0 hp1 hp2 (by omega) (by rw [← HG.out, ← HG.out]; exact HL.out) hF.symm
                      have hsF : FF.size = d.size := hsF0.trans hsE
                      have HGF := Lib.hid hGF
                      clear hF hsF0 hGF
                      rw [hsE] at HPE
                      go_wp2_with (go_at_call 20; refine HPE.out.mono ?_; rintro e w5 ⟨rfl, hS⟩)
                      go_roundw
                      case rel => exact ⟨mid, b1, l1, FF, _, _, rfl, rfl, rfl, rfl, rfl, by omega, by omega, by omega, by omega, hsF, Lib.hid ⟨hS, HGF.out⟩⟩
                      case measure => simp [Go.RowKit.intOf]; omega
                    · have HL := Lib.hid hl
                      go_quiet (first | (go_at_call 19; refine Calls.quiet_of_same (less_quiet _ _ _)))
                      clear cw fw
                      obtain ⟨⟨mid, apx, FF⟩, hF⟩ : ∃ t, t = Go.Sort.partition ltInt D3 a1 b1 p := ⟨_, rfl⟩
                      have HPT := part_any cap a1 b1 p (HSE.out.drewN nq) hp1 hp2 (by omega) (by omega)
                      rw [← hF] at HPT
                      have HPT := Lib.hid HPT
                      obtain ⟨hm1, hm2, hsF0, hBL, hBR, hL, hR⟩ := HGE.out.part hp1 hp2 (by omega) hF.symm
                      have hsF : FF.size = d.size := hsF0.trans hsE
                      have HBL := Lib.hid hBL
                      have HBR := Lib.hid hBR
                      have HGL := Lib.hid hL
                      have HGR := Lib.hid hR
                      clear hF hsF0 hBL hBR hL hR
                      rw [hsE] at HPT
                      go_upto_region 24 with (go_at_call 21; refine HPT.out.mono ?_; rintro e w5 ⟨ap, rfl, hS⟩; have HS5 := Lib.hid hS; clear hS)
                      by_cases hlr : mid - a1 < b1 - mid
                      · have hlrI : (mid : Int) - (a1 : Int) < (b1 : Int) - (mid : Int) := by omega
                        have HR := Lib.hid (IH.out (mid - a1) (by omega) w0 w5 g off FF cap a1 mid l1 HS5.out hm1 (by omega) (by omega) (by omega) HBL.out rfl)
                        rw [hsF] at HR
                        go_wp2_with (go_at_call 11; refine HR.out.mono ?_; rintro e w6 ⟨rfl, R, hSR, hPR, hOR⟩)
                        go_roundw
                        case rel => exact ⟨mid + 1, b1, l1, R, _, _, by go_num, rfl, rfl, rfl, rfl, by omega, by omega, by omega, by omega, by rw [hPR.1, hsF], Lib.hid ⟨hSR, (HGL.out R hPR hOR)⟩⟩
                        case measure => simp [Go.RowKit.intOf]; omega
                      · have hlrI : ¬ (mid : Int) - (a1 : Int) < (b1 : Int) - (mid : Int) := by omega
                        have hlrD : decide ((mid : Int) - (a1 : Int) < (b1 : Int) - (mid : Int)) = false := decide_eq_false hlrI
                        have HR := Lib.hid (IH.out (b1 - (mid + 1)) (by omega) w0 w5 g off FF cap (mid + 1) b1 l1 HS5.out (by omega) (by omega) (by omega) (by omega) HBR.out rfl)
                        rw [hsF] at HR
                        rw [show ((mid + 1 : Nat) : Int) = (mid : Int) + 1 by omega] at HR
                        go_wp2_with (go_at_call 11; refine HR.out.mono ?_; rintro e w6 ⟨rfl, R, hSR, hPR, hOR⟩)
                        go_roundw
                        case rel => exact ⟨a1, mid, l1, R, _, _, rfl, rfl, rfl, rfl, rfl, by omega, by omega, by omega, by omega, by rw [hPR.1, hsF], Lib.hid ⟨hSR, (HGR.out R hPR hOR)⟩⟩
                        case measure => simp [Go.RowKit.intOf]; omega
                  · have ha0I : ¬ (0 : Int) < (a1 : Int) := by omega
                    go_quiet (first | (go_at_call 19; refine Calls.quiet_of_same (less_quiet _ _ _)))
                    clear cw fw
                    obtain ⟨⟨mid, apx, FF⟩, hF⟩ : ∃ t, t = Go.Sort.partition ltInt D3 a1 b1 p := ⟨_, rfl⟩
                    have HPT := part_any cap a1 b1 p (HSE.out.drewN nq) hp1 hp2 (by omega) (by omega)
                    rw [← hF] at HPT
                    have HPT := Lib.hid HPT
                    obtain ⟨hm1, hm2, hsF0, hBL, hBR, hL, hR⟩ := HGE.out.part hp1 hp2 (by omega) hF.symm
                    have hsF : FF.size = d.size := hsF0.trans hsE
                    have HBL := Lib.hid hBL
                    have HBR := Lib.hid hBR
                    have HGL := Lib.hid hL
                    have HGR := Lib.hid hR
                    clear hF hsF0 hBL hBR hL hR
                    rw [hsE] at HPT
                    go_upto_region 24 with (go_at_call 21; refine HPT.out.mono ?_; rintro e w5 ⟨ap, rfl, hS⟩; have HS5 := Lib.hid hS; clear hS)
                    by_cases hlr : mid - a1 < b1 - mid
                    · have hlrI : (mid : Int) - (a1 : Int) < (b1 : Int) - (mid : Int) := by omega
                      have HR := Lib.hid (IH.out (mid - a1) (by omega) w0 w5 g off FF cap a1 mid l1 HS5.out hm1 (by omega) (by omega) (by omega) HBL.out rfl)
                      rw [hsF] at HR
                      go_wp2_with (go_at_call 11; refine HR.out.mono ?_; rintro e w6 ⟨rfl, R, hSR, hPR, hOR⟩)
                      go_roundw
                      case rel => exact ⟨mid + 1, b1, l1, R, _, _, by go_num, rfl, rfl, rfl, rfl, by omega, by omega, by omega, by omega, by rw [hPR.1, hsF], Lib.hid ⟨hSR, (HGL.out R hPR hOR)⟩⟩
                      case measure => simp [Go.RowKit.intOf]; omega
                    · have hlrI : ¬ (mid : Int) - (a1 : Int) < (b1 : Int) - (mid : Int) := by omega
                      have hlrD : decide ((mid : Int) - (a1 : Int) < (b1 : Int) - (mid : Int)) = false := decide_eq_false hlrI
                      have HR := Lib.hid (IH.out (b1 - (mid + 1)) (by omega) w0 w5 g off FF cap (mid + 1) b1 l1 HS5.out (by omega) (by omega) (by omega) (by omega) HBR.out rfl)
                      rw [hsF] at HR
                      rw [show ((mid + 1 : Nat) : Int) = (mid : Int) + 1 by omega] at HR
                      go_wp2_with (go_at_call 11; refine HR.out.mono ?_; rintro e w6 ⟨rfl, R, hSR, hPR, hOR⟩)
                      go_roundw
                      case rel => exact ⟨a1, mid, l1, R, _, _, rfl, rfl, rfl, rfl, rfl, by omega, by omega, by omega, by omega, by rw [hPR.1, hsF], Lib.hid ⟨hSR, (HGR.out R hPR hOR)⟩⟩
                      case measure => simp [Go.RowKit.intOf]; omega
              · go_wp2_with (go_at_call 18; refine HPI.out.mono ?_; rintro e w4 ⟨rfl, hS⟩)
                refine bodyPost_ret (v := .tuple #[]) (by simp [results, Try.f11]) rfl ?_
                have := HG_D2.out.res D3 HP3.out (HO3.out (by first | rfl | trivial))
                exact ⟨rfl, D3, hS, this.1, this.2⟩
          · have h2I : ¬ (hn : Int) = 2 := by omega
            cases y
            · go_upto_region 17 with fail
              as_aux_lemma =>
                have hsE := hs_D
                have HSE := HS_D
                have HGE := HG_D
                obtain ⟨G, hG⟩ : ∃ G : Nat → Int, ∀ t, G t = D[t]! := ⟨fun t => D[t]!, fun _ => rfl⟩
                have HG := Lib.hid hG
                clear hG
                have cw : ∀ t, t < d.size → w2.cell? ⟨g, off + t, none⟩ = some (.int .u64 (G t)) := fun t ht => by rw [HG.out]; exact HSE.out.cell t (by omega)
                have fw : ∀ t, t < d.size → w2.frozen? ⟨g, off + t, none⟩ = false := fun t ht => HSE.out.free t (by omega)
                by_cases ha0 : 0 < a1
                · have ha0I : (0 : Int) < (a1 : Int) := by omega
                  cases hl : ltInt (G (a1 - 1)) (G p)
                  · have HL := Lib.hid hl
                    go_quiet (first | (go_at_call 19; refine Calls.quiet_of_same (less_quiet _ _ _)))
                    clear cw fw
                    obtain ⟨⟨mid, FF⟩, hF⟩ : ∃ t, t = Go.Sort.partitionEqual ltInt D a1 b1 p := ⟨_, rfl⟩
                    have HPE := partEq_any cap a1 b1 p (HSE.out.drewN nq) hp1 hp2 (by omega) (by omega)
                    rw [← hF] at HPE
                    have HPE := Lib.hid HPE
                    obtain ⟨hm1, hm2, hsF0, hGF⟩ := HGE.out.eq ha0 hp1 hp2 (by omega) (by rw [← HG.out, ← HG.out]; exact HL.out) hF.symm
                    have hsF : FF.size = d.size := hsF0.trans hsE
                    have HGF := Lib.hid hGF
                    clear hF hsF0 hGF
                    rw [hsE] at HPE
                    go_wp2_with (go_at_call 20; refine HPE.out.mono ?_; rintro e w5 ⟨rfl, hS⟩)
                    go_roundw
                    case rel => exact ⟨mid, b1, l1, FF, _, _, rfl, rfl, rfl, rfl, rfl, by omega, by omega, by omega, by omega, hsF, Lib.hid ⟨hS, HGF.out⟩⟩
                    case measure => simp [Go.RowKit.intOf]; omega
                  · have HL := Lib.hid hl
                    go_quiet (first | (go_at_call 19; refine Calls.quiet_of_same (less_quiet _ _ _)))
                    clear cw fw
                    obtain ⟨⟨mid, apx, FF⟩, hF⟩ : ∃ t, t = Go.Sort.partition ltInt D a1 b1 p := ⟨_, rfl⟩
                    have HPT := part_any cap a1 b1 p (HSE.out.drewN nq) hp1 hp2 (by omega) (by omega)
                    rw [← hF] at HPT
                    have HPT := Lib.hid HPT
                    obtain ⟨hm1, hm2, hsF0, hBL, hBR, hL, hR⟩ := HGE.out.part hp1 hp2 (by omega) hF.symm
                    have hsF : FF.size = d.size := hsF0.trans hsE
                    have HBL := Lib.hid hBL
                    have HBR := Lib.hid hBR
                    have HGL := Lib.hid hL
                    have HGR := Lib.hid hR
                    clear hF hsF0 hBL hBR hL hR
                    rw [hsE] at HPT
                    go_upto_region 24 with (go_at_call 21; refine HPT.out.mono ?_; rintro e w5 ⟨ap, rfl, hS⟩; have HS5 := Lib.hid hS; clear hS)
                    by_cases hlr : mid - a1 < b1 - mid
                    · have hlrI : (mid : Int) - (a1 : Int) < (b1 : Int) - (mid : Int) := by omega
                      have HR := Lib.hid (IH.out (mid - a1) (by omega) w0 w5 g off FF cap a1 mid l1 HS5.out hm1 (by omega) (by omega) (by omega) HBL.out rfl)
                      rw [hsF] at HR
                      go_wp2_with (go_at_call 11; refine HR.out.mono ?_; rintro e w6 ⟨rfl, R, hSR, hPR, hOR⟩)
                      go_roundw
                      case rel => exact ⟨mid + 1, b1, l1, R, _, _, by go_num, rfl, rfl, rfl, rfl, by omega, by omega, by omega, by omega, by rw [hPR.1, hsF], Lib.hid ⟨hSR, (HGL.out R hPR hOR)⟩⟩
                      case measure => simp [Go.RowKit.intOf]; omega
                    · have hlrI : ¬ (mid : Int) - (a1 : Int) < (b1 : Int) - (mid : Int) := by omega
                      have hlrD : decide ((mid : Int) - (a1 : Int) < (b1 : Int) - (mid : Int)) = false := decide_eq_false hlrI
                      have HR := Lib.hid (IH.out (b1 - (mid + 1)) (by omega) w0 w5 g off FF cap (mid + 1) b1 l1 HS5.out (by omega) (by omega) (by omega) (by omega) HBR.out rfl)
                      rw [hsF] at HR
                      rw [show ((mid + 1 : Nat) : Int) = (mid : Int) + 1 by omega] at HR
                      go_wp2_with (go_at_call 11; refine HR.out.mono ?_; rintro e w6 ⟨rfl, R, hSR, hPR, hOR⟩)
                      go_roundw
                      case rel => exact ⟨a1, mid, l1, R, _, _, rfl, rfl, rfl, rfl, rfl, by omega, by omega, by omega, by omega, by rw [hPR.1, hsF], Lib.hid ⟨hSR, (HGR.out R hPR hOR)⟩⟩
                      case measure => simp [Go.RowKit.intOf]; omega
                · have ha0I : ¬ (0 : Int) < (a1 : Int) := by omega
                  go_quiet (first | (go_at_call 19; refine Calls.quiet_of_same (less_quiet _ _ _)))
                  clear cw fw
                  obtain ⟨⟨mid, apx, FF⟩, hF⟩ : ∃ t, t = Go.Sort.partition ltInt D a1 b1 p := ⟨_, rfl⟩
                  have HPT := part_any cap a1 b1 p (HSE.out.drewN nq) hp1 hp2 (by omega) (by omega)
                  rw [← hF] at HPT
                  have HPT := Lib.hid HPT
                  obtain ⟨hm1, hm2, hsF0, hBL, hBR, hL, hR⟩ := HGE.out.part hp1 hp2 (by omega) hF.symm
                  have hsF : FF.size = d.size := hsF0.trans hsE
                  have HBL := Lib.hid hBL
                  have HBR := Lib.hid hBR
                  have HGL := Lib.hid hL
                  have HGR := Lib.hid hR
                  clear hF hsF0 hBL hBR hL hR
                  rw [hsE] at HPT
                  go_upto_region 24 with (go_at_call 21; refine HPT.out.mono ?_; rintro e w5 ⟨ap, rfl, hS⟩; have HS5 := Lib.hid hS; clear hS)
                  by_cases hlr : mid - a1 < b1 - mid
                  · have hlrI : (mid : Int) - (a1 : Int) < (b1 : Int) - (mid : Int) := by omega
                    have HR := Lib.hid (IH.out (mid - a1) (by omega) w0 w5 g off FF cap a1 mid l1 HS5.out hm1 (by omega) (by omega) (by omega) HBL.out rfl)
                    rw [hsF] at HR
                    go_wp2_with (go_at_call 11; refine HR.out.mono ?_; rintro e w6 ⟨rfl, R, hSR, hPR, hOR⟩)
                    go_roundw
                    case rel => exact ⟨mid + 1, b1, l1, R, _, _, by go_num, rfl, rfl, rfl, rfl, by omega, by omega, by omega, by omega, by rw [hPR.1, hsF], Lib.hid ⟨hSR, (HGL.out R hPR hOR)⟩⟩
                    case measure => simp [Go.RowKit.intOf]; omega
                  · have hlrI : ¬ (mid : Int) - (a1 : Int) < (b1 : Int) - (mid : Int) := by omega
                    have hlrD : decide ((mid : Int) - (a1 : Int) < (b1 : Int) - (mid : Int)) = false := decide_eq_false hlrI
                    have HR := Lib.hid (IH.out (b1 - (mid + 1)) (by omega) w0 w5 g off FF cap (mid + 1) b1 l1 HS5.out (by omega) (by omega) (by omega) (by omega) HBR.out rfl)
                    rw [hsF] at HR
                    rw [show ((mid + 1 : Nat) : Int) = (mid : Int) + 1 by omega] at HR
                    go_wp2_with (go_at_call 11; refine HR.out.mono ?_; rintro e w6 ⟨rfl, R, hSR, hPR, hOR⟩)
                    go_roundw
                    case rel => exact ⟨a1, mid, l1, R, _, _, rfl, rfl, rfl, rfl, rfl, by omega, by omega, by omega, by omega, by rw [hPR.1, hsF], Lib.hid ⟨hSR, (HGR.out R hPR hOR)⟩⟩
                    case measure => simp [Go.RowKit.intOf]; omega
            · by_cases hn1 : hn = 1
              · subst hn1
                have HPI := partial_any cap a1 b1 HS_D.out (by omega) (by omega) (by omega)
                obtain ⟨⟨D3, r3⟩, h3⟩ : ∃ t, t = Go.Sort.partialInsertionSort ltInt D a1 b1 := ⟨_, rfl⟩
                rw [← h3, hs_D] at HPI
                have HPI := Lib.hid HPI
                obtain ⟨hP3, hO3⟩ := Go.Sort.partialInsertionSort_holds Go.Sort.swo_ltInt D a1 b1 (by omega) (by omega) HG_D.out.1
                rw [← h3] at hP3 hO3
                have hs_D3 : D3.size = d.size := hP3.1.trans hs_D
                have HP3 := Lib.hid hP3
                have HO3 := Lib.hid hO3
                have HG_D3 := Lib.hid (HG_D.out.perm (by omega) hP3)
                clear h3 hP3 hO3
                cases r3
                · go_upto_region 17 with (go_at_call 18; refine HPI.out.mono ?_; rintro e w4 ⟨rfl, hS⟩; have HS_D3 := Lib.hid hS; clear hS)
                  as_aux_lemma =>
                    have hsE := hs_D3
                    have HSE := HS_D3
                    have HGE := HG_D3
                    obtain ⟨G, hG⟩ : ∃ G : Nat → Int, ∀ t, G t = D3[t]! := ⟨fun t => D3[t]!, fun _ => rfl⟩
                    have HG := Lib.hid hG
                    clear hG
                    have cw : ∀ t, t < d.size → w4.cell? ⟨g, off + t, none⟩ = some (.int .u64 (G t)) := fun t ht => by rw [HG.out]; exact HSE.out.cell t (by omega)
                    have fw : ∀ t, t < d.size → w4.frozen? ⟨g, off + t, none⟩ = false := fun t ht => HSE.out.free t (by omega)
                    by_cases ha0 : 0 < a1
                    · have ha0I : (0 : Int) < (a1 : Int) := by omega
                      cases hl : ltInt (G (a1 - 1)) (G p)
                      · have HL := Lib.hid hl
                        go_quiet (first | (go_at_call 19; refine Calls.quiet_of_same (less_quiet _ _ _)))
                        clear cw fw
                        obtain ⟨⟨mid, FF⟩, hF⟩ : ∃ t, t = Go.Sort.partitionEqual ltInt D3 a1 b1 p := ⟨_, rfl⟩
                        have HPE := partEq_any cap a1 b1 p (HSE.out.drewN nq) hp1 hp2 (by omega) (by omega)
                        rw [← hF] at HPE
                        have HPE := Lib.hid HPE
                        obtain ⟨hm1, hm2, hsF0, hGF⟩ := HGE.out.eq ha0 hp1 hp2 (by omega) (by rw [← HG.out, ← HG.out]; exact HL.out) hF.symm
                        have hsF : FF.size = d.size := hsF0.trans hsE
                        have HGF := Lib.hid hGF
                        clear hF hsF0 hGF
                        rw [hsE] at HPE
                        go_wp2_with (go_at_call 20; refine HPE.out.mono ?_; rintro e w5 ⟨rfl, hS⟩)
                        go_roundw
                        case rel => exact ⟨mid, b1, l1, FF, _, _, rfl, rfl, rfl, rfl, rfl, by omega, by omega, by omega, by omega, hsF, Lib.hid ⟨hS, HGF.out⟩⟩
                        case measure => simp [Go.RowKit.intOf]; omega
                      · have HL := Lib.hid hl
                        go_quiet (first | (go_at_call 19; refine Calls.quiet_of_same (less_quiet _ _ _)))
                        clear cw fw
                        obtain ⟨⟨mid, apx, FF⟩, hF⟩ : ∃ t, t = Go.Sort.partition ltInt D3 a1 b1 p := ⟨_, rfl⟩
                        have HPT := part_any cap a1 b1 p (HSE.out.drewN nq) hp1 hp2 (by omega) (by omega)
                        rw [← hF] at HPT
                        have HPT := Lib.hid HPT
                        obtain ⟨hm1, hm2, hsF0, hBL, hBR, hL, hR⟩ := HGE.out.part hp1 hp2 (by omega) hF.symm
                        have hsF : FF.size = d.size := hsF0.trans hsE
                        have HBL := Lib.hid hBL
                        have HBR := Lib.hid hBR
                        have HGL := Lib.hid hL
                        have HGR := Lib.hid hR
                        clear hF hsF0 hBL hBR hL hR
                        rw [hsE] at HPT
                        go_upto_region 24 with (go_at_call 21; refine HPT.out.mono ?_; rintro e w5 ⟨ap, rfl, hS⟩; have HS5 := Lib.hid hS; clear hS)
                        by_cases hlr : mid - a1 < b1 - mid
                        · have hlrI : (mid : Int) - (a1 : Int) < (b1 : Int) - (mid : Int) := by omega
                          have HR := Lib.hid (IH.out (mid - a1) (by omega) w0 w5 g off FF cap a1 mid l1 HS5.out hm1 (by omega) (by omega) (by omega) HBL.out rfl)
                          rw [hsF] at HR
                          go_wp2_with (go_at_call 11; refine HR.out.mono ?_; rintro e w6 ⟨rfl, R, hSR, hPR, hOR⟩)
                          go_roundw
                          case rel => exact ⟨mid + 1, b1, l1, R, _, _, by go_num, rfl, rfl, rfl, rfl, by omega, by omega, by omega, by omega, by rw [hPR.1, hsF], Lib.hid ⟨hSR, (HGL.out R hPR hOR)⟩⟩
                          case measure => simp [Go.RowKit.intOf]; omega
                        · have hlrI : ¬ (mid : Int) - (a1 : Int) < (b1 : Int) - (mid : Int) := by omega
                          have hlrD : decide ((mid : Int) - (a1 : Int) < (b1 : Int) - (mid : Int)) = false := decide_eq_false hlrI
                          have HR := Lib.hid (IH.out (b1 - (mid + 1)) (by omega) w0 w5 g off FF cap (mid + 1) b1 l1 HS5.out (by omega) (by omega) (by omega) (by omega) HBR.out rfl)
                          rw [hsF] at HR
                          rw [show ((mid + 1 : Nat) : Int) = (mid : Int) + 1 by omega] at HR
                          go_wp2_with (go_at_call 11; refine HR.out.mono ?_; rintro e w6 ⟨rfl, R, hSR, hPR, hOR⟩)
                          go_roundw
                          case rel => exact ⟨a1, mid, l1, R, _, _, rfl, rfl, rfl, rfl, rfl, by omega, by omega, by omega, by omega, by rw [hPR.1, hsF], Lib.hid ⟨hSR, (HGR.out R hPR hOR)⟩⟩
                          case measure => simp [Go.RowKit.intOf]; omega
                    · have ha0I : ¬ (0 : Int) < (a1 : Int) := by omega
                      go_quiet (first | (go_at_call 19; refine Calls.quiet_of_same (less_quiet _ _ _)))
                      clear cw fw
                      obtain ⟨⟨mid, apx, FF⟩, hF⟩ : ∃ t, t = Go.Sort.partition ltInt D3 a1 b1 p := ⟨_, rfl⟩
                      have HPT := part_any cap a1 b1 p (HSE.out.drewN nq) hp1 hp2 (by omega) (by omega)
                      rw [← hF] at HPT
                      have HPT := Lib.hid HPT
                      obtain ⟨hm1, hm2, hsF0, hBL, hBR, hL, hR⟩ := HGE.out.part hp1 hp2 (by omega) hF.symm
                      have hsF : FF.size = d.size := hsF0.trans hsE
                      have HBL := Lib.hid hBL
                      have HBR := Lib.hid hBR
                      have HGL := Lib.hid hL
                      have HGR := Lib.hid hR
                      clear hF hsF0 hBL hBR hL hR
                      rw [hsE] at HPT
                      go_upto_region 24 with (go_at_call 21; refine HPT.out.mono ?_; rintro e w5 ⟨ap, rfl, hS⟩; have HS5 := Lib.hid hS; clear hS)
                      by_cases hlr : mid - a1 < b1 - mid
                      · have hlrI : (mid : Int) - (a1 : Int) < (b1 : Int) - (mid : Int) := by omega
                        have HR := Lib.hid (IH.out (mid - a1) (by omega) w0 w5 g off FF cap a1 mid l1 HS5.out hm1 (by omega) (by omega) (by omega) HBL.out rfl)
                        rw [hsF] at HR
                        go_wp2_with (go_at_call 11; refine HR.out.mono ?_; rintro e w6 ⟨rfl, R, hSR, hPR, hOR⟩)
                        go_roundw
                        case rel => exact ⟨mid + 1, b1, l1, R, _, _, by go_num, rfl, rfl, rfl, rfl, by omega, by omega, by omega, by omega, by rw [hPR.1, hsF], Lib.hid ⟨hSR, (HGL.out R hPR hOR)⟩⟩
                        case measure => simp [Go.RowKit.intOf]; omega
                      · have hlrI : ¬ (mid : Int) - (a1 : Int) < (b1 : Int) - (mid : Int) := by omega
                        have hlrD : decide ((mid : Int) - (a1 : Int) < (b1 : Int) - (mid : Int)) = false := decide_eq_false hlrI
                        have HR := Lib.hid (IH.out (b1 - (mid + 1)) (by omega) w0 w5 g off FF cap (mid + 1) b1 l1 HS5.out (by omega) (by omega) (by omega) (by omega) HBR.out rfl)
                        rw [hsF] at HR
                        rw [show ((mid + 1 : Nat) : Int) = (mid : Int) + 1 by omega] at HR
                        go_wp2_with (go_at_call 11; refine HR.out.mono ?_; rintro e w6 ⟨rfl, R, hSR, hPR, hOR⟩)
                        go_roundw
                        case rel => exact ⟨a1, mid, l1, R, _, _, rfl, rfl, rfl, rfl, rfl, by omega, by omega, by omega, by omega, by rw [hPR.1, hsF], Lib.hid ⟨hSR, (HGR.out R hPR hOR)⟩⟩
                        case measure => simp [Go.RowKit.intOf]; omega
                · go_wp2_with (go_at_call 18; refine HPI.out.mono ?_; rintro e w4 ⟨rfl, hS⟩)
                  refine bodyPost_ret (v := .tuple #[]) (by simp [results, Try.f11]) rfl ?_
                  have := HG_D.out.res D3 HP3.out (HO3.out (by first | rfl | trivial))
                  exact ⟨rfl, D3, hS, this.1, this.2⟩
              · have hn1I : ¬ (hn : Int) = 1 := by omega
                go_upto_region 17 with fail
                as_aux_lemma =>
                  have hsE := hs_D
                  have HSE := HS_D
                  have HGE := HG_D
                  obtain ⟨G, hG⟩ : ∃ G : Nat → Int, ∀ t, G t = D[t]! := ⟨fun t => D[t]!, fun _ => rfl⟩
                  have HG := Lib.hid hG
                  clear hG
                  have cw : ∀ t, t < d.size → w2.cell? ⟨g, off + t, none⟩ = some (.int .u64 (G t)) := fun t ht => by rw [HG.out]; exact HSE.out.cell t (by omega)
                  have fw : ∀ t, t < d.size → w2.frozen? ⟨g, off + t, none⟩ = false := fun t ht => HSE.out.free t (by omega)
                  by_cases ha0 : 0 < a1
                  · have ha0I : (0 : Int) < (a1 : Int) := by omega
                    cases hl : ltInt (G (a1 - 1)) (G p)
                    · have HL := Lib.hid hl
                      go_quiet (first | (go_at_call 19; refine Calls.quiet_of_same (less_quiet _ _ _)))
                      clear cw fw
                      obtain ⟨⟨mid, FF⟩, hF⟩ : ∃ t, t = Go.Sort.partitionEqual ltInt D a1 b1 p := ⟨_, rfl⟩
                      have HPE := partEq_any cap a1 b1 p (HSE.out.drewN nq) hp1 hp2 (by omega) (by omega)
                      rw [← hF] at HPE
                      have HPE := Lib.hid HPE
                      obtain ⟨hm1, hm2, hsF0, hGF⟩ := HGE.out.eq ha0 hp1 hp2 (by omega) (by rw [← HG.out, ← HG.out]; exact HL.out) hF.symm
                      have hsF : FF.size = d.size := hsF0.trans hsE
                      have HGF := Lib.hid hGF
                      clear hF hsF0 hGF
                      rw [hsE] at HPE
                      go_wp2_with (go_at_call 20; refine HPE.out.mono ?_; rintro e w5 ⟨rfl, hS⟩)
                      go_roundw
                      case rel => exact ⟨mid, b1, l1, FF, _, _, rfl, rfl, rfl, rfl, rfl, by omega, by omega, by omega, by omega, hsF, Lib.hid ⟨hS, HGF.out⟩⟩
                      case measure => simp [Go.RowKit.intOf]; omega
                    · have HL := Lib.hid hl
                      go_quiet (first | (go_at_call 19; refine Calls.quiet_of_same (less_quiet _ _ _)))
                      clear cw fw
                      obtain ⟨⟨mid, apx, FF⟩, hF⟩ : ∃ t, t = Go.Sort.partition ltInt D a1 b1 p := ⟨_, rfl⟩
                      have HPT := part_any cap a1 b1 p (HSE.out.drewN nq) hp1 hp2 (by omega) (by omega)
                      rw [← hF] at HPT
                      have HPT := Lib.hid HPT
                      obtain ⟨hm1, hm2, hsF0, hBL, hBR, hL, hR⟩ := HGE.out.part hp1 hp2 (by omega) hF.symm
                      have hsF : FF.size = d.size := hsF0.trans hsE
                      have HBL := Lib.hid hBL
                      have HBR := Lib.hid hBR
                      have HGL := Lib.hid hL
                      have HGR := Lib.hid hR
                      clear hF hsF0 hBL hBR hL hR
                      rw [hsE] at HPT
                      go_upto_region 24 with (go_at_call 21; refine HPT.out.mono ?_; rintro e w5 ⟨ap, rfl, hS⟩; have HS5 := Lib.hid hS; clear hS)
                      by_cases hlr : mid - a1 < b1 - mid
                      · have hlrI : (mid : Int) - (a1 : Int) < (b1 : Int) - (mid : Int) := by omega
                        have HR := Lib.hid (IH.out (mid - a1) (by omega) w0 w5 g off FF cap a1 mid l1 HS5.out hm1 (by omega) (by omega) (by omega) HBL.out rfl)
                        rw [hsF] at HR
                        go_wp2_with (go_at_call 11; refine HR.out.mono ?_; rintro e w6 ⟨rfl, R, hSR, hPR, hOR⟩)
                        go_roundw
                        case rel => exact ⟨mid + 1, b1, l1, R, _, _, by go_num, rfl, rfl, rfl, rfl, by omega, by omega, by omega, by omega, by rw [hPR.1, hsF], Lib.hid ⟨hSR, (HGL.out R hPR hOR)⟩⟩
                        case measure => simp [Go.RowKit.intOf]; omega
                      · have hlrI : ¬ (mid : Int) - (a1 : Int) < (b1 : Int) - (mid : Int) := by omega
                        have hlrD : decide ((mid : Int) - (a1 : Int) < (b1 : Int) - (mid : Int)) = false := decide_eq_false hlrI
                        have HR := Lib.hid (IH.out (b1 - (mid + 1)) (by omega) w0 w5 g off FF cap (mid + 1) b1 l1 HS5.out (by omega) (by omega) (by omega) (by omega) HBR.out rfl)
                        rw [hsF] at HR
                        rw [show ((mid + 1 : Nat) : Int) = (mid : Int) + 1 by omega] at HR
                        go_wp2_with (go_at_call 11; refine HR.out.mono ?_; rintro e w6 ⟨rfl, R, hSR, hPR, hOR⟩)
                        go_roundw
                        case rel => exact ⟨a1, mid, l1, R, _, _, rfl, rfl, rfl, rfl, rfl, by omega, by omega, by omega, by omega, by rw [hPR.1, hsF], Lib.hid ⟨hSR, (HGR.out R hPR hOR)⟩⟩
                        case measure => simp [Go.RowKit.intOf]; omega
                  · have ha0I : ¬ (0 : Int) < (a1 : Int) := by omega
                    go_quiet (first | (go_at_call 19; refine Calls.quiet_of_same (less_quiet _ _ _)))
                    clear cw fw
                    obtain ⟨⟨mid, apx, FF⟩, hF⟩ : ∃ t, t = Go.Sort.partition ltInt D a1 b1 p := ⟨_, rfl⟩
                    have HPT := part_any cap a1 b1 p (HSE.out.drewN nq) hp1 hp2 (by omega) (by omega)
                    rw [← hF] at HPT
                    have HPT := Lib.hid HPT
                    obtain ⟨hm1, hm2, hsF0, hBL, hBR, hL, hR⟩ := HGE.out.part hp1 hp2 (by omega) hF.symm
                    have hsF : FF.size = d.size := hsF0.trans hsE
                    have HBL := Lib.hid hBL
                    have HBR := Lib.hid hBR
                    have HGL := Lib.hid hL
                    have HGR := Lib.hid hR
                    clear hF hsF0 hBL hBR hL hR
                    rw [hsE] at HPT
                    go_upto_region 24 with (go_at_call 21; refine HPT.out.mono ?_; rintro e w5 ⟨ap, rfl, hS⟩; have HS5 := Lib.hid hS; clear hS)
                    by_cases hlr : mid - a1 < b1 - mid
                    · have hlrI : (mid : Int) - (a1 : Int) < (b1 : Int) - (mid : Int) := by omega
                      have HR := Lib.hid (IH.out (mid - a1) (by omega) w0 w5 g off FF cap a1 mid l1 HS5.out hm1 (by omega) (by omega) (by omega) HBL.out rfl)
                      rw [hsF] at HR
                      go_wp2_with (go_at_call 11; refine HR.out.mono ?_; rintro e w6 ⟨rfl, R, hSR, hPR, hOR⟩)
                      go_roundw
                      case rel => exact ⟨mid + 1, b1, l1, R, _, _, by go_num, rfl, rfl, rfl, rfl, by omega, by omega, by omega, by omega, by rw [hPR.1, hsF], Lib.hid ⟨hSR, (HGL.out R hPR hOR)⟩⟩
                      case measure => simp [Go.RowKit.intOf]; omega
                    · have hlrI : ¬ (mid : Int) - (a1 : Int) < (b1 : Int) - (mid : Int) := by omega
                      have hlrD : decide ((mid : Int) - (a1 : Int) < (b1 : Int) - (mid : Int)) = false := decide_eq_false hlrI
                      have HR := Lib.hid (IH.out (b1 - (mid + 1)) (by omega) w0 w5 g off FF cap (mid + 1) b1 l1 HS5.out (by omega) (by omega) (by omega) (by omega) HBR.out rfl)
                      rw [hsF] at HR
                      rw [show ((mid + 1 : Nat) : Int) = (mid : Int) + 1 by omega] at HR
                      go_wp2_with (go_at_call 11; refine HR.out.mono ?_; rintro e w6 ⟨rfl, R, hSR, hPR, hOR⟩)
                      go_roundw
                      case rel => exact ⟨a1, mid, l1, R, _, _, rfl, rfl, rfl, rfl, rfl, by omega, by omega, by omega, by omega, by rw [hPR.1, hsF], Lib.hid ⟨hSR, (HGR.out R hPR hOR)⟩⟩
                      case measure => simp [Go.RowKit.intOf]; omega
end Go.Proofs.Ytbhcdbnbiocimaa.SU
