/- Sorting numbers of 64 bits without sign: partition by equals. -/
import Derived.Test.YtbhcdbnbiocimaaSortP
import Derived.Deep.CutBlock
set_option linter.unusedSimpArgs false
set_option linter.unusedVariables false
namespace Go.Proofs.Ytbhcdbnbiocimaa.SU
open Go.RowKit
open Go.Sort (swp size_swp ltInt PermIn SortedIn SWO scanUp scanDown partLoop partEqLoop partLoop_eq partEqLoop_eq)
section
variable {w0 W : World} {g off : Nat} {d : Array Int}
theorem partE_stop {a i j i2 j2 : Nat} {D : Array Int} (hI : scanUp (fun x => !ltInt D[a]! x) D j i = i2) (hJ : scanDown (fun x => ltInt D[a]! x) D i2 j = j2) (h : i2 > j2) : partEqLoop ltInt a i j D = (i2, D) := by
  rw [partEqLoop_eq, hI, hJ, if_pos h]
theorem partE_go {a i j i2 j2 : Nat} {D : Array Int} (hI : scanUp (fun x => !ltInt D[a]! x) D j i = i2) (hJ : scanDown (fun x => ltInt D[a]! x) D i2 j = j2) (h : ¬ i2 > j2) : partEqLoop ltInt a i j D = partEqLoop ltInt a (i2 + 1) (j2 - 1) (swp D i2 j2) := by
  rw [partEqLoop_eq, hI, hJ, if_neg h]
set_option maxRecDepth 100000 in
set_option maxHeartbeats 4000000 in
theorem partEq_any (cap a b pv : Nat) (h : SA w0 W g off d) (hap : a ≤ pv) (hpb0 : pv < b) (hb0 : b ≤ d.size) (hsz : d.size ≤ 65536) :
    Calls Try.prog 20 #[rowV g off d.size cap, .int .i64 a, .int .i64 b, .int .i64 pv] W fun e w' => e = .returned (.int .i64 (Go.Sort.partitionEqual ltInt d a b pv).1) ∧ SA w0 w' g off (Go.Sort.partitionEqual ltInt d a b pv).2 := by
  have H0 := Lib.hid h
  clear h
  obtain ⟨b1, hb1⟩ : ∃ b1, b1 = b - 1 := ⟨_, rfl⟩
  show Calls _ _ _ _ fun e w' => e = .returned (.int .i64 (partEqLoop ltInt a (a + 1) (b - 1) (swp d a pv)).1) ∧ SA w0 w' g off (partEqLoop ltInt a (a + 1) (b - 1) (swp d a pv)).2
  rw [← hb1]
  have hb2 : b1 < b := by omega
  have hb3 : b ≤ b1 + 1 := by omega
  have hpb : pv ≤ b1 := by omega
  have hb : b1 < d.size := by omega
  clear hb1 hb0 hpb0
  show Calls _ _ _ _ fun e w' => e = .returned (.int .i64 (partEqLoop ltInt a (a + 1) b1 (swp d a pv)).1) ∧ SA w0 w' g off (partEqLoop ltInt a (a + 1) b1 (swp d a pv)).2
  obtain ⟨G, hG⟩ : ∃ G : Nat → Int, ∀ t, G t = d[t]! := ⟨fun t => d[t]!, fun _ => rfl⟩
  have HG := Lib.hid hG
  have cw : ∀ t, t < d.size → W.cell? ⟨g, off + t, none⟩ = some (.int .u64 (G t)) := fun t ht => by rw [hG]; exact H0.out.cell t ht
  have fw : ∀ t, t < d.size → W.frozen? ⟨g, off + t, none⟩ = false := fun t ht => H0.out.free t ht
  clear hG
  have ha : a < d.size := by omega
  have hp : pv < d.size := by omega
  go_enter Try.func20, Try.ntmps20
  go_wp2
  by_cases hap' : a = pv
  · subst hap'
    have HSW := Lib.hid ((H0.out.drewN 1).swp (i := a) (j := a) (by omega) (by omega))
    simp only [← HG.out] at HSW
    go_upto_region 1 with fail
    go_region
    all_goals
      clear cw fw
      generalize hwk : World.drew _ = wk
      have HSK : Hid (SA w0 wk g off (swp d a a)) := Lib.hid (by rw [← hwk]; exact HSW.out)
      clear hwk HSW
      go_wp2
      go_loopw [9, 10] (fun vi vj wr => ∃ (i j : Nat) (D : Array Int), vi = .int .i64 i ∧ vj = .int .i64 j ∧ a < i ∧ i ≤ j + 1 ∧ j ≤ b1 ∧ D.size = d.size ∧ Hid (SA w0 wr g off D ∧ partEqLoop ltInt a i j D = partEqLoop ltInt a (a + 1) b1 (swp d a a))) (fun vi vj _ => (Go.RowKit.intOf vj).toNat + 1 - (Go.RowKit.intOf vi).toNat)
      case atStart => exact ⟨(a + 1), b1, (swp d a a), by first | rfl | go_num, by first | rfl | go_num | (congr 1; omega), by omega, by omega, by omega, by first | exact hsD | (rw [size_swp]; exact hsD) | exact size_swp _ _ _, Lib.hid ⟨HSK.out, rfl⟩⟩
      case round =>
        obtain ⟨i1, j1, D1, rfl, rfl, hai, hij, hjb, hsD, HD1⟩ := hrel
        obtain ⟨wk2, hwk2⟩ : ∃ x, x = wr := ⟨_, rfl⟩
        subst hwk2
        have HP := Lib.hid HD1.out.2
        obtain ⟨G, hG⟩ : ∃ G : Nat → Int, ∀ t, G t = D1[t]! := ⟨fun t => D1[t]!, fun _ => rfl⟩
        have HG := Lib.hid hG
        clear hG
        go_wp2
        go_loopw [9] (fun vi wr => ∃ i : Nat, vi = .int .i64 i ∧ i1 ≤ i ∧ i ≤ j1 + 1 ∧ Hid (SA w0 wr g off D1 ∧ scanUp (fun x => !ltInt D1[a]! x) D1 j1 i = scanUp (fun x => !ltInt D1[a]! x) D1 j1 i1)) (fun vi _ => j1 + 1 - (Go.RowKit.intOf vi).toNat)
        case atStart => exact ⟨i1, by first | rfl | go_num, Nat.le_refl _, by omega, Lib.hid ⟨HD1.out.1, rfl⟩⟩
        case round =>
          obtain ⟨i, rfl, hi0, hi1, HI⟩ := hrel
          obtain ⟨wj, hwj⟩ : ∃ x, x = wr := ⟨_, rfl⟩
          subst hwj
          have cw : ∀ t, t < d.size → wj.cell? ⟨g, off + t, none⟩ = some (.int .u64 (G t)) := fun t ht => by rw [HG.out]; exact HI.out.1.cell t (by omega)
          have fw : ∀ t, t < d.size → wj.frozen? ⟨g, off + t, none⟩ = false := fun t ht => HI.out.1.free t (by omega)
          by_cases hle : i ≤ j1
          · have hleI : (i : Int) ≤ (j1 : Int) := by omega
            go_wp2
            cases hl : ltInt (G a) (G i)
            · have HL := Lib.hid hl
              go_quiet (first | (go_at_call 19; refine Calls.quiet_of_same (less_quiet _ _ _)))
              go_wp2
              go_roundw
              case rel => exact ⟨i + 1, by go_num, by omega, by omega, Lib.hid ⟨HI.out.1.drewN _, by rw [← HI.out.2]; exact (up_go _ _ _ _ hle (by show _ = true; rw [← HG.out, ← HG.out]; first | exact HL.out | (rw [HL.out]; rfl))).symm⟩⟩
              case measure => simp [Go.RowKit.intOf]; omega
            · have HL := Lib.hid hl
              go_quiet (first | (go_at_call 19; refine Calls.quiet_of_same (less_quiet _ _ _)))
              clear cw fw
              have HU : Hid (scanUp (fun x => !ltInt D1[a]! x) D1 j1 i1 = i) := Lib.hid (by rw [← HI.out.2]; exact up_stop _ _ _ _ (.inr (by show _ = false; rw [← HG.out, ← HG.out]; first | exact HL.out | (rw [HL.out]; rfl))))
              go_wp2
              go_loopw [10] (fun vj wr => ∃ j : Nat, vj = .int .i64 j ∧ j ≤ j1 ∧ i ≤ j + 1 ∧ Hid (SA w0 wr g off D1 ∧ scanDown (fun x => ltInt D1[a]! x) D1 i j = scanDown (fun x => ltInt D1[a]! x) D1 i j1)) (fun vj _ => (Go.RowKit.intOf vj).toNat)
              case atStart => exact ⟨j1, by first | rfl | go_num | (congr 1; omega), Nat.le_refl _, by omega, Lib.hid ⟨HI.out.1.drewN _, rfl⟩⟩
              case round =>
                obtain ⟨j, rfl, hj0, hj1, HJ⟩ := hrel
                obtain ⟨wi, hwi⟩ : ∃ x, x = wr := ⟨_, rfl⟩
                subst hwi
                have cw : ∀ t, t < d.size → wi.cell? ⟨g, off + t, none⟩ = some (.int .u64 (G t)) := fun t ht => by rw [HG.out]; exact HJ.out.1.cell t (by omega)
                have fw : ∀ t, t < d.size → wi.frozen? ⟨g, off + t, none⟩ = false := fun t ht => HJ.out.1.free t (by omega)
                by_cases hlj : i ≤ j
                · have hljI : (i : Int) ≤ (j : Int) := by omega
                  go_wp2
                  cases hl : ltInt (G a) (G j)
                  · have HL2 := Lib.hid hl
                    go_quiet (first | (go_at_call 19; refine Calls.quiet_of_same (less_quiet _ _ _)))
                    have HD : Hid (scanDown (fun x => ltInt D1[a]! x) D1 i j1 = j) := Lib.hid (by rw [← HJ.out.2]; exact dn_stop _ _ _ _ (.inr (by show _ = false; rw [← HG.out, ← HG.out]; first | exact HL2.out | (rw [HL2.out]; rfl))))
                    have hne : i ≠ j := by
                      rintro rfl
                      have h1 := HL.out
                      have h2 := HL2.out
                      rw [h1] at h2
                      cases h2
                    have hltN : i < j := by omega
                    have hltN2 : ¬ j < i := by omega
                    have hlt : ¬ (j : Int) < (i : Int) := by omega
                    try go_wp2
                    have HSW := Lib.hid ((HJ.out.1.drewN (nq + 1)).swp (i := i) (j := j) (by omega) (by omega))
                    simp only [← HG.out] at HSW
                    go_upto_region 8 with fail
                    go_region
                    all_goals
                      clear cw fw
                      generalize hwk : World.setCell _ _ _ = wk
                      have HSK : Hid (SA w0 wk g off (swp D1 i j)) := Lib.hid (by rw [← hwk]; exact HSW.out)
                      clear hwk HSW
                      go_wp2
                      go_roundw
                      case rel => exact ⟨i + 1, j - 1, swp D1 i j, by go_num, by congr 1; omega, by omega, by omega, by omega, by rw [size_swp]; exact hsD, Lib.hid ⟨HSK.out, by rw [← HP.out, ← partE_go HU.out HD.out (by omega)]⟩⟩
                      case measure => simp [Go.RowKit.intOf]; omega
                  · have HL2 := Lib.hid hl
                    go_quiet (first | (go_at_call 19; refine Calls.quiet_of_same (less_quiet _ _ _)))
                    go_wp2
                    go_roundw
                    case rel => exact ⟨j - 1, by congr 1; omega, by omega, by omega, Lib.hid ⟨HJ.out.1.drewN _, by rw [← HJ.out.2]; exact (dn_go _ _ _ _ hlj (by omega) (by show _ = true; rw [← HG.out, ← HG.out]; first | exact HL2.out | (rw [HL2.out]; rfl))).symm⟩⟩
                    case measure => simp [Go.RowKit.intOf]; omega
                · have hljI : ¬ (i : Int) ≤ (j : Int) := by omega
                  go_wp2
                  go_quiet (first | (go_at_call 19; refine Calls.quiet_of_same (less_quiet _ _ _)))
                  have hgtI : (j : Int) < (i : Int) := by omega
                  have hgtN : j < i := by omega
                  have HD : Hid (scanDown (fun x => ltInt D1[a]! x) D1 i j1 = j) := Lib.hid (by rw [← HJ.out.2]; exact dn_stop _ _ _ _ (.inl (by omega)))
                  clear cw fw
                  have HEQ : Hid (partEqLoop ltInt a i1 j1 D1 = (i, D1)) := Lib.hid (partE_stop HU.out HD.out (by omega))
                  go_wp2
                  go_ret
                  exact ⟨by rw [← HP.out, HEQ.out]; first | rfl | simp, by rw [← HP.out, HEQ.out]; exact HJ.out.1.drewN _⟩
          · have hleI : ¬ (i : Int) ≤ (j1 : Int) := by omega
            go_wp2
            go_quiet (first | (go_at_call 19; refine Calls.quiet_of_same (less_quiet _ _ _)))
            clear cw fw
            have HU : Hid (scanUp (fun x => !ltInt D1[a]! x) D1 j1 i1 = i) := Lib.hid (by rw [← HI.out.2]; exact up_stop _ _ _ _ (.inl hle))
            go_wp2
            go_loopw [10] (fun vj wr => ∃ j : Nat, vj = .int .i64 j ∧ j ≤ j1 ∧ i ≤ j + 1 ∧ Hid (SA w0 wr g off D1 ∧ scanDown (fun x => ltInt D1[a]! x) D1 i j = scanDown (fun x => ltInt D1[a]! x) D1 i j1)) (fun vj _ => (Go.RowKit.intOf vj).toNat)
            case atStart => exact ⟨j1, by first | rfl | go_num | (congr 1; omega), Nat.le_refl _, by omega, Lib.hid ⟨HI.out.1.drewN _, rfl⟩⟩
            case round =>
              obtain ⟨j, rfl, hj0, hj1, HJ⟩ := hrel
              obtain ⟨wi, hwi⟩ : ∃ x, x = wr := ⟨_, rfl⟩
              subst hwi
              have cw : ∀ t, t < d.size → wi.cell? ⟨g, off + t, none⟩ = some (.int .u64 (G t)) := fun t ht => by rw [HG.out]; exact HJ.out.1.cell t (by omega)
              have fw : ∀ t, t < d.size → wi.frozen? ⟨g, off + t, none⟩ = false := fun t ht => HJ.out.1.free t (by omega)
              have hlj : ¬ i ≤ j := by omega
              have hljI : ¬ (i : Int) ≤ (j : Int) := by omega
              go_wp2
              go_quiet (first | (go_at_call 19; refine Calls.quiet_of_same (less_quiet _ _ _)))
              have hgtI : (j : Int) < (i : Int) := by omega
              have hgtN : j < i := by omega
              have HD : Hid (scanDown (fun x => ltInt D1[a]! x) D1 i j1 = j) := Lib.hid (by rw [← HJ.out.2]; exact dn_stop _ _ _ _ (.inl (by omega)))
              clear cw fw
              have HEQ : Hid (partEqLoop ltInt a i1 j1 D1 = (i, D1)) := Lib.hid (partE_stop HU.out HD.out (by omega))
              go_wp2
              go_ret
              exact ⟨by rw [← HP.out, HEQ.out]; first | rfl | simp, by rw [← HP.out, HEQ.out]; exact HJ.out.1.drewN _⟩
  · have hne : a ≠ pv := hap'
    have HSW := Lib.hid ((H0.out.drewN 1).swp (i := a) (j := pv) (by omega) (by omega))
    simp only [← HG.out] at HSW
    go_upto_region 1 with fail
    go_region
    all_goals
      clear cw fw
      generalize hwk : World.drew _ = wk
      have HSK : Hid (SA w0 wk g off (swp d a pv)) := Lib.hid (by rw [← hwk]; exact HSW.out)
      clear hwk HSW
      go_wp2
      go_loopw [9, 10] (fun vi vj wr => ∃ (i j : Nat) (D : Array Int), vi = .int .i64 i ∧ vj = .int .i64 j ∧ a < i ∧ i ≤ j + 1 ∧ j ≤ b1 ∧ D.size = d.size ∧ Hid (SA w0 wr g off D ∧ partEqLoop ltInt a i j D = partEqLoop ltInt a (a + 1) b1 (swp d a pv))) (fun vi vj _ => (Go.RowKit.intOf vj).toNat + 1 - (Go.RowKit.intOf vi).toNat)
      case atStart => exact ⟨(a + 1), b1, (swp d a pv), by first | rfl | go_num, by first | rfl | go_num | (congr 1; omega), by omega, by omega, by omega, by first | exact hsD | (rw [size_swp]; exact hsD) | exact size_swp _ _ _, Lib.hid ⟨HSK.out, rfl⟩⟩
      case round =>
        obtain ⟨i1, j1, D1, rfl, rfl, hai, hij, hjb, hsD, HD1⟩ := hrel
        obtain ⟨wk2, hwk2⟩ : ∃ x, x = wr := ⟨_, rfl⟩
        subst hwk2
        have HP := Lib.hid HD1.out.2
        obtain ⟨G, hG⟩ : ∃ G : Nat → Int, ∀ t, G t = D1[t]! := ⟨fun t => D1[t]!, fun _ => rfl⟩
        have HG := Lib.hid hG
        clear hG
        go_wp2
        go_loopw [9] (fun vi wr => ∃ i : Nat, vi = .int .i64 i ∧ i1 ≤ i ∧ i ≤ j1 + 1 ∧ Hid (SA w0 wr g off D1 ∧ scanUp (fun x => !ltInt D1[a]! x) D1 j1 i = scanUp (fun x => !ltInt D1[a]! x) D1 j1 i1)) (fun vi _ => j1 + 1 - (Go.RowKit.intOf vi).toNat)
        case atStart => exact ⟨i1, by first | rfl | go_num, Nat.le_refl _, by omega, Lib.hid ⟨HD1.out.1, rfl⟩⟩
        case round =>
          obtain ⟨i, rfl, hi0, hi1, HI⟩ := hrel
          obtain ⟨wj, hwj⟩ : ∃ x, x = wr := ⟨_, rfl⟩
          subst hwj
          have cw : ∀ t, t < d.size → wj.cell? ⟨g, off + t, none⟩ = some (.int .u64 (G t)) := fun t ht => by rw [HG.out]; exact HI.out.1.cell t (by omega)
          have fw : ∀ t, t < d.size → wj.frozen? ⟨g, off + t, none⟩ = false := fun t ht => HI.out.1.free t (by omega)
          by_cases hle : i ≤ j1
          · have hleI : (i : Int) ≤ (j1 : Int) := by omega
            go_wp2
            cases hl : ltInt (G a) (G i)
            · have HL := Lib.hid hl
              go_quiet (first | (go_at_call 19; refine Calls.quiet_of_same (less_quiet _ _ _)))
              go_wp2
              go_roundw
              case rel => exact ⟨i + 1, by go_num, by omega, by omega, Lib.hid ⟨HI.out.1.drewN _, by rw [← HI.out.2]; exact (up_go _ _ _ _ hle (by show _ = true; rw [← HG.out, ← HG.out]; first | exact HL.out | (rw [HL.out]; rfl))).symm⟩⟩
              case measure => simp [Go.RowKit.intOf]; omega
            · have HL := Lib.hid hl
              go_quiet (first | (go_at_call 19; refine Calls.quiet_of_same (less_quiet _ _ _)))
              clear cw fw
              have HU : Hid (scanUp (fun x => !ltInt D1[a]! x) D1 j1 i1 = i) := Lib.hid (by rw [← HI.out.2]; exact up_stop _ _ _ _ (.inr (by show _ = false; rw [← HG.out, ← HG.out]; first | exact HL.out | (rw [HL.out]; rfl))))
              go_wp2
              go_loopw [10] (fun vj wr => ∃ j : Nat, vj = .int .i64 j ∧ j ≤ j1 ∧ i ≤ j + 1 ∧ Hid (SA w0 wr g off D1 ∧ scanDown (fun x => ltInt D1[a]! x) D1 i j = scanDown (fun x => ltInt D1[a]! x) D1 i j1)) (fun vj _ => (Go.RowKit.intOf vj).toNat)
              case atStart => exact ⟨j1, by first | rfl | go_num | (congr 1; omega), Nat.le_refl _, by omega, Lib.hid ⟨HI.out.1.drewN _, rfl⟩⟩
              case round =>
                obtain ⟨j, rfl, hj0, hj1, HJ⟩ := hrel
                obtain ⟨wi, hwi⟩ : ∃ x, x = wr := ⟨_, rfl⟩
                subst hwi
                have cw : ∀ t, t < d.size → wi.cell? ⟨g, off + t, none⟩ = some (.int .u64 (G t)) := fun t ht => by rw [HG.out]; exact HJ.out.1.cell t (by omega)
                have fw : ∀ t, t < d.size → wi.frozen? ⟨g, off + t, none⟩ = false := fun t ht => HJ.out.1.free t (by omega)
                by_cases hlj : i ≤ j
                · have hljI : (i : Int) ≤ (j : Int) := by omega
                  go_wp2
                  cases hl : ltInt (G a) (G j)
                  · have HL2 := Lib.hid hl
                    go_quiet (first | (go_at_call 19; refine Calls.quiet_of_same (less_quiet _ _ _)))
                    have HD : Hid (scanDown (fun x => ltInt D1[a]! x) D1 i j1 = j) := Lib.hid (by rw [← HJ.out.2]; exact dn_stop _ _ _ _ (.inr (by show _ = false; rw [← HG.out, ← HG.out]; first | exact HL2.out | (rw [HL2.out]; rfl))))
                    have hne : i ≠ j := by
                      rintro rfl
                      have h1 := HL.out
                      have h2 := HL2.out
                      rw [h1] at h2
                      cases h2
                    have hltN : i < j := by omega
                    have hltN2 : ¬ j < i := by omega
                    have hlt : ¬ (j : Int) < (i : Int) := by omega
                    try go_wp2
                    have HSW := Lib.hid ((HJ.out.1.drewN (nq + 1)).swp (i := i) (j := j) (by omega) (by omega))
                    simp only [← HG.out] at HSW
                    go_upto_region 8 with fail
                    go_region
                    all_goals
                      clear cw fw
                      generalize hwk : World.setCell _ _ _ = wk
                      have HSK : Hid (SA w0 wk g off (swp D1 i j)) := Lib.hid (by rw [← hwk]; exact HSW.out)
                      clear hwk HSW
                      go_wp2
                      go_roundw
                      case rel => exact ⟨i + 1, j - 1, swp D1 i j, by go_num, by congr 1; omega, by omega, by omega, by omega, by rw [size_swp]; exact hsD, Lib.hid ⟨HSK.out, by rw [← HP.out, ← partE_go HU.out HD.out (by omega)]⟩⟩
                      case measure => simp [Go.RowKit.intOf]; omega
                  · have HL2 := Lib.hid hl
                    go_quiet (first | (go_at_call 19; refine Calls.quiet_of_same (less_quiet _ _ _)))
                    go_wp2
                    go_roundw
                    case rel => exact ⟨j - 1, by congr 1; omega, by omega, by omega, Lib.hid ⟨HJ.out.1.drewN _, by rw [← HJ.out.2]; exact (dn_go _ _ _ _ hlj (by omega) (by show _ = true; rw [← HG.out, ← HG.out]; first | exact HL2.out | (rw [HL2.out]; rfl))).symm⟩⟩
                    case measure => simp [Go.RowKit.intOf]; omega
                · have hljI : ¬ (i : Int) ≤ (j : Int) := by omega
                  go_wp2
                  go_quiet (first | (go_at_call 19; refine Calls.quiet_of_same (less_quiet _ _ _)))
                  have hgtI : (j : Int) < (i : Int) := by omega
                  have hgtN : j < i := by omega
                  have HD : Hid (scanDown (fun x => ltInt D1[a]! x) D1 i j1 = j) := Lib.hid (by rw [← HJ.out.2]; exact dn_stop _ _ _ _ (.inl (by omega)))
                  clear cw fw
                  have HEQ : Hid (partEqLoop ltInt a i1 j1 D1 = (i, D1)) := Lib.hid (partE_stop HU.out HD.out (by omega))
                  go_wp2
                  go_ret
                  exact ⟨by rw [← HP.out, HEQ.out]; first | rfl | simp, by rw [← HP.out, HEQ.out]; exact HJ.out.1.drewN _⟩
          · have hleI : ¬ (i : Int) ≤ (j1 : Int) := by omega
            go_wp2
            go_quiet (first | (go_at_call 19; refine Calls.quiet_of_same (less_quiet _ _ _)))
            clear cw fw
            have HU : Hid (scanUp (fun x => !ltInt D1[a]! x) D1 j1 i1 = i) := Lib.hid (by rw [← HI.out.2]; exact up_stop _ _ _ _ (.inl hle))
            go_wp2
            go_loopw [10] (fun vj wr => ∃ j : Nat, vj = .int .i64 j ∧ j ≤ j1 ∧ i ≤ j + 1 ∧ Hid (SA w0 wr g off D1 ∧ scanDown (fun x => ltInt D1[a]! x) D1 i j = scanDown (fun x => ltInt D1[a]! x) D1 i j1)) (fun vj _ => (Go.RowKit.intOf vj).toNat)
            case atStart => exact ⟨j1, by first | rfl | go_num | (congr 1; omega), Nat.le_refl _, by omega, Lib.hid ⟨HI.out.1.drewN _, rfl⟩⟩
            case round =>
              obtain ⟨j, rfl, hj0, hj1, HJ⟩ := hrel
              obtain ⟨wi, hwi⟩ : ∃ x, x = wr := ⟨_, rfl⟩
              subst hwi
              have cw : ∀ t, t < d.size → wi.cell? ⟨g, off + t, none⟩ = some (.int .u64 (G t)) := fun t ht => by rw [HG.out]; exact HJ.out.1.cell t (by omega)
              have fw : ∀ t, t < d.size → wi.frozen? ⟨g, off + t, none⟩ = false := fun t ht => HJ.out.1.free t (by omega)
              have hlj : ¬ i ≤ j := by omega
              have hljI : ¬ (i : Int) ≤ (j : Int) := by omega
              go_wp2
              go_quiet (first | (go_at_call 19; refine Calls.quiet_of_same (less_quiet _ _ _)))
              have hgtI : (j : Int) < (i : Int) := by omega
              have hgtN : j < i := by omega
              have HD : Hid (scanDown (fun x => ltInt D1[a]! x) D1 i j1 = j) := Lib.hid (by rw [← HJ.out.2]; exact dn_stop _ _ _ _ (.inl (by omega)))
              clear cw fw
              have HEQ : Hid (partEqLoop ltInt a i1 j1 D1 = (i, D1)) := Lib.hid (partE_stop HU.out HD.out (by omega))
              go_wp2
              go_ret
              exact ⟨by rw [← HP.out, HEQ.out]; first | rfl | simp, by rw [← HP.out, HEQ.out]; exact HJ.out.1.drewN _⟩
end
end Go.Proofs.Ytbhcdbnbiocimaa.SU
