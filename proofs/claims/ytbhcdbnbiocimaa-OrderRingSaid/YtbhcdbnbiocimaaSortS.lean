/- Sorting numbers of 64 bits without sign: insertion in part. -/
import Derived.Test.YtbhcdbnbiocimaaSortP
import Derived.Deep.CutBlock
set_option linter.unusedSimpArgs false
set_option linter.unusedVariables false
namespace Go.Proofs.Ytbhcdbnbiocimaa.SU
open Go.RowKit
open Go.Sort (swp size_swp ltInt PermIn SortedIn SWO scanSorted shiftDown shiftUp partialIns partialIns_succ fixDown fixUp)
section
variable {w0 W : World} {g off : Nat} {d : Array Int}
theorem pd_stop (j : Nat) (E : Array Int) (h : j = 0 ∨ ltInt E[j]! E[j - 1]! = false) : shiftDown ltInt j E = E := by
  cases j with
  | zero => rfl
  | succ j =>
    rcases h with h | h
    · omega
    · show (if (!ltInt E[j + 1]! E[j]!) = true then E else shiftDown ltInt j (swp E (j + 1) j)) = E
      rw [if_pos]; simp only [Nat.add_sub_cancel] at h; rw [h]; rfl
theorem pd_go (j : Nat) (E : Array Int) (h0 : 1 ≤ j) (h : ltInt E[j]! E[j - 1]! = true) : shiftDown ltInt j E = shiftDown ltInt (j - 1) (swp E j (j - 1)) := by
  cases j with
  | zero => omega
  | succ j =>
    show (if (!ltInt E[j + 1]! E[j]!) = true then E else shiftDown ltInt j (swp E (j + 1) j)) = shiftDown ltInt j (swp E (j + 1) j)
    rw [if_neg]; simp only [Nat.add_sub_cancel] at h; rw [h]; simp
theorem su_stop (b j : Nat) (E : Array Int) (h : ¬ j < b ∨ ltInt E[j]! E[j - 1]! = false) : shiftUp ltInt b j E = E := by
  rw [shiftUp]
  rcases h with h | h
  · rw [if_neg h]
  · split
    · rw [if_pos]; rw [h]; rfl
    · rfl
theorem su_go (b j : Nat) (E : Array Int) (h0 : j < b) (h : ltInt E[j]! E[j - 1]! = true) : shiftUp ltInt b j E = shiftUp ltInt b (j + 1) (swp E j (j - 1)) := by
  rw [shiftUp, if_pos h0, if_neg]; rw [h]; simp
theorem ss_go (b i : Nat) (E : Array Int) (h0 : i < b) (h : ltInt E[i]! E[i - 1]! = false) : scanSorted ltInt E b i = scanSorted ltInt E b (i + 1) := by
  rw [scanSorted, if_pos]; rw [h, decide_eq_true h0]; rfl
theorem ss_stop (b i : Nat) (E : Array Int) (h : ¬ i < b ∨ ltInt E[i]! E[i - 1]! = true) : scanSorted ltInt E b i = i := by
  rw [scanSorted, if_neg]
  rcases h with h | h
  · rw [decide_eq_false h]; simp
  · rw [h]; simp
theorem pi_yes {a b n i : Nat} {D : Array Int} (hn : 0 < n) (h : scanSorted ltInt D b i = b) : partialIns ltInt a b n i D = (D, true) := by
  cases n with
  | zero => omega
  | succ n => rw [partialIns_succ, if_pos h]
theorem pi_no {a b n i k : Nat} {D : Array Int} (hn : 0 < n) (h : scanSorted ltInt D b i = k) (hk : k ≠ b) (hb : b - a < 50) : partialIns ltInt a b n i D = (D, false) := by
  cases n with
  | zero => omega
  | succ n => rw [partialIns_succ, h, if_neg hk, if_pos hb]
theorem pi_go {a b n i k : Nat} {D : Array Int} (hn : 0 < n) (h : scanSorted ltInt D b i = k) (hk : k ≠ b) (hb : ¬ b - a < 50) : partialIns ltInt a b n i D = partialIns ltInt a b (n - 1) k (fixUp ltInt b k (fixDown ltInt a k (swp D k (k - 1)))) := by
  cases n with
  | zero => omega
  | succ n => rw [partialIns_succ, h, if_neg hk, if_neg hb]; rfl
set_option maxRecDepth 100000 in
set_option maxHeartbeats 4000000 in
theorem partial_any (cap a b : Nat) (h : SA w0 W g off d) (hab : a < b) (hb : b ≤ d.size) (hsz : d.size ≤ 65536) :
    Calls Try.prog 18 #[rowV g off d.size cap, .int .i64 a, .int .i64 b] W fun e w' => e = .returned (.bool (Go.Sort.partialInsertionSort ltInt d a b).2) ∧ SA w0 w' g off (Go.Sort.partialInsertionSort ltInt d a b).1 := by
  have H0 := Lib.hid h
  clear h
  show Calls _ _ _ _ fun e w' => e = .returned (.bool (partialIns ltInt a b 5 (a + 1) d).2) ∧ SA w0 w' g off (partialIns ltInt a b 5 (a + 1) d).1
  go_enter Try.func18, Try.ntmps18
  go_wp2
  go_loopw [7, 8] (fun vi vj wr => ∃ (i jn : Nat) (D : Array Int), vi = .int .i64 i ∧ vj = .int .i64 jn ∧ a < i ∧ i ≤ b ∧ jn ≤ 5 ∧ D.size = d.size ∧ Hid (SA w0 wr g off D ∧ partialIns ltInt a b (5 - jn) i D = partialIns ltInt a b 5 (a + 1) d)) (fun vi vj _ => 5 - (Go.RowKit.intOf vj).toNat)
  case atStart => exact ⟨a + 1, 0, d, by first | rfl | go_num, by first | rfl | go_num, by omega, by omega, by omega, rfl, Lib.hid ⟨H0.out, rfl⟩⟩
  case round =>
    obtain ⟨i1, jn, D, rfl, rfl, hai1, hib1, hjn, hsk, HK⟩ := hrel
    obtain ⟨wk2, hwk2⟩ : ∃ x, x = wr := ⟨_, rfl⟩
    subst hwk2
    by_cases h1 : jn < 5
    · have h11 : (jn : Int) < 5 := by omega
      obtain ⟨G, hG⟩ : ∃ G : Nat → Int, ∀ t, G t = D[t]! := ⟨fun t => D[t]!, fun _ => rfl⟩
      have HG := Lib.hid hG
      clear hG
      go_wp2
      go_loopw [7] (fun vi wr => ∃ i : Nat, vi = .int .i64 i ∧ i1 ≤ i ∧ i ≤ b ∧ Hid (SA w0 wr g off D ∧ scanSorted ltInt D b i = scanSorted ltInt D b i1)) (fun vi _ => b - (Go.RowKit.intOf vi).toNat)
      case atStart => exact ⟨i1, rfl, Nat.le_refl _, hib1, Lib.hid ⟨HK.out.1, rfl⟩⟩
      case round =>
        obtain ⟨i, rfl, hi0, hib, HI⟩ := hrel
        obtain ⟨wi, hwi⟩ : ∃ x, x = wr := ⟨_, rfl⟩
        subst hwi
        have hai : a < i := by omega
        have cw : ∀ t, t < d.size → wi.cell? ⟨g, off + t, none⟩ = some (.int .u64 (G t)) := fun t ht => by rw [HG.out]; exact HI.out.1.cell t (by omega)
        have fw : ∀ t, t < d.size → wi.frozen? ⟨g, off + t, none⟩ = false := fun t ht => HI.out.1.free t (by omega)
        by_cases h2 : i < b
        · have h21 : (i : Int) < (b : Int) := by omega
          go_wp2
          cases hl : ltInt (G i) (G (i - 1))
          · have HL := Lib.hid hl
            go_quiet (first | (go_at_call 19; refine Calls.quiet_of_same (less_quiet _ _ _)))
            go_wp2
            go_roundw
            case rel => exact ⟨i + 1, by go_num, by omega, by omega, Lib.hid ⟨HI.out.1.drewN _, by rw [← HI.out.2]; exact (ss_go _ _ _ h2 (by rw [← HG.out, ← HG.out]; exact HL.out)).symm⟩⟩
            case measure => simp [Go.RowKit.intOf]; omega
          · have HL := Lib.hid hl
            go_quiet (first | (go_at_call 19; refine Calls.quiet_of_same (less_quiet _ _ _)))
            have HSS : Hid (scanSorted ltInt D b i1 = i) := Lib.hid (by rw [← HI.out.2]; exact ss_stop _ _ _ (.inr (by rw [← HG.out, ← HG.out]; exact HL.out)))
            have hnb : ¬ i = b := by omega
            have hnbI : ¬ (i : Int) = (b : Int) := by omega
            by_cases h7 : b - a < 50
            · have h71 : (b : Int) - (a : Int) < 50 := by omega
              go_wp2
              go_ret
              exact ⟨by rw [← HK.out.2, pi_no (by omega) HSS.out hnb h7]; rfl, by rw [← HK.out.2, pi_no (by omega) HSS.out hnb h7]; exact HI.out.1.drewN _⟩
            · have h71 : ¬ (b : Int) - (a : Int) < 50 := by omega
              have h72 : decide ((b : Int) - (a : Int) < 50) = false := decide_eq_false h71
              have HST : Hid (partialIns ltInt a b (5 - jn) i1 D = partialIns ltInt a b (5 - (jn + 1)) i (fixUp ltInt b i (fixDown ltInt a i (swp D i (i - 1))))) := Lib.hid (by
                rw [pi_go (by omega) HSS.out hnb h7]
                rfl)
              clear HSS
              go_wp2
              have HSW := Lib.hid ((HI.out.1.drewN (nq + 1)).swp (i := i) (j := (i - 1)) (by omega) (by omega))
              simp only [← HG.out] at HSW
              go_upto_region 11 with fail
              go_region
              all_goals
                clear cw fw
                generalize hwk : World.setCell _ _ _ = wk
                have HSK : Hid (SA w0 wk g off (swp D i (i - 1))) := Lib.hid (by rw [← hwk]; exact HSW.out)
                clear hwk HSW
                clear HI HL
                by_cases h3 : a + 2 ≤ i
                · have h31 : (2 : Int) ≤ (i : Int) - (a : Int) := by omega
                  go_wp2
                  go_loopw [9] (fun vj wr => ∃ (j : Nat) (E : Array Int), vj = .int .i64 j ∧ j ≤ i - 1 ∧ E.size = d.size ∧ Hid (SA w0 wr g off E ∧ shiftDown ltInt j E = shiftDown ltInt (i - 1) (swp D i (i - 1)))) (fun vj _ => (Go.RowKit.intOf vj).toNat)
                  case atStart => exact ⟨i - 1, swp D i (i - 1), by first | rfl | go_num | (congr 1; omega), Nat.le_refl _, by rw [size_swp]; exact hsk, Lib.hid ⟨HSK.out, rfl⟩⟩
                  case round =>
                    clear HSK
                    obtain ⟨j, E, rfl, hj0, hsE, HE⟩ := hrel
                    obtain ⟨wj, hwj⟩ : ∃ x, x = wr := ⟨_, rfl⟩
                    subst hwj
                    by_cases h4 : 1 ≤ j
                    · have h41 : (1 : Int) ≤ (j : Int) := by omega
                      obtain ⟨G, hG⟩ : ∃ G : Nat → Int, ∀ t, G t = E[t]! := ⟨fun t => E[t]!, fun _ => rfl⟩
                      have HG := Lib.hid hG
                      clear hG
                      have cw : ∀ t, t < d.size → wj.cell? ⟨g, off + t, none⟩ = some (.int .u64 (G t)) := fun t ht => by rw [HG.out]; exact HE.out.1.cell t (by omega)
                      have fw : ∀ t, t < d.size → wj.frozen? ⟨g, off + t, none⟩ = false := fun t ht => HE.out.1.free t (by omega)
                      go_wp2
                      cases hl : ltInt (G j) (G (j - 1))
                      · have HL := Lib.hid hl
                        go_quiet (first | (go_at_call 19; refine Calls.quiet_of_same (less_quiet _ _ _)))
                        clear cw fw
                        obtain ⟨D2, hD2⟩ : ∃ D2, D2 = E := ⟨_, rfl⟩
                        have hs2 : D2.size = d.size := by rw [hD2]; exact hsE
                        have HS2 : Hid (SA w0 _ g off D2) := Lib.hid (by rw [hD2]; exact HE.out.1.drewN nq)
                        have H2 : Hid (fixDown ltInt a i (swp D i (i - 1)) = D2) := Lib.hid (by rw [hD2]; unfold fixDown; rw [if_pos (show i - a ≥ 2 by omega), ← HE.out.2]; exact pd_stop _ _ (.inr (by rw [← HG.out, ← HG.out]; exact HL.out)))
                        clear hD2
                        by_cases h5 : i + 2 ≤ b
                        · have h51 : (2 : Int) ≤ (b : Int) - (i : Int) := by omega
                          go_wp2
                          go_loopw [10] (fun vj wr => ∃ (j : Nat) (E : Array Int), vj = .int .i64 j ∧ i + 1 ≤ j ∧ j ≤ b ∧ E.size = d.size ∧ Hid (SA w0 wr g off E ∧ shiftUp ltInt b j E = shiftUp ltInt b (i + 1) D2)) (fun vj _ => b - (Go.RowKit.intOf vj).toNat)
                          case atStart => exact ⟨i + 1, D2, by first | rfl | go_num, Nat.le_refl _, by omega, hs2, Lib.hid ⟨HS2.out, rfl⟩⟩
                          case round =>
                            obtain ⟨j, E, rfl, hj0, hj1, hsE, HE⟩ := hrel
                            obtain ⟨wj, hwj⟩ : ∃ x, x = wr := ⟨_, rfl⟩
                            subst hwj
                            by_cases h6 : j < b
                            · have h61 : (j : Int) < (b : Int) := by omega
                              obtain ⟨G, hG⟩ : ∃ G : Nat → Int, ∀ t, G t = E[t]! := ⟨fun t => E[t]!, fun _ => rfl⟩
                              have HG := Lib.hid hG
                              clear hG
                              have cw : ∀ t, t < d.size → wj.cell? ⟨g, off + t, none⟩ = some (.int .u64 (G t)) := fun t ht => by rw [HG.out]; exact HE.out.1.cell t (by omega)
                              have fw : ∀ t, t < d.size → wj.frozen? ⟨g, off + t, none⟩ = false := fun t ht => HE.out.1.free t (by omega)
                              go_wp2
                              cases hl : ltInt (G j) (G (j - 1))
                              · have HL := Lib.hid hl
                                go_quiet (first | (go_at_call 19; refine Calls.quiet_of_same (less_quiet _ _ _)))
                                clear cw fw
                                obtain ⟨D3, hD3⟩ : ∃ D3, D3 = E := ⟨_, rfl⟩
                                have hs3 : D3.size = d.size := by rw [hD3]; exact hsE
                                have HS3 : Hid (SA w0 _ g off D3) := Lib.hid (by rw [hD3]; exact HE.out.1.drewN nq)
                                have H3 : Hid (fixUp ltInt b i D2 = D3) := Lib.hid (by rw [hD3]; unfold fixUp; rw [if_pos (show b - i ≥ 2 by omega), ← HE.out.2]; exact su_stop _ _ _ (.inr (by rw [← HG.out, ← HG.out]; exact HL.out)))
                                clear hD3
                                go_wp2
                                go_roundw
                                case rel => exact ⟨i, jn + 1, D3, by first | rfl | go_num, by go_num, by omega, by omega, by omega, by omega, Lib.hid ⟨HS3.out, by rw [← HK.out.2, HST.out, H2.out, H3.out]⟩⟩
                                case measure => simp [Go.RowKit.intOf]; omega
                              · have HL := Lib.hid hl
                                go_quiet (first | (go_at_call 19; refine Calls.quiet_of_same (less_quiet _ _ _)))
                                go_wp2
                                have HSW := Lib.hid ((HE.out.1.drewN (nq + 1)).swp (i := j) (j := (j - 1)) (by omega) (by omega))
                                simp only [← HG.out] at HSW
                                go_upto_region 23 with fail
                                go_region
                                all_goals
                                  clear cw fw
                                  generalize hwk : World.setCell _ _ _ = wk
                                  have HSK : Hid (SA w0 wk g off (swp E j (j - 1))) := Lib.hid (by rw [← hwk]; exact HSW.out)
                                  clear hwk HSW
                                  go_wp2
                                  go_roundw
                                  case rel => exact ⟨j + 1, swp E j (j - 1), by go_num, by omega, by omega, by rw [size_swp]; exact hsE, Lib.hid ⟨HSK.out, by rw [← HE.out.2]; exact (su_go _ _ _ h6 (by rw [← HG.out, ← HG.out]; exact HL.out)).symm⟩⟩
                                  case measure => simp [Go.RowKit.intOf]; omega
                            · have h61 : ¬ (j : Int) < (b : Int) := by omega
                              go_wp2
                              obtain ⟨D3, hD3⟩ : ∃ D3, D3 = E := ⟨_, rfl⟩
                              have hs3 : D3.size = d.size := by rw [hD3]; exact hsE
                              have HS3 : Hid (SA w0 _ g off D3) := Lib.hid (by rw [hD3]; exact HE.out.1)
                              have H3 : Hid (fixUp ltInt b i D2 = D3) := Lib.hid (by rw [hD3]; unfold fixUp; rw [if_pos (show b - i ≥ 2 by omega), ← HE.out.2]; exact su_stop _ _ _ (.inl h6))
                              clear hD3
                              go_wp2
                              go_roundw
                              case rel => exact ⟨i, jn + 1, D3, by first | rfl | go_num, by go_num, by omega, by omega, by omega, by omega, Lib.hid ⟨HS3.out, by rw [← HK.out.2, HST.out, H2.out, H3.out]⟩⟩
                              case measure => simp [Go.RowKit.intOf]; omega
                        · have h51 : ¬ (2 : Int) ≤ (b : Int) - (i : Int) := by omega
                          have h52 : decide ((2 : Int) ≤ (b : Int) - (i : Int)) = false := decide_eq_false h51
                          have h53 : decide ((b : Int) - (i : Int) ≥ 2) = false := decide_eq_false h51
                          go_wp2
                          obtain ⟨D3, hD3⟩ : ∃ D3, D3 = D2 := ⟨_, rfl⟩
                          have hs3 : D3.size = d.size := by rw [hD3]; exact hs2
                          have HS3 : Hid (SA w0 _ g off D3) := Lib.hid (by rw [hD3]; exact HS2.out)
                          have H3 : Hid (fixUp ltInt b i D2 = D3) := Lib.hid (by rw [hD3]; unfold fixUp; rw [if_neg (show ¬ b - i ≥ 2 by omega)])
                          clear hD3
                          go_wp2
                          go_roundw
                          case rel => exact ⟨i, jn + 1, D3, by first | rfl | go_num, by go_num, by omega, by omega, by omega, by omega, Lib.hid ⟨HS3.out, by rw [← HK.out.2, HST.out, H2.out, H3.out]⟩⟩
                          case measure => simp [Go.RowKit.intOf]; omega
                      · have HL := Lib.hid hl
                        go_quiet (first | (go_at_call 19; refine Calls.quiet_of_same (less_quiet _ _ _)))
                        go_wp2
                        have HSW := Lib.hid ((HE.out.1.drewN (nq + 1)).swp (i := j) (j := (j - 1)) (by omega) (by omega))
                        simp only [← HG.out] at HSW
                        go_upto_region 17 with fail
                        go_region
                        all_goals
                          clear cw fw
                          generalize hwk : World.setCell _ _ _ = wk
                          have HSK : Hid (SA w0 wk g off (swp E j (j - 1))) := Lib.hid (by rw [← hwk]; exact HSW.out)
                          clear hwk HSW
                          go_wp2
                          go_roundw
                          case rel => exact ⟨j - 1, swp E j (j - 1), by congr 1; omega, by omega, by rw [size_swp]; exact hsE, Lib.hid ⟨HSK.out, by rw [← HE.out.2]; exact (pd_go _ _ h4 (by rw [← HG.out, ← HG.out]; exact HL.out)).symm⟩⟩
                          case measure => simp [Go.RowKit.intOf]; omega
                    · have h41 : ¬ (1 : Int) ≤ (j : Int) := by omega
                      have h42 : decide ((1 : Int) ≤ (j : Int)) = false := decide_eq_false h41
                      obtain ⟨D2, hD2⟩ : ∃ D2, D2 = E := ⟨_, rfl⟩
                      have hs2 : D2.size = d.size := by rw [hD2]; exact hsE
                      have HS2 : Hid (SA w0 _ g off D2) := Lib.hid (by rw [hD2]; exact HE.out.1)
                      have H2 : Hid (fixDown ltInt a i (swp D i (i - 1)) = D2) := Lib.hid (by rw [hD2]; unfold fixDown; rw [if_pos (show i - a ≥ 2 by omega), ← HE.out.2]; exact pd_stop _ _ (.inl (by omega)))
                      clear hD2
                      by_cases h5 : i + 2 ≤ b
                      · have h51 : (2 : Int) ≤ (b : Int) - (i : Int) := by omega
                        go_wp2
                        go_loopw [10] (fun vj wr => ∃ (j : Nat) (E : Array Int), vj = .int .i64 j ∧ i + 1 ≤ j ∧ j ≤ b ∧ E.size = d.size ∧ Hid (SA w0 wr g off E ∧ shiftUp ltInt b j E = shiftUp ltInt b (i + 1) D2)) (fun vj _ => b - (Go.RowKit.intOf vj).toNat)
                        case atStart => exact ⟨i + 1, D2, by first | rfl | go_num, Nat.le_refl _, by omega, hs2, Lib.hid ⟨HS2.out, rfl⟩⟩
                        case round =>
                          obtain ⟨j, E, rfl, hj0, hj1, hsE, HE⟩ := hrel
                          obtain ⟨wj, hwj⟩ : ∃ x, x = wr := ⟨_, rfl⟩
                          subst hwj
                          by_cases h6 : j < b
                          · have h61 : (j : Int) < (b : Int) := by omega
                            obtain ⟨G, hG⟩ : ∃ G : Nat → Int, ∀ t, G t = E[t]! := ⟨fun t => E[t]!, fun _ => rfl⟩
                            have HG := Lib.hid hG
                            clear hG
                            have cw : ∀ t, t < d.size → wj.cell? ⟨g, off + t, none⟩ = some (.int .u64 (G t)) := fun t ht => by rw [HG.out]; exact HE.out.1.cell t (by omega)
                            have fw : ∀ t, t < d.size → wj.frozen? ⟨g, off + t, none⟩ = false := fun t ht => HE.out.1.free t (by omega)
                            go_wp2
                            cases hl : ltInt (G j) (G (j - 1))
                            · have HL := Lib.hid hl
                              go_quiet (first | (go_at_call 19; refine Calls.quiet_of_same (less_quiet _ _ _)))
                              clear cw fw
                              obtain ⟨D3, hD3⟩ : ∃ D3, D3 = E := ⟨_, rfl⟩
                              have hs3 : D3.size = d.size := by rw [hD3]; exact hsE
                              have HS3 : Hid (SA w0 _ g off D3) := Lib.hid (by rw [hD3]; exact HE.out.1.drewN nq)
                              have H3 : Hid (fixUp ltInt b i D2 = D3) := Lib.hid (by rw [hD3]; unfold fixUp; rw [if_pos (show b - i ≥ 2 by omega), ← HE.out.2]; exact su_stop _ _ _ (.inr (by rw [← HG.out, ← HG.out]; exact HL.out)))
                              clear hD3
                              go_wp2
                              go_roundw
                              case rel => exact ⟨i, jn + 1, D3, by first | rfl | go_num, by go_num, by omega, by omega, by omega, by omega, Lib.hid ⟨HS3.out, by rw [← HK.out.2, HST.out, H2.out, H3.out]⟩⟩
                              case measure => simp [Go.RowKit.intOf]; omega
                            · have HL := Lib.hid hl
                              go_quiet (first | (go_at_call 19; refine Calls.quiet_of_same (less_quiet _ _ _)))
                              go_wp2
                              have HSW := Lib.hid ((HE.out.1.drewN (nq + 1)).swp (i := j) (j := (j - 1)) (by omega) (by omega))
                              simp only [← HG.out] at HSW
                              go_upto_region 23 with fail
                              go_region
                              all_goals
                                clear cw fw
                                generalize hwk : World.setCell _ _ _ = wk
                                have HSK : Hid (SA w0 wk g off (swp E j (j - 1))) := Lib.hid (by rw [← hwk]; exact HSW.out)
                                clear hwk HSW
                                go_wp2
                                go_roundw
                                case rel => exact ⟨j + 1, swp E j (j - 1), by go_num, by omega, by omega, by rw [size_swp]; exact hsE, Lib.hid ⟨HSK.out, by rw [← HE.out.2]; exact (su_go _ _ _ h6 (by rw [← HG.out, ← HG.out]; exact HL.out)).symm⟩⟩
                                case measure => simp [Go.RowKit.intOf]; omega
                          · have h61 : ¬ (j : Int) < (b : Int) := by omega
                            go_wp2
                            obtain ⟨D3, hD3⟩ : ∃ D3, D3 = E := ⟨_, rfl⟩
                            have hs3 : D3.size = d.size := by rw [hD3]; exact hsE
                            have HS3 : Hid (SA w0 _ g off D3) := Lib.hid (by rw [hD3]; exact HE.out.1)
                            have H3 : Hid (fixUp ltInt b i D2 = D3) := Lib.hid (by rw [hD3]; unfold fixUp; rw [if_pos (show b - i ≥ 2 by omega), ← HE.out.2]; exact su_stop _ _ _ (.inl h6))
                            clear hD3
                            go_wp2
                            go_roundw
                            case rel => exact ⟨i, jn + 1, D3, by first | rfl | go_num, by go_num, by omega, by omega, by omega, by omega, Lib.hid ⟨HS3.out, by rw [← HK.out.2, HST.out, H2.out, H3.out]⟩⟩
                            case measure => simp [Go.RowKit.intOf]; omega
                      · have h51 : ¬ (2 : Int) ≤ (b : Int) - (i : Int) := by omega
                        have h52 : decide ((2 : Int) ≤ (b : Int) - (i : Int)) = false := decide_eq_false h51
                        have h53 : decide ((b : Int) - (i : Int) ≥ 2) = false := decide_eq_false h51
                        go_wp2
                        obtain ⟨D3, hD3⟩ : ∃ D3, D3 = D2 := ⟨_, rfl⟩
                        have hs3 : D3.size = d.size := by rw [hD3]; exact hs2
                        have HS3 : Hid (SA w0 _ g off D3) := Lib.hid (by rw [hD3]; exact HS2.out)
                        have H3 : Hid (fixUp ltInt b i D2 = D3) := Lib.hid (by rw [hD3]; unfold fixUp; rw [if_neg (show ¬ b - i ≥ 2 by omega)])
                        clear hD3
                        go_wp2
                        go_roundw
                        case rel => exact ⟨i, jn + 1, D3, by first | rfl | go_num, by go_num, by omega, by omega, by omega, by omega, Lib.hid ⟨HS3.out, by rw [← HK.out.2, HST.out, H2.out, H3.out]⟩⟩
                        case measure => simp [Go.RowKit.intOf]; omega
                · have h31 : ¬ (2 : Int) ≤ (i : Int) - (a : Int) := by omega
                  have h32 : decide ((2 : Int) ≤ (i : Int) - (a : Int)) = false := decide_eq_false h31
                  have h33 : decide ((i : Int) - (a : Int) ≥ 2) = false := decide_eq_false h31
                  obtain ⟨D2, hD2⟩ : ∃ D2, D2 = swp D i (i - 1) := ⟨_, rfl⟩
                  have hs2 : D2.size = d.size := by rw [hD2]; exact (size_swp _ _ _).trans hsk
                  have HS2 : Hid (SA w0 _ g off D2) := Lib.hid (by rw [hD2]; exact HSK.out)
                  have H2 : Hid (fixDown ltInt a i (swp D i (i - 1)) = D2) := Lib.hid (by rw [hD2]; unfold fixDown; rw [if_neg (show ¬ i - a ≥ 2 by omega)])
                  clear hD2
                  by_cases h5 : i + 2 ≤ b
                  · have h51 : (2 : Int) ≤ (b : Int) - (i : Int) := by omega
                    go_wp2
                    go_loopw [10] (fun vj wr => ∃ (j : Nat) (E : Array Int), vj = .int .i64 j ∧ i + 1 ≤ j ∧ j ≤ b ∧ E.size = d.size ∧ Hid (SA w0 wr g off E ∧ shiftUp ltInt b j E = shiftUp ltInt b (i + 1) D2)) (fun vj _ => b - (Go.RowKit.intOf vj).toNat)
                    case atStart => exact ⟨i + 1, D2, by first | rfl | go_num, Nat.le_refl _, by omega, hs2, Lib.hid ⟨HS2.out, rfl⟩⟩
                    case round =>
                      obtain ⟨j, E, rfl, hj0, hj1, hsE, HE⟩ := hrel
                      obtain ⟨wj, hwj⟩ : ∃ x, x = wr := ⟨_, rfl⟩
                      subst hwj
                      by_cases h6 : j < b
                      · have h61 : (j : Int) < (b : Int) := by omega
                        obtain ⟨G, hG⟩ : ∃ G : Nat → Int, ∀ t, G t = E[t]! := ⟨fun t => E[t]!, fun _ => rfl⟩
                        have HG := Lib.hid hG
                        clear hG
                        have cw : ∀ t, t < d.size → wj.cell? ⟨g, off + t, none⟩ = some (.int .u64 (G t)) := fun t ht => by rw [HG.out]; exact HE.out.1.cell t (by omega)
                        have fw : ∀ t, t < d.size → wj.frozen? ⟨g, off + t, none⟩ = false := fun t ht => HE.out.1.free t (by omega)
                        go_wp2
                        cases hl : ltInt (G j) (G (j - 1))
                        · have HL := Lib.hid hl
                          go_quiet (first | (go_at_call 19; refine Calls.quiet_of_same (less_quiet _ _ _)))
                          clear cw fw
                          obtain ⟨D3, hD3⟩ : ∃ D3, D3 = E := ⟨_, rfl⟩
                          have hs3 : D3.size = d.size := by rw [hD3]; exact hsE
                          have HS3 : Hid (SA w0 _ g off D3) := Lib.hid (by rw [hD3]; exact HE.out.1.drewN nq)
                          have H3 : Hid (fixUp ltInt b i D2 = D3) := Lib.hid (by rw [hD3]; unfold fixUp; rw [if_pos (show b - i ≥ 2 by omega), ← HE.out.2]; exact su_stop _ _ _ (.inr (by rw [← HG.out, ← HG.out]; exact HL.out)))
                          clear hD3
                          go_wp2
                          go_roundw
                          case rel => exact ⟨i, jn + 1, D3, by first | rfl | go_num, by go_num, by omega, by omega, by omega, by omega, Lib.hid ⟨HS3.out, by rw [← HK.out.2, HST.out, H2.out, H3.out]⟩⟩
                          case measure => simp [Go.RowKit.intOf]; omega
                        · have HL := Lib.hid hl
                          go_quiet (first | (go_at_call 19; refine Calls.quiet_of_same (less_quiet _ _ _)))
                          go_wp2
                          have HSW := Lib.hid ((HE.out.1.drewN (nq + 1)).swp (i := j) (j := (j - 1)) (by omega) (by omega))
                          simp only [← HG.out] at HSW
                          go_upto_region 23 with fail
                          go_region
                          all_goals
                            clear cw fw
                            generalize hwk : World.setCell _ _ _ = wk
                            have HSK : Hid (SA w0 wk g off (swp E j (j - 1))) := Lib.hid (by rw [← hwk]; exact HSW.out)
                            clear hwk HSW
                            go_wp2
                            go_roundw
                            case rel => exact ⟨j + 1, swp E j (j - 1), by go_num, by omega, by omega, by rw [size_swp]; exact hsE, Lib.hid ⟨HSK.out, by rw [← HE.out.2]; exact (su_go _ _ _ h6 (by rw [← HG.out, ← HG.out]; exact HL.out)).symm⟩⟩
                            case measure => simp [Go.RowKit.intOf]; omega
                      · have h61 : ¬ (j : Int) < (b : Int) := by omega
                        go_wp2
                        obtain ⟨D3, hD3⟩ : ∃ D3, D3 = E := ⟨_, rfl⟩
                        have hs3 : D3.size = d.size := by rw [hD3]; exact hsE
                        have HS3 : Hid (SA w0 _ g off D3) := Lib.hid (by rw [hD3]; exact HE.out.1)
                        have H3 : Hid (fixUp ltInt b i D2 = D3) := Lib.hid (by rw [hD3]; unfold fixUp; rw [if_pos (show b - i ≥ 2 by omega), ← HE.out.2]; exact su_stop _ _ _ (.inl h6))
                        clear hD3
                        go_wp2
                        go_roundw
                        case rel => exact ⟨i, jn + 1, D3, by first | rfl | go_num, by go_num, by omega, by omega, by omega, by omega, Lib.hid ⟨HS3.out, by rw [← HK.out.2, HST.out, H2.out, H3.out]⟩⟩
                        case measure => simp [Go.RowKit.intOf]; omega
                  · have h51 : ¬ (2 : Int) ≤ (b : Int) - (i : Int) := by omega
                    have h52 : decide ((2 : Int) ≤ (b : Int) - (i : Int)) = false := decide_eq_false h51
                    have h53 : decide ((b : Int) - (i : Int) ≥ 2) = false := decide_eq_false h51
                    go_wp2
                    obtain ⟨D3, hD3⟩ : ∃ D3, D3 = D2 := ⟨_, rfl⟩
                    have hs3 : D3.size = d.size := by rw [hD3]; exact hs2
                    have HS3 : Hid (SA w0 _ g off D3) := Lib.hid (by rw [hD3]; exact HS2.out)
                    have H3 : Hid (fixUp ltInt b i D2 = D3) := Lib.hid (by rw [hD3]; unfold fixUp; rw [if_neg (show ¬ b - i ≥ 2 by omega)])
                    clear hD3
                    go_wp2
                    go_roundw
                    case rel => exact ⟨i, jn + 1, D3, by first | rfl | go_num, by go_num, by omega, by omega, by omega, by omega, Lib.hid ⟨HS3.out, by rw [← HK.out.2, HST.out, H2.out, H3.out]⟩⟩
                    case measure => simp [Go.RowKit.intOf]; omega
        · have h21 : ¬ (i : Int) < (b : Int) := by omega
          have hbb : i = b := by omega
          have HSS : Hid (scanSorted ltInt D b i1 = b) := Lib.hid (by rw [← HI.out.2, ← hbb]; exact ss_stop _ _ _ (.inl (by omega)))
          have hbbI : (i : Int) = (b : Int) := by omega
          go_wp2
          go_quiet (first | (go_at_call 19; refine Calls.quiet_of_same (less_quiet _ _ _)))
          go_wp2
          go_ret
          exact ⟨by rw [← HK.out.2, pi_yes (by omega) HSS.out]; rfl, by rw [← HK.out.2, pi_yes (by omega) HSS.out]; exact HI.out.1.drewN _⟩
    · have h11 : ¬ (jn : Int) < 5 := by omega
      have h12 : decide ((jn : Int) < 5) = false := decide_eq_false h11
      obtain rfl : 5 = jn := by omega
      go_wp2
      go_ret
      exact ⟨by rw [← HK.out.2]; rfl, by rw [← HK.out.2]; exact HK.out.1⟩
end
end Go.Proofs.Ytbhcdbnbiocimaa.SU
