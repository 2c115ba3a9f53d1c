/- Sorting numbers of 64 bits without sign: the heap's sort. -/
import Derived.Test.YtbhcdbnbiocimaaSortB
set_option linter.unusedSimpArgs false
set_option linter.unusedVariables false
namespace Go.Proofs.Ytbhcdbnbiocimaa.SU
open Go.RowKit
open Go.Sort (swp size_swp ltInt PermIn SortedIn SWO siftDown heapBuild heapPop heapSort)
section
variable {w0 W : World} {g off : Nat} {d : Array Int}
theorem siftDown_size (hi F : Nat) : ∀ (n r : Nat) (d : Array Int), hi - r ≤ n → (siftDown ltInt hi F r d).size = d.size
  | 0, r, d, h => by rw [sd_eq, if_pos (by omega)]
  | n + 1, r, d, h => by
    rw [sd_eq]
    split
    · rfl
    · rename_i h1
      split
      · have := child_rng (F := F) (d := d) (show 2 * r + 1 < hi by omega)
        rw [siftDown_size hi F n _ _ (by omega), size_swp]
      · rfl
set_option maxRecDepth 100000 in
set_option maxHeartbeats 1000000 in
theorem heapSort_any (cap a b : Nat) (h : SA w0 W g off d) (hab : a ≤ b) (hb : b ≤ d.size) (hsz : d.size ≤ 65536) :
    Calls Try.prog 14 #[rowV g off d.size cap, .int .i64 a, .int .i64 b] W fun e w' => e = .returned (.tuple #[]) ∧ SA w0 w' g off (heapSort ltInt d a b) := by
  have H0 := Lib.hid h
  clear h
  obtain ⟨m, hm⟩ : ∃ m, b - a = m := ⟨_, rfl⟩
  have hmI : (b : Int) - (a : Int) = (m : Int) := by omega
  obtain ⟨k0, hk0⟩ : ∃ k, (m - 1) / 2 + 1 = k := ⟨_, rfl⟩
  have hq : Int.tdiv ((m : Int) - 1) 2 = (k0 : Int) - 1 := by
    cases m with
    | zero => simp at hk0; subst hk0; rfl
    | succ m =>
      rw [show ((m + 1 : Nat) : Int) - 1 = (m : Int) by omega]
      simp only [Nat.add_sub_cancel] at hk0
      rw [Int.tdiv_eq_ediv_of_nonneg (by omega)]
      omega
  have HM := Lib.hid (And.intro hm hk0)
  have hkm : k0 ≤ m + 1 := by omega
  have ham : a + m ≤ d.size := by omega
  clear hm hk0
  go_enter Try.func14, Try.ntmps14
  go_wp2
  go_loopw [9] (fun vi wr => ∃ (k : Nat) (dk : Array Int), vi = .int .i64 ((k : Int) - 1) ∧ k ≤ k0 ∧ dk.size = d.size ∧ Hid (SA w0 wr g off dk ∧ heapBuild ltInt m a k dk = heapBuild ltInt m a k0 d)) (fun vi _ => (intOf vi + 1).toNat)
  case atStart => exact ⟨k0, d, by simp only [hq], Nat.le_refl _, rfl, Lib.hid ⟨H0.out, rfl⟩⟩
  case round =>
    obtain ⟨k, dk, rfl, hk, hsk, HK⟩ := hrel
    obtain ⟨wj, hwj⟩ : ∃ x, x = wr := ⟨_, rfl⟩
    subst hwj
    cases k with
    | succ k =>
      have e0 : (((k + 1 : Nat) : Int) - 1) = (k : Int) := by omega
      rw [e0]
      have hk0 : ¬ (k : Int) < 0 := by omega
      have hk1 : (0 : Int) ≤ (k : Int) := by omega
      have hsd := siftDown_any (d := dk) cap k m a HK.out.1 (by omega) (by omega) (by omega)
      rw [hsk] at hsd
      have HSD := Lib.hid hsd
      clear hsd e0
      go_wp2_with (go_at_call 24; refine HSD.out.mono ?_; rintro e w2 ⟨rfl, hs⟩; have HS2 := Lib.hid hs; clear hs)
      go_roundw
      case rel => exact ⟨k, siftDown ltInt m a k dk, by go_num, by omega, (siftDown_size m a _ k dk (Nat.le_refl _)).trans hsk, Lib.hid ⟨HS2.out, HK.out.2⟩⟩
      case measure => first | (simp [intOf]; done) | (simp [intOf]; omega)
    | zero =>
      obtain ⟨z, hz⟩ : ∃ z : Int, z = ((0 : Nat) : Int) - 1 := ⟨_, rfl⟩
      rw [← hz]
      have hk0 : z < 0 := by omega
      clear hz
      go_wp2
      go_loopw [10] (fun vi wr => ∃ (k : Nat) (dk2 : Array Int), vi = .int .i64 ((k : Int) - 1) ∧ k ≤ m ∧ dk2.size = d.size ∧ Hid (SA w0 wr g off dk2 ∧ heapPop ltInt a k dk2 = heapPop ltInt a m dk)) (fun vi _ => (intOf vi + 1).toNat)
      case atStart => exact ⟨m, dk, by simp only [hmI], Nat.le_refl _, hsk, Lib.hid ⟨HK.out.1, rfl⟩⟩
      case round =>
        obtain ⟨k, dk2, rfl, hk2, hsk2, HK2⟩ := hrel
        obtain ⟨wi, hwi⟩ : ∃ x, x = wr := ⟨_, rfl⟩
        subst hwi
        cases k with
        | succ k =>
          have e0 : (((k + 1 : Nat) : Int) - 1) = (k : Int) := by omega
          rw [e0]
          have hk0 : ¬ (k : Int) < 0 := by omega
          have hk1 : (0 : Int) ≤ (k : Int) := by omega
          obtain ⟨G, hG⟩ : ∃ G : Nat → Int, ∀ t, G t = dk2[t]! := ⟨fun t => dk2[t]!, fun _ => rfl⟩
          have HG := Lib.hid hG
          have cw : ∀ t, t < d.size → wi.cell? ⟨g, off + t, none⟩ = some (.int .u64 (G t)) := fun t ht => by rw [hG]; exact HK2.out.1.cell t (by omega)
          have fw : ∀ t, t < d.size → wi.frozen? ⟨g, off + t, none⟩ = false := fun t ht => HK2.out.1.free t (by omega)
          clear hG e0
          have ha1 : a < d.size := by omega
          have ha2 : a + k < d.size := by omega
          have HZ : Hid (k = 0 → G (a + k) = G a) := Lib.hid (fun h => by rw [h]; rfl)
          by_cases hkz : k = 0
          · subst hkz
            have hsd := fun W' (hx : SA w0 W' g off (swp dk2 a (a + 0))) => siftDown_any (d := swp dk2 a (a + 0)) cap 0 0 a hx (by rw [size_swp]; omega) (by omega) (by rw [size_swp]; omega)
            rw [size_swp, hsk2] at hsd
            have HSD := Lib.hid hsd
            clear hsd
            have hsw := (HK2.out.1.drewN 1).swp (i := a) (j := a + 0) (by omega) (by omega)
            rw [← HG.out, ← HG.out] at hsw
            have HSW := Lib.hid hsw
            clear hsw
            go_upto_region 10 with fail
            go_region
            all_goals
              clear cw fw
              generalize hwk : World.drew _ = wk
              have HSK : Hid (SA w0 wk g off (swp dk2 a (a + 0))) := Lib.hid (by rw [← hwk]; exact HSW.out)
              clear hwk HSW
              go_wp2_with (go_at_call 24; refine (HSD.out _ HSK.out).mono ?_; rintro e w2 ⟨rfl, hs⟩; have HS2 := Lib.hid hs; clear hs)
              go_roundw
              case rel => exact ⟨0, siftDown ltInt 0 a 0 (swp dk2 a (a + 0)), by go_num, by omega, by rw [siftDown_size _ _ _ _ _ (Nat.le_refl _), size_swp]; exact hsk2, Lib.hid ⟨HS2.out, HK2.out.2⟩⟩
              case measure => first | (simp [intOf]; done) | (simp [intOf]; omega)
          · have hne : a ≠ a + k := by omega
            have hsd := fun W' (hx : SA w0 W' g off (swp dk2 a (a + k))) => siftDown_any (d := swp dk2 a (a + k)) cap 0 k a hx (by rw [size_swp]; omega) (by omega) (by rw [size_swp]; omega)
            rw [size_swp, hsk2] at hsd
            have HSD := Lib.hid hsd
            clear hsd
            have hsw := (HK2.out.1.drewN 1).swp (i := a) (j := a + k) (by omega) (by omega)
            rw [← HG.out, ← HG.out] at hsw
            have HSW := Lib.hid hsw
            clear hsw
            go_upto_region 10 with fail
            go_region
            all_goals
              clear cw fw
              generalize hwk : World.drew _ = wk
              have HSK : Hid (SA w0 wk g off (swp dk2 a (a + k))) := Lib.hid (by rw [← hwk]; exact HSW.out)
              clear hwk HSW
              go_wp2_with (go_at_call 24; refine (HSD.out _ HSK.out).mono ?_; rintro e w2 ⟨rfl, hs⟩; have HS2 := Lib.hid hs; clear hs)
              go_roundw
              case rel => exact ⟨k, siftDown ltInt k a 0 (swp dk2 a (a + k)), by go_num, by omega, by rw [siftDown_size _ _ _ _ _ (Nat.le_refl _), size_swp]; exact hsk2, Lib.hid ⟨HS2.out, HK2.out.2⟩⟩
              case measure => first | (simp [intOf]; done) | (simp [intOf]; omega)
        | zero =>
          have hk0 : (((0 : Nat) : Int) - 1) < 0 := by omega
          go_wp2
          go_end0
          exact ⟨rfl, by
            unfold heapSort
            rw [HM.out.1, HM.out.2, ← HK.out.2]
            show SA w0 wi g off (heapPop ltInt a m dk)
            rw [← HK2.out.2]
            exact HK2.out.1⟩
end
end Go.Proofs.Ytbhcdbnbiocimaa.SU
