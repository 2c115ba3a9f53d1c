/- Sorting numbers of 64 bits without sign: insertion. -/
import Derived.Test.YtbhcdbnbiocimaaSortU
set_option linter.unusedSimpArgs false
set_option linter.unusedVariables false
namespace Go.Proofs.Ytbhcdbnbiocimaa.SU
open Go.RowKit
open Go.Sort (swp size_swp ltInt PermIn SortedIn SWO insInner insOuter insertionSort)
section
variable {w0 W : World} {g off : Nat} {d : Array Int}
theorem ins_go (a j : Nat) (d : Array Int) (hj : a < j) (hl : ltInt d[j]! d[j - 1]! = true) : insInner ltInt a j d = insInner ltInt a (j - 1) (swp d j (j - 1)) := by
  cases j with
  | zero => omega
  | succ k =>
    have hc : (decide (k + 1 > a) && ltInt d[k + 1]! d[k]!) = true := by simp only [Bool.and_eq_true, decide_eq_true_eq]; exact ⟨hj, hl⟩
    show (if (decide (k + 1 > a) && ltInt d[k + 1]! d[k]!) = true then insInner ltInt a k (swp d (k + 1) k) else d) = _
    rw [if_pos hc]; rfl
theorem ins_stop (a j : Nat) (d : Array Int) (h : j ≤ a ∨ ltInt d[j]! d[j - 1]! = false) : insInner ltInt a j d = d := by
  cases j with
  | zero => rfl
  | succ k =>
    have hc : (decide (k + 1 > a) && ltInt d[k + 1]! d[k]!) = false := by
      rcases h with h | h
      · rw [decide_eq_false (by omega)]; rfl
      · have h : ltInt d[k + 1]! d[k]! = false := h
        rw [h, Bool.and_false]
    show (if (decide (k + 1 > a) && ltInt d[k + 1]! d[k]!) = true then insInner ltInt a k (swp d (k + 1) k) else d) = _
    rw [hc]; rfl
theorem out_go (a b i : Nat) (d : Array Int) (h : i < b) : insOuter ltInt a b i d = insOuter ltInt a b (i + 1) (insInner ltInt a i d) := by rw [insOuter, if_pos h]
theorem out_stop (a b i : Nat) (d : Array Int) (h : ¬ i < b) : insOuter ltInt a b i d = d := by rw [insOuter, if_neg h]
set_option maxRecDepth 100000 in
set_option maxHeartbeats 1000000 in
theorem insertion_any (cap a b : Nat) (h : SA w0 W g off d) (hab : a ≤ b) (hb : b ≤ d.size) (hsz : d.size ≤ 65536) :
    Calls Try.prog 13 #[rowV g off d.size cap, .int .i64 a, .int .i64 b] W fun e w' => e = .returned (.tuple #[]) ∧ SA w0 w' g off (insertionSort ltInt d a b) := by
  have H0 := Lib.hid h
  clear h
  go_enter Try.func13, Try.ntmps13
  go_wp2
  go_loopw [6] (fun vi wr => ∃ (i : Nat) (dk : Array Int), vi = .int .i64 i ∧ a < i ∧ i ≤ b + 1 ∧ dk.size = d.size ∧ Hid (SA w0 wr g off dk ∧ insOuter ltInt a b i dk = insOuter ltInt a b (a + 1) d)) (fun vi _ => b + 1 - (intOf vi).toNat)
  case atStart => exact ⟨a + 1, d, by go_num, by omega, by omega, rfl, Lib.hid ⟨H0.out, rfl⟩⟩
  case round =>
    obtain ⟨i, dk, rfl, hai, hib, hsk, HK⟩ := hrel
    by_cases hlt : i < b
    · have hltI : ((i : Nat) : Int) < (b : Int) := by omega
      go_wp2
      go_loopw [7] (fun vj wr2 => ∃ (j : Nat) (dj : Array Int), vj = .int .i64 j ∧ a ≤ j ∧ j ≤ i ∧ dj.size = d.size ∧ Hid (SA w0 wr2 g off dj ∧ insInner ltInt a j dj = insInner ltInt a i dk)) (fun vj _ => (intOf vj).toNat)
      case atStart => exact ⟨i, dk, rfl, by omega, Nat.le_refl _, hsk, Lib.hid ⟨HK.out.1, rfl⟩⟩
      case round =>
        obtain ⟨j, dj, rfl, haj, hji, hsj, HJ⟩ := hrel
        obtain ⟨wj, hwj⟩ : ∃ x, x = wr := ⟨_, rfl⟩
        subst hwj
        obtain ⟨G, hG⟩ : ∃ G : Nat → Int, ∀ t, G t = dj[t]! := ⟨fun t => dj[t]!, fun _ => rfl⟩
        have HG := Lib.hid hG
        have cw : ∀ t, t < d.size → wj.cell? ⟨g, off + t, none⟩ = some (.int .u64 (G t)) := fun t ht => by rw [hG]; exact HJ.out.1.cell t (by omega)
        have fw : ∀ t, t < d.size → wj.frozen? ⟨g, off + t, none⟩ = false := fun t ht => HJ.out.1.free t (by omega)
        clear hG
        go_wp2
        by_cases hja : a < j
        · have hjaI : (a : Int) < (j : Int) := by omega
          cases hl : ltInt (G j) (G (j - 1))
          · have HL := Lib.hid hl
            go_quiet (first | (go_at_call 19; refine Calls.quiet_of_same (less_quiet _ _ _)))
            go_wp2
            go_roundw
            case rel => exact ⟨i + 1, dj, by go_num, by omega, by omega, hsj, Lib.hid ⟨HJ.out.1.drewN _, by rw [← HK.out.2, out_go _ _ _ _ hlt, ← HJ.out.2, ins_stop _ _ _ (.inr (by rw [← HG.out, ← HG.out]; exact HL.out))]⟩⟩
            case measure => simp [intOf]; omega
          · have HL := Lib.hid hl
            go_quiet (first | (go_at_call 19; refine Calls.quiet_of_same (less_quiet _ _ _)))
            go_wp2
            go_region
            all_goals go_wp2
            go_roundw
            case rel => exact ⟨j - 1, swp dj j (j - 1), by congr 1; omega, by omega, by omega, by rw [size_swp]; exact hsj, Lib.hid ⟨by
              have := (HJ.out.1.drewN (nq + 1)).swp (i := j) (j := j - 1) (by omega) (by omega)
              rw [← HG.out, ← HG.out] at this
              exact this, by rw [← HJ.out.2, ins_go a j dj hja (by rw [← HG.out, ← HG.out]; exact HL.out)]⟩⟩
            case measure => simp [intOf]; omega
        · have hjaI : ¬ (a : Int) < (j : Int) := by omega
          go_quiet (first | (go_at_call 19; refine Calls.quiet_of_same (less_quiet _ _ _)))
          go_wp2
          go_roundw
          case rel => exact ⟨i + 1, dj, by go_num, by omega, by omega, hsj, Lib.hid ⟨HJ.out.1.drewN _, by rw [← HK.out.2, out_go _ _ _ _ hlt, ← HJ.out.2, ins_stop _ _ _ (.inl (by omega))]⟩⟩
          case measure => simp [intOf]; omega
    · have hltI : ¬ ((i : Nat) : Int) < (b : Int) := by omega
      go_wp2
      go_end0
      exact ⟨rfl, by
        have h2 := HK.out.2
        rw [out_stop _ _ _ _ hlt] at h2
        unfold insertionSort
        rw [← h2]
        exact HK.out.1⟩
end
end Go.Proofs.Ytbhcdbnbiocimaa.SU
