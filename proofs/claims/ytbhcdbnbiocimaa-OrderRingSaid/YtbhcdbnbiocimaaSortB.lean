/- Sorting numbers of 64 bits without sign: the heap. -/
import Derived.Test.YtbhcdbnbiocimaaSortU
import Derived.Deep.CutBlock
set_option linter.unusedSimpArgs false
set_option linter.unusedVariables false
namespace Go.Proofs.Ytbhcdbnbiocimaa.SU
open Go.RowKit
open Go.Sort (swp size_swp ltInt PermIn SortedIn SWO siftDown heapBuild heapPop heapSort)
section
variable {w0 W : World} {g off : Nat} {d : Array Int}
/-- The greater one of two children. -/
def child (hi F c : Nat) (d : Array Int) : Nat := if (decide (c + 1 < hi) && ltInt d[F + c]! d[F + (c + 1)]!) = true then c + 1 else c
theorem sd_eq (hi F r : Nat) (d : Array Int) : siftDown ltInt hi F r d = if hi ≤ 2 * r + 1 then d else if ltInt d[F + r]! d[F + child hi F (2 * r + 1) d]! = true then siftDown ltInt hi F (child hi F (2 * r + 1) d) (swp d (F + r) (F + child hi F (2 * r + 1) d)) else d := by
  rw [siftDown]
  by_cases h1 : hi ≤ 2 * r + 1
  · rw [dif_pos h1, if_pos h1]
  · rw [dif_neg h1, if_neg h1]
    unfold child
    have e1 : F + (2 * r + 1) + 1 = F + (2 * r + 1 + 1) := by omega
    have e2 : 2 * r + 2 = 2 * r + 1 + 1 := by omega
    rw [e1, e2]
    cases hc : (decide (2 * r + 1 + 1 < hi) && ltInt d[F + (2 * r + 1)]! d[F + (2 * r + 1 + 1)]!) with
    | true =>
      have h2 : 2 * r + 1 + 1 < hi := by
        simp only [Bool.and_eq_true, decide_eq_true_eq] at hc
        exact hc.1
      simp only [if_true]
      rw [dif_pos h2]
      cases ltInt d[F + r]! d[F + (2 * r + 1 + 1)]! <;> rfl
    | false =>
      simp only [Bool.false_eq_true, if_false]
      cases ltInt d[F + r]! d[F + (2 * r + 1)]! <;> rfl
theorem child_rng {hi F c : Nat} {d : Array Int} (h : c < hi) : c ≤ child hi F c d ∧ child hi F c d < hi := by
  unfold child
  split
  · rename_i hc
    simp only [Bool.and_eq_true, decide_eq_true_eq] at hc
    omega
  · omega
set_option maxRecDepth 100000 in
set_option maxHeartbeats 1000000 in
theorem siftDown_any (cap lo hi F : Nat) (h : SA w0 W g off d) (hF : F + hi ≤ d.size) (hlo : lo ≤ d.size) (hsz : d.size ≤ 65536) :
    Calls Try.prog 24 #[rowV g off d.size cap, .int .i64 lo, .int .i64 hi, .int .i64 F] W fun e w' => e = .returned (.tuple #[]) ∧ SA w0 w' g off (siftDown ltInt hi F lo d) := by
  have H0 := Lib.hid h
  clear h
  go_enter Try.func24, Try.ntmps24
  go_wp2
  go_loopw [8, 9] (fun vr vc wr => ∃ (r : Nat) (dk : Array Int) (v9 : Value), vr = .int .i64 r ∧ v9 = vc ∧ r ≤ d.size ∧ dk.size = d.size ∧ Hid (SA w0 wr g off dk ∧ siftDown ltInt hi F r dk = siftDown ltInt hi F lo d)) (fun vr _ _ => hi - (intOf vr).toNat)
  case atStart => exact ⟨lo, d, _, rfl, rfl, hlo, rfl, Lib.hid ⟨H0.out, rfl⟩⟩
  case round =>
    obtain ⟨r, dk, v9, rfl, rfl, hr, hsk, HK⟩ := hrel
    obtain ⟨wj, hwj⟩ : ∃ x, x = wr := ⟨_, rfl⟩
    subst hwj
    go_upto_region 2 with fail
    obtain ⟨c, hc⟩ : ∃ c : Nat, 2 * r + 1 = c := ⟨_, rfl⟩
    have hcI : 2 * (r : Int) + 1 = (c : Int) := by omega
    rw [hcI]
    have HC := Lib.hid hc
    clear hcI
    by_cases hch : c < hi
    · have hchI : ¬ (hi : Int) ≤ (c : Int) := by omega
      obtain ⟨G, hG⟩ : ∃ G : Nat → Int, ∀ t, G t = dk[t]! := ⟨fun t => dk[t]!, fun _ => rfl⟩
      have HG := Lib.hid hG
      have cw : ∀ t, t < d.size → wj.cell? ⟨g, off + t, none⟩ = some (.int .u64 (G t)) := fun t ht => by rw [hG]; exact HK.out.1.cell t (by omega)
      have fw : ∀ t, t < d.size → wj.frozen? ⟨g, off + t, none⟩ = false := fun t ht => HK.out.1.free t (by omega)
      have hrng := child_rng (F := F) (d := dk) hch
      obtain ⟨ch, hchd⟩ : ∃ x, child hi F c dk = x := ⟨_, rfl⟩
      rw [hchd] at hrng
      have HCH : Hid ((if (decide (c + 1 < hi) && ltInt (G (F + c)) (G (F + (c + 1)))) = true then c + 1 else c) = ch) := Lib.hid (by rw [hG, hG]; exact hchd)
      have HCD := Lib.hid hchd
      clear hG hc hchd
      go_upto_region 3 with fail
      have hfc1 : F + c < d.size := by omega
      by_cases h1 : c + 1 < hi
      · have h1I : (c : Int) + 1 < (hi : Int) := by omega
        have hd1 : decide (c + 1 < hi) = true := by simpa using h1
        have hf1 : F + c + 1 < d.size := by omega
        cases hl : ltInt (G (F + c)) (G (F + c + 1))
        · have hx := HCH.out
          have hl' : ltInt (G (F + c)) (G (F + (c + 1))) = false := hl
          rw [hd1, hl'] at hx
          have HX := Lib.hid (show c = ch by simpa using hx)
          clear hx hl' HCH
          go_quiet (first | (go_at_call 19; refine Calls.quiet_of_same (less_quiet _ _ _)))
          go_upto_region 5 with fail
          have hxI : (c : Int) = (ch : Int) := by have := HX.out; omega
          rw [hxI]
          clear hxI HX
          have hfr : F + r < d.size := by have := HC.out; omega
          have hrc : r < ch := by have := HC.out; omega
          have hfc : F + ch < d.size := by omega
          go_upto_region 5 with fail
          generalize hwq : wj.drewN _ = wq
          have HQ : Hid (SA w0 wq g off dk) := Lib.hid (by rw [← hwq]; exact HK.out.1.drewN _)
          have cq : ∀ t, t < d.size → wq.cell? ⟨g, off + t, none⟩ = some (.int .u64 (G t)) := fun t ht => by rw [HG.out]; exact HQ.out.cell t (by omega)
          have fq : ∀ t, t < d.size → wq.frozen? ⟨g, off + t, none⟩ = false := fun t ht => HQ.out.free t (by omega)
          clear hwq cw fw
          cases hl2 : ltInt (G (F + r)) (G (F + ch))
          · have HL := Lib.hid hl2
            go_quiet (first | (go_at_call 19; refine Calls.quiet_of_same (less_quiet _ _ _)))
            go_wp2
            refine bodyPost_ret (v := .tuple #[]) (by simp [results, Try.f24]) rfl ?_
            exact ⟨rfl, by
              have h2 := HK.out.2
              rw [sd_eq, if_neg (by have := HC.out; omega), HC.out, HCD.out, if_neg (by rw [← HG.out, ← HG.out, HL.out]; decide)] at h2
              rw [← h2]
              exact HQ.out.drewN _⟩
          · have HL := Lib.hid hl2
            go_quiet (first | (go_at_call 19; refine Calls.quiet_of_same (less_quiet _ _ _)))
            go_wp2
            go_region
            all_goals go_wp2
            go_roundw
            case rel => exact ⟨ch, swp dk (F + r) (F + ch), _, rfl, rfl, by omega, by rw [size_swp]; exact hsk, Lib.hid ⟨by
              have := (HQ.out.drewN (nq + 1)).swp (i := F + r) (j := F + ch) (by omega) (by omega)
              rw [← HG.out, ← HG.out] at this
              exact this, by
              have h2 := HK.out.2
              rw [sd_eq, if_neg (by have := HC.out; omega), HC.out, HCD.out, if_pos (by rw [← HG.out, ← HG.out]; exact HL.out)] at h2
              exact h2⟩⟩
            case measure => simp [intOf]; omega
        · have hx := HCH.out
          have hl' : ltInt (G (F + c)) (G (F + (c + 1))) = true := hl
          rw [hd1, hl'] at hx
          have HX := Lib.hid (show c + 1 = ch by simpa using hx)
          clear hx hl' HCH
          go_quiet (first | (go_at_call 19; refine Calls.quiet_of_same (less_quiet _ _ _)))
          go_upto_region 5 with fail
          have hxI : (c : Int) + 1 = (ch : Int) := by have := HX.out; omega
          rw [hxI]
          clear hxI HX
          have hfr : F + r < d.size := by have := HC.out; omega
          have hrc : r < ch := by have := HC.out; omega
          have hfc : F + ch < d.size := by omega
          go_upto_region 5 with fail
          generalize hwq : wj.drewN _ = wq
          have HQ : Hid (SA w0 wq g off dk) := Lib.hid (by rw [← hwq]; exact HK.out.1.drewN _)
          have cq : ∀ t, t < d.size → wq.cell? ⟨g, off + t, none⟩ = some (.int .u64 (G t)) := fun t ht => by rw [HG.out]; exact HQ.out.cell t (by omega)
          have fq : ∀ t, t < d.size → wq.frozen? ⟨g, off + t, none⟩ = false := fun t ht => HQ.out.free t (by omega)
          clear hwq cw fw
          cases hl2 : ltInt (G (F + r)) (G (F + ch))
          · have HL := Lib.hid hl2
            go_quiet (first | (go_at_call 19; refine Calls.quiet_of_same (less_quiet _ _ _)))
            go_wp2
            refine bodyPost_ret (v := .tuple #[]) (by simp [results, Try.f24]) rfl ?_
            exact ⟨rfl, by
              have h2 := HK.out.2
              rw [sd_eq, if_neg (by have := HC.out; omega), HC.out, HCD.out, if_neg (by rw [← HG.out, ← HG.out, HL.out]; decide)] at h2
              rw [← h2]
              exact HQ.out.drewN _⟩
          · have HL := Lib.hid hl2
            go_quiet (first | (go_at_call 19; refine Calls.quiet_of_same (less_quiet _ _ _)))
            go_wp2
            go_region
            all_goals go_wp2
            go_roundw
            case rel => exact ⟨ch, swp dk (F + r) (F + ch), _, rfl, rfl, by omega, by rw [size_swp]; exact hsk, Lib.hid ⟨by
              have := (HQ.out.drewN (nq + 1)).swp (i := F + r) (j := F + ch) (by omega) (by omega)
              rw [← HG.out, ← HG.out] at this
              exact this, by
              have h2 := HK.out.2
              rw [sd_eq, if_neg (by have := HC.out; omega), HC.out, HCD.out, if_pos (by rw [← HG.out, ← HG.out]; exact HL.out)] at h2
              exact h2⟩⟩
            case measure => simp [intOf]; omega
      · have h1I : ¬ (c : Int) + 1 < (hi : Int) := by omega
        have hx := HCH.out
        rw [show decide (c + 1 < hi) = false by simpa using h1] at hx
        have HX := Lib.hid (show c = ch by simpa using hx)
        clear hx HCH
        go_quiet (first | (go_at_call 19; refine Calls.quiet_of_same (less_quiet _ _ _)))
        go_upto_region 5 with fail
        have hxI : (c : Int) = (ch : Int) := by have := HX.out; omega
        rw [hxI]
        clear hxI HX
        have hfr : F + r < d.size := by have := HC.out; omega
        have hrc : r < ch := by have := HC.out; omega
        have hfc : F + ch < d.size := by omega
        go_upto_region 5 with fail
        generalize hwq : wj.drewN _ = wq
        have HQ : Hid (SA w0 wq g off dk) := Lib.hid (by rw [← hwq]; exact HK.out.1.drewN _)
        have cq : ∀ t, t < d.size → wq.cell? ⟨g, off + t, none⟩ = some (.int .u64 (G t)) := fun t ht => by rw [HG.out]; exact HQ.out.cell t (by omega)
        have fq : ∀ t, t < d.size → wq.frozen? ⟨g, off + t, none⟩ = false := fun t ht => HQ.out.free t (by omega)
        clear hwq cw fw
        cases hl2 : ltInt (G (F + r)) (G (F + ch))
        · have HL := Lib.hid hl2
          go_quiet (first | (go_at_call 19; refine Calls.quiet_of_same (less_quiet _ _ _)))
          go_wp2
          refine bodyPost_ret (v := .tuple #[]) (by simp [results, Try.f24]) rfl ?_
          exact ⟨rfl, by
            have h2 := HK.out.2
            rw [sd_eq, if_neg (by have := HC.out; omega), HC.out, HCD.out, if_neg (by rw [← HG.out, ← HG.out, HL.out]; decide)] at h2
            rw [← h2]
            exact HQ.out.drewN _⟩
        · have HL := Lib.hid hl2
          go_quiet (first | (go_at_call 19; refine Calls.quiet_of_same (less_quiet _ _ _)))
          go_wp2
          go_region
          all_goals go_wp2
          go_roundw
          case rel => exact ⟨ch, swp dk (F + r) (F + ch), _, rfl, rfl, by omega, by rw [size_swp]; exact hsk, Lib.hid ⟨by
            have := (HQ.out.drewN (nq + 1)).swp (i := F + r) (j := F + ch) (by omega) (by omega)
            rw [← HG.out, ← HG.out] at this
            exact this, by
            have h2 := HK.out.2
            rw [sd_eq, if_neg (by have := HC.out; omega), HC.out, HCD.out, if_pos (by rw [← HG.out, ← HG.out]; exact HL.out)] at h2
            exact h2⟩⟩
          case measure => simp [intOf]; omega
    · have hchI : (hi : Int) ≤ (c : Int) := by omega
      go_wp2
      go_end0
      exact ⟨rfl, by
        have h2 := HK.out.2
        rw [sd_eq, if_pos (by have := HC.out; omega)] at h2
        rw [← h2]
        exact HK.out.1⟩
end
end Go.Proofs.Ytbhcdbnbiocimaa.SU
