/- Rows of numbers of 64 bits without sign: slices.Compact. -/
import Derived.Test.YtbhcdbnbiocimaaSortU
import Derived.Deep.CutBlock
set_option linter.unusedSimpArgs false
set_option linter.unusedVariables false
namespace Go.Proofs.Ytbhcdbnbiocimaa.SU
open Go.RowKit
section
variable {w0 W : World} {g off : Nat} {d : Array Int}
set_option maxRecDepth 100000 in
set_option maxHeartbeats 4000000 in
theorem compact_same (cap : Nat) (h : SA w0 W g off d) (h2 : 2 ≤ d.size) (hsz : d.size ≤ 200) (hne : ∀ t, 1 ≤ t → t < d.size → d[t]! ≠ d[t - 1]!) :
    Calls Try.prog 7 #[rowV g off d.size cap] W fun e w' => e = .returned (rowV g off d.size cap) ∧ SA w0 w' g off d := by
  have H0 := Lib.hid h
  have HN := Lib.hid hne
  have h2I : ¬ (d.size : Int) < 2 := by omega
  clear h hne
  obtain ⟨G, hG⟩ : ∃ G : Nat → Int, ∀ t, G t = d[t]! := ⟨fun t => d[t]!, fun _ => rfl⟩
  have HG := Lib.hid hG
  clear hG
  go_enter Try.func7, Try.ntmps7
  go_wp2
  go_loopw [3] (fun vi wr => ∃ i : Nat, vi = .int .i64 i ∧ 1 ≤ i ∧ i ≤ d.size ∧ Hid (SA w0 wr g off d)) (fun vi _ => d.size - (intOf vi).toNat)
  case atStart => exact ⟨1, by first | rfl | go_num, Nat.le_refl _, by omega, H0⟩
  case round =>
    obtain ⟨i, rfl, hi1, hi2, HI⟩ := hrel
    obtain ⟨wj, hwj⟩ : ∃ x, x = wr := ⟨_, rfl⟩
    subst hwj
    by_cases hlt : i < d.size
    · have hltI : (i : Int) < (d.size : Int) := by omega
      have cw : ∀ t, t < d.size → wj.cell? ⟨g, off + t, none⟩ = some (.int .u64 (G t)) := fun t ht => by rw [HG.out]; exact HI.out.cell t (by omega)
      have fw : ∀ t, t < d.size → wj.frozen? ⟨g, off + t, none⟩ = false := fun t ht => HI.out.free t (by omega)
      have hnq : ¬ G i = G (i - 1) := by rw [HG.out, HG.out]; exact HN.out i hi1 hlt
      go_wp2
      go_quiet (fail)
      go_wp2
      go_roundw
      case rel => exact ⟨i + 1, by go_num, by omega, by omega, Lib.hid (HI.out.drewN _)⟩
      case measure => simp [intOf]; omega
    · have hltI : ¬ (i : Int) < (d.size : Int) := by omega
      go_wp2
      go_ret
      exact ⟨rfl, HI.out⟩
set_option maxRecDepth 100000 in
set_option maxHeartbeats 4000000 in
theorem compact_less (cap : Nat) (h : SA w0 W g off d) (h2 : 2 ≤ d.size) (hsz : d.size ≤ 200) (hcap : d.size ≤ cap) (hm : cap ≤ maxLen) (hne : ∃ t, 1 ≤ t ∧ t < d.size ∧ d[t]! = d[t - 1]!) :
    Calls Try.prog 7 #[rowV g off d.size cap] W fun e w' => ∃ m : Nat, e = .returned (rowV g off m cap) ∧ m < d.size ∧ Upd (OnlyAt g) w0 w' := by
  have H0 := Lib.hid h
  have HN := Lib.hid hne
  have h2I : ¬ (d.size : Int) < 2 := by omega
  unfold maxLen at hm
  clear h hne
  obtain ⟨G, hG⟩ : ∃ G : Nat → Int, ∀ t, G t = d[t]! := ⟨fun t => d[t]!, fun _ => rfl⟩
  have HG := Lib.hid hG
  clear hG
  go_enter Try.func7, Try.ntmps7
  go_wp2
  go_loopw [3] (fun vi wr => ∃ i : Nat, vi = .int .i64 i ∧ 1 ≤ i ∧ i ≤ d.size ∧ Hid (SA w0 wr g off d ∧ ∃ t, i ≤ t ∧ t < d.size ∧ d[t]! = d[t - 1]!)) (fun vi _ => d.size - (intOf vi).toNat)
  case atStart => exact ⟨1, by first | rfl | go_num, Nat.le_refl _, by omega, Lib.hid ⟨H0.out, HN.out⟩⟩
  case round =>
    obtain ⟨i, rfl, hi1, hi2, HI⟩ := hrel
    obtain ⟨wj, hwj⟩ : ∃ x, x = wr := ⟨_, rfl⟩
    subst hwj
    have hlt : i < d.size := by obtain ⟨t, h1, h2, _⟩ := HI.out.2; omega
    have hltI : (i : Int) < (d.size : Int) := by omega
    have cw : ∀ t, t < d.size → wj.cell? ⟨g, off + t, none⟩ = some (.int .u64 (G t)) := fun t ht => by rw [HG.out]; exact HI.out.1.cell t (by omega)
    have fw : ∀ t, t < d.size → wj.frozen? ⟨g, off + t, none⟩ = false := fun t ht => HI.out.1.free t (by omega)
    by_cases hnq : G i = G (i - 1)
    · go_wp2
      go_quiet (fail)
      go_wp2
      have hz3 : ∀ w, (zeroValue 26).run Try.prog w = .ok (.int .u64 0) w := fun w => by kernel_rfl
      clear cw fw
      have hsI : ¬ d.size - i < 1 := by omega
      go_loopw [3, 5] (fun v3 v5 wr => ∃ (k k2 : Nat) (D : Array Int), v3 = .int .i64 k ∧ v5 = .int .i64 k2 ∧ 1 ≤ k2 ∧ k2 ≤ d.size - i ∧ i ≤ k ∧ k + 1 ≤ i + k2 ∧ D.size = d.size ∧ Hid (SA w0 wr g off D)) (fun v3 v5 _ => d.size - i - (intOf v5).toNat)
      case atStart => exact ⟨i, 1, d, rfl, by first | rfl | go_num, Nat.le_refl _, by omega, Nat.le_refl _, Nat.le_refl _, rfl, Lib.hid (HI.out.1.drewN _)⟩
      case round =>
        obtain ⟨k, k2, D, rfl, rfl, hk1, hk2, hik, hkk, hsD, HD⟩ := hrel
        obtain ⟨wi, hwi⟩ : ∃ x, x = wr := ⟨_, rfl⟩
        subst hwi
        obtain ⟨G2, hG2⟩ : ∃ G : Nat → Int, ∀ t, G t = D[t]! := ⟨fun t => D[t]!, fun _ => rfl⟩
        have HG2 := Lib.hid hG2
        clear hG2
        by_cases hlt2 : k2 < d.size - i
        · have hlt2I : (k2 : Int) < ((d.size - i : Nat) : Int) := by omega
          have cw : ∀ t, t < d.size → wi.cell? ⟨g, off + t, none⟩ = some (.int .u64 (G2 t)) := fun t ht => by rw [HG2.out]; exact HD.out.cell t (by omega)
          have fw : ∀ t, t < d.size → wi.frozen? ⟨g, off + t, none⟩ = false := fun t ht => HD.out.free t (by omega)
          have cw2 : ∀ t, t < d.size - i → wi.cell? ⟨g, off + i + t, none⟩ = some (.int .u64 (G2 (i + t))) := fun t ht => by rw [Nat.add_assoc]; exact cw (i + t) (by omega)
          go_wp2
          go_quiet (fail)
          by_cases he : G2 (i + k2) = G2 (i + (k2 - 1))
          · clear cw fw cw2
            go_wp2
            go_roundw
            case rel => exact ⟨k, k2 + 1, D, rfl, by go_num, by omega, by omega, hik, by omega, hsD, Lib.hid (HD.out.drewN _)⟩
            case measure => simp [intOf]; omega
          · have HST := Lib.hid ((HD.out.drewN nq).set (i := k) (by omega) (G2 (i + k2)))
            have hkd : k < d.size := by omega
            go_wp2
            go_roundw
            case rel => exact ⟨k + 1, k2 + 1, _, by go_num, by go_num, by omega, by omega, by omega, by omega, by rw [Array.size_setIfInBounds]; exact hsD, HST⟩
            case measure => simp [intOf]; omega
        · have hlt2I : ¬ (k2 : Int) < ((d.size - i : Nat) : Int) := by omega
          go_upto_region 14 with fail
          have hkd : k < d.size := by omega
          have hcl : ∀ ty, (Builtin.clear_ #[22] ty #[.slice (some ⟨g, off + k, none⟩) (d.size - k) (cap - k)]).run Try.prog wi = .ok (.tuple #[]) (wi.setCells g (off + k) (List.replicate (d.size - k) (.int .u64 0))) :=
            fun ty => Lib.run_clear_slice wi 22 26 ty (.int .u64 0) Try.underlying22 hz3 rfl rfl g (off + k) (d.size - k) (cap - k) (by omega) (fun j hj => by rw [Nat.add_assoc, HD.out.cell (k + j) (by omega)]; rfl) (fun j hj => by rw [Nat.add_assoc]; exact HD.out.free (k + j) (by omega))
          have HU := Lib.hid (HD.out.upd.trans (upd_setCells (b := g) (List.replicate (d.size - k) (.int .u64 0)) (off + k) wi) (fun _ _ h => h))
          go_wp2_with (simp only [hcl])
          go_ret
          exact ⟨k, rfl, hkd, HU.out⟩
    · go_wp2
      go_quiet (fail)
      go_wp2
      go_roundw
      case rel => exact ⟨i + 1, by go_num, by omega, by omega, Lib.hid ⟨HI.out.1.drewN _, by
        obtain ⟨t, h1, h2, h3⟩ := HI.out.2
        refine ⟨t, ?_, h2, h3⟩
        by_cases e : i = t
        · subst e
          exact absurd (by rw [HG.out, HG.out]; exact h3) hnq
        · omega⟩⟩
      case measure => simp [intOf]; omega
end
end Go.Proofs.Ytbhcdbnbiocimaa.SU
