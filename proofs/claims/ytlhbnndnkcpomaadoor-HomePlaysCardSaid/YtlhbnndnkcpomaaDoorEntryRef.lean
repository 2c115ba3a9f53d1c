/- The document's answer for package entry: May. -/
import Derived.Test.YtlhbnndnkcpomaaDoorEntry
set_option linter.unusedSimpArgs false
set_option linter.unusedVariables false
namespace Go.Proofs.YtlhbnndnkcpomaaDoor.ET
open Go.RowKit
open ML
attribute [local go_sem] Oper.semAt_some run_eql_entry run_neq_entry

theorem high_iff (s : Mk) : (∀ x ∈ bitsL s, x ≤ 15) ↔ ∀ i, 16 ≤ i → i < 32 → s.getLsbD i = false := by
  constructor
  · intro h i h1 h2
    cases hb : s.getLsbD i
    · rfl
    · have := h i ((bitsL_mem s i).2 hb); omega
  · intro h x hx
    by_cases hx15 : x ≤ 15
    · exact hx15
    · have := bitsL_lt s x hx
      have h1 := h x (by omega) this
      rw [bitsL_mem] at hx
      rw [hx] at h1; cases h1

set_option maxRecDepth 100000 in
set_option maxHeartbeats 2000000 in
theorem rmay_any (o : Int) (s : Mk) (w : World) : Calls Tryd.prog 105 #[VE o s] w fun e w' => e = .returned (.bool (mayE o s)) ∧ Upd NoF w w' := by
  generalize hr : mayE o s = r
  have HR := Lib.hid hr
  clear hr
  have HU := Lib.hid (Upd.alloc NoF w (.cells #[.int .i64 o, VM s] 59))
  by_cases h1 : o < -1
  · have HR0 := Lib.hid (show r = false from by rw [← HR.out, mayE_own (by omega)]; unfold coreB; simp; omega)
    go_enter Tryd.func105, Tryd.ntmps105
    go_wp2
    go_ret
    exact ⟨by rw [HR0.out]; rfl, HU.out⟩
  · by_cases h2 : 15 < o
    · have HR0 := Lib.hid (show r = false from by rw [← HR.out, mayE_own (by omega)]; unfold coreB; simp; omega)
      go_enter Tryd.func105, Tryd.ntmps105
      go_wp2
      go_ret
      exact ⟨by rw [HR0.out]; rfl, HU.out⟩
    · by_cases h3 : 0 ≤ o
      · by_cases hs : s = 0#32
        · have hbs : ((s.toNat : Int) != 0) = false := by simp [hs]
          have hmay : r = true := by rw [← HR.out, mayE_own (by omega), hs]; unfold coreB; simp; omega
          have HA := Lib.hid (show (∀ i, 16 ≤ i → i < 32 → s.getLsbD i = false) → r = true from fun _ => hmay)
          have HE := Lib.hid (show (∃ i, 16 ≤ i ∧ i < 32 ∧ s.getLsbD i = true) → r = false from fun ⟨i, _, _, hi⟩ => by rw [hs] at hi; simp at hi)
          clear hs hmay
          go_enter Tryd.func105, Tryd.ntmps105
          go_wp2_with fail
          go_loop [3] (fun i => ∃ k : Nat, 16 ≤ k ∧ k ≤ 32 ∧ i = .int .i64 k ∧ Hid (∀ i, 16 ≤ i → i < k → s.getLsbD i = false)) (fun i => 32 - (intOf i).toNat)
          case atStart => exact ⟨16, by omega, by omega, rfl, fun i h1 h2 => by omega⟩
          case round =>
            obtain ⟨k, hk1, hk2, rfl, HI⟩ := hrel
            by_cases hlt : k < 32
            · have hin : inM s (k : Int) = s.getLsbD k := by unfold inM; simp; intro _; omega
              cases hb : s.getLsbD k
              · rw [hb] at hin
                have hhas : ∀ W, Calls Tryd.prog 66 #[VM s, .int .i64 (k : Int)] W fun e w' => e = .returned (.bool false) ∧ W = w' := fun W => hin ▸ rhas_any s k W
                have hnext : ∀ i, 16 ≤ i → i < k + 1 → s.getLsbD i = false := fun i h1 h2 => by
                  by_cases e : i = k
                  · rw [e]; exact hb
                  · exact HI.out i h1 (by omega)
                have HH := Lib.hid hhas; have HN := Lib.hid hnext
                clear hhas hin hb hnext
                go_wp2_with (go_at_call 66; refine (HH.out _).mono ?_; rintro e w' ⟨rfl, rfl⟩)
                go_round
                case rel => exact ⟨k + 1, by omega, by omega, by go_num, HN⟩
                case measure => simp [intOf]; omega
              · rw [hb] at hin
                have hhas : ∀ W, Calls Tryd.prog 66 #[VM s, .int .i64 (k : Int)] W fun e w' => e = .returned (.bool true) ∧ W = w' := fun W => hin ▸ rhas_any s k W
                have HH := Lib.hid hhas; have HR0 := Lib.hid (HE.out ⟨k, hk1, hlt, hb⟩)
                clear hhas hin hb
                go_wp2_with (go_at_call 66; refine (HH.out _).mono ?_; rintro e w' ⟨rfl, rfl⟩)
                go_ret
                exact ⟨by rw [HR0.out]; rfl, HU.out⟩
            · obtain rfl : k = 32 := by omega
              have HR0 := Lib.hid (HA.out HI.out)
              go_wp2
              go_ret
              exact ⟨by rw [HR0.out]; rfl, HU.out⟩
        · have hbs : ((s.toNat : Int) != 0) = true := by
            have : s.toNat ≠ 0 := fun e => hs (BitVec.eq_of_toNat_eq (by simpa using e))
            simp; omega
          have HR0 := Lib.hid (show r = false from by rw [← HR.out, mayE_own (by omega)]; simp [hs])
          clear hs
          go_enter Tryd.func105, Tryd.ntmps105
          go_wp2
          go_ret
          exact ⟨by rw [HR0.out]; rfl, HU.out⟩
      · obtain rfl : o = -1 := by omega
        have HA := Lib.hid (show (∀ i, 16 ≤ i → i < 32 → s.getLsbD i = false) → r = true from fun h => by rw [← HR.out, mayE_in rfl, decide_eq_true_eq, high_iff]; exact h)
        have HE := Lib.hid (show (∃ i, 16 ≤ i ∧ i < 32 ∧ s.getLsbD i = true) → r = false from fun ⟨i, h1, h2, h3⟩ => by
          rw [← HR.out, mayE_in rfl, decide_eq_false_iff_not, high_iff]
          exact fun h => by rw [h i h1 h2] at h3; cases h3)
        clear h1 h2 h3
        go_enter Tryd.func105, Tryd.ntmps105
        go_wp2_with fail
        go_loop [3] (fun i => ∃ k : Nat, 16 ≤ k ∧ k ≤ 32 ∧ i = .int .i64 k ∧ Hid (∀ i, 16 ≤ i → i < k → s.getLsbD i = false)) (fun i => 32 - (intOf i).toNat)
        case atStart => exact ⟨16, by omega, by omega, rfl, fun i h1 h2 => by omega⟩
        case round =>
          obtain ⟨k, hk1, hk2, rfl, HI⟩ := hrel
          by_cases hlt : k < 32
          · have hin : inM s (k : Int) = s.getLsbD k := by unfold inM; simp; intro _; omega
            cases hb : s.getLsbD k
            · rw [hb] at hin
              have hhas : ∀ W, Calls Tryd.prog 66 #[VM s, .int .i64 (k : Int)] W fun e w' => e = .returned (.bool false) ∧ W = w' := fun W => hin ▸ rhas_any s k W
              have hnext : ∀ i, 16 ≤ i → i < k + 1 → s.getLsbD i = false := fun i h1 h2 => by
                by_cases e : i = k
                · rw [e]; exact hb
                · exact HI.out i h1 (by omega)
              have HH := Lib.hid hhas; have HN := Lib.hid hnext
              clear hhas hin hb hnext
              go_wp2_with (go_at_call 66; refine (HH.out _).mono ?_; rintro e w' ⟨rfl, rfl⟩)
              go_round
              case rel => exact ⟨k + 1, by omega, by omega, by go_num, HN⟩
              case measure => simp [intOf]; omega
            · rw [hb] at hin
              have hhas : ∀ W, Calls Tryd.prog 66 #[VM s, .int .i64 (k : Int)] W fun e w' => e = .returned (.bool true) ∧ W = w' := fun W => hin ▸ rhas_any s k W
              have HH := Lib.hid hhas; have HR0 := Lib.hid (HE.out ⟨k, hk1, hlt, hb⟩)
              clear hhas hin hb
              go_wp2_with (go_at_call 66; refine (HH.out _).mono ?_; rintro e w' ⟨rfl, rfl⟩)
              go_ret
              exact ⟨by rw [HR0.out]; rfl, HU.out⟩
          · obtain rfl : k = 32 := by omega
            have HR0 := Lib.hid (HA.out HI.out)
            go_wp2
            go_ret
            exact ⟨by rw [HR0.out]; rfl, HU.out⟩
end Go.Proofs.YtlhbnndnkcpomaaDoor.ET
