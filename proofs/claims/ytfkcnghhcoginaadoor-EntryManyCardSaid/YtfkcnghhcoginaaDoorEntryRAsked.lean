/- The document's Asked. -/
import Derived.Test.YtfkcnghhcoginaaDoorEntryAsked
set_option linter.unusedSimpArgs false
set_option linter.unusedVariables false
namespace Go.Proofs.YtfkcnghhcoginaaDoor.ET
open Go.RowKit
open ML
attribute [local go_sem] Oper.semAt_some run_eql_entry run_neq_entry

theorem ab_keep {o x : Int} {s m : Mk} {t : Bool} {n : Nat} (h : ∀ i, i < 32 → m.getLsbD i = askedBit o s t x n i) (hf : (decide ((n : Int) ≠ x) && (decide (o = n) || (t && s.getLsbD n))) = false) :
    ∀ i, i < 32 → m.getLsbD i = askedBit o s t x (n + 1) i := by
  intro i hi
  rw [h i hi]
  unfold askedBit
  by_cases e : i = n
  · subst e
    rw [hf]; simp
  · have : decide (i < n + 1) = decide (i < n) := by apply decide_eq_decide.2; omega
    rw [this]
theorem ab_put {o x : Int} {s m : Mk} {t : Bool} {n : Nat} (hn : n < 16) (h : ∀ i, i < 32 → m.getLsbD i = askedBit o s t x n i) (hf : (decide ((n : Int) ≠ x) && (decide (o = n) || (t && s.getLsbD n))) = true) :
    ∀ i, i < 32 → (m ||| bitB (n : Int)).getLsbD i = askedBit o s t x (n + 1) i := by
  intro i hi
  rw [BitVec.getLsbD_or, h i hi, bitB_in (by omega) (by omega), BitVec.getLsbD_twoPow]
  unfold askedBit
  by_cases e : i = n
  · subst e
    rw [hf]; simp; omega
  · have h1 : decide (i < n + 1) = decide (i < n) := by apply decide_eq_decide.2; omega
    have h2 : ¬ (n : Int).toNat = i := by omega
    rw [h1]; simp [h2]; intro hh; omega

set_option maxRecDepth 100000 in
set_option maxHeartbeats 2000000 in
theorem rasked_e (o : Int) (s : Mk) (k x : Int) (w : World) : Calls Tryd.prog 10 #[VE o s, .int .u8 k, .int .i64 x] w fun e w' => e = .returned (askedV o s k x) ∧ Upd NoF w w' := by
  generalize hr : askedV o s k x = r
  have HR := Lib.hid hr
  clear hr
  go_enter Tryd.func10, Tryd.ntmps10
  go_wp2_with fail
  obtain ⟨W0, hW0⟩ : ∃ W0, w.alloc (.cells #[.int .i64 o, VM s] 25) = W0 := ⟨_, rfl⟩
  have hU0 : Upd NoF w W0 := by rw [← hW0]; exact Upd.alloc NoF w _
  have b1 : Blk W0 w.heap.size #[.int .i64 o, VM s] 25 := by rw [← hW0]; exact Blk.new w _ _
  rw [hW0]
  clear hW0
  refine (rask_any o s k x W0).mono ?_
  rintro e w1 ⟨rfl, hu⟩
  have HU := Lib.hid (hU0.trans hu (fun _ _ h => h))
  have q1 := b1.upd hu (fun h => h)
  have c0 : w1.cell? ⟨w.heap.size, 0, none⟩ = some (.int .i64 o) := q1.cell 0
  have c1 : w1.cell? ⟨w.heap.size, 1, none⟩ = some (VM s) := q1.cell 1
  clear hu hU0 b1 q1
  cases ha : askE o s k x
  · have HV := Lib.hid (show r = .tuple #[.int .u32 0, .int .u8 0, .int .i64 2] from by rw [← HR.out]; unfold askedV; rw [ha]; rfl)
    clear ha
    go_wp2
    go_ret3
    exact ⟨by rw [HV.out]; rfl, HU.out⟩
  · obtain ⟨⟨hm, hk⟩, hc⟩ : (mayE o s = true ∧ (k = 1 ∨ k = 2)) ∧ coreB x = true := by
      unfold askE at ha
      simpa using ha
    have HV := Lib.hid (show r = .tuple #[VM (whoE o s k x), .int .u8 (k + 3), .int .i64 0] from by rw [← HR.out]; unfold askedV; rw [ha, if_pos rfl])
    have HW := Lib.hid (fun m h => who_bits (k := k) hm hc (m := m) h)
    clear ha hm hc HR
    rcases hk with rfl | rfl
    · go_wp2_with fail
      go_loop [10, 11] (fun mv i => ∃ (n : Nat) (m : Mk), n ≤ 16 ∧ i = .int .i64 n ∧ mv = VM m ∧ Hid (∀ i, i < 32 → m.getLsbD i = askedBit o s false x n i)) (fun _ i => 16 - (intOf i).toNat)
      case atStart => exact ⟨0, 0#32, by omega, rfl, rfl, fun i hi => by simp [askedBit]⟩
      case round =>
        obtain ⟨n, m, hn, rfl, rfl, HI⟩ := hrel
        by_cases hlt : n < 16
        · by_cases hx : (n : Int) = x
          · subst hx
            have HN := Lib.hid (ab_keep HI.out (by simp))
            go_wp2
            go_round
            case rel => exact ⟨n + 1, m, by omega, by go_num, rfl, HN⟩
            case measure => simp [intOf]; omega
          · have hxb : ((n : Int) != x) = true := by simpa using hx
            by_cases ho : o = n
            · subst ho
              have HN := Lib.hid (ab_put hlt HI.out (by simp [hx]))
              have HP := Lib.hid (fun W => rwith_any m (n : Int) W)
              generalize m ||| bitB (n : Int) = m' at *
              go_wp2_with (go_at_call_of 27 m; refine (HP.out _).mono ?_; rintro e w' ⟨rfl, rfl⟩)
              go_round
              case rel => exact ⟨n + 1, m', by omega, by go_num, rfl, HN⟩
              case measure => simp [intOf]; omega
            · have hob : (o == (n : Int)) = false := by simpa using ho
              have HN := Lib.hid (ab_keep HI.out (by simp [ho]))
              go_wp2
              go_round
              case rel => exact ⟨n + 1, m, by omega, by go_num, rfl, HN⟩
              case measure => simp [intOf]; omega
        · obtain rfl : n = 16 := by omega
          have hm := HW.out m (by simpa using HI.out)
          subst hm
          go_wp2
          go_ret3
          exact ⟨by rw [HV.out]; rfl, HU.out⟩
    · go_wp2_with fail
      go_loop [10, 11] (fun mv i => ∃ (n : Nat) (m : Mk), n ≤ 16 ∧ i = .int .i64 n ∧ mv = VM m ∧ Hid (∀ i, i < 32 → m.getLsbD i = askedBit o s true x n i)) (fun _ i => 16 - (intOf i).toNat)
      case atStart => exact ⟨0, 0#32, by omega, rfl, rfl, fun i hi => by simp [askedBit]⟩
      case round =>
        obtain ⟨n, m, hn, rfl, rfl, HI⟩ := hrel
        by_cases hlt : n < 16
        · by_cases hx : (n : Int) = x
          · subst hx
            have HN := Lib.hid (ab_keep HI.out (by simp))
            go_wp2
            go_round
            case rel => exact ⟨n + 1, m, by omega, by go_num, rfl, HN⟩
            case measure => simp [intOf]; omega
          · have hxb : ((n : Int) != x) = true := by simpa using hx
            by_cases ho : o = n
            · subst ho
              have HN := Lib.hid (ab_put hlt HI.out (by simp [hx]))
              have HP := Lib.hid (fun W => rwith_any m (n : Int) W)
              generalize m ||| bitB (n : Int) = m' at *
              go_wp2_with (go_at_call_of 27 m; refine (HP.out _).mono ?_; rintro e w' ⟨rfl, rfl⟩)
              go_round
              case rel => exact ⟨n + 1, m', by omega, by go_num, rfl, HN⟩
              case measure => simp [intOf]; omega
            · have hob : (o == (n : Int)) = false := by simpa using ho
              have hin : inM s (n : Int) = s.getLsbD n := by unfold inM; simp; intro _; omega
              cases hb : s.getLsbD n
              · rw [hb] at hin
                have HN := Lib.hid (ab_keep HI.out (by simp [ho, hb]))
                have HH := Lib.hid (hin ▸ (fun W => rhas_any s (n : Int) W) : ∀ W, Calls Tryd.prog 26 #[VM s, .int .i64 (n : Int)] W fun e w' => e = .returned (.bool false) ∧ W = w')
                clear hin hb
                go_wp2_with (go_at_call 26; refine (HH.out _).mono ?_; rintro e w' ⟨rfl, rfl⟩)
                go_round
                case rel => exact ⟨n + 1, m, by omega, by go_num, rfl, HN⟩
                case measure => simp [intOf]; omega
              · rw [hb] at hin
                have HN := Lib.hid (ab_put hlt HI.out (by simp [hx, hb]))
                have HP := Lib.hid (fun W => rwith_any m (n : Int) W)
                generalize m ||| bitB (n : Int) = m' at *
                have HH := Lib.hid (hin ▸ (fun W => rhas_any s (n : Int) W) : ∀ W, Calls Tryd.prog 26 #[VM s, .int .i64 (n : Int)] W fun e w' => e = .returned (.bool true) ∧ W = w')
                clear hin hb
                go_wp2_with (first | (go_at_call_of 26 s; refine (HH.out _).mono ?_; rintro e w' ⟨rfl, rfl⟩) | (go_at_call_of 27 m; refine (HP.out _).mono ?_; rintro e w' ⟨rfl, rfl⟩))
                go_round
                case rel => exact ⟨n + 1, m', by omega, by go_num, rfl, HN⟩
                case measure => simp [intOf]; omega
        · obtain rfl : n = 16 := by omega
          have hm := HW.out m (by simpa using HI.out)
          subst hm
          go_wp2
          go_ret3
          exact ⟨by rw [HV.out]; rfl, HU.out⟩
end Go.Proofs.YtfkcnghhcoginaaDoor.ET
