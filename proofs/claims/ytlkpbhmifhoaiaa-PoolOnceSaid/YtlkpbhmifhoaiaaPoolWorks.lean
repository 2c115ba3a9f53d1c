/- The statements of layer 3 (pool): what each Go function does. -/
import Derived.Test.YtlkpbhmifhoaiaaPoolInt
import Derived.Test.YtlkpbhmifhoaiaaPoolString
set_option linter.unusedSimpArgs false
set_option linter.unusedVariables false
namespace Go.Proofs.Ytlkpbhmifhoaiaa.PW
open Go.RowKit
open PI (Vint)

theorem works_any (w : World) : Calls Try.prog 9 #[] w fun e w' => e = .returned (.bool true) ∧ Below w.heap.size w w' := by
  have hB : w.heap.size ≤ w.heap.size := Nat.le_refl _
  go_enter Try.func9, Try.ntmps9
  go_wp2_with fail
  refine (PS.new_ok 2 (by omega) (by omega) w).mono ?_
  rintro e w1 ⟨b, rfl, hu1, hp1⟩
  have Hu1 := Lib.hid (hu1.toFrom (B := w.heap.size)); have Hp1 := Lib.hid hp1; clear hu1 hp1
  go_wp2_with fail
  refine (PS.put_from w.heap.size w1 _ [] 2 ⟨#[97]⟩ Hu1.out.size Hp1.out (by decide) (by omega)).mono ?_
  rintro e w2 ⟨rfl, hu2, hp2⟩
  have Hu2 := Lib.hid (Hu1.out.from hu2); have Hp2 := Lib.hid hp2; clear hu2 hp2
  go_wp2_with fail
  refine (PS.put_from w.heap.size w2 _ [⟨#[97]⟩] 2 ⟨#[98]⟩ Hu2.out.size Hp2.out (by decide) (by omega)).mono ?_
  rintro e w3 ⟨rfl, hu3, hp3⟩
  have Hu3 := Lib.hid (Hu2.out.from hu3); have Hp3 := Lib.hid hp3; clear hu3 hp3
  go_wp2_with fail
  refine (PS.put_full w3 _ _ [⟨#[97]⟩, ⟨#[98]⟩] 2 ⟨#[99]⟩ Hp3.out (by decide)).mono ?_
  rintro e w4 ⟨rfl, hu4⟩
  have Hu4 := Lib.hid (Hu3.out.from hu4.toFrom)
  have Hp4 := Lib.hid (Hp3.out.upd hu4 (fun _ _ h => h))
  clear hu4
  go_wp2_with fail
  refine (PS.take_from w.heap.size w4 _ [⟨#[97]⟩, ⟨#[98]⟩] 2 0 ⟨#[97]⟩ Hu4.out.size Hp4.out rfl (by decide)).mono ?_
  rintro e w5 ⟨rfl, hu5, hp5⟩
  have Hu5 := Lib.hid (Hu4.out.from hu5); have Hp5 := Lib.hid hp5; clear hu5 hp5
  go_wp2_with fail
  refine (PS.at_ok w5 _ _ [⟨#[98]⟩] 2 0 ⟨#[98]⟩ Hp5.out rfl).mono ?_
  rintro e w6 ⟨rfl, rfl⟩
  go_wp2_with fail
  refine (PS.take_bad w5 _ _ [⟨#[98]⟩] 2 1 Hp5.out (by decide)).mono ?_
  rintro e w6 ⟨rfl, rfl⟩
  go_wp2_with fail
  refine (PS.len_any w5 _ _ [⟨#[98]⟩] 2 Hp5.out).mono ?_
  rintro e w6 ⟨rfl, rfl⟩
  go_wp2_with fail
  go_ret
  exact ⟨rfl, Hu5.out.belowFrom (Nat.le_refl _)⟩

theorem keep {w wr : World} (hu : Upd (From w.heap.size) w wr) {a : Addr} {v : Value} (h : w.cell? a = some v) : wr.cell? a = some v :=
  hu.cell h (fun hf => by have := World.block_lt_of_cell? w a h; unfold From at hf; omega)

theorem first_nil (w : World) : Calls Try.prog 22 #[.pointer none, .nilFunc] w fun e w' => e = .returned (.int .i64 (-1)) ∧ Below w.heap.size w w' := by
  go_enter Try.func22, Try.ntmps22
  go_wp2
  refine bodyPost_ret (v := .int .i64 (-1)) (by simp [results, Try.f22, go_sem]) rfl ⟨rfl, ?_⟩
  exact (((Below.refl _ w).alloc (Nat.le_refl _) _).alloc (by simp) _)

theorem known_any (w : World) : Calls Try.prog 7 #[] w fun e w' => e = .returned (.bool true) ∧ Below w.heap.size w w' := by
  go_enter Try.func7, Try.ntmps7
  go_wp2_with (first | (go_at_call 12; refine (PI.take_nil _ _).mono ?_; rintro e w' ⟨rfl, rfl⟩) | (go_at_call 21; refine (PI.at_nil _ _).mono ?_; rintro e w' ⟨rfl, rfl⟩) | (go_at_call 10; refine (PI.new_bad _ (by omega) _).mono ?_; rintro e w' ⟨rfl, rfl⟩) | (go_at_call 9; fail))
  refine (works_any w).mono ?_
  rintro e w1 ⟨rfl, hb1⟩
  have Hb1 := Lib.hid hb1; clear hb1
  go_wp2_with (first | (go_at_call 11; refine (PI.put_nil _ _).mono ?_; rintro e w' ⟨rfl, rfl⟩) | (go_at_call 13; refine (PI.len_nil _).mono ?_; rintro e w' ⟨rfl, rfl⟩) | (go_at_call 20; refine (PI.room_nil _).mono ?_; rintro e w' ⟨rfl, rfl⟩) | (go_at_call 22; fail))
  refine (first_nil _).mono ?_
  rintro e w2 ⟨rfl, hb2⟩
  have Hb2 := Lib.hid hb2; clear hb2
  go_wp2_with (go_at_call 19; refine (PI.copy_nil _).mono ?_; rintro e w' ⟨rfl, rfl⟩)
  go_ret
  exact ⟨rfl, Hb1.out.trans (Hb2.out.mono Hb1.out.size)⟩

/-- a, a + 1, .., m of them. -/
def seqI (a m : Nat) : List Int := (List.range m).map fun i => ((a + i : Nat) : Int)
theorem seqI_length (a m : Nat) : (seqI a m).length = m := by simp [seqI]
theorem seqI_snoc (a m : Nat) : seqI a m ++ [((a + m : Nat) : Int)] = seqI a (m + 1) := by simp [seqI, List.range_succ]
theorem seqI_head (a m : Nat) (h : 0 < m) : (seqI a m)[0]? = some (a : Int) := by simp [seqI, h]
theorem seqI_tail (a m : Nat) : (seqI a (m + 1)).eraseIdx 0 = seqI (a + 1) m := by
  simp only [seqI, List.range_succ_eq_map, List.map_cons, List.map_map, List.eraseIdx_cons_zero]
  apply List.map_congr_left
  intro i _
  simp; omega

set_option maxRecDepth 100000 in
set_option maxHeartbeats 2000000 in
theorem inOrder_any (room : Int) (a : Option Addr) (len cap : Nat) (Bs : Nat → Bool) (w : World) (h1 : IsRow1 w a len cap (fun i => .bool (Bs i))) :
    Calls Try.prog 3 #[.int .i64 room, .slice a len cap] w fun e w' => e = .returned (.bool true) ∧ Below w.heap.size w w' := by
  obtain ⟨l1, m1, c1⟩ := h1
  unfold maxLen at m1
  have C1 := Lib.hid c1
  clear c1
  by_cases hbig : 300 < len
  · go_enter Try.func3, Try.ntmps3
    go_wp2_with (go_at_call 9; refine (works_any _).mono ?_; rintro e w' ⟨rfl, hb⟩)
    go_ret
    exact ⟨rfl, by assumption⟩
  · have hb0 : decide ((300 : Int) < (len : Int)) = false := by simp; omega
    by_cases hr : room < 1 ∨ 65536 < room
    · have Hr := Lib.hid hr
      clear hr
      go_enter Try.func3, Try.ntmps3
      go_wp2_with (first | (go_at_call 10; refine (PI.new_bad _ Hr.out _).mono ?_; rintro e w' ⟨rfl, rfl⟩) | (go_at_call 9; refine (works_any _).mono ?_; rintro e w' ⟨rfl, hb⟩))
      go_ret
      exact ⟨rfl, by assumption⟩
    · have hr1 : 1 ≤ room := by omega
      have hr2 : room ≤ 65536 := by omega
      clear hr
      go_enter Try.func3, Try.ntmps3
      go_wp2_with (go_at_call 10; refine (PI.new_ok _ hr1 hr2 _).mono ?_; rintro e w1 ⟨b, rfl, hu1, hp1⟩; have Hu1 := Lib.hid (hu1.toFrom (B := w.heap.size)); have Hp1 := Lib.hid hp1; clear hu1 hp1)
      go_loopw [7, 8, 31] (fun nx wt i wr => ∃ k m s : Nat, k ≤ len ∧ s + m ≤ k ∧ (m : Int) ≤ room ∧ i = .int .i64 k ∧ nx = .int .i64 ((s : Int) + (m : Int)) ∧ wt = .int .i64 s ∧ Hid (Upd (From w.heap.size) w wr ∧ PoolIs 64 3 1 wr (From w.heap.size) (.pointer (some ⟨b, 0, none⟩)) (onesOf Vint (seqI s m)) room)) (fun _ _ i _ => len - (intOf i).toNat)
      case atStart => exact ⟨0, 0, 0, Nat.zero_le _, Nat.zero_le _, by omega, rfl, rfl, rfl, ⟨Hu1.out, Hp1.out⟩⟩
      case round =>
        obtain ⟨k, m, s, hk, hsm, hmr, rfl, rfl, rfl, HI⟩ := hrel
        have Hsz := Lib.hid HI.out.1.size
        by_cases hlt : k < len
        · obtain ⟨x1, rfl, g1⟩ := C1.out k hlt
          have g1' := keep HI.out.1 g1
          generalize Bs k = put at *
          clear g1
          cases put
          · rcases Nat.eq_zero_or_pos m with rfl | hm
            · go_wp2_with (first | (go_at_call 12; refine (PI.take_bad _ _ _ (seqI s 0) _ _ HI.out.2 (by simp [seqI])).mono ?_; rintro e w' ⟨rfl, rfl⟩))
              go_roundw
              case rel => exact ⟨k + 1, 0, s, by omega, by omega, by omega, by go_num, rfl, rfl, HI⟩
              case measure => simp [intOf]; omega
            · go_wp2_with (first | (go_at_call 12; refine (PI.take_from w.heap.size _ _ (seqI s m) _ 0 s Hsz.out HI.out.2 (seqI_head s m hm) (by rw [seqI_length]; omega)).mono ?_; rintro e w2 ⟨rfl, hu2, hp2⟩; have HJ := Lib.hid (And.intro (HI.out.1.from hu2) hp2); clear hu2 hp2))
              go_roundw
              case rel =>
                obtain ⟨m', rfl⟩ : ∃ m', m = m' + 1 := ⟨m - 1, by omega⟩
                rw [seqI_tail] at HJ
                exact ⟨k + 1, m', s + 1, by omega, by omega, by omega, by go_num, by congr 1; all_goals omega, by go_num, HJ⟩
              case measure => simp [intOf]; omega
          · by_cases hm : (m : Int) < room
            · have hd : (s : Int) + (m : Int) - (s : Int) < room := by omega
              go_wp2_with (first | (go_at_call 11; refine (PI.put_from w.heap.size _ _ (seqI s m) _ _ Hsz.out HI.out.2 (by rw [seqI_length]; exact hm) hr2).mono ?_; rintro e w2 ⟨rfl, hu2, hp2⟩; have HJ := Lib.hid (And.intro (HI.out.1.from hu2) hp2); clear hu2 hp2))
              go_roundw
              case rel =>
                have e2 : (s : Int) + (m : Int) = ((s + m : Nat) : Int) := by omega
                rw [e2, seqI_snoc] at HJ
                exact ⟨k + 1, m + 1, s, by omega, by omega, by omega, by go_num, by congr 1; all_goals omega, rfl, HJ⟩
              case measure => simp [intOf]; omega
            · have hd : room ≤ (s : Int) + (m : Int) - (s : Int) := by omega
              go_wp2_with (first | (go_at_call 11; refine (PI.put_full _ _ _ (seqI s m) _ _ HI.out.2 (by rw [seqI_length]; omega)).mono ?_; rintro e w2 ⟨rfl, hu2⟩; have HJ := Lib.hid (And.intro (HI.out.1.from hu2.toFrom) (HI.out.2.upd hu2 (fun _ _ h => h))); clear hu2))
              go_roundw
              case rel => exact ⟨k + 1, m, s, by omega, by omega, by omega, by go_num, rfl, rfl, HJ⟩
              case measure => simp [intOf]; omega
        · have hd : (((seqI s m).length : Nat) : Int) = (s : Int) + (m : Int) - (s : Int) := by rw [seqI_length]; omega
          have hd1 := beq_iff_eq.2 hd
          have Hd := Lib.hid hd
          clear hd
          go_wp2_with (first | (go_at_call 13; refine (PI.len_any _ _ _ _ _ HI.out.2).mono ?_; rintro e w' ⟨rfl, rfl⟩) | (go_at_call 9; refine (works_any _).mono ?_; rintro e w' ⟨rfl, hb9⟩))
          go_ret
          exact ⟨rfl, (HI.out.1.from (Below.toFrom (by assumption))).belowFrom (Nat.le_refl _)⟩
end Go.Proofs.Ytlkpbhmifhoaiaa.PW
