/- Packages victim and plan, as the cache uses them. -/
import Derived.Test.YtaneobggbplkbaaCacheIdx
set_option linter.unusedSimpArgs false
set_option linter.unusedVariables false
namespace Go.Proofs.Ytaneobggbplkbaa.KA
open Go.RowKit
open BU (IsU words)
open PL (Cfg CC CV May)
attribute [local go_sem] Oper.semAt_some
theorem and_sets (b s : Int) (hb : 0 ≤ b ∧ b < 256) (hs : s = 1 ∨ s = 2 ∨ s = 4 ∨ s = 8 ∨ s = 16) : bits .and .i64 b (s - 1) = b % s := by
  have key : ∀ k : Fin 256, bits .and .i64 (k.val : Int) 0 = (k.val : Int) % 1 ∧ bits .and .i64 (k.val : Int) 1 = (k.val : Int) % 2 ∧ bits .and .i64 (k.val : Int) 3 = (k.val : Int) % 4 ∧ bits .and .i64 (k.val : Int) 7 = (k.val : Int) % 8 ∧ bits .and .i64 (k.val : Int) 15 = (k.val : Int) % 16 := by decide +kernel
  have hk := key ⟨b.toNat, by omega⟩
  have e : ((b.toNat : Nat) : Int) = b := by omega
  simp only [e] at hk
  rcases hs with rfl | rfl | rfl | rfl | rfl
  · exact hk.1
  · exact hk.2.1
  · exact hk.2.2.1
  · exact hk.2.2.2.1
  · exact hk.2.2.2.2
set_option maxRecDepth 100000 in
theorem set_any (c : Cfg) (hc : May c) (b : Int) (hb : 0 ≤ b ∧ b < 256) (w : World) : Calls Try.prog 15 #[CV c, .int .i64 b] w fun e w' => e = .returned (.int .i64 (b % c.sets)) ∧ Upd NoF w w' := by
  have hm := PL.may_any c
  rw [decide_eq_true hc] at hm
  have HM := Lib.hid (hm (w.alloc (.cells (CC c) 23)))
  have ha := and_sets b c.sets hb hc.2.2.2.2.2.2.1
  have hsr : 1 ≤ c.sets ∧ c.sets ≤ 16 := by have := hc.2.2.2.2.2.2.1; omega
  have hw1 : IntKind.i64.wrap (c.sets - 1) = c.sets - 1 := IntWalk.i64_in _ (by omega)
  have g0 : decide (b < 0) = false := by simp; omega
  have HU := Lib.hid (Upd.alloc NoF w (.cells (CC c) 23))
  have q := Blk.new w (CC c) 23
  have HQ := Lib.hid q
  clear hm hc hb hsr q
  generalize b % c.sets = r at *
  go_enter Try.func15, Try.ntmps15
  go_wp2_with fail
  refine HM.out.mono ?_
  rintro e w2 ⟨rfl, hu⟩
  have q1 : w2.cell? ⟨w.heap.size, 1, none⟩ = some (.int .i64 c.sets) := (HQ.out.upd hu (fun h => h)).cell 1
  have HU2 := Lib.hid (HU.out.trans hu (fun _ _ h => h))
  clear hu HM HQ
  go_wp2
  go_ret
  exact ⟨rfl, HU2.out⟩
def putV (m : Int) (bit : Nat) (one : Bool) : Int := if one then ((m.toNat ||| (1 <<< bit) : Nat) : Int) else ((m.toNat &&& (255 - 1 <<< bit) : Nat) : Int)
theorem putV_rng {m : Int} (hm : 0 ≤ m ∧ m ≤ 255) (bit : Nat) (hb : bit < 3) (one : Bool) : 0 ≤ putV m bit one ∧ putV m bit one ≤ 255 := by
  have key : ∀ k : Fin 256, ∀ j : Fin 3, ∀ o : Bool, putV (k.val : Int) j.val o ≤ 255 := by decide +kernel
  have := key ⟨m.toNat, by omega⟩ ⟨bit, hb⟩ one
  have e : ((m.toNat : Nat) : Int) = m := by omega
  simp only [e] at this
  refine ⟨?_, this⟩
  unfold putV
  split <;> omega
theorem put_forms (m : Int) (hm : 0 ≤ m ∧ m ≤ 255) : bits .or .u8 m 1 = putV m 0 true ∧ bits .or .u8 m 2 = putV m 1 true ∧ bits .or .u8 m 4 = putV m 2 true ∧
    bits .andNot .u8 m 1 = putV m 0 false ∧ bits .andNot .u8 m 2 = putV m 1 false ∧ bits .andNot .u8 m 4 = putV m 2 false := by
  have key : ∀ k : Fin 256, bits .or .u8 (k.val : Int) 1 = putV k.val 0 true ∧ bits .or .u8 (k.val : Int) 2 = putV k.val 1 true ∧ bits .or .u8 (k.val : Int) 4 = putV k.val 2 true ∧
    bits .andNot .u8 (k.val : Int) 1 = putV k.val 0 false ∧ bits .andNot .u8 (k.val : Int) 2 = putV k.val 1 false ∧ bits .andNot .u8 (k.val : Int) 4 = putV k.val 2 false := by decide +kernel
  have := key ⟨m.toNat, by omega⟩
  have e : ((m.toNat : Nat) : Int) = m := by omega
  simp only [e] at this
  exact this
theorem put_any (m : Int) (hm : 0 ≤ m ∧ m ≤ 255) (bit : Int) (hb : bit = 0 ∨ bit = 1 ∨ bit = 2) (one : Bool) (w : World) : Calls Try.prog 61 #[.int .u8 m, .int .i64 bit, .bool one] w fun e w' => e = .returned (.int .u8 (putV m bit.toNat one)) ∧ w = w' := by
  obtain ⟨o0, o1, o2, n0, n1, n2⟩ := put_forms m hm
  rcases hb with rfl | rfl | rfl <;> cases one
  all_goals
    simp only [Int.toNat_zero, Int.toNat_one, show (2 : Int).toNat = 2 from rfl]
    go_enter Try.func61, Try.ntmps61
    go_wp2
    go_ret
    exact ⟨by simp [*], rfl⟩
def useV (m ways way : Int) : Int := if ways = 4 then putV (putV m (1 + way / 2).toNat (way % 2 == 0)) 0 (way / 2 == 0) else if ways = 2 then putV m 0 (way == 0) else m
theorem useV_rng {m : Int} (hm : 0 ≤ m ∧ m ≤ 255) (ways way : Int) (hw : way < ways) (h0 : 0 ≤ way) : 0 ≤ useV m ways way ∧ useV m ways way ≤ 255 := by
  unfold useV
  split
  · exact putV_rng (putV_rng hm _ (by omega) _) _ (by omega) _
  · split
    · exact putV_rng hm _ (by omega) _
    · exact hm
set_option maxRecDepth 100000 in
theorem use_any (m : Int) (hm : 0 ≤ m ∧ m ≤ 255) (ways way : Int) (hs : ways = 1 ∨ ways = 2 ∨ ways = 4) (h0 : 0 ≤ way) (h1 : way < ways) (w : World) :
    Calls Try.prog 51 #[.int .u8 m, .int .i64 ways, .int .i64 way] w fun e w' => e = .returned (.tuple #[.int .u8 (useV m ways way), .int .i64 0]) ∧ w = w' := by
  have P := Lib.hid (fun (x : Int) (hx : 0 ≤ x ∧ x ≤ 255) (bit : Int) hb one => put_any x hx bit hb one w)
  rcases hs with rfl | rfl | rfl
  · obtain rfl : way = 0 := by omega
    have e : useV m 1 0 = m := rfl
    rw [e]
    go_enter Try.func51, Try.ntmps51
    go_wp2
    go_ret2
    exact ⟨rfl, rfl⟩
  · have : way = 0 ∨ way = 1 := by omega
    rcases this with rfl | rfl
    · have e : useV m 2 0 = putV m 0 true := rfl
      rw [e]
      go_enter Try.func51, Try.ntmps51
      go_wp2_with fail
      refine (P.out m hm 0 (.inl rfl) true).mono ?_
      rintro e w2 ⟨rfl, rfl⟩
      go_wp2
      go_ret2
      exact ⟨rfl, rfl⟩
    · have e : useV m 2 1 = putV m 0 false := rfl
      rw [e]
      go_enter Try.func51, Try.ntmps51
      go_wp2_with fail
      refine (P.out m hm 0 (.inl rfl) false).mono ?_
      rintro e w2 ⟨rfl, rfl⟩
      go_wp2
      go_ret2
      exact ⟨rfl, rfl⟩
  · have hw4 : way = 0 ∨ way = 1 ∨ way = 2 ∨ way = 3 := by omega
    rcases hw4 with rfl | rfl | rfl | rfl
    · have e : useV m 4 0 = putV (putV m 1 true) 0 true := rfl
      rw [e]
      have hr := putV_rng hm 1 (by omega) true
      go_enter Try.func51, Try.ntmps51
      go_wp2_with fail
      refine (P.out m hm 1 (.inr (.inl rfl)) true).mono ?_
      rintro e w2 ⟨rfl, rfl⟩
      go_wp2_with fail
      refine (P.out _ hr 0 (.inl rfl) true).mono ?_
      rintro e w2 ⟨rfl, rfl⟩
      go_wp2
      go_ret2
      exact ⟨rfl, rfl⟩
    · have e : useV m 4 1 = putV (putV m 1 false) 0 true := rfl
      rw [e]
      have hr := putV_rng hm 1 (by omega) false
      go_enter Try.func51, Try.ntmps51
      go_wp2_with fail
      refine (P.out m hm 1 (.inr (.inl rfl)) false).mono ?_
      rintro e w2 ⟨rfl, rfl⟩
      go_wp2_with fail
      refine (P.out _ hr 0 (.inl rfl) true).mono ?_
      rintro e w2 ⟨rfl, rfl⟩
      go_wp2
      go_ret2
      exact ⟨rfl, rfl⟩
    · have e : useV m 4 2 = putV (putV m 2 true) 0 false := rfl
      rw [e]
      have hr := putV_rng hm 2 (by omega) true
      go_enter Try.func51, Try.ntmps51
      go_wp2_with fail
      refine (P.out m hm 2 (.inr (.inr rfl)) true).mono ?_
      rintro e w2 ⟨rfl, rfl⟩
      go_wp2_with fail
      refine (P.out _ hr 0 (.inl rfl) false).mono ?_
      rintro e w2 ⟨rfl, rfl⟩
      go_wp2
      go_ret2
      exact ⟨rfl, rfl⟩
    · have e : useV m 4 3 = putV (putV m 2 false) 0 false := rfl
      rw [e]
      have hr := putV_rng hm 2 (by omega) false
      go_enter Try.func51, Try.ntmps51
      go_wp2_with fail
      refine (P.out m hm 2 (.inr (.inr rfl)) false).mono ?_
      rintro e w2 ⟨rfl, rfl⟩
      go_wp2_with fail
      refine (P.out _ hr 0 (.inl rfl) false).mono ?_
      rintro e w2 ⟨rfl, rfl⟩
      go_wp2
      go_ret2
      exact ⟨rfl, rfl⟩
def vicV (m ways : Int) : Int := if ways = 1 then 0 else if ways = 2 then m % 2 else 2 * (m % 2) + (m / (if m % 2 = 0 then 2 else 4)) % 2
theorem vicV_rng (m ways : Int) (hs : ways = 1 ∨ ways = 2 ∨ ways = 4) : 0 ≤ vicV m ways ∧ vicV m ways < ways := by
  unfold vicV
  rcases hs with rfl | rfl | rfl
  · simp
  · have := Int.emod_two_eq m; simp; omega
  · simp only [show ((4 : Int) = 1) = False by simp, show ((4 : Int) = 2) = False by simp, if_false]
    split <;> omega
set_option maxRecDepth 100000 in
theorem vic_any (m : Int) (hm : 0 ≤ m ∧ m ≤ 255) (ways : Int) (hs : ways = 1 ∨ ways = 2 ∨ ways = 4) (w : World) :
    Calls Try.prog 34 #[.int .u8 m, .int .i64 ways] w fun e w' => e = .returned (.tuple #[.int .i64 (vicV m ways), .int .i64 0]) ∧ w = w' := by
  have key : ∀ k : Fin 256, bits .and .u8 (k.val : Int) 1 = (k.val : Int) % 2 ∧ bits .and .u8 ((k.val : Int) / 2) 1 = (k.val : Int) / 2 % 2 ∧ bits .and .u8 ((k.val : Int) / 4) 1 = (k.val : Int) / 4 % 2 := by decide +kernel
  have hk := key ⟨m.toNat, by omega⟩
  have e : ((m.toNat : Nat) : Int) = m := by omega
  simp only [e] at hk
  obtain ⟨k1, k2, k3⟩ := hk
  clear key e
  rcases hs with rfl | rfl | rfl
  · have e : vicV m 1 = 0 := rfl
    rw [e]
    have hr : m % 2 = 0 ∨ m % 2 = 1 := by omega
    generalize m % 2 = r at *
    rcases hr with rfl | rfl
    all_goals
      go_enter Try.func34, Try.ntmps34
      go_wp2
      go_ret2
      exact ⟨rfl, rfl⟩
  · have e : vicV m 2 = m % 2 := rfl
    rw [e]
    have hr : m % 2 = 0 ∨ m % 2 = 1 := by omega
    generalize m % 2 = r at *
    rcases hr with rfl | rfl
    all_goals
      go_enter Try.func34, Try.ntmps34
      go_wp2
      go_ret2
      exact ⟨rfl, rfl⟩
  · have hr : m % 2 = 0 ∨ m % 2 = 1 := by omega
    rcases hr with h | h
    · have e : vicV m 4 = m / 2 % 2 := by unfold vicV; simp [h]
      rw [e]
      rw [h] at k1
      have hr2 : m / 2 % 2 = 0 ∨ m / 2 % 2 = 1 := by omega
      go_enter Try.func34, Try.ntmps34
      go_wp2
      go_ret2
      exact ⟨rfl, rfl⟩
    · have e : vicV m 4 = 2 + m / 4 % 2 := by unfold vicV; simp [h]
      rw [e]
      rw [h] at k1
      have hr2 : m / 4 % 2 = 0 ∨ m / 4 % 2 = 1 := by omega
      generalize m / 4 % 2 = r at *
      rcases hr2 with rfl | rfl
      all_goals
        go_enter Try.func34, Try.ntmps34
        go_wp2
        go_ret2
        exact ⟨rfl, rfl⟩
end Go.Proofs.Ytaneobggbplkbaa.KA
