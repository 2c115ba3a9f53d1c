/- The walks of the statements of layer 2. -/
import Derived.Test.YtamebdebpgakfaaDoorMaskWorks
set_option linter.unusedSimpArgs false
set_option linter.unusedVariables false
namespace Go.Proofs.YtamebdebpgakfaaDoor.ML
open Go.RowKit
attribute [local go_sem] Oper.semAt_some

set_option maxRecDepth 100000 in
theorem known_any (w : World) (hT : Tab w) : Calls Tryd.prog 6 #[] w fun e w' => e = .returned (.bool true) ∧ Below w.heap.size w w' := by
  have HT := Lib.hid hT
  clear hT
  go_enter Tryd.func6, Tryd.ntmps6
  go_wp2_with fail
  refine (of_any _ 1 1 (fun i => ([32] : List Int).getD i 0) _ (lit_is1 [32] (by decide) (Blk.new w _ _))).mono ?_
  rintro e w1 ⟨rfl, hw1⟩
  have hU1 : Upd NoF w w1 := by rw [← hw1]; exact Upd.alloc _ _ _
  clear hw1
  rw [show ofGo 0#32 (upTo (fun i => ([32] : List Int).getD i 0) 1) = none from by decide]
  have HU1 := Lib.hid hU1
  have HT1 := Lib.hid (HT.out.upd hU1 (fun h => h))
  have hs1 := hU1.size
  clear hU1
  go_wp2_with fail
  refine (works_any w1 HT1.out).mono ?_
  rintro e w2 ⟨rfl, hu2⟩
  have HU2 := Lib.hid ((HU1.out.toFrom (B := w.heap.size)).from (hu2.mono (fun i _ h => by unfold From at *; omega)))
  have HT2 := Lib.hid (HT1.out.upd hu2 (by have := HT1.out.lt; unfold From; omega))
  clear hu2
  go_wp2_with fail
  refine (least_any 12#32 (by decide) w2 HT2.out).mono ?_
  rintro e w3 ⟨rfl, rfl⟩
  rw [show ((Lib.ctz 32 (12#32).toNat : Nat) : Int) = 2 from by decide +kernel]
  go_wp2_with fail
  refine (count_any 12#32 w2).mono ?_
  rintro e w4 ⟨rfl, hu4⟩
  rw [show (((bitsL 12#32).length : Nat) : Int) = 2 from by decide +kernel]
  have HU4 := Lib.hid (HU2.out.from hu4.toFrom)
  clear hu4
  go_wp2_with fail
  refine (least_zero w4).mono ?_
  rintro e w5 ⟨rfl, rfl⟩
  go_wp2
  go_ret
  exact ⟨rfl, HU4.out.belowFrom (Nat.le_refl _)⟩

set_option maxRecDepth 100000 in
theorem changes_any (m : Mk) (n : Int) (w : World) (hT : Tab w) : Calls Tryd.prog 5 #[VM m, .int .i64 n] w fun e w' => e = .returned (.bool true) ∧ Below w.heap.size w w' := by
  have HT := Lib.hid hT
  clear hT
  have a1 := fun W => with_any m n W
  have a2 := fun W => rwith_any m n W
  have a3 := fun W => without_any m n W
  have a4 := fun W => rwithout_any m n W
  have a5 := fun W => has_any m n W
  have a6 := fun W => rhas_any m n W
  generalize m ||| bitB n = m2 at *
  generalize m &&& ~~~ bitB n = m3 at *
  generalize inM m n = b at *
  have A1 := Lib.hid a1; have A2 := Lib.hid a2; have A3 := Lib.hid a3; have A4 := Lib.hid a4; have A5 := Lib.hid a5; have A6 := Lib.hid a6
  clear a1 a2 a3 a4 a5 a6
  go_enter Tryd.func5, Tryd.ntmps5
  go_wp2_with (first | (go_at_call 13; refine (A1.out _).mono ?_; rintro e w' ⟨rfl, rfl⟩) | (go_at_call 14; refine (A2.out _).mono ?_; rintro e w' ⟨rfl, rfl⟩) | (go_at_call 15; refine (A3.out _).mono ?_; rintro e w' ⟨rfl, rfl⟩) | (go_at_call 16; refine (A4.out _).mono ?_; rintro e w' ⟨rfl, rfl⟩) | (go_at_call 17; refine (A5.out _).mono ?_; rintro e w' ⟨rfl, rfl⟩) | (go_at_call 18; refine (A6.out _).mono ?_; rintro e w' ⟨rfl, rfl⟩) | (go_at_call 9; refine (works_any _ HT.out).mono ?_; rintro e w' ⟨rfl, hu⟩; have HU := Lib.hid hu; clear hu))
  go_ret
  exact ⟨rfl, HU.out.belowFrom (Nat.le_refl _)⟩

theorem ofGo_list (l : List Nat) (hl : ∀ i ∈ l, i < 32) : ∀ m : Mk, ofGo m (l.map (fun x : Nat => (x : Int))) = some (l.foldl (fun (m : Mk) (i : Nat) => m ||| bitB (i : Int)) m) := by
  induction l with
  | nil => intro m; rfl
  | cons a l ih =>
    intro m
    have ha := hl a (by simp)
    simp only [List.map_cons, List.foldl_cons, ofGo]
    rw [if_neg (by omega)]
    exact ih (fun i hi => hl i (by simp [hi])) _
theorem ofGo_bitsL (m : Mk) : ofGo 0#32 ((bitsL m).map (fun x : Nat => (x : Int))) = some m := by
  rw [ofGo_list _ (bitsL_lt m)]
  exact congrArg some (ofL_bitsL m)

set_option maxRecDepth 100000 in
theorem back_any (m : Mk) (w : World) (hT : Tab w) : Calls Tryd.prog 4 #[VM m] w fun e w' => e = .returned (.bool true) ∧ Below w.heap.size w w' := by
  have HT := Lib.hid hT
  clear hT
  go_enter Tryd.func4, Tryd.ntmps4
  go_wp2_with fail
  refine (list_any m w HT.out).mono ?_
  rintro e w1 ⟨v, rfl, hr, hv, hu⟩
  have hL := bitsL_length m
  obtain ⟨a, cap, rfl, _⟩ := hr.slice
  obtain ⟨q1, _, q2⟩ := row_is1 hr
  have hof := of_any a (bitsL m).length cap _ w1 q1
  rw [q2, ofGo_bitsL] at hof
  generalize (bitsL m).length = n at *
  have HO := Lib.hid hof
  have HU := Lib.hid hu
  have HT1 := Lib.hid (HT.out.upd hu (fun h => h))
  have hs1 := hu.size
  clear hr hv hu q1 q2 hof
  go_wp2_with fail
  refine HO.out.mono ?_
  rintro e w2 ⟨rfl, rfl⟩
  go_wp2_with fail
  refine (works_any w1 HT1.out).mono ?_
  rintro e w2 ⟨rfl, hu2⟩
  have HU2 := Lib.hid ((HU.out.toFrom (B := w.heap.size)).from (hu2.mono (fun i _ h => by unfold From at *; omega)))
  clear hu2
  go_wp2
  go_ret
  exact ⟨rfl, HU2.out.belowFrom (Nat.le_refl _)⟩

set_option maxRecDepth 100000 in
theorem rof_any (a : Option Addr) (len cap : Nat) (Z : Nat → Int) (w : World) (h : IsRow1 w a len cap (fun i => .int .i64 (Z i))) : Calls Tryd.prog 11 #[.slice a len cap] w fun e w' =>
    e = .returned (match ofGo 0#32 (upTo Z len) with | some m => .tuple #[VM m, .int .i64 0] | none => .tuple #[VM 0#32, .int .i64 5]) ∧ w = w' := by
  obtain ⟨l1, m1, c1⟩ := h
  unfold maxLen at m1
  have C1 := Lib.hid c1
  clear c1
  generalize hR : (match ofGo 0#32 (upTo Z len) with | some m => Value.tuple #[VM m, .int .i64 0] | none => .tuple #[VM 0#32, .int .i64 5]) = R
  have HR := Lib.hid hR
  clear hR
  go_enter Tryd.func11, Tryd.ntmps11
  go_wp2
  go_loop [4, 5] (fun mv i => ∃ (k : Nat) (m : Mk), k ≤ len ∧ Hid (ofGo 0#32 (upTo Z k) = some m) ∧ i = .int .i64 k ∧ mv = VM m) (fun _ i => len - (intOf i).toNat)
  case atStart => exact ⟨0, 0#32, Nat.zero_le _, rfl, rfl, rfl⟩
  case round =>
    obtain ⟨k, m, hk, hm, rfl, rfl⟩ := hrel
    by_cases hlt : k < len
    · obtain ⟨x, rfl, g1⟩ := C1.out k hlt
      have hsn := ofGo_snoc (upTo Z k) (Z k) 0#32
      rw [← upTo_succ, hm.out] at hsn
      generalize hz : Z k = z at *
      have HZ := Lib.hid hz
      clear hz
      by_cases hout : z < 0 ∨ 31 < z
      · have hnone : ofGo 0#32 (upTo Z (k + 1)) = none := by rw [hsn]; simp only [Option.bind_some]; rw [if_pos hout]
        have hall := ofGo_upTo_none hnone (show k + 1 ≤ len by omega)
        have hR := HR.out
        rw [hall] at hR
        have HR2 := Lib.hid hR
        clear hsn hnone hall hR
        by_cases hz0 : z < 0
        · clear hout
          go_wp2
          go_ret2
          exact ⟨congrArg Ending.returned HR2.out, rfl⟩
        · have hz1 : 31 < z := by omega
          clear hout
          go_wp2
          go_ret2
          exact ⟨congrArg Ending.returned HR2.out, rfl⟩
      · have hsome : ofGo 0#32 (upTo Z (k + 1)) = some (m ||| bitB z) := by rw [hsn]; simp only [Option.bind_some]; rw [if_neg hout]
        have hz0 : ¬ z < 0 := by omega
        have hz1 : ¬ 31 < z := by omega
        have hw := fun W => rwith_any m z W
        generalize m ||| bitB z = m2 at *
        have HW := Lib.hid hw
        have HS := Lib.hid hsome
        clear hw hsome hsn hout
        go_wp2_with (go_at_call 14; refine (HW.out _).mono ?_; rintro e w' ⟨rfl, rfl⟩)
        go_round
        case rel => exact ⟨k + 1, m2, by omega, HS, by go_num, rfl⟩
        case measure => simp [intOf]; omega
    · obtain rfl : len = k := by omega
      have hR := HR.out
      rw [hm.out] at hR
      have HR2 := Lib.hid hR
      clear hR
      go_wp2
      go_ret2
      exact ⟨congrArg Ending.returned HR2.out, rfl⟩

set_option maxRecDepth 100000 in
theorem oflaw_any (a : Option Addr) (len cap : Nat) (Z : Nat → Int) (w : World) (h : IsRow1 w a len cap (fun i => .int .i64 (Z i))) (hT : Tab w) : Calls Tryd.prog 3 #[.slice a len cap] w fun e w' => e = .returned (.bool true) ∧ Below w.heap.size w w' := by
  have HT := Lib.hid hT
  clear hT
  have l1 := h.1
  have m1 := h.2.1
  unfold maxLen at m1
  have a1 := of_any a len cap Z w h
  have a2 := rof_any a len cap Z w h
  clear h
  obtain ⟨m, er, A1, A2⟩ : ∃ (m : Mk) (er : Int), Hid (Calls Tryd.prog 10 #[.slice a len cap] w fun e w' => e = .returned (.tuple #[VM m, .int .i64 er]) ∧ w = w') ∧
      Hid (Calls Tryd.prog 11 #[.slice a len cap] w fun e w' => e = .returned (.tuple #[VM m, .int .i64 er]) ∧ w = w') := by
    cases hgo : ofGo 0#32 (upTo Z len) with
    | none => rw [hgo] at a1 a2; exact ⟨_, _, a1, a2⟩
    | some m => rw [hgo] at a1 a2; exact ⟨_, _, a1, a2⟩
  clear a1 a2
  by_cases hbig : 1000 < len
  · go_enter Tryd.func3, Tryd.ntmps3
    go_wp2_with (go_at_call 9; refine (works_any _ HT.out).mono ?_; rintro e w' ⟨rfl, hu⟩; have HU := Lib.hid hu; clear hu)
    go_ret
    exact ⟨rfl, HU.out.belowFrom (Nat.le_refl _)⟩
  · have hsm : ¬ (1000 : Int) < (len : Int) := by omega
    go_enter Tryd.func3, Tryd.ntmps3
    go_wp2_with (first | (go_at_call 10; refine A1.out.mono ?_; rintro e w' ⟨rfl, rfl⟩) | (go_at_call 11; refine A2.out.mono ?_; rintro e w' ⟨rfl, rfl⟩) | (go_at_call 9; refine (works_any _ HT.out).mono ?_; rintro e w' ⟨rfl, hu⟩; have HU := Lib.hid hu; clear hu))
    go_ret
    exact ⟨rfl, HU.out.belowFrom (Nat.le_refl _)⟩
end Go.Proofs.YtamebdebpgakfaaDoor.ML
