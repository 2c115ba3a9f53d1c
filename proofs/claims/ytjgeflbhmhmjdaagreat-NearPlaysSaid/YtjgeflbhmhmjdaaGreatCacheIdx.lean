/- Package cache, its small functions; packages victim and plan, as the cache uses them. -/
import Derived.Test.YtjgeflbhmhmjdaaGreatSep
import Derived.Test.YtjgeflbhmhmjdaaGreatPlan
import Derived.Deep.RegionHeld3
import Derived.Deep.CutBlock
import Derived.BigQuiet
import Derived.WalkLawsBesides
set_option linter.unusedSimpArgs false
set_option linter.unusedVariables false
namespace Go.Proofs.YtjgeflbhmhmjdaaGreat.KA
open Go.RowKit
open BU (IsU words)
open PL (Cfg CC CV May)
attribute [local go_sem] Oper.semAt_some
attribute [local go_sem ↓] TLin.ld_eq TLin.st_eq TLin.al_eq TLin.bx_eq
attribute [local go_sem] TLin.al_run TLin.bx_run
abbrev ptr (b : Nat) : Value := .pointer (some ⟨b, 0, none⟩)
def hasB (b : Int) (x : Ln) : Bool := x.st != 0 && x.blk == b
def freeB (x : Ln) : Bool := x.st == 0
set_option maxRecDepth 100000 in
theorem has1_any (x : Ln) (b : Int) (hb : Nat) (W : World) (h : W.cell? ⟨hb, 0, none⟩ = some (.int .i64 b)) : Calls Tryz.prog 148 (#[.agg x.cells] ++ #[ptr hb]) W fun e w' => e = .returned (.bool (hasB b x)) ∧ Upd NoF W w' := by
  have hu := Upd.alloc NoF W (.cells x.cells 50)
  have q := Blk.new W x.cells 50
  have g := hu.cell h (fun h => h)
  obtain ⟨V, hV⟩ : ∃ V, W.alloc (.cells x.cells 50) = V := ⟨_, rfl⟩
  rw [hV] at hu q g
  have f0 : V.cell? ⟨W.heap.size, 0, none⟩ = some (.int .i64 x.blk) := (q.cell 0).trans x.get0
  have f1 : V.cell? ⟨W.heap.size, 1, none⟩ = some (.int .u8 x.st) := (q.cell 1).trans x.get1
  have HU := Lib.hid hu; have HV := Lib.hid hV
  unfold hasB
  clear h hu q hV
  cases h1 : (x.st != 0)
  all_goals
    go_enter Tryz.func148, Tryz.ntmps148
    go_upto_region 1 with fail
    rw [HV.out]
    go_wp2
    go_ret
    exact ⟨by simp, HU.out⟩
theorem has_any (b : Int) (w : World) : Calls Tryz.prog 125 #[.int .i64 b] w fun e w' => e = .returned (.func (.func 148) #[] #[ptr w.heap.size]) ∧ w.alloc (.cells #[.int .i64 b] 3) = w' := by
  go_enter Tryz.func125, Tryz.ntmps125
  go_wp2
  go_ret
  exact ⟨rfl, rfl⟩
set_option maxRecDepth 100000 in
theorem free_any (x : Ln) (W : World) : Calls Tryz.prog 91 #[.agg x.cells] W fun e w' => e = .returned (.bool (freeB x)) ∧ Upd NoF W w' := by
  have hu := Upd.alloc NoF W (.cells x.cells 50)
  have q := Blk.new W x.cells 50
  obtain ⟨V, hV⟩ : ∃ V, W.alloc (.cells x.cells 50) = V := ⟨_, rfl⟩
  rw [hV] at hu q
  have f1 : V.cell? ⟨W.heap.size, 1, none⟩ = some (.int .u8 x.st) := (q.cell 1).trans x.get1
  have HU := Lib.hid hu; have HV := Lib.hid hV
  unfold freeB
  clear hu q hV
  go_enter Tryz.func91, Tryz.ntmps91
  go_upto_region 1 with fail
  rw [HV.out]
  go_wp2
  go_ret
  exact ⟨rfl, HU.out⟩

set_option maxRecDepth 100000 in
theorem has_idx (w : World) (gl n lo k cap : Nat) (A : Nat → Ln) (tl : Array Value) (b : Int) (hb : Nat) (hA : ∀ i, (A i).Ok) (hB : Blk w gl (lnRow n A ++ tl) 50) (hk : lo + k ≤ n) (hkc : k ≤ cap) (hcap : cap ≤ maxLen) (hf : w.cell? ⟨hb, 0, none⟩ = some (.int .i64 b)) :
    Calls Tryz.prog 129 #[.slice (some ⟨gl, lo * 18, none⟩) k cap, .func (.func 148) #[] #[ptr hb]] w fun e w' => e = .returned (.int .i64 (firstW (hasB b) A lo k)) ∧ Upd NoF w w' := by
  have HB := Lib.hid hB; have HA := Lib.hid hA
  unfold maxLen at hcap
  have HF := Lib.hid hf
  clear hB hA hf
  go_enter Tryz.func129, Tryz.ntmps129
  go_wp2
  go_loopw [8] (fun i wr => ∃ j : Nat, j ≤ k ∧ i = .int .i64 j ∧ Hid ((∀ q, q < j → hasB b (A (lo + q)) = false) ∧ Upd NoF w wr)) (fun i _ => k - (intOf i).toNat)
  case atStart => exact ⟨0, Nat.zero_le _, rfl, fun q hq => by omega, Upd.refl _ _⟩
  case round =>
    obtain ⟨j, hj, rfl, HI⟩ := hrel
    by_cases hlt : j < k
    · have hr0 := lnRow_range (HB.out.upd HI.out.2 (fun h => h)) (HA.out (lo + j)).isU (show lo + j < n by omega)
      have hoff : lo * 18 + j * 18 = (lo + j) * 18 := by omega
      have hr : wr.rangeAt gl (lo * 18 + j * 18) (A (lo + j)).cells.toList := by rw [hoff]; exact hr0
      have l1 := TLin.ld_at (Ln.Ok.isN (HA.out (lo + j)).isU) hr
      have CF := Lib.hid (has1_any (A (lo + j)) b hb wr (HI.out.2.cell HF.out (fun h => h)))
      have HP : Hid (∀ bo : Bool, hasB b (A (lo + j)) = bo → (bo = true → firstW (hasB b) A lo k = j) ∧ (bo = false → ∀ q, q < j + 1 → hasB b (A (lo + q)) = false)) := Lib.hid (fun bo hbo => ⟨fun e => firstW_hit HI.out.1 hlt (by rw [hbo, e]), fun e q hq => by
        by_cases e2 : q = j
        · subst e2; rw [hbo, e]
        · exact HI.out.1 q (by omega)⟩)
      clear hr0 hr hoff
      go_wp2_with fail
      refine CF.out.mono ?_
      rintro e w2 ⟨rfl, hu⟩
      have HU := Lib.hid (HI.out.2.trans hu (fun _ _ h => h))
      clear hu CF
      cases hbo : hasB b (A (lo + j))
      · have H2 := Lib.hid ((HP.out _ hbo).2 rfl)
        go_wp2_with fail
        exact ⟨⟨j + 1, by omega, by go_num, H2.out, HU.out⟩, by simp [intOf]; omega⟩
      · have H1 := Lib.hid ((HP.out _ hbo).1 rfl)
        go_wp2
        go_ret
        exact ⟨by rw [H1.out]; rfl, HU.out⟩
    · obtain rfl : k = j := by omega
      have H1 := Lib.hid (firstW_none HI.out.1)
      go_wp2
      go_ret
      exact ⟨by rw [H1.out]; rfl, HI.out.2⟩
theorem has_way (w : World) (gl n lo k cap : Nat) (A : Nat → Ln) (tl : Array Value) (b : Int) (hb : Nat) (hA : ∀ i, (A i).Ok) (hB : Blk w gl (lnRow n A ++ tl) 50) (hk : lo + k ≤ n) (hkc : k ≤ cap) (hcap : cap ≤ maxLen) (hf : w.cell? ⟨hb, 0, none⟩ = some (.int .i64 b)) :
    Calls Tryz.prog 90 #[.slice (some ⟨gl, lo * 18, none⟩) k cap, .func (.func 148) #[] #[ptr hb]] w fun e w' => e = .returned (.int .i64 (firstW (hasB b) A lo k)) ∧ Upd NoF w w' := by
  have HX := Lib.hid (has_idx w gl n lo k cap A tl b hb hA hB hk hkc hcap hf)
  clear hA hB hf
  go_enter Tryz.func90, Tryz.ntmps90
  go_wp2_with fail
  refine HX.out.mono ?_
  rintro e w' ⟨rfl, hu⟩
  have HU := Lib.hid hu
  clear hu
  go_wp2
  go_ret
  exact ⟨rfl, HU.out⟩

set_option maxRecDepth 100000 in
theorem free_idx (w : World) (gl n lo k cap : Nat) (A : Nat → Ln) (tl : Array Value)  (hA : ∀ i, (A i).Ok) (hB : Blk w gl (lnRow n A ++ tl) 50) (hk : lo + k ≤ n) (hkc : k ≤ cap) (hcap : cap ≤ maxLen)  :
    Calls Tryz.prog 129 #[.slice (some ⟨gl, lo * 18, none⟩) k cap, .func (.func 91) #[] #[]] w fun e w' => e = .returned (.int .i64 (firstW (freeB) A lo k)) ∧ Upd NoF w w' := by
  have HB := Lib.hid hB; have HA := Lib.hid hA
  unfold maxLen at hcap
  skip
  clear hB hA 
  go_enter Tryz.func129, Tryz.ntmps129
  go_wp2
  go_loopw [8] (fun i wr => ∃ j : Nat, j ≤ k ∧ i = .int .i64 j ∧ Hid ((∀ q, q < j → freeB (A (lo + q)) = false) ∧ Upd NoF w wr)) (fun i _ => k - (intOf i).toNat)
  case atStart => exact ⟨0, Nat.zero_le _, rfl, fun q hq => by omega, Upd.refl _ _⟩
  case round =>
    obtain ⟨j, hj, rfl, HI⟩ := hrel
    by_cases hlt : j < k
    · have hr0 := lnRow_range (HB.out.upd HI.out.2 (fun h => h)) (HA.out (lo + j)).isU (show lo + j < n by omega)
      have hoff : lo * 18 + j * 18 = (lo + j) * 18 := by omega
      have hr : wr.rangeAt gl (lo * 18 + j * 18) (A (lo + j)).cells.toList := by rw [hoff]; exact hr0
      have l1 := TLin.ld_at (Ln.Ok.isN (HA.out (lo + j)).isU) hr
      have CF := Lib.hid (free_any (A (lo + j)) wr)
      have HP : Hid (∀ bo : Bool, freeB (A (lo + j)) = bo → (bo = true → firstW (freeB) A lo k = j) ∧ (bo = false → ∀ q, q < j + 1 → freeB (A (lo + q)) = false)) := Lib.hid (fun bo hbo => ⟨fun e => firstW_hit HI.out.1 hlt (by rw [hbo, e]), fun e q hq => by
        by_cases e2 : q = j
        · subst e2; rw [hbo, e]
        · exact HI.out.1 q (by omega)⟩)
      clear hr0 hr hoff
      go_wp2_with fail
      refine CF.out.mono ?_
      rintro e w2 ⟨rfl, hu⟩
      have HU := Lib.hid (HI.out.2.trans hu (fun _ _ h => h))
      clear hu CF
      cases hbo : freeB (A (lo + j))
      · have H2 := Lib.hid ((HP.out _ hbo).2 rfl)
        go_wp2_with fail
        exact ⟨⟨j + 1, by omega, by go_num, H2.out, HU.out⟩, by simp [intOf]; omega⟩
      · have H1 := Lib.hid ((HP.out _ hbo).1 rfl)
        go_wp2
        go_ret
        exact ⟨by rw [H1.out]; rfl, HU.out⟩
    · obtain rfl : k = j := by omega
      have H1 := Lib.hid (firstW_none HI.out.1)
      go_wp2
      go_ret
      exact ⟨by rw [H1.out]; rfl, HI.out.2⟩
theorem free_way (w : World) (gl n lo k cap : Nat) (A : Nat → Ln) (tl : Array Value)  (hA : ∀ i, (A i).Ok) (hB : Blk w gl (lnRow n A ++ tl) 50) (hk : lo + k ≤ n) (hkc : k ≤ cap) (hcap : cap ≤ maxLen)  :
    Calls Tryz.prog 90 #[.slice (some ⟨gl, lo * 18, none⟩) k cap, .func (.func 91) #[] #[]] w fun e w' => e = .returned (.int .i64 (firstW (freeB) A lo k)) ∧ Upd NoF w w' := by
  have HX := Lib.hid (free_idx w gl n lo k cap A tl  hA hB hk hkc hcap )
  clear hA hB 
  go_enter Tryz.func90, Tryz.ntmps90
  go_wp2_with fail
  refine HX.out.mono ?_
  rintro e w' ⟨rfl, hu⟩
  have HU := Lib.hid hu
  clear hu
  go_wp2
  go_ret
  exact ⟨rfl, HU.out⟩

def mayK (b : Int) : Bool := decide (0 ≤ b) && decide (b < 256)
theorem mayK_any (b : Int) (w : World) : Calls Tryz.prog 123 #[.int .i64 b] w fun e w' => e = .returned (.bool (mayK b)) ∧ w = w' := by
  unfold mayK
  cases h1 : decide (0 ≤ b)
  all_goals
    go_enter Tryz.func123, Tryz.ntmps123
    go_wp2
    go_ret
    exact ⟨by simp, rfl⟩
end Go.Proofs.YtjgeflbhmhmjdaaGreat.KA
namespace Go.Proofs.YtjgeflbhmhmjdaaGreat.KA
open Go.RowKit
open BU (IsU words)
open PL (Cfg CC CV May)
attribute [local go_sem] Oper.semAt_some
theorem and_sets (b s : Int) (hb : 0 ≤ b ∧ b < 256) (hs : s = 1 ∨ s = 2 ∨ s = 4 ∨ s = 8 ∨ s = 16) : bits .and .i64 b (s - 1) = b % s := by
  have key : ∀ k : Fin 256, bits .and .i64 (k.val : Int) 0 = (k.val : Int) % 1 ∧ bits .and .i64 (k.val : Int) 1 = (k.val : Int) % 2 ∧ bits .and .i64 (k.val : Int) 3 = (k.val : Int) % 4 ∧ bits .and .i64 (k.val : Int) 7 = (k.val : Int) % 8 ∧ bits .and .i64 (k.val : Int) 15 = (k.val : Int) % 16 := by decide +kernel
  have hk := key ⟨b.toNat, by omega⟩
  have e : ((b.toNat : Nat) : Int) = b := by omega
  simp only [e] at hk
  rcases hs with rfl | rfl | rfl | rfl | rfl
  · exact hk.1
  · exact hk.2.1
  · exact hk.2.2.1
  · exact hk.2.2.2.1
  · exact hk.2.2.2.2
set_option maxRecDepth 100000 in
theorem set_any (c : Cfg) (hc : May c) (b : Int) (hb : 0 ≤ b ∧ b < 256) (w : World) : Calls Tryz.prog 147 #[CV c, .int .i64 b] w fun e w' => e = .returned (.int .i64 (b % c.sets)) ∧ Upd NoF w w' := by
  have hm := PL.may_any c
  rw [decide_eq_true hc] at hm
  have HM := Lib.hid (hm (w.alloc (.cells (CC c) 27)))
  have ha := and_sets b c.sets hb hc.2.2.2.2.2.2.1
  have hsr : 1 ≤ c.sets ∧ c.sets ≤ 16 := by have := hc.2.2.2.2.2.2.1; omega
  have hw1 : IntKind.i64.wrap (c.sets - 1) = c.sets - 1 := IntWalk.i64_in _ (by omega)
  have g0 : decide (b < 0) = false := by simp; omega
  have HU := Lib.hid (Upd.alloc NoF w (.cells (CC c) 27))
  have q := Blk.new w (CC c) 27
  have HQ := Lib.hid q
  clear hm hc hb hsr q
  generalize b % c.sets = r at *
  go_enter Tryz.func147, Tryz.ntmps147
  go_wp2_with fail
  refine HM.out.mono ?_
  rintro e w2 ⟨rfl, hu⟩
  have q1 : w2.cell? ⟨w.heap.size, 1, none⟩ = some (.int .i64 c.sets) := (HQ.out.upd hu (fun h => h)).cell 1
  have HU2 := Lib.hid (HU.out.trans hu (fun _ _ h => h))
  clear hu HM HQ
  go_wp2
  go_ret
  exact ⟨rfl, HU2.out⟩
def putV (m : Int) (bit : Nat) (one : Bool) : Int := if one then ((m.toNat ||| (1 <<< bit) : Nat) : Int) else ((m.toNat &&& (255 - 1 <<< bit) : Nat) : Int)
theorem putV_rng {m : Int} (hm : 0 ≤ m ∧ m ≤ 255) (bit : Nat) (hb : bit < 3) (one : Bool) : 0 ≤ putV m bit one ∧ putV m bit one ≤ 255 := by
  have key : ∀ k : Fin 256, ∀ j : Fin 3, ∀ o : Bool, putV (k.val : Int) j.val o ≤ 255 := by decide +kernel
  have := key ⟨m.toNat, by omega⟩ ⟨bit, hb⟩ one
  have e : ((m.toNat : Nat) : Int) = m := by omega
  simp only [e] at this
  refine ⟨?_, this⟩
  unfold putV
  split <;> omega
theorem put_forms (m : Int) (hm : 0 ≤ m ∧ m ≤ 255) : bits .or .u8 m 1 = putV m 0 true ∧ bits .or .u8 m 2 = putV m 1 true ∧ bits .or .u8 m 4 = putV m 2 true ∧
    bits .andNot .u8 m 1 = putV m 0 false ∧ bits .andNot .u8 m 2 = putV m 1 false ∧ bits .andNot .u8 m 4 = putV m 2 false := by
  have key : ∀ k : Fin 256, bits .or .u8 (k.val : Int) 1 = putV k.val 0 true ∧ bits .or .u8 (k.val : Int) 2 = putV k.val 1 true ∧ bits .or .u8 (k.val : Int) 4 = putV k.val 2 true ∧
    bits .andNot .u8 (k.val : Int) 1 = putV k.val 0 false ∧ bits .andNot .u8 (k.val : Int) 2 = putV k.val 1 false ∧ bits .andNot .u8 (k.val : Int) 4 = putV k.val 2 false := by decide +kernel
  have := key ⟨m.toNat, by omega⟩
  have e : ((m.toNat : Nat) : Int) = m := by omega
  simp only [e] at this
  exact this
theorem put_any (m : Int) (hm : 0 ≤ m ∧ m ≤ 255) (bit : Int) (hb : bit = 0 ∨ bit = 1 ∨ bit = 2) (one : Bool) (w : World) : Calls Tryz.prog 149 #[.int .u8 m, .int .i64 bit, .bool one] w fun e w' => e = .returned (.int .u8 (putV m bit.toNat one)) ∧ w = w' := by
  obtain ⟨o0, o1, o2, n0, n1, n2⟩ := put_forms m hm
  rcases hb with rfl | rfl | rfl <;> cases one
  all_goals
    simp only [Int.toNat_zero, Int.toNat_one, show (2 : Int).toNat = 2 from rfl]
    go_enter Tryz.func149, Tryz.ntmps149
    go_wp2
    go_ret
    exact ⟨by simp [*], rfl⟩
def useV (m ways way : Int) : Int := if ways = 4 then putV (putV m (1 + way / 2).toNat (way % 2 == 0)) 0 (way / 2 == 0) else if ways = 2 then putV m 0 (way == 0) else m
theorem useV_rng {m : Int} (hm : 0 ≤ m ∧ m ≤ 255) (ways way : Int) (hw : way < ways) (h0 : 0 ≤ way) : 0 ≤ useV m ways way ∧ useV m ways way ≤ 255 := by
  unfold useV
  split
  · exact putV_rng (putV_rng hm _ (by omega) _) _ (by omega) _
  · split
    · exact putV_rng hm _ (by omega) _
    · exact hm
set_option maxRecDepth 100000 in
theorem use_any (m : Int) (hm : 0 ≤ m ∧ m ≤ 255) (ways way : Int) (hs : ways = 1 ∨ ways = 2 ∨ ways = 4) (h0 : 0 ≤ way) (h1 : way < ways) (w : World) :
    Calls Tryz.prog 126 #[.int .u8 m, .int .i64 ways, .int .i64 way] w fun e w' => e = .returned (.tuple #[.int .u8 (useV m ways way), .int .i64 0]) ∧ w = w' := by
  have P := Lib.hid (fun (x : Int) (hx : 0 ≤ x ∧ x ≤ 255) (bit : Int) hb one => put_any x hx bit hb one w)
  rcases hs with rfl | rfl | rfl
  · obtain rfl : way = 0 := by omega
    have e : useV m 1 0 = m := rfl
    rw [e]
    go_enter Tryz.func126, Tryz.ntmps126
    go_wp2
    go_ret2
    exact ⟨rfl, rfl⟩
  · have : way = 0 ∨ way = 1 := by omega
    rcases this with rfl | rfl
    · have e : useV m 2 0 = putV m 0 true := rfl
      rw [e]
      go_enter Tryz.func126, Tryz.ntmps126
      go_wp2_with fail
      refine (P.out m hm 0 (.inl rfl) true).mono ?_
      rintro e w2 ⟨rfl, rfl⟩
      go_wp2
      go_ret2
      exact ⟨rfl, rfl⟩
    · have e : useV m 2 1 = putV m 0 false := rfl
      rw [e]
      go_enter Tryz.func126, Tryz.ntmps126
      go_wp2_with fail
      refine (P.out m hm 0 (.inl rfl) false).mono ?_
      rintro e w2 ⟨rfl, rfl⟩
      go_wp2
      go_ret2
      exact ⟨rfl, rfl⟩
  · have hw4 : way = 0 ∨ way = 1 ∨ way = 2 ∨ way = 3 := by omega
    rcases hw4 with rfl | rfl | rfl | rfl
    · have e : useV m 4 0 = putV (putV m 1 true) 0 true := rfl
      rw [e]
      have hr := putV_rng hm 1 (by omega) true
      go_enter Tryz.func126, Tryz.ntmps126
      go_wp2_with fail
      refine (P.out m hm 1 (.inr (.inl rfl)) true).mono ?_
      rintro e w2 ⟨rfl, rfl⟩
      go_wp2_with fail
      refine (P.out _ hr 0 (.inl rfl) true).mono ?_
      rintro e w2 ⟨rfl, rfl⟩
      go_wp2
      go_ret2
      exact ⟨rfl, rfl⟩
    · have e : useV m 4 1 = putV (putV m 1 false) 0 true := rfl
      rw [e]
      have hr := putV_rng hm 1 (by omega) false
      go_enter Tryz.func126, Tryz.ntmps126
      go_wp2_with fail
      refine (P.out m hm 1 (.inr (.inl rfl)) false).mono ?_
      rintro e w2 ⟨rfl, rfl⟩
      go_wp2_with fail
      refine (P.out _ hr 0 (.inl rfl) true).mono ?_
      rintro e w2 ⟨rfl, rfl⟩
      go_wp2
      go_ret2
      exact ⟨rfl, rfl⟩
    · have e : useV m 4 2 = putV (putV m 2 true) 0 false := rfl
      rw [e]
      have hr := putV_rng hm 2 (by omega) true
      go_enter Tryz.func126, Tryz.ntmps126
      go_wp2_with fail
      refine (P.out m hm 2 (.inr (.inr rfl)) true).mono ?_
      rintro e w2 ⟨rfl, rfl⟩
      go_wp2_with fail
      refine (P.out _ hr 0 (.inl rfl) false).mono ?_
      rintro e w2 ⟨rfl, rfl⟩
      go_wp2
      go_ret2
      exact ⟨rfl, rfl⟩
    · have e : useV m 4 3 = putV (putV m 2 false) 0 false := rfl
      rw [e]
      have hr := putV_rng hm 2 (by omega) false
      go_enter Tryz.func126, Tryz.ntmps126
      go_wp2_with fail
      refine (P.out m hm 2 (.inr (.inr rfl)) false).mono ?_
      rintro e w2 ⟨rfl, rfl⟩
      go_wp2_with fail
      refine (P.out _ hr 0 (.inl rfl) false).mono ?_
      rintro e w2 ⟨rfl, rfl⟩
      go_wp2
      go_ret2
      exact ⟨rfl, rfl⟩
def vicV (m ways : Int) : Int := if ways = 1 then 0 else if ways = 2 then m % 2 else 2 * (m % 2) + (m / (if m % 2 = 0 then 2 else 4)) % 2
theorem vicV_rng (m ways : Int) (hs : ways = 1 ∨ ways = 2 ∨ ways = 4) : 0 ≤ vicV m ways ∧ vicV m ways < ways := by
  unfold vicV
  rcases hs with rfl | rfl | rfl
  · simp
  · have := Int.emod_two_eq m; simp; omega
  · simp only [show ((4 : Int) = 1) = False by simp, show ((4 : Int) = 2) = False by simp, if_false]
    split <;> omega
set_option maxRecDepth 100000 in
theorem vic_any (m : Int) (hm : 0 ≤ m ∧ m ≤ 255) (ways : Int) (hs : ways = 1 ∨ ways = 2 ∨ ways = 4) (w : World) :
    Calls Tryz.prog 92 #[.int .u8 m, .int .i64 ways] w fun e w' => e = .returned (.tuple #[.int .i64 (vicV m ways), .int .i64 0]) ∧ w = w' := by
  have key : ∀ k : Fin 256, bits .and .u8 (k.val : Int) 1 = (k.val : Int) % 2 ∧ bits .and .u8 ((k.val : Int) / 2) 1 = (k.val : Int) / 2 % 2 ∧ bits .and .u8 ((k.val : Int) / 4) 1 = (k.val : Int) / 4 % 2 := by decide +kernel
  have hk := key ⟨m.toNat, by omega⟩
  have e : ((m.toNat : Nat) : Int) = m := by omega
  simp only [e] at hk
  obtain ⟨k1, k2, k3⟩ := hk
  clear key e
  rcases hs with rfl | rfl | rfl
  · have e : vicV m 1 = 0 := rfl
    rw [e]
    have hr : m % 2 = 0 ∨ m % 2 = 1 := by omega
    generalize m % 2 = r at *
    rcases hr with rfl | rfl
    all_goals
      go_enter Tryz.func92, Tryz.ntmps92
      go_wp2
      go_ret2
      exact ⟨rfl, rfl⟩
  · have e : vicV m 2 = m % 2 := rfl
    rw [e]
    have hr : m % 2 = 0 ∨ m % 2 = 1 := by omega
    generalize m % 2 = r at *
    rcases hr with rfl | rfl
    all_goals
      go_enter Tryz.func92, Tryz.ntmps92
      go_wp2
      go_ret2
      exact ⟨rfl, rfl⟩
  · have hr : m % 2 = 0 ∨ m % 2 = 1 := by omega
    rcases hr with h | h
    · have e : vicV m 4 = m / 2 % 2 := by unfold vicV; simp [h]
      rw [e]
      rw [h] at k1
      have hr2 : m / 2 % 2 = 0 ∨ m / 2 % 2 = 1 := by omega
      go_enter Tryz.func92, Tryz.ntmps92
      go_wp2
      go_ret2
      exact ⟨rfl, rfl⟩
    · have e : vicV m 4 = 2 + m / 4 % 2 := by unfold vicV; simp [h]
      rw [e]
      rw [h] at k1
      have hr2 : m / 4 % 2 = 0 ∨ m / 4 % 2 = 1 := by omega
      generalize m / 4 % 2 = r at *
      rcases hr2 with rfl | rfl
      all_goals
        go_enter Tryz.func92, Tryz.ntmps92
        go_wp2
        go_ret2
        exact ⟨rfl, rfl⟩
end Go.Proofs.YtjgeflbhmhmjdaaGreat.KA
