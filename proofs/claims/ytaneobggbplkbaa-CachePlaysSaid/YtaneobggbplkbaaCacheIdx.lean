/- Package cache, its small functions; packages victim and plan, as the cache uses them. -/
import Derived.Test.YtaneobggbplkbaaCachePlain
import Derived.Test.YtaneobggbplkbaaPlan
import Derived.Deep.RegionHeld3
import Derived.Deep.CutBlock
import Derived.BigQuiet
import Derived.WalkLawsBesides
set_option linter.unusedSimpArgs false
set_option linter.unusedVariables false
namespace Go.Proofs.Ytaneobggbplkbaa.KA
open Go.RowKit
open BU (IsU words)
open PL (Cfg CC CV May)
attribute [local go_sem] Oper.semAt_some
attribute [local go_sem ↓] TLin.ld_eq TLin.st_eq TLin.al_eq TLin.bx_eq
attribute [local go_sem] TLin.al_run TLin.bx_run
abbrev ptr (b : Nat) : Value := .pointer (some ⟨b, 0, none⟩)
def hasB (b : Int) (x : Ln) : Bool := x.st != 0 && x.blk == b
def freeB (x : Ln) : Bool := x.st == 0
set_option maxRecDepth 100000 in
theorem has1_any (x : Ln) (b : Int) (hb : Nat) (W : World) (h : W.cell? ⟨hb, 0, none⟩ = some (.int .i64 b)) : Calls Try.prog 60 (#[.agg x.cells] ++ #[ptr hb]) W fun e w' => e = .returned (.bool (hasB b x)) ∧ Upd NoF W w' := by
  have hu := Upd.alloc NoF W (.cells x.cells 38)
  have q := Blk.new W x.cells 38
  have g := hu.cell h (fun h => h)
  obtain ⟨V, hV⟩ : ∃ V, W.alloc (.cells x.cells 38) = V := ⟨_, rfl⟩
  rw [hV] at hu q g
  have f0 : V.cell? ⟨W.heap.size, 0, none⟩ = some (.int .i64 x.blk) := (q.cell 0).trans x.get0
  have f1 : V.cell? ⟨W.heap.size, 1, none⟩ = some (.int .u8 x.st) := (q.cell 1).trans x.get1
  have HU := Lib.hid hu; have HV := Lib.hid hV
  unfold hasB
  clear h hu q hV
  cases h1 : (x.st != 0)
  all_goals
    go_enter Try.func60, Try.ntmps60
    go_upto_region 1 with fail
    rw [HV.out]
    go_wp2
    go_ret
    exact ⟨by simp, HU.out⟩
theorem has_any (b : Int) (w : World) : Calls Try.prog 49 #[.int .i64 b] w fun e w' => e = .returned (.func (.func 60) #[] #[ptr w.heap.size]) ∧ w.alloc (.cells #[.int .i64 b] 3) = w' := by
  go_enter Try.func49, Try.ntmps49
  go_wp2
  go_ret
  exact ⟨rfl, rfl⟩
set_option maxRecDepth 100000 in
theorem free_any (x : Ln) (W : World) : Calls Try.prog 32 #[.agg x.cells] W fun e w' => e = .returned (.bool (freeB x)) ∧ Upd NoF W w' := by
  have hu := Upd.alloc NoF W (.cells x.cells 38)
  have q := Blk.new W x.cells 38
  obtain ⟨V, hV⟩ : ∃ V, W.alloc (.cells x.cells 38) = V := ⟨_, rfl⟩
  rw [hV] at hu q
  have f1 : V.cell? ⟨W.heap.size, 1, none⟩ = some (.int .u8 x.st) := (q.cell 1).trans x.get1
  have HU := Lib.hid hu; have HV := Lib.hid hV
  unfold freeB
  clear hu q hV
  go_enter Try.func32, Try.ntmps32
  go_upto_region 1 with fail
  rw [HV.out]
  go_wp2
  go_ret
  exact ⟨rfl, HU.out⟩

set_option maxRecDepth 100000 in
theorem has_idx (w : World) (gl n lo k cap : Nat) (A : Nat → Ln) (tl : Array Value) (b : Int) (hb : Nat) (hA : ∀ i, (A i).Ok) (hB : Blk w gl (lnRow n A ++ tl) 38) (hk : lo + k ≤ n) (hkc : k ≤ cap) (hcap : cap ≤ maxLen) (hf : w.cell? ⟨hb, 0, none⟩ = some (.int .i64 b)) :
    Calls Try.prog 50 #[.slice (some ⟨gl, lo * 18, none⟩) k cap, .func (.func 60) #[] #[ptr hb]] w fun e w' => e = .returned (.int .i64 (firstW (hasB b) A lo k)) ∧ Upd NoF w w' := by
  have HB := Lib.hid hB; have HA := Lib.hid hA
  unfold maxLen at hcap
  have HF := Lib.hid hf
  clear hB hA hf
  go_enter Try.func50, Try.ntmps50
  go_wp2
  go_loopw [8] (fun i wr => ∃ j : Nat, j ≤ k ∧ i = .int .i64 j ∧ Hid ((∀ q, q < j → hasB b (A (lo + q)) = false) ∧ Upd NoF w wr)) (fun i _ => k - (intOf i).toNat)
  case atStart => exact ⟨0, Nat.zero_le _, rfl, fun q hq => by omega, Upd.refl _ _⟩
  case round =>
    obtain ⟨j, hj, rfl, HI⟩ := hrel
    by_cases hlt : j < k
    · have hr0 := lnRow_range (HB.out.upd HI.out.2 (fun h => h)) (HA.out (lo + j)).isU (show lo + j < n by omega)
      have hoff : lo * 18 + j * 18 = (lo + j) * 18 := by omega
      have hr : wr.rangeAt gl (lo * 18 + j * 18) (A (lo + j)).cells.toList := by rw [hoff]; exact hr0
      have l1 := TLin.ld_at (Ln.Ok.isN (HA.out (lo + j)).isU) hr
      have CF := Lib.hid (has1_any (A (lo + j)) b hb wr (HI.out.2.cell HF.out (fun h => h)))
      have HP : Hid (∀ bo : Bool, hasB b (A (lo + j)) = bo → (bo = true → firstW (hasB b) A lo k = j) ∧ (bo = false → ∀ q, q < j + 1 → hasB b (A (lo + q)) = false)) := Lib.hid (fun bo hbo => ⟨fun e => firstW_hit HI.out.1 hlt (by rw [hbo, e]), fun e q hq => by
        by_cases e2 : q = j
        · subst e2; rw [hbo, e]
        · exact HI.out.1 q (by omega)⟩)
      clear hr0 hr hoff
      go_wp2_with fail
      refine CF.out.mono ?_
      rintro e w2 ⟨rfl, hu⟩
      have HU := Lib.hid (HI.out.2.trans hu (fun _ _ h => h))
      clear hu CF
      cases hbo : hasB b (A (lo + j))
      · have H2 := Lib.hid ((HP.out _ hbo).2 rfl)
        go_wp2_with fail
        exact ⟨⟨j + 1, by omega, by go_num, H2.out, HU.out⟩, by simp [intOf]; omega⟩
      · have H1 := Lib.hid ((HP.out _ hbo).1 rfl)
        go_wp2
        go_ret
        exact ⟨by rw [H1.out]; rfl, HU.out⟩
    · obtain rfl : k = j := by omega
      have H1 := Lib.hid (firstW_none HI.out.1)
      go_wp2
      go_ret
      exact ⟨by rw [H1.out]; rfl, HI.out.2⟩
theorem has_way (w : World) (gl n lo k cap : Nat) (A : Nat → Ln) (tl : Array Value) (b : Int) (hb : Nat) (hA : ∀ i, (A i).Ok) (hB : Blk w gl (lnRow n A ++ tl) 38) (hk : lo + k ≤ n) (hkc : k ≤ cap) (hcap : cap ≤ maxLen) (hf : w.cell? ⟨hb, 0, none⟩ = some (.int .i64 b)) :
    Calls Try.prog 31 #[.slice (some ⟨gl, lo * 18, none⟩) k cap, .func (.func 60) #[] #[ptr hb]] w fun e w' => e = .returned (.int .i64 (firstW (hasB b) A lo k)) ∧ Upd NoF w w' := by
  have HX := Lib.hid (has_idx w gl n lo k cap A tl b hb hA hB hk hkc hcap hf)
  clear hA hB hf
  go_enter Try.func31, Try.ntmps31
  go_wp2_with fail
  refine HX.out.mono ?_
  rintro e w' ⟨rfl, hu⟩
  have HU := Lib.hid hu
  clear hu
  go_wp2
  go_ret
  exact ⟨rfl, HU.out⟩

set_option maxRecDepth 100000 in
theorem free_idx (w : World) (gl n lo k cap : Nat) (A : Nat → Ln) (tl : Array Value)  (hA : ∀ i, (A i).Ok) (hB : Blk w gl (lnRow n A ++ tl) 38) (hk : lo + k ≤ n) (hkc : k ≤ cap) (hcap : cap ≤ maxLen)  :
    Calls Try.prog 50 #[.slice (some ⟨gl, lo * 18, none⟩) k cap, .func (.func 32) #[] #[]] w fun e w' => e = .returned (.int .i64 (firstW (freeB) A lo k)) ∧ Upd NoF w w' := by
  have HB := Lib.hid hB; have HA := Lib.hid hA
  unfold maxLen at hcap
  skip
  clear hB hA 
  go_enter Try.func50, Try.ntmps50
  go_wp2
  go_loopw [8] (fun i wr => ∃ j : Nat, j ≤ k ∧ i = .int .i64 j ∧ Hid ((∀ q, q < j → freeB (A (lo + q)) = false) ∧ Upd NoF w wr)) (fun i _ => k - (intOf i).toNat)
  case atStart => exact ⟨0, Nat.zero_le _, rfl, fun q hq => by omega, Upd.refl _ _⟩
  case round =>
    obtain ⟨j, hj, rfl, HI⟩ := hrel
    by_cases hlt : j < k
    · have hr0 := lnRow_range (HB.out.upd HI.out.2 (fun h => h)) (HA.out (lo + j)).isU (show lo + j < n by omega)
      have hoff : lo * 18 + j * 18 = (lo + j) * 18 := by omega
      have hr : wr.rangeAt gl (lo * 18 + j * 18) (A (lo + j)).cells.toList := by rw [hoff]; exact hr0
      have l1 := TLin.ld_at (Ln.Ok.isN (HA.out (lo + j)).isU) hr
      have CF := Lib.hid (free_any (A (lo + j)) wr)
      have HP : Hid (∀ bo : Bool, freeB (A (lo + j)) = bo → (bo = true → firstW (freeB) A lo k = j) ∧ (bo = false → ∀ q, q < j + 1 → freeB (A (lo + q)) = false)) := Lib.hid (fun bo hbo => ⟨fun e => firstW_hit HI.out.1 hlt (by rw [hbo, e]), fun e q hq => by
        by_cases e2 : q = j
        · subst e2; rw [hbo, e]
        · exact HI.out.1 q (by omega)⟩)
      clear hr0 hr hoff
      go_wp2_with fail
      refine CF.out.mono ?_
      rintro e w2 ⟨rfl, hu⟩
      have HU := Lib.hid (HI.out.2.trans hu (fun _ _ h => h))
      clear hu CF
      cases hbo : freeB (A (lo + j))
      · have H2 := Lib.hid ((HP.out _ hbo).2 rfl)
        go_wp2_with fail
        exact ⟨⟨j + 1, by omega, by go_num, H2.out, HU.out⟩, by simp [intOf]; omega⟩
      · have H1 := Lib.hid ((HP.out _ hbo).1 rfl)
        go_wp2
        go_ret
        exact ⟨by rw [H1.out]; rfl, HU.out⟩
    · obtain rfl : k = j := by omega
      have H1 := Lib.hid (firstW_none HI.out.1)
      go_wp2
      go_ret
      exact ⟨by rw [H1.out]; rfl, HI.out.2⟩
theorem free_way (w : World) (gl n lo k cap : Nat) (A : Nat → Ln) (tl : Array Value)  (hA : ∀ i, (A i).Ok) (hB : Blk w gl (lnRow n A ++ tl) 38) (hk : lo + k ≤ n) (hkc : k ≤ cap) (hcap : cap ≤ maxLen)  :
    Calls Try.prog 31 #[.slice (some ⟨gl, lo * 18, none⟩) k cap, .func (.func 32) #[] #[]] w fun e w' => e = .returned (.int .i64 (firstW (freeB) A lo k)) ∧ Upd NoF w w' := by
  have HX := Lib.hid (free_idx w gl n lo k cap A tl  hA hB hk hkc hcap )
  clear hA hB 
  go_enter Try.func31, Try.ntmps31
  go_wp2_with fail
  refine HX.out.mono ?_
  rintro e w' ⟨rfl, hu⟩
  have HU := Lib.hid hu
  clear hu
  go_wp2
  go_ret
  exact ⟨rfl, HU.out⟩

def mayK (b : Int) : Bool := decide (0 ≤ b) && decide (b < 256)
theorem mayK_any (b : Int) (w : World) : Calls Try.prog 29 #[.int .i64 b] w fun e w' => e = .returned (.bool (mayK b)) ∧ w = w' := by
  unfold mayK
  cases h1 : decide (0 ≤ b)
  all_goals
    go_enter Try.func29, Try.ntmps29
    go_wp2
    go_ret
    exact ⟨by simp, rfl⟩
end Go.Proofs.Ytaneobggbplkbaa.KA
