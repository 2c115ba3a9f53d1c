/- Sorting numbers of 64 bits without sign: the row as an array; what reads it and what exchanges two of its things. -/
import Derived.Test.YtbhcdbnbiocimaaLong
import Derived.Sort.AssemblyPlain
import Derived.Sort.LotA
import Derived.Sort.LotB
import Derived.Sort.LotC
import Derived.Sort.LotD2
import Derived.CellFam
import Derived.BigGuard
import Derived.BigCall
import Derived.Deep.Draws
import Derived.Deep.QuietTactic
import Derived.BigQuiet
set_option linter.unusedSimpArgs false
set_option linter.unusedVariables false
namespace Go.Proofs.Ytbhcdbnbiocimaa.SU
open Go.RowKit
open Go.Sort (swp size_swp ltInt PermIn SortedIn SWO)
/-- The row d lies in block g from off on; nothing but that block was written since w0. -/
structure SA (w0 W : World) (g off : Nat) (d : Array Int) : Prop where
  upd : Upd (OnlyAt g) w0 W
  cell : ∀ t, t < d.size → W.cell? ⟨g, off + t, none⟩ = some (.int .u64 d[t]!)
  free : ∀ t, t < d.size → W.frozen? ⟨g, off + t, none⟩ = false
section
variable {w0 W : World} {g off : Nat} {d : Array Int}
theorem SA.drewN (h : SA w0 W g off d) (n : Nat) : SA w0 (W.drewN n) g off d := ⟨h.upd.trans (Upd.drewN (OnlyAt g) W n) (fun _ _ h => h), h.cell, h.free⟩
theorem set_get (d : Array Int) (i t : Nat) (x : Int) (hi : i < d.size) : (d.setIfInBounds i x)[t]! = if t = i then x else d[t]! := by
  by_cases e : t = i
  · subst e; rw [if_pos rfl]; simp [hi]
  · rw [if_neg e]
    simp only [getElem!_def]
    rw [Array.getElem?_setIfInBounds_ne (fun h => e h.symm)]
theorem SA.set (h : SA w0 W g off d) {i : Nat} (hi : i < d.size) (x : Int) : SA w0 (W.setCell ⟨g, off + i, none⟩ (.int .u64 x)) g off (d.setIfInBounds i x) := by
  refine ⟨h.upd.trans (Upd.setCell (F := OnlyAt g) W (p := ⟨g, off + i, none⟩) rfl _) (fun _ _ h => h), fun t ht => ?_, fun t ht => ?_⟩
  · rw [Array.size_setIfInBounds] at ht
    rw [set_get d i t x hi]
    by_cases e : t = i
    · rw [if_pos e, e]
      apply World.cell?_setCell_same
      exact h.cell i hi
    · rw [if_neg e]
      refine Eq.trans ?_ (h.cell t ht)
      apply World.cell?_setCell_other
      intro hh
      injection hh with _ h2
      omega
  · rw [Array.size_setIfInBounds] at ht
    rw [World.frozen?_setCell]
    exact h.free t ht
theorem SA.swp (h : SA w0 W g off d) {i j : Nat} (hi : i < d.size) (hj : j < d.size) : SA w0 ((W.setCell ⟨g, off + i, none⟩ (.int .u64 d[j]!)).setCell ⟨g, off + j, none⟩ (.int .u64 d[i]!)) g off (swp d i j) :=
  (h.set hi d[j]!).set (by rw [Array.size_setIfInBounds]; exact hj) d[i]!
end
abbrev rowV (g off n cap : Nat) : Value := .slice (some ⟨g, off, none⟩) n cap
theorem isNaN_any (x : Int) (w : World) : Calls Try.prog 29 #[.int .u64 x] w fun e w' => e = .returned (.bool false) ∧ w = w' := by
  go_enter Try.func29, Try.ntmps29
  go_wp2
  go_ret
  exact ⟨by simp, rfl⟩
theorem less_any (x y : Int) (w : World) : Calls Try.prog 19 #[.int .u64 x, .int .u64 y] w fun e w' => e = .returned (.bool (ltInt x y)) ∧ w = w' := by
  go_enter Try.func19, Try.ntmps19
  go_wp2_with (go_at_call 29; refine (isNaN_any _ _).mono ?_; rintro e w' ⟨rfl, rfl⟩)
  go_ret
  exact ⟨rfl, rfl⟩
theorem less_quiet (x y : Int) (w : World) : Calls Try.prog 19 #[.int .u64 x, .int .u64 y] w fun e w' => e = .returned (.bool (ltInt x y)) ∧ w' = w := (less_any x y w).mono fun e w' h => ⟨h.1, h.2.symm⟩
end Go.Proofs.Ytbhcdbnbiocimaa.SU
