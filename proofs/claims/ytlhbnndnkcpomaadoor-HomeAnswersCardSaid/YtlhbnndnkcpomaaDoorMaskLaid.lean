/- From the rows' listed table to what the walks ask of the world. -/
import Derived.Test.YtlhbnndnkcpomaaDoorMask
import Derived.Test.YtlhbnndnkcpomaaDoorRows
import Derived.ProofKit
import Derived.LaidMore
import Derived.OpenShut
import Derived.MakeChecks
import Derived.Stop.Joined
import Derived.Lib.LaidTab
set_option linter.unusedSimpArgs false
set_option linter.unusedVariables false
namespace Go.Proofs.YtlhbnndnkcpomaaDoor
open Go.ChangeShapes Go.WideShapes Go.ChangeAt Go.RowKit

/-- What the rows list. -/
abbrev laidTab : List (String × DataW Unit) := [("math/bits.deBruijn32tab", Rows.laid_math_bits_deBruijn32tab)]

theorem gTab : Tryd.prog.globalNamed "math/bits.deBruijn32tab" = some 0 := by kernel_rfl
theorem tTab : (Tryd.prog.globals[0]?).map (·.type) = some 165 := by kernel_rfl

/-- The door's own heap meets the condition. -/
theorem door_met (os : Os) (args : Array Value) : laidMetH Tryd.prog laidTab ((World.doorLaid Tryd.prog 400 os).forCall (fun _ _ => 0) ⟨#[], args, []⟩).memory :=
  laidMetH_of_parts3 (fuel := 8) (laidMet_of_run' 8 (by kernel_rfl) (by kernel_rfl)) (by kernel_rfl) (by kernel_rfl)

theorem tab_of_laid {W : World} (h : laidMetH Tryd.prog laidTab W) : Tab W := by
  rw [MakeChecks.laidMetH_plain _ _ _ (by kernel_rfl)] at h
  have ht : Lib.TabIs Tryd.prog W "math/bits.deBruijn32tab" .u8 (Lib.deBruijn32tab.map (fun x : Nat => (x : Int))) :=
    Lib.tabIs_of_head gTab tTab Tryd.underlying165 Tryd.underlying5 (by kernel_rfl) (by kernel_rfl) (by exact h)
  intro i hi
  have := ht.cell gTab i (by simpa [Lib.deBruijn32tab] using hi)
  rw [this]
  have e : (Lib.deBruijn32tab.map (fun x : Nat => (x : Int))).getD i 0 = ((Lib.deBruijn32tab.getD i 0 : Nat) : Int) := by
    simp only [List.getD, List.getElem?_map]
    cases Lib.deBruijn32tab[i]? <;> rfl
  rw [e]
end Go.Proofs.YtlhbnndnkcpomaaDoor
