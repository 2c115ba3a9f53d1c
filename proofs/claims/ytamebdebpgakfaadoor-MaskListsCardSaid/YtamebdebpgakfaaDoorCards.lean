/-
  DERIVED. GIVEN WITH THE SEED: THE CARDS: each row of YtamebdebpgakfaaDoorRows.lean that lists a variable, with what it lists TIED to the program's text (the seventh form; the later family's looks); each row that meets fmt, with fmt's text TOLD by the authors' own Lean function (tested against real Go, not proved from fmt's source: count such statements apart). THE CARD IS WHAT COUNTS. Prove the row's statement (the work); the ties are given (YtamebdebpgakfaaDoorTie.lean); close each card by the builder's one call (the guide's Derived/Test/ToyasCard.lean, 'card_holds'). Laid BY PROGRAM, IN A SANDBOX (cutbox-door.mjs). By AI agents, Wed Nov 11 2026. No macro, syntax, notation, axiom, sorry.
-/
import Derived.Test.YtamebdebpgakfaaDoorRows
import GoSem.ClaimSeven
namespace Go.Proofs.YtamebdebpgakfaaDoor
namespace Rows

/-- THE TIED CARD OF 'undertowlaw02.MaskOf'. -/
def maskOfCard : Claim7 := { stood := { row := maskOfRow, standIns := [], harness := (true, "2f84d4d6699f8e10faf2a2e0684b25319e7608592fbf045f827fe54f8f1c4ab5"), looks := false }, kinds := [], alts := [], laidByText := true, laidKinds := [.data], laidTests := true, laidLooks := .later }
def MaskOfCardSaid : Prop := Claim7.holds Tryd.pinned (.plain (OpenSpec.ofChange maskOfSpec)) maskOfCard

/-- THE TIED CARD OF 'undertowlaw02.MaskBack'. -/
def maskBackCard : Claim7 := { stood := { row := maskBackRow, standIns := [], harness := (true, "2f84d4d6699f8e10faf2a2e0684b25319e7608592fbf045f827fe54f8f1c4ab5"), looks := false }, kinds := [], alts := [], laidByText := true, laidKinds := [.data], laidTests := true, laidLooks := .later }
def MaskBackCardSaid : Prop := Claim7.holds Tryd.pinned (.plain (OpenSpec.ofChange maskBackSpec)) maskBackCard

/-- THE TIED CARD OF 'undertowlaw02.MaskChanges'. -/
def maskChangesCard : Claim7 := { stood := { row := maskChangesRow, standIns := [], harness := (true, "2f84d4d6699f8e10faf2a2e0684b25319e7608592fbf045f827fe54f8f1c4ab5"), looks := false }, kinds := [], alts := [], laidByText := true, laidKinds := [.data], laidTests := true, laidLooks := .later }
def MaskChangesCardSaid : Prop := Claim7.holds Tryd.pinned (.plain (OpenSpec.ofChange maskChangesSpec)) maskChangesCard

/-- THE TIED CARD OF 'undertowlaw02.MaskKnown'. -/
def maskKnownCard : Claim7 := { stood := { row := maskKnownRow, standIns := [], harness := (true, "2f84d4d6699f8e10faf2a2e0684b25319e7608592fbf045f827fe54f8f1c4ab5"), looks := false }, kinds := [], alts := [], laidByText := true, laidKinds := [.data], laidTests := true, laidLooks := .later }
def MaskKnownCardSaid : Prop := Claim7.holds Tryd.pinned (.plain (OpenSpec.ofChange maskKnownSpec)) maskKnownCard

/-- THE TIED CARD OF 'undertowlaw02.MaskLists'. -/
def maskListsCard : Claim7 := { stood := { row := maskListsRow, standIns := [], harness := (true, "2f84d4d6699f8e10faf2a2e0684b25319e7608592fbf045f827fe54f8f1c4ab5"), looks := false }, kinds := [], alts := [], laidByText := true, laidKinds := [.data], laidTests := true, laidLooks := .later }
def MaskListsCardSaid : Prop := Claim7.holds Tryd.pinned (.plain (OpenSpec.ofChange maskListsSpec)) maskListsCard

/-- THE TIED CARD OF 'undertowlaw02.MaskOne'. -/
def maskOneCard : Claim7 := { stood := { row := maskOneRow, standIns := [], harness := (true, "2f84d4d6699f8e10faf2a2e0684b25319e7608592fbf045f827fe54f8f1c4ab5"), looks := false }, kinds := [], alts := [], laidByText := true, laidKinds := [.data], laidTests := true, laidLooks := .later }
def MaskOneCardSaid : Prop := Claim7.holds Tryd.pinned (.plain (OpenSpec.ofChange maskOneSpec)) maskOneCard

/-- THE SECOND FORM's CARD OF 'undertowlaw02.MaskOf'. -/
def maskOfUptoCard : Claim7 := { stood := { row := maskOfUptoRow, standIns := [], harness := (true, "2f84d4d6699f8e10faf2a2e0684b25319e7608592fbf045f827fe54f8f1c4ab5"), looks := false }, kinds := [], alts := [], laidByText := true, laidKinds := [.data], laidTests := true, laidLooks := .later }
def MaskOfUptoCardSaid : Prop := Claim7.holds Tryd.pinned (.plain (OpenSpec.upto maskOfSpec)) maskOfUptoCard

/-- THE SECOND FORM's CARD OF 'undertowlaw02.MaskBack'. -/
def maskBackUptoCard : Claim7 := { stood := { row := maskBackUptoRow, standIns := [], harness := (true, "2f84d4d6699f8e10faf2a2e0684b25319e7608592fbf045f827fe54f8f1c4ab5"), looks := false }, kinds := [], alts := [], laidByText := true, laidKinds := [.data], laidTests := true, laidLooks := .later }
def MaskBackUptoCardSaid : Prop := Claim7.holds Tryd.pinned (.plain (OpenSpec.upto maskBackSpec)) maskBackUptoCard

/-- THE SECOND FORM's CARD OF 'undertowlaw02.MaskChanges'. -/
def maskChangesUptoCard : Claim7 := { stood := { row := maskChangesUptoRow, standIns := [], harness := (true, "2f84d4d6699f8e10faf2a2e0684b25319e7608592fbf045f827fe54f8f1c4ab5"), looks := false }, kinds := [], alts := [], laidByText := true, laidKinds := [.data], laidTests := true, laidLooks := .later }
def MaskChangesUptoCardSaid : Prop := Claim7.holds Tryd.pinned (.plain (OpenSpec.upto maskChangesSpec)) maskChangesUptoCard

/-- THE SECOND FORM's CARD OF 'undertowlaw02.MaskKnown'. -/
def maskKnownUptoCard : Claim7 := { stood := { row := maskKnownUptoRow, standIns := [], harness := (true, "2f84d4d6699f8e10faf2a2e0684b25319e7608592fbf045f827fe54f8f1c4ab5"), looks := false }, kinds := [], alts := [], laidByText := true, laidKinds := [.data], laidTests := true, laidLooks := .later }
def MaskKnownUptoCardSaid : Prop := Claim7.holds Tryd.pinned (.plain (OpenSpec.upto maskKnownSpec)) maskKnownUptoCard

/-- THE SECOND FORM's CARD OF 'undertowlaw02.MaskLists'. -/
def maskListsUptoCard : Claim7 := { stood := { row := maskListsUptoRow, standIns := [], harness := (true, "2f84d4d6699f8e10faf2a2e0684b25319e7608592fbf045f827fe54f8f1c4ab5"), looks := false }, kinds := [], alts := [], laidByText := true, laidKinds := [.data], laidTests := true, laidLooks := .later }
def MaskListsUptoCardSaid : Prop := Claim7.holds Tryd.pinned (.plain (OpenSpec.upto maskListsSpec)) maskListsUptoCard

/-- THE SECOND FORM's CARD OF 'undertowlaw02.MaskOne'. -/
def maskOneUptoCard : Claim7 := { stood := { row := maskOneUptoRow, standIns := [], harness := (true, "2f84d4d6699f8e10faf2a2e0684b25319e7608592fbf045f827fe54f8f1c4ab5"), looks := false }, kinds := [], alts := [], laidByText := true, laidKinds := [.data], laidTests := true, laidLooks := .later }
def MaskOneUptoCardSaid : Prop := Claim7.holds Tryd.pinned (.plain (OpenSpec.upto maskOneSpec)) maskOneUptoCard
end Rows
end Go.Proofs.YtamebdebpgakfaaDoor
