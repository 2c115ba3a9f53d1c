/-
  DERIVED. GIVEN WITH THE SEED: THE CARDS: each row of YtlhbnndnkcpomaaDoorRows.lean that lists a variable, with what it lists TIED to the program's text (the seventh form; the later family's looks); each row that meets fmt, with fmt's text TOLD by the authors' own Lean function (tested against real Go, not proved from fmt's source: count such statements apart). THE CARD IS WHAT COUNTS. Prove the row's statement (the work); the ties are given (YtlhbnndnkcpomaaDoorTie.lean); close each card by the builder's one call (the guide's Derived/Test/ToyasCard.lean, 'card_holds'). Laid BY PROGRAM, IN A SANDBOX (cutbox-door.mjs). By AI agents, Wed Nov 11 2026. No macro, syntax, notation, axiom, sorry.
-/
import Derived.Test.YtlhbnndnkcpomaaDoorRows
import GoSem.ClaimSeven
namespace Go.Proofs.YtlhbnndnkcpomaaDoor
namespace Rows

/-- THE TIED CARD OF 'undertowlaw11.HomeAnswers'. -/
def homeAnswersCard : Claim7 := { stood := { row := homeAnswersRow, standIns := [], harness := (true, "79552279e4e3b847d3857e4669f48a6149bca92df1e525b906122c33ecdff7a8"), looks := true }, kinds := [], alts := [], laidByText := true, laidKinds := [.data], laidTests := true, laidLooks := .later }
def HomeAnswersCardSaid : Prop := Claim7.holds Tryd.pinned (.plain (OpenSpec.ofChange homeAnswersSpec)) homeAnswersCard

/-- THE TIED CARD OF 'undertowlaw11.HomeOwned'. -/
def homeOwnedCard : Claim7 := { stood := { row := homeOwnedRow, standIns := [], harness := (true, "79552279e4e3b847d3857e4669f48a6149bca92df1e525b906122c33ecdff7a8"), looks := true }, kinds := [], alts := [], laidByText := true, laidKinds := [.data], laidTests := true, laidLooks := .later }
def HomeOwnedCardSaid : Prop := Claim7.holds Tryd.pinned (.plain (OpenSpec.ofChange homeOwnedSpec)) homeOwnedCard

/-- THE TIED CARD OF 'undertowlaw11.HomeMemory'. -/
def homeMemoryCard : Claim7 := { stood := { row := homeMemoryRow, standIns := [], harness := (true, "79552279e4e3b847d3857e4669f48a6149bca92df1e525b906122c33ecdff7a8"), looks := true }, kinds := [], alts := [], laidByText := true, laidKinds := [.data], laidTests := true, laidLooks := .later }
def HomeMemoryCardSaid : Prop := Claim7.holds Tryd.pinned (.plain (OpenSpec.ofChange homeMemorySpec)) homeMemoryCard

/-- THE TIED CARD OF 'undertowlaw11.HomeCopies'. -/
def homeCopiesCard : Claim7 := { stood := { row := homeCopiesRow, standIns := [], harness := (true, "79552279e4e3b847d3857e4669f48a6149bca92df1e525b906122c33ecdff7a8"), looks := true }, kinds := [], alts := [], laidByText := true, laidKinds := [.data], laidTests := true, laidLooks := .later }
def HomeCopiesCardSaid : Prop := Claim7.holds Tryd.pinned (.plain (OpenSpec.ofChange homeCopiesSpec)) homeCopiesCard

/-- THE TIED CARD OF 'undertowlaw11.HomeKnown'. -/
def homeKnownCard : Claim7 := { stood := { row := homeKnownRow, standIns := [], harness := (true, "79552279e4e3b847d3857e4669f48a6149bca92df1e525b906122c33ecdff7a8"), looks := true }, kinds := [], alts := [], laidByText := true, laidKinds := [.data], laidTests := true, laidLooks := .later }
def HomeKnownCardSaid : Prop := Claim7.holds Tryd.pinned (.plain (OpenSpec.ofChange homeKnownSpec)) homeKnownCard

/-- THE TIED CARD OF 'undertowlaw11.HomePlays'. -/
def homePlaysCard : Claim7 := { stood := { row := homePlaysRow, standIns := [], harness := (true, "79552279e4e3b847d3857e4669f48a6149bca92df1e525b906122c33ecdff7a8"), looks := true }, kinds := [], alts := [], laidByText := true, laidKinds := [.data], laidTests := true, laidLooks := .later }
def HomePlaysCardSaid : Prop := Claim7.holds Tryd.pinned (.plain (OpenSpec.ofChange homePlaysSpec)) homePlaysCard

/-- THE SECOND FORM's CARD OF 'undertowlaw11.HomeAnswers'. -/
def homeAnswersUptoCard : Claim7 := { stood := { row := homeAnswersUptoRow, standIns := [], harness := (true, "79552279e4e3b847d3857e4669f48a6149bca92df1e525b906122c33ecdff7a8"), looks := true }, kinds := [], alts := [], laidByText := true, laidKinds := [.data], laidTests := true, laidLooks := .later }
def HomeAnswersUptoCardSaid : Prop := Claim7.holds Tryd.pinned (.plain (OpenSpec.upto homeAnswersSpec)) homeAnswersUptoCard

/-- THE SECOND FORM's CARD OF 'undertowlaw11.HomeOwned'. -/
def homeOwnedUptoCard : Claim7 := { stood := { row := homeOwnedUptoRow, standIns := [], harness := (true, "79552279e4e3b847d3857e4669f48a6149bca92df1e525b906122c33ecdff7a8"), looks := true }, kinds := [], alts := [], laidByText := true, laidKinds := [.data], laidTests := true, laidLooks := .later }
def HomeOwnedUptoCardSaid : Prop := Claim7.holds Tryd.pinned (.plain (OpenSpec.upto homeOwnedSpec)) homeOwnedUptoCard

/-- THE SECOND FORM's CARD OF 'undertowlaw11.HomeMemory'. -/
def homeMemoryUptoCard : Claim7 := { stood := { row := homeMemoryUptoRow, standIns := [], harness := (true, "79552279e4e3b847d3857e4669f48a6149bca92df1e525b906122c33ecdff7a8"), looks := true }, kinds := [], alts := [], laidByText := true, laidKinds := [.data], laidTests := true, laidLooks := .later }
def HomeMemoryUptoCardSaid : Prop := Claim7.holds Tryd.pinned (.plain (OpenSpec.upto homeMemorySpec)) homeMemoryUptoCard

/-- THE SECOND FORM's CARD OF 'undertowlaw11.HomeCopies'. -/
def homeCopiesUptoCard : Claim7 := { stood := { row := homeCopiesUptoRow, standIns := [], harness := (true, "79552279e4e3b847d3857e4669f48a6149bca92df1e525b906122c33ecdff7a8"), looks := true }, kinds := [], alts := [], laidByText := true, laidKinds := [.data], laidTests := true, laidLooks := .later }
def HomeCopiesUptoCardSaid : Prop := Claim7.holds Tryd.pinned (.plain (OpenSpec.upto homeCopiesSpec)) homeCopiesUptoCard

/-- THE SECOND FORM's CARD OF 'undertowlaw11.HomeKnown'. -/
def homeKnownUptoCard : Claim7 := { stood := { row := homeKnownUptoRow, standIns := [], harness := (true, "79552279e4e3b847d3857e4669f48a6149bca92df1e525b906122c33ecdff7a8"), looks := true }, kinds := [], alts := [], laidByText := true, laidKinds := [.data], laidTests := true, laidLooks := .later }
def HomeKnownUptoCardSaid : Prop := Claim7.holds Tryd.pinned (.plain (OpenSpec.upto homeKnownSpec)) homeKnownUptoCard

/-- THE SECOND FORM's CARD OF 'undertowlaw11.HomePlays'. -/
def homePlaysUptoCard : Claim7 := { stood := { row := homePlaysUptoRow, standIns := [], harness := (true, "79552279e4e3b847d3857e4669f48a6149bca92df1e525b906122c33ecdff7a8"), looks := true }, kinds := [], alts := [], laidByText := true, laidKinds := [.data], laidTests := true, laidLooks := .later }
def HomePlaysUptoCardSaid : Prop := Claim7.holds Tryd.pinned (.plain (OpenSpec.upto homePlaysSpec)) homePlaysUptoCard
end Rows
end Go.Proofs.YtlhbnndnkcpomaaDoor
