/-
  NARROWER THAN 'FOR EVERY INPUT', by the rows' own cells (each row's printed sentence says how): MaskOf: laid · MaskBack: laid · MaskChanges: laid · MaskKnown: laid · MaskLists: laid · MaskOne: laid.
  DERIVED. THE GIVEN ROWS OF THIS SEAT. 6 by the template 'for every input the law returns true; each argument reads behind the call as it read before'; 0 by the template 'total and deterministic' (their statements: YtamebdebpgakfaaDoorTotals.lean).
  GIVEN WITH THE SEED: the statements are not yours to turn. If you find one false, say at which input.
  Laid BY PROGRAM, IN A SANDBOX (cutbox-rows.mjs): the forced cells as the released guide's own fill.sh prints them over the translation 6b8efd6e30e42a77… (all of the seat's roots in one cut). By AI agents, Wed Nov 11 2026. No macro, syntax, notation, axiom, sorry.
-/
import Derived.Test.YtamebdebpgakfaaDoorChecked
import GoSem.Claim
import GoSem.ClaimJoined
import GoSem.ClaimMapViews
import Derived.JoinedTies
import Derived.KernelRfl
namespace Go.Proofs.YtamebdebpgakfaaDoor
/- THE CELL 'sum', in the pinned program and in every row, IS THE sha256 OF THE DUMP (.gsa) THAT YtamebdebpgakfaaDoorProg.lean LOADS. Nothing in Lean hashes anything: it is a label: what it is worth is what the hold of that sum in a sandbox is worth. -/
noncomputable def Tryd.pinned : Pinned := { name := "ytamebdebpgakfaadoor", sum := "6b8efd6e30e42a770c0114089c2455aeef7fb24d2eca2d0dde2253a6207d7cd2", checked := Tryd.checked }
namespace Rows
def none {H : Type} : Left H := { results := [], args := [] }

/- WHAT THE LISTED PACKAGE-LEVEL VARIABLES READ AS WHEN THE CALL BEGINS. Each datum BY PROGRAM (the guide's laid-datum.mjs) off the statement by which the dump's own 'gosem.cut.vars' lays the variable. In a bare row this is a premise. The card (YtamebdebpgakfaaDoorCards.lean) ties it to the program's text. -/
def laid_math_bits_deBruijn32tab {H : Type} : DataW H := .agg [.lit (.int .u8 0), .lit (.int .u8 1), .lit (.int .u8 28), .lit (.int .u8 2), .lit (.int .u8 29), .lit (.int .u8 14), .lit (.int .u8 24), .lit (.int .u8 3), .lit (.int .u8 30), .lit (.int .u8 22), .lit (.int .u8 20), .lit (.int .u8 15), .lit (.int .u8 25), .lit (.int .u8 17), .lit (.int .u8 4), .lit (.int .u8 8), .lit (.int .u8 31), .lit (.int .u8 27), .lit (.int .u8 13), .lit (.int .u8 23), .lit (.int .u8 21), .lit (.int .u8 19), .lit (.int .u8 16), .lit (.int .u8 7), .lit (.int .u8 26), .lit (.int .u8 12), .lit (.int .u8 18), .lit (.int .u8 6), .lit (.int .u8 11), .lit (.int .u8 5), .lit (.int .u8 10), .lit (.int .u8 9)]

/-- 'undertowlaw02.MaskOf': WHATEVER THE INPUT: true; the input reads as it did. -/
def maskOfSpec : ChangeSpec := { name := "maskOf", fn := fun _ => fun
  | [d] => { results := [.lit (.bool true)], args := [d] }
  | _ => none }
def maskOfRow : OpenClaim := { program := "ytamebdebpgakfaadoor", sum := "6b8efd6e30e42a770c0114089c2455aeef7fb24d2eca2d0dde2253a6207d7cd2", func := "undertow/undertowlaw02.MaskOf", spec := "maskOf", unfollowed := true, recurses := true, named := ["math/bits.deBruijn32tab"], apart := false, laid := [("math/bits.deBruijn32tab", laid_math_bits_deBruijn32tab)] }
def MaskOfSaid : Prop := maskOfRow.holds Tryd.pinned (OpenSpec.ofChange maskOfSpec)

/-- ITS FALSE NEIGHBOUR: 'it returns false'. Refute it at one input. -/
def maskOfWrong : ChangeSpec := { name := "maskOf", fn := fun _ => fun
  | [d] => { results := [.lit (.bool false)], args := [d] }
  | _ => none }
def MaskOfWrongFalsely : Prop := maskOfRow.holds Tryd.pinned (OpenSpec.ofChange maskOfWrong)

/-- 'undertowlaw02.MaskBack': WHATEVER THE INPUT: true; the input reads as it did. -/
def maskBackSpec : ChangeSpec := { name := "maskBack", fn := fun _ => fun
  | [d] => { results := [.lit (.bool true)], args := [d] }
  | _ => none }
def maskBackRow : OpenClaim := { program := "ytamebdebpgakfaadoor", sum := "6b8efd6e30e42a770c0114089c2455aeef7fb24d2eca2d0dde2253a6207d7cd2", func := "undertow/undertowlaw02.MaskBack", spec := "maskBack", unfollowed := true, recurses := true, named := ["math/bits.deBruijn32tab"], apart := false, laid := [("math/bits.deBruijn32tab", laid_math_bits_deBruijn32tab)] }
def MaskBackSaid : Prop := maskBackRow.holds Tryd.pinned (OpenSpec.ofChange maskBackSpec)

/-- ITS FALSE NEIGHBOUR: 'it returns false'. Refute it at one input. -/
def maskBackWrong : ChangeSpec := { name := "maskBack", fn := fun _ => fun
  | [d] => { results := [.lit (.bool false)], args := [d] }
  | _ => none }
def MaskBackWrongFalsely : Prop := maskBackRow.holds Tryd.pinned (OpenSpec.ofChange maskBackWrong)

/-- 'undertowlaw02.MaskChanges': WHATEVER THE INPUT: true; the input reads as it did. -/
def maskChangesSpec : ChangeSpec := { name := "maskChanges", fn := fun _ => fun
  | [d1, d2] => { results := [.lit (.bool true)], args := [d1, d2] }
  | _ => none }
def maskChangesRow : OpenClaim := { program := "ytamebdebpgakfaadoor", sum := "6b8efd6e30e42a770c0114089c2455aeef7fb24d2eca2d0dde2253a6207d7cd2", func := "undertow/undertowlaw02.MaskChanges", spec := "maskChanges", unfollowed := true, recurses := true, named := ["math/bits.deBruijn32tab"], apart := false, laid := [("math/bits.deBruijn32tab", laid_math_bits_deBruijn32tab)] }
def MaskChangesSaid : Prop := maskChangesRow.holds Tryd.pinned (OpenSpec.ofChange maskChangesSpec)

/-- ITS FALSE NEIGHBOUR: 'it returns false'. Refute it at one input. -/
def maskChangesWrong : ChangeSpec := { name := "maskChanges", fn := fun _ => fun
  | [d1, d2] => { results := [.lit (.bool false)], args := [d1, d2] }
  | _ => none }
def MaskChangesWrongFalsely : Prop := maskChangesRow.holds Tryd.pinned (OpenSpec.ofChange maskChangesWrong)

/-- 'undertowlaw02.MaskKnown': WHATEVER THE INPUT: true; the input reads as it did. -/
def maskKnownSpec : ChangeSpec := { name := "maskKnown", fn := fun _ => fun
  | [] => { results := [.lit (.bool true)], args := [] }
  | _ => none }
def maskKnownRow : OpenClaim := { program := "ytamebdebpgakfaadoor", sum := "6b8efd6e30e42a770c0114089c2455aeef7fb24d2eca2d0dde2253a6207d7cd2", func := "undertow/undertowlaw02.MaskKnown", spec := "maskKnown", unfollowed := true, recurses := true, named := ["math/bits.deBruijn32tab"], apart := false, laid := [("math/bits.deBruijn32tab", laid_math_bits_deBruijn32tab)] }
def MaskKnownSaid : Prop := maskKnownRow.holds Tryd.pinned (OpenSpec.ofChange maskKnownSpec)

/-- ITS FALSE NEIGHBOUR: 'it returns false'. Refute it at one input. -/
def maskKnownWrong : ChangeSpec := { name := "maskKnown", fn := fun _ => fun
  | [] => { results := [.lit (.bool false)], args := [] }
  | _ => none }
def MaskKnownWrongFalsely : Prop := maskKnownRow.holds Tryd.pinned (OpenSpec.ofChange maskKnownWrong)

/-- 'undertowlaw02.MaskLists': WHATEVER THE INPUT: true; the input reads as it did. -/
def maskListsSpec : ChangeSpec := { name := "maskLists", fn := fun _ => fun
  | [d1, d2] => { results := [.lit (.bool true)], args := [d1, d2] }
  | _ => none }
def maskListsRow : OpenClaim := { program := "ytamebdebpgakfaadoor", sum := "6b8efd6e30e42a770c0114089c2455aeef7fb24d2eca2d0dde2253a6207d7cd2", func := "undertow/undertowlaw02.MaskLists", spec := "maskLists", unfollowed := true, recurses := true, named := ["math/bits.deBruijn32tab"], apart := false, laid := [("math/bits.deBruijn32tab", laid_math_bits_deBruijn32tab)] }
def MaskListsSaid : Prop := maskListsRow.holds Tryd.pinned (OpenSpec.ofChange maskListsSpec)

/-- ITS FALSE NEIGHBOUR: 'it returns false'. Refute it at one input. -/
def maskListsWrong : ChangeSpec := { name := "maskLists", fn := fun _ => fun
  | [d1, d2] => { results := [.lit (.bool false)], args := [d1, d2] }
  | _ => none }
def MaskListsWrongFalsely : Prop := maskListsRow.holds Tryd.pinned (OpenSpec.ofChange maskListsWrong)

/-- 'undertowlaw02.MaskOne': WHATEVER THE INPUT: true; the input reads as it did. -/
def maskOneSpec : ChangeSpec := { name := "maskOne", fn := fun _ => fun
  | [d1, d2, d3] => { results := [.lit (.bool true)], args := [d1, d2, d3] }
  | _ => none }
def maskOneRow : OpenClaim := { program := "ytamebdebpgakfaadoor", sum := "6b8efd6e30e42a770c0114089c2455aeef7fb24d2eca2d0dde2253a6207d7cd2", func := "undertow/undertowlaw02.MaskOne", spec := "maskOne", unfollowed := true, recurses := true, named := ["math/bits.deBruijn32tab"], apart := false, laid := [("math/bits.deBruijn32tab", laid_math_bits_deBruijn32tab)] }
def MaskOneSaid : Prop := maskOneRow.holds Tryd.pinned (OpenSpec.ofChange maskOneSpec)

/-- ITS FALSE NEIGHBOUR: 'it returns false'. Refute it at one input. -/
def maskOneWrong : ChangeSpec := { name := "maskOne", fn := fun _ => fun
  | [d1, d2, d3] => { results := [.lit (.bool false)], args := [d1, d2, d3] }
  | _ => none }
def MaskOneWrongFalsely : Prop := maskOneRow.holds Tryd.pinned (OpenSpec.ofChange maskOneWrong)

/- THE SECOND FORM. 'bulk': how many values and letters a reading holds, each counted each time it is reached (what is shared counts as often as it is met; a slice's spare places count too). A statement '..UptoSaid' is the law's where the arguments, and the package variables that the reading takes, are together of bulk at most 1048576: NARROWER than '..Said'. Prove '..Said' where nothing that the law and all that it calls make is longer than what came in: it says more and counts as full. Else prove '..UptoSaid'. A law counts once. -/
mutual
def uptoBulk {H : Type} : DataW H → Nat
  | .lit (.string bytes) => bytes.length + 1
  | .lit _ => 1
  | .nil => 1
  | .ptr d => uptoBulk d + 1
  | .slice elems spare => uptoBulkAll elems + uptoBulkAll spare + 1
  | .agg parts => uptoBulkAll parts + 1
  | .iface _ d => uptoBulk d + 1
  | .map entries => uptoBulkEntries entries + 1
  | .held _ => 1
def uptoBulkAll {H : Type} : List (DataW H) → Nat
  | [] => 0
  | d :: r => uptoBulk d + uptoBulkAll r
def uptoBulkEntries {H : Type} : List (Lit × DataW H) → Nat
  | [] => 0
  | x :: r => uptoBulkEntry x + uptoBulkEntries r
def uptoBulkEntry {H : Type} : Lit × DataW H → Nat
  | (.string bytes, d) => bytes.length + uptoBulk d + 1
  | (_, d) => uptoBulk d + 1
 end
def uptoSmall : (H : Type) → List (DataW H) → Bool := fun _ ds => decide (uptoBulkAll ds ≤ 1048576)
def OpenSpec.upto (s : _root_.Go.ChangeSpec) : _root_.Go.OpenSpec := { _root_.Go.OpenSpec.ofChange s with cond := some uptoSmall }

/-- 'undertowlaw02.MaskOf', WHERE WHAT IT READS IS OF BULK AT MOST 1048576: true; the input reads as it did. -/
def maskOfUptoRow : OpenClaim := { program := "ytamebdebpgakfaadoor", sum := "6b8efd6e30e42a770c0114089c2455aeef7fb24d2eca2d0dde2253a6207d7cd2", func := "undertow/undertowlaw02.MaskOf", spec := "maskOf", unfollowed := true, recurses := true, named := ["math/bits.deBruijn32tab"], apart := false, laid := [("math/bits.deBruijn32tab", laid_math_bits_deBruijn32tab)], narrowed := true }
def MaskOfUptoSaid : Prop := maskOfUptoRow.holds Tryd.pinned (OpenSpec.upto maskOfSpec)

/-- 'undertowlaw02.MaskBack', WHERE WHAT IT READS IS OF BULK AT MOST 1048576: true; the input reads as it did. -/
def maskBackUptoRow : OpenClaim := { program := "ytamebdebpgakfaadoor", sum := "6b8efd6e30e42a770c0114089c2455aeef7fb24d2eca2d0dde2253a6207d7cd2", func := "undertow/undertowlaw02.MaskBack", spec := "maskBack", unfollowed := true, recurses := true, named := ["math/bits.deBruijn32tab"], apart := false, laid := [("math/bits.deBruijn32tab", laid_math_bits_deBruijn32tab)], narrowed := true }
def MaskBackUptoSaid : Prop := maskBackUptoRow.holds Tryd.pinned (OpenSpec.upto maskBackSpec)

/-- 'undertowlaw02.MaskChanges', WHERE WHAT IT READS IS OF BULK AT MOST 1048576: true; the input reads as it did. -/
def maskChangesUptoRow : OpenClaim := { program := "ytamebdebpgakfaadoor", sum := "6b8efd6e30e42a770c0114089c2455aeef7fb24d2eca2d0dde2253a6207d7cd2", func := "undertow/undertowlaw02.MaskChanges", spec := "maskChanges", unfollowed := true, recurses := true, named := ["math/bits.deBruijn32tab"], apart := false, laid := [("math/bits.deBruijn32tab", laid_math_bits_deBruijn32tab)], narrowed := true }
def MaskChangesUptoSaid : Prop := maskChangesUptoRow.holds Tryd.pinned (OpenSpec.upto maskChangesSpec)

/-- 'undertowlaw02.MaskKnown', WHERE WHAT IT READS IS OF BULK AT MOST 1048576: true; the input reads as it did. -/
def maskKnownUptoRow : OpenClaim := { program := "ytamebdebpgakfaadoor", sum := "6b8efd6e30e42a770c0114089c2455aeef7fb24d2eca2d0dde2253a6207d7cd2", func := "undertow/undertowlaw02.MaskKnown", spec := "maskKnown", unfollowed := true, recurses := true, named := ["math/bits.deBruijn32tab"], apart := false, laid := [("math/bits.deBruijn32tab", laid_math_bits_deBruijn32tab)], narrowed := true }
def MaskKnownUptoSaid : Prop := maskKnownUptoRow.holds Tryd.pinned (OpenSpec.upto maskKnownSpec)

/-- 'undertowlaw02.MaskLists', WHERE WHAT IT READS IS OF BULK AT MOST 1048576: true; the input reads as it did. -/
def maskListsUptoRow : OpenClaim := { program := "ytamebdebpgakfaadoor", sum := "6b8efd6e30e42a770c0114089c2455aeef7fb24d2eca2d0dde2253a6207d7cd2", func := "undertow/undertowlaw02.MaskLists", spec := "maskLists", unfollowed := true, recurses := true, named := ["math/bits.deBruijn32tab"], apart := false, laid := [("math/bits.deBruijn32tab", laid_math_bits_deBruijn32tab)], narrowed := true }
def MaskListsUptoSaid : Prop := maskListsUptoRow.holds Tryd.pinned (OpenSpec.upto maskListsSpec)

/-- 'undertowlaw02.MaskOne', WHERE WHAT IT READS IS OF BULK AT MOST 1048576: true; the input reads as it did. -/
def maskOneUptoRow : OpenClaim := { program := "ytamebdebpgakfaadoor", sum := "6b8efd6e30e42a770c0114089c2455aeef7fb24d2eca2d0dde2253a6207d7cd2", func := "undertow/undertowlaw02.MaskOne", spec := "maskOne", unfollowed := true, recurses := true, named := ["math/bits.deBruijn32tab"], apart := false, laid := [("math/bits.deBruijn32tab", laid_math_bits_deBruijn32tab)], narrowed := true }
def MaskOneUptoSaid : Prop := maskOneUptoRow.holds Tryd.pinned (OpenSpec.upto maskOneSpec)

end Rows
end Go.Proofs.YtamebdebpgakfaaDoor
