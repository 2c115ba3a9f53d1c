/-
  No cell of these rows narrows 'for every input' (looked for: loops, veiled, ifaces, maps, wideKeys, modest, calm, conditions, laid).
  DERIVED. THE GIVEN ROWS OF THIS SEAT. 5 by the template 'for every input the law returns true; each argument reads behind the call as it read before'; 0 by the template 'total and deterministic' (their statements: YtkncijoclnjpoaaTotals.lean).
  GIVEN WITH THE SEED: the statements are not yours to turn. If you find one false, say at which input.
  Laid BY PROGRAM, IN A SANDBOX (cutbox-rows.mjs): the forced cells as the released guide's own fill.sh prints them over the translation 85016cabf045a697… (all of the seat's roots in one cut). By AI agents, Wed Nov 11 2026. No macro, syntax, notation, axiom, sorry.
-/
import Derived.Test.YtkncijoclnjpoaaChecked
import GoSem.Claim
import GoSem.ClaimJoined
import GoSem.ClaimMapViews
import Derived.JoinedTies
import Derived.KernelRfl
namespace Go.Proofs.Ytkncijoclnjpoaa
/- THE CELL 'sum', in the pinned program and in every row, IS THE sha256 OF THE DUMP (.gsa) THAT YtkncijoclnjpoaaProg.lean LOADS. Nothing in Lean hashes anything: it is a label: what it is worth is what the hold of that sum in a sandbox is worth. -/
noncomputable def Try.pinned : Pinned := { name := "ytkncijoclnjpoaa", sum := "85016cabf045a69712935e9aaecd100fae511b44696811278fe3d1dd1a857191", checked := Try.checked }
namespace Rows
def none {H : Type} : Left H := { results := [], args := [] }

/-- 'undertowlaw13.MarksApart': WHATEVER THE INPUT: true; the input reads as it did. -/
def marksApartSpec : ChangeSpec := { name := "marksApart", fn := fun _ => fun
  | [d1, d2, d3] => { results := [.lit (.bool true)], args := [d1, d2, d3] }
  | _ => none }
def marksApartRow : OpenClaim := { program := "ytkncijoclnjpoaa", sum := "85016cabf045a69712935e9aaecd100fae511b44696811278fe3d1dd1a857191", func := "undertow/undertowlaw13.MarksApart", spec := "marksApart", unfollowed := true, recurses := true, apart := false }
def MarksApartSaid : Prop := marksApartRow.holds Try.pinned (OpenSpec.ofChange marksApartSpec)

/-- ITS FALSE NEIGHBOUR: 'it returns false'. Refute it at one input. -/
def marksApartWrong : ChangeSpec := { name := "marksApart", fn := fun _ => fun
  | [d1, d2, d3] => { results := [.lit (.bool false)], args := [d1, d2, d3] }
  | _ => none }
def MarksApartWrongFalsely : Prop := marksApartRow.holds Try.pinned (OpenSpec.ofChange marksApartWrong)

/-- 'undertowlaw13.MarksMore': WHATEVER THE INPUT: true; the input reads as it did. -/
def marksMoreSpec : ChangeSpec := { name := "marksMore", fn := fun _ => fun
  | [d1, d2, d3, d4] => { results := [.lit (.bool true)], args := [d1, d2, d3, d4] }
  | _ => none }
def marksMoreRow : OpenClaim := { program := "ytkncijoclnjpoaa", sum := "85016cabf045a69712935e9aaecd100fae511b44696811278fe3d1dd1a857191", func := "undertow/undertowlaw13.MarksMore", spec := "marksMore", unfollowed := true, recurses := true, apart := false }
def MarksMoreSaid : Prop := marksMoreRow.holds Try.pinned (OpenSpec.ofChange marksMoreSpec)

/-- ITS FALSE NEIGHBOUR: 'it returns false'. Refute it at one input. -/
def marksMoreWrong : ChangeSpec := { name := "marksMore", fn := fun _ => fun
  | [d1, d2, d3, d4] => { results := [.lit (.bool false)], args := [d1, d2, d3, d4] }
  | _ => none }
def MarksMoreWrongFalsely : Prop := marksMoreRow.holds Try.pinned (OpenSpec.ofChange marksMoreWrong)

/-- 'undertowlaw13.MarksAll': WHATEVER THE INPUT: true; the input reads as it did. -/
def marksAllSpec : ChangeSpec := { name := "marksAll", fn := fun _ => fun
  | [d1, d2] => { results := [.lit (.bool true)], args := [d1, d2] }
  | _ => none }
def marksAllRow : OpenClaim := { program := "ytkncijoclnjpoaa", sum := "85016cabf045a69712935e9aaecd100fae511b44696811278fe3d1dd1a857191", func := "undertow/undertowlaw13.MarksAll", spec := "marksAll", unfollowed := true, recurses := true, apart := false }
def MarksAllSaid : Prop := marksAllRow.holds Try.pinned (OpenSpec.ofChange marksAllSpec)

/-- ITS FALSE NEIGHBOUR: 'it returns false'. Refute it at one input. -/
def marksAllWrong : ChangeSpec := { name := "marksAll", fn := fun _ => fun
  | [d1, d2] => { results := [.lit (.bool false)], args := [d1, d2] }
  | _ => none }
def MarksAllWrongFalsely : Prop := marksAllRow.holds Try.pinned (OpenSpec.ofChange marksAllWrong)

/-- 'undertowlaw13.MarksKnown': WHATEVER THE INPUT: true; the input reads as it did. -/
def marksKnownSpec : ChangeSpec := { name := "marksKnown", fn := fun _ => fun
  | [] => { results := [.lit (.bool true)], args := [] }
  | _ => none }
def marksKnownRow : OpenClaim := { program := "ytkncijoclnjpoaa", sum := "85016cabf045a69712935e9aaecd100fae511b44696811278fe3d1dd1a857191", func := "undertow/undertowlaw13.MarksKnown", spec := "marksKnown", inPlace := ["maps.clone"], unfollowed := true, recurses := true, apart := false }
def MarksKnownSaid : Prop := marksKnownRow.holds Try.pinned (OpenSpec.ofChange marksKnownSpec)

/-- ITS FALSE NEIGHBOUR: 'it returns false'. Refute it at one input. -/
def marksKnownWrong : ChangeSpec := { name := "marksKnown", fn := fun _ => fun
  | [] => { results := [.lit (.bool false)], args := [] }
  | _ => none }
def MarksKnownWrongFalsely : Prop := marksKnownRow.holds Try.pinned (OpenSpec.ofChange marksKnownWrong)

/-- 'undertowlaw13.MarksPlay': WHATEVER THE INPUT: true; the input reads as it did. -/
def marksPlaySpec : ChangeSpec := { name := "marksPlay", fn := fun _ => fun
  | [d1, d2] => { results := [.lit (.bool true)], args := [d1, d2] }
  | _ => none }
def marksPlayRow : OpenClaim := { program := "ytkncijoclnjpoaa", sum := "85016cabf045a69712935e9aaecd100fae511b44696811278fe3d1dd1a857191", func := "undertow/undertowlaw13.MarksPlay", spec := "marksPlay", inPlace := ["maps.clone"], unfollowed := true, recurses := true, apart := false }
def MarksPlaySaid : Prop := marksPlayRow.holds Try.pinned (OpenSpec.ofChange marksPlaySpec)

/-- ITS FALSE NEIGHBOUR: 'it returns false'. Refute it at one input. -/
def marksPlayWrong : ChangeSpec := { name := "marksPlay", fn := fun _ => fun
  | [d1, d2] => { results := [.lit (.bool false)], args := [d1, d2] }
  | _ => none }
def MarksPlayWrongFalsely : Prop := marksPlayRow.holds Try.pinned (OpenSpec.ofChange marksPlayWrong)

/- THE SECOND FORM. 'bulk': how many values and letters a reading holds, each counted each time it is reached (what is shared counts as often as it is met; a slice's spare places count too). A statement '..UptoSaid' is the law's where the arguments, and the package variables that the reading takes, are together of bulk at most 1048576: NARROWER than '..Said'. Prove '..Said' where nothing that the law and all that it calls make is longer than what came in: it says more and counts as full. Else prove '..UptoSaid'. A law counts once. -/
mutual
def uptoBulk {H : Type} : DataW H → Nat
  | .lit (.string bytes) => bytes.length + 1
  | .lit _ => 1
  | .nil => 1
  | .ptr d => uptoBulk d + 1
  | .slice elems spare => uptoBulkAll elems + uptoBulkAll spare + 1
  | .agg parts => uptoBulkAll parts + 1
  | .iface _ d => uptoBulk d + 1
  | .map entries => uptoBulkEntries entries + 1
  | .held _ => 1
def uptoBulkAll {H : Type} : List (DataW H) → Nat
  | [] => 0
  | d :: r => uptoBulk d + uptoBulkAll r
def uptoBulkEntries {H : Type} : List (Lit × DataW H) → Nat
  | [] => 0
  | x :: r => uptoBulkEntry x + uptoBulkEntries r
def uptoBulkEntry {H : Type} : Lit × DataW H → Nat
  | (.string bytes, d) => bytes.length + uptoBulk d + 1
  | (_, d) => uptoBulk d + 1
 end
def uptoSmall : (H : Type) → List (DataW H) → Bool := fun _ ds => decide (uptoBulkAll ds ≤ 1048576)
def OpenSpec.upto (s : _root_.Go.ChangeSpec) : _root_.Go.OpenSpec := { _root_.Go.OpenSpec.ofChange s with cond := some uptoSmall }

/-- 'undertowlaw13.MarksApart', WHERE WHAT IT READS IS OF BULK AT MOST 1048576: true; the input reads as it did. -/
def marksApartUptoRow : OpenClaim := { program := "ytkncijoclnjpoaa", sum := "85016cabf045a69712935e9aaecd100fae511b44696811278fe3d1dd1a857191", func := "undertow/undertowlaw13.MarksApart", spec := "marksApart", unfollowed := true, recurses := true, apart := false, narrowed := true }
def MarksApartUptoSaid : Prop := marksApartUptoRow.holds Try.pinned (OpenSpec.upto marksApartSpec)

/-- 'undertowlaw13.MarksMore', WHERE WHAT IT READS IS OF BULK AT MOST 1048576: true; the input reads as it did. -/
def marksMoreUptoRow : OpenClaim := { program := "ytkncijoclnjpoaa", sum := "85016cabf045a69712935e9aaecd100fae511b44696811278fe3d1dd1a857191", func := "undertow/undertowlaw13.MarksMore", spec := "marksMore", unfollowed := true, recurses := true, apart := false, narrowed := true }
def MarksMoreUptoSaid : Prop := marksMoreUptoRow.holds Try.pinned (OpenSpec.upto marksMoreSpec)

/-- 'undertowlaw13.MarksAll', WHERE WHAT IT READS IS OF BULK AT MOST 1048576: true; the input reads as it did. -/
def marksAllUptoRow : OpenClaim := { program := "ytkncijoclnjpoaa", sum := "85016cabf045a69712935e9aaecd100fae511b44696811278fe3d1dd1a857191", func := "undertow/undertowlaw13.MarksAll", spec := "marksAll", unfollowed := true, recurses := true, apart := false, narrowed := true }
def MarksAllUptoSaid : Prop := marksAllUptoRow.holds Try.pinned (OpenSpec.upto marksAllSpec)

/-- 'undertowlaw13.MarksKnown', WHERE WHAT IT READS IS OF BULK AT MOST 1048576: true; the input reads as it did. -/
def marksKnownUptoRow : OpenClaim := { program := "ytkncijoclnjpoaa", sum := "85016cabf045a69712935e9aaecd100fae511b44696811278fe3d1dd1a857191", func := "undertow/undertowlaw13.MarksKnown", spec := "marksKnown", inPlace := ["maps.clone"], unfollowed := true, recurses := true, apart := false, narrowed := true }
def MarksKnownUptoSaid : Prop := marksKnownUptoRow.holds Try.pinned (OpenSpec.upto marksKnownSpec)

/-- 'undertowlaw13.MarksPlay', WHERE WHAT IT READS IS OF BULK AT MOST 1048576: true; the input reads as it did. -/
def marksPlayUptoRow : OpenClaim := { program := "ytkncijoclnjpoaa", sum := "85016cabf045a69712935e9aaecd100fae511b44696811278fe3d1dd1a857191", func := "undertow/undertowlaw13.MarksPlay", spec := "marksPlay", inPlace := ["maps.clone"], unfollowed := true, recurses := true, apart := false, narrowed := true }
def MarksPlayUptoSaid : Prop := marksPlayUptoRow.holds Try.pinned (OpenSpec.upto marksPlaySpec)

end Rows
end Go.Proofs.Ytkncijoclnjpoaa
