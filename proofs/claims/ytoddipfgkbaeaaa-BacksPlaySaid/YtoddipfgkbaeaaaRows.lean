/-
  No cell of these rows narrows 'for every input' (looked for: loops, veiled, ifaces, maps, wideKeys, modest, calm, conditions, laid).
  DERIVED. THE GIVEN ROWS OF THIS SEAT. 5 by the template 'for every input the law returns true; each argument reads behind the call as it read before'; 0 by the template 'total and deterministic' (their statements: YtoddipfgkbaeaaaTotals.lean).
  GIVEN WITH THE SEED: the statements are not yours to turn. If you find one false, say at which input.
  Laid BY PROGRAM, IN A SANDBOX (cutbox-rows.mjs): the forced cells as the released guide's own fill.sh prints them over the translation 953b20df00366c8d… (all of the seat's roots in one cut). By AI agents, Wed Nov 11 2026. No macro, syntax, notation, axiom, sorry.
-/
import Derived.Test.YtoddipfgkbaeaaaChecked
import GoSem.Claim
import GoSem.ClaimJoined
import GoSem.ClaimMapViews
import Derived.JoinedTies
import Derived.KernelRfl
namespace Go.Proofs.Ytoddipfgkbaeaaa
/- THE CELL 'sum', in the pinned program and in every row, IS THE sha256 OF THE DUMP (.gsa) THAT YtoddipfgkbaeaaaProg.lean LOADS. Nothing in Lean hashes anything: it is a label: what it is worth is what the hold of that sum in a sandbox is worth. -/
noncomputable def Try.pinned : Pinned := { name := "ytoddipfgkbaeaaa", sum := "953b20df00366c8d01f28cd68112f6c132543162efa8d04cd4b424cb4e69113b", checked := Try.checked }
namespace Rows
def none {H : Type} : Left H := { results := [], args := [] }

/-- 'undertowlaw12.BacksMost': WHATEVER THE INPUT: true; the input reads as it did. -/
def backsMostSpec : ChangeSpec := { name := "backsMost", fn := fun _ => fun
  | [d1, d2] => { results := [.lit (.bool true)], args := [d1, d2] }
  | _ => none }
def backsMostRow : OpenClaim := { program := "ytoddipfgkbaeaaa", sum := "953b20df00366c8d01f28cd68112f6c132543162efa8d04cd4b424cb4e69113b", func := "undertow/undertowlaw12.BacksMost", spec := "backsMost", unfollowed := true, recurses := true, apart := false }
def BacksMostSaid : Prop := backsMostRow.holds Try.pinned (OpenSpec.ofChange backsMostSpec)

/-- ITS FALSE NEIGHBOUR: 'it returns false'. Refute it at one input. -/
def backsMostWrong : ChangeSpec := { name := "backsMost", fn := fun _ => fun
  | [d1, d2] => { results := [.lit (.bool false)], args := [d1, d2] }
  | _ => none }
def BacksMostWrongFalsely : Prop := backsMostRow.holds Try.pinned (OpenSpec.ofChange backsMostWrong)

/-- 'undertowlaw12.BacksKeep': WHATEVER THE INPUT: true; the input reads as it did. -/
def backsKeepSpec : ChangeSpec := { name := "backsKeep", fn := fun _ => fun
  | [d1, d2, d3] => { results := [.lit (.bool true)], args := [d1, d2, d3] }
  | _ => none }
def backsKeepRow : OpenClaim := { program := "ytoddipfgkbaeaaa", sum := "953b20df00366c8d01f28cd68112f6c132543162efa8d04cd4b424cb4e69113b", func := "undertow/undertowlaw12.BacksKeep", spec := "backsKeep", unfollowed := true, recurses := true, apart := false }
def BacksKeepSaid : Prop := backsKeepRow.holds Try.pinned (OpenSpec.ofChange backsKeepSpec)

/-- ITS FALSE NEIGHBOUR: 'it returns false'. Refute it at one input. -/
def backsKeepWrong : ChangeSpec := { name := "backsKeep", fn := fun _ => fun
  | [d1, d2, d3] => { results := [.lit (.bool false)], args := [d1, d2, d3] }
  | _ => none }
def BacksKeepWrongFalsely : Prop := backsKeepRow.holds Try.pinned (OpenSpec.ofChange backsKeepWrong)

/-- 'undertowlaw12.BacksCopies': WHATEVER THE INPUT: true; the input reads as it did. -/
def backsCopiesSpec : ChangeSpec := { name := "backsCopies", fn := fun _ => fun
  | [d1, d2, d3] => { results := [.lit (.bool true)], args := [d1, d2, d3] }
  | _ => none }
def backsCopiesRow : OpenClaim := { program := "ytoddipfgkbaeaaa", sum := "953b20df00366c8d01f28cd68112f6c132543162efa8d04cd4b424cb4e69113b", func := "undertow/undertowlaw12.BacksCopies", spec := "backsCopies", unfollowed := true, recurses := true, apart := false }
def BacksCopiesSaid : Prop := backsCopiesRow.holds Try.pinned (OpenSpec.ofChange backsCopiesSpec)

/-- ITS FALSE NEIGHBOUR: 'it returns false'. Refute it at one input. -/
def backsCopiesWrong : ChangeSpec := { name := "backsCopies", fn := fun _ => fun
  | [d1, d2, d3] => { results := [.lit (.bool false)], args := [d1, d2, d3] }
  | _ => none }
def BacksCopiesWrongFalsely : Prop := backsCopiesRow.holds Try.pinned (OpenSpec.ofChange backsCopiesWrong)

/-- 'undertowlaw12.BacksKnown': WHATEVER THE INPUT: true; the input reads as it did. -/
def backsKnownSpec : ChangeSpec := { name := "backsKnown", fn := fun _ => fun
  | [] => { results := [.lit (.bool true)], args := [] }
  | _ => none }
def backsKnownRow : OpenClaim := { program := "ytoddipfgkbaeaaa", sum := "953b20df00366c8d01f28cd68112f6c132543162efa8d04cd4b424cb4e69113b", func := "undertow/undertowlaw12.BacksKnown", spec := "backsKnown", unfollowed := true, recurses := true, apart := false }
def BacksKnownSaid : Prop := backsKnownRow.holds Try.pinned (OpenSpec.ofChange backsKnownSpec)

/-- ITS FALSE NEIGHBOUR: 'it returns false'. Refute it at one input. -/
def backsKnownWrong : ChangeSpec := { name := "backsKnown", fn := fun _ => fun
  | [] => { results := [.lit (.bool false)], args := [] }
  | _ => none }
def BacksKnownWrongFalsely : Prop := backsKnownRow.holds Try.pinned (OpenSpec.ofChange backsKnownWrong)

/-- 'undertowlaw12.BacksPlay': WHATEVER THE INPUT: true; the input reads as it did. -/
def backsPlaySpec : ChangeSpec := { name := "backsPlay", fn := fun _ => fun
  | [d1, d2] => { results := [.lit (.bool true)], args := [d1, d2] }
  | _ => none }
def backsPlayRow : OpenClaim := { program := "ytoddipfgkbaeaaa", sum := "953b20df00366c8d01f28cd68112f6c132543162efa8d04cd4b424cb4e69113b", func := "undertow/undertowlaw12.BacksPlay", spec := "backsPlay", unfollowed := true, recurses := true, apart := false }
def BacksPlaySaid : Prop := backsPlayRow.holds Try.pinned (OpenSpec.ofChange backsPlaySpec)

/-- ITS FALSE NEIGHBOUR: 'it returns false'. Refute it at one input. -/
def backsPlayWrong : ChangeSpec := { name := "backsPlay", fn := fun _ => fun
  | [d1, d2] => { results := [.lit (.bool false)], args := [d1, d2] }
  | _ => none }
def BacksPlayWrongFalsely : Prop := backsPlayRow.holds Try.pinned (OpenSpec.ofChange backsPlayWrong)

/- THE SECOND FORM. 'bulk': how many values and letters a reading holds, each counted each time it is reached (what is shared counts as often as it is met; a slice's spare places count too). A statement '..UptoSaid' is the law's where the arguments, and the package variables that the reading takes, are together of bulk at most 1048576: NARROWER than '..Said'. Prove '..Said' where nothing that the law and all that it calls make is longer than what came in: it says more and counts as full. Else prove '..UptoSaid'. A law counts once. -/
mutual
def uptoBulk {H : Type} : DataW H → Nat
  | .lit (.string bytes) => bytes.length + 1
  | .lit _ => 1
  | .nil => 1
  | .ptr d => uptoBulk d + 1
  | .slice elems spare => uptoBulkAll elems + uptoBulkAll spare + 1
  | .agg parts => uptoBulkAll parts + 1
  | .iface _ d => uptoBulk d + 1
  | .map entries => uptoBulkEntries entries + 1
  | .held _ => 1
def uptoBulkAll {H : Type} : List (DataW H) → Nat
  | [] => 0
  | d :: r => uptoBulk d + uptoBulkAll r
def uptoBulkEntries {H : Type} : List (Lit × DataW H) → Nat
  | [] => 0
  | x :: r => uptoBulkEntry x + uptoBulkEntries r
def uptoBulkEntry {H : Type} : Lit × DataW H → Nat
  | (.string bytes, d) => bytes.length + uptoBulk d + 1
  | (_, d) => uptoBulk d + 1
 end
def uptoSmall : (H : Type) → List (DataW H) → Bool := fun _ ds => decide (uptoBulkAll ds ≤ 1048576)
def OpenSpec.upto (s : _root_.Go.ChangeSpec) : _root_.Go.OpenSpec := { _root_.Go.OpenSpec.ofChange s with cond := some uptoSmall }

/-- 'undertowlaw12.BacksMost', WHERE WHAT IT READS IS OF BULK AT MOST 1048576: true; the input reads as it did. -/
def backsMostUptoRow : OpenClaim := { program := "ytoddipfgkbaeaaa", sum := "953b20df00366c8d01f28cd68112f6c132543162efa8d04cd4b424cb4e69113b", func := "undertow/undertowlaw12.BacksMost", spec := "backsMost", unfollowed := true, recurses := true, apart := false, narrowed := true }
def BacksMostUptoSaid : Prop := backsMostUptoRow.holds Try.pinned (OpenSpec.upto backsMostSpec)

/-- 'undertowlaw12.BacksKeep', WHERE WHAT IT READS IS OF BULK AT MOST 1048576: true; the input reads as it did. -/
def backsKeepUptoRow : OpenClaim := { program := "ytoddipfgkbaeaaa", sum := "953b20df00366c8d01f28cd68112f6c132543162efa8d04cd4b424cb4e69113b", func := "undertow/undertowlaw12.BacksKeep", spec := "backsKeep", unfollowed := true, recurses := true, apart := false, narrowed := true }
def BacksKeepUptoSaid : Prop := backsKeepUptoRow.holds Try.pinned (OpenSpec.upto backsKeepSpec)

/-- 'undertowlaw12.BacksCopies', WHERE WHAT IT READS IS OF BULK AT MOST 1048576: true; the input reads as it did. -/
def backsCopiesUptoRow : OpenClaim := { program := "ytoddipfgkbaeaaa", sum := "953b20df00366c8d01f28cd68112f6c132543162efa8d04cd4b424cb4e69113b", func := "undertow/undertowlaw12.BacksCopies", spec := "backsCopies", unfollowed := true, recurses := true, apart := false, narrowed := true }
def BacksCopiesUptoSaid : Prop := backsCopiesUptoRow.holds Try.pinned (OpenSpec.upto backsCopiesSpec)

/-- 'undertowlaw12.BacksKnown', WHERE WHAT IT READS IS OF BULK AT MOST 1048576: true; the input reads as it did. -/
def backsKnownUptoRow : OpenClaim := { program := "ytoddipfgkbaeaaa", sum := "953b20df00366c8d01f28cd68112f6c132543162efa8d04cd4b424cb4e69113b", func := "undertow/undertowlaw12.BacksKnown", spec := "backsKnown", unfollowed := true, recurses := true, apart := false, narrowed := true }
def BacksKnownUptoSaid : Prop := backsKnownUptoRow.holds Try.pinned (OpenSpec.upto backsKnownSpec)

/-- 'undertowlaw12.BacksPlay', WHERE WHAT IT READS IS OF BULK AT MOST 1048576: true; the input reads as it did. -/
def backsPlayUptoRow : OpenClaim := { program := "ytoddipfgkbaeaaa", sum := "953b20df00366c8d01f28cd68112f6c132543162efa8d04cd4b424cb4e69113b", func := "undertow/undertowlaw12.BacksPlay", spec := "backsPlay", unfollowed := true, recurses := true, apart := false, narrowed := true }
def BacksPlayUptoSaid : Prop := backsPlayUptoRow.holds Try.pinned (OpenSpec.upto backsPlaySpec)

end Rows
end Go.Proofs.Ytoddipfgkbaeaaa
