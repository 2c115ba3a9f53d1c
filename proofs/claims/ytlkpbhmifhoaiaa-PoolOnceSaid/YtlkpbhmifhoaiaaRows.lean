/-
  No cell of these rows narrows 'for every input' (looked for: loops, veiled, ifaces, maps, wideKeys, modest, calm, conditions, laid).
  DERIVED. THE GIVEN ROWS OF THIS SEAT. 6 by the template 'for every input the law returns true; each argument reads behind the call as it read before'; 0 by the template 'total and deterministic' (their statements: YtlkpbhmifhoaiaaTotals.lean).
  GIVEN WITH THE SEED: the statements are not yours to turn. If you find one false, say at which input.
  Laid BY PROGRAM, IN A SANDBOX (cutbox-rows.mjs): the forced cells as the released guide's own fill.sh prints them over the translation 75a824f9c09d4420… (all of the seat's roots in one cut). By AI agents, Wed Nov 11 2026. No macro, syntax, notation, axiom, sorry.
-/
import Derived.Test.YtlkpbhmifhoaiaaChecked
import GoSem.Claim
import GoSem.ClaimJoined
import GoSem.ClaimMapViews
import Derived.JoinedTies
import Derived.KernelRfl
namespace Go.Proofs.Ytlkpbhmifhoaiaa
/- THE CELL 'sum', in the pinned program and in every row, IS THE sha256 OF THE DUMP (.gsa) THAT YtlkpbhmifhoaiaaProg.lean LOADS. Nothing in Lean hashes anything: it is a label: what it is worth is what the hold of that sum in a sandbox is worth. -/
noncomputable def Try.pinned : Pinned := { name := "ytlkpbhmifhoaiaa", sum := "75a824f9c09d44208729ed0ab2beaf3179d4bf4ad74852c7245874ef948465e0", checked := Try.checked }
namespace Rows
def none {H : Type} : Left H := { results := [], args := [] }

/-- 'undertowlaw03.PoolInOrder': WHATEVER THE INPUT: true; the input reads as it did. -/
def poolInOrderSpec : ChangeSpec := { name := "poolInOrder", fn := fun _ => fun
  | [d1, d2] => { results := [.lit (.bool true)], args := [d1, d2] }
  | _ => none }
def poolInOrderRow : OpenClaim := { program := "ytlkpbhmifhoaiaa", sum := "75a824f9c09d44208729ed0ab2beaf3179d4bf4ad74852c7245874ef948465e0", func := "undertow/undertowlaw03.PoolInOrder", spec := "poolInOrder", apart := false }
def PoolInOrderSaid : Prop := poolInOrderRow.holds Try.pinned (OpenSpec.ofChange poolInOrderSpec)

/-- ITS FALSE NEIGHBOUR: 'it returns false'. Refute it at one input. -/
def poolInOrderWrong : ChangeSpec := { name := "poolInOrder", fn := fun _ => fun
  | [d1, d2] => { results := [.lit (.bool false)], args := [d1, d2] }
  | _ => none }
def PoolInOrderWrongFalsely : Prop := poolInOrderRow.holds Try.pinned (OpenSpec.ofChange poolInOrderWrong)

/-- 'undertowlaw03.PoolEarly': WHATEVER THE INPUT: true; the input reads as it did. -/
def poolEarlySpec : ChangeSpec := { name := "poolEarly", fn := fun _ => fun
  | [d1, d2] => { results := [.lit (.bool true)], args := [d1, d2] }
  | _ => none }
def poolEarlyRow : OpenClaim := { program := "ytlkpbhmifhoaiaa", sum := "75a824f9c09d44208729ed0ab2beaf3179d4bf4ad74852c7245874ef948465e0", func := "undertow/undertowlaw03.PoolEarly", spec := "poolEarly", unfollowed := true, recurses := true, apart := false }
def PoolEarlySaid : Prop := poolEarlyRow.holds Try.pinned (OpenSpec.ofChange poolEarlySpec)

/-- ITS FALSE NEIGHBOUR: 'it returns false'. Refute it at one input. -/
def poolEarlyWrong : ChangeSpec := { name := "poolEarly", fn := fun _ => fun
  | [d1, d2] => { results := [.lit (.bool false)], args := [d1, d2] }
  | _ => none }
def PoolEarlyWrongFalsely : Prop := poolEarlyRow.holds Try.pinned (OpenSpec.ofChange poolEarlyWrong)

/-- 'undertowlaw03.PoolOnce': WHATEVER THE INPUT: true; the input reads as it did. -/
def poolOnceSpec : ChangeSpec := { name := "poolOnce", fn := fun _ => fun
  | [d1, d2] => { results := [.lit (.bool true)], args := [d1, d2] }
  | _ => none }
def poolOnceRow : OpenClaim := { program := "ytlkpbhmifhoaiaa", sum := "75a824f9c09d44208729ed0ab2beaf3179d4bf4ad74852c7245874ef948465e0", func := "undertow/undertowlaw03.PoolOnce", spec := "poolOnce", unfollowed := true, recurses := true, apart := false }
def PoolOnceSaid : Prop := poolOnceRow.holds Try.pinned (OpenSpec.ofChange poolOnceSpec)

/-- ITS FALSE NEIGHBOUR: 'it returns false'. Refute it at one input. -/
def poolOnceWrong : ChangeSpec := { name := "poolOnce", fn := fun _ => fun
  | [d1, d2] => { results := [.lit (.bool false)], args := [d1, d2] }
  | _ => none }
def PoolOnceWrongFalsely : Prop := poolOnceRow.holds Try.pinned (OpenSpec.ofChange poolOnceWrong)

/-- 'undertowlaw03.PoolCopies': WHATEVER THE INPUT: true; the input reads as it did. -/
def poolCopiesSpec : ChangeSpec := { name := "poolCopies", fn := fun _ => fun
  | [d1, d2] => { results := [.lit (.bool true)], args := [d1, d2] }
  | _ => none }
def poolCopiesRow : OpenClaim := { program := "ytlkpbhmifhoaiaa", sum := "75a824f9c09d44208729ed0ab2beaf3179d4bf4ad74852c7245874ef948465e0", func := "undertow/undertowlaw03.PoolCopies", spec := "poolCopies", unfollowed := true, recurses := true, apart := false }
def PoolCopiesSaid : Prop := poolCopiesRow.holds Try.pinned (OpenSpec.ofChange poolCopiesSpec)

/-- ITS FALSE NEIGHBOUR: 'it returns false'. Refute it at one input. -/
def poolCopiesWrong : ChangeSpec := { name := "poolCopies", fn := fun _ => fun
  | [d1, d2] => { results := [.lit (.bool false)], args := [d1, d2] }
  | _ => none }
def PoolCopiesWrongFalsely : Prop := poolCopiesRow.holds Try.pinned (OpenSpec.ofChange poolCopiesWrong)

/-- 'undertowlaw03.PoolKnown': WHATEVER THE INPUT: true; the input reads as it did. -/
def poolKnownSpec : ChangeSpec := { name := "poolKnown", fn := fun _ => fun
  | [] => { results := [.lit (.bool true)], args := [] }
  | _ => none }
def poolKnownRow : OpenClaim := { program := "ytlkpbhmifhoaiaa", sum := "75a824f9c09d44208729ed0ab2beaf3179d4bf4ad74852c7245874ef948465e0", func := "undertow/undertowlaw03.PoolKnown", spec := "poolKnown", unfollowed := true, recurses := true, apart := false }
def PoolKnownSaid : Prop := poolKnownRow.holds Try.pinned (OpenSpec.ofChange poolKnownSpec)

/-- ITS FALSE NEIGHBOUR: 'it returns false'. Refute it at one input. -/
def poolKnownWrong : ChangeSpec := { name := "poolKnown", fn := fun _ => fun
  | [] => { results := [.lit (.bool false)], args := [] }
  | _ => none }
def PoolKnownWrongFalsely : Prop := poolKnownRow.holds Try.pinned (OpenSpec.ofChange poolKnownWrong)

/-- 'undertowlaw03.PoolPlays': WHATEVER THE INPUT: true; the input reads as it did. -/
def poolPlaysSpec : ChangeSpec := { name := "poolPlays", fn := fun _ => fun
  | [d1, d2] => { results := [.lit (.bool true)], args := [d1, d2] }
  | _ => none }
def poolPlaysRow : OpenClaim := { program := "ytlkpbhmifhoaiaa", sum := "75a824f9c09d44208729ed0ab2beaf3179d4bf4ad74852c7245874ef948465e0", func := "undertow/undertowlaw03.PoolPlays", spec := "poolPlays", unfollowed := true, recurses := true, apart := false }
def PoolPlaysSaid : Prop := poolPlaysRow.holds Try.pinned (OpenSpec.ofChange poolPlaysSpec)

/-- ITS FALSE NEIGHBOUR: 'it returns false'. Refute it at one input. -/
def poolPlaysWrong : ChangeSpec := { name := "poolPlays", fn := fun _ => fun
  | [d1, d2] => { results := [.lit (.bool false)], args := [d1, d2] }
  | _ => none }
def PoolPlaysWrongFalsely : Prop := poolPlaysRow.holds Try.pinned (OpenSpec.ofChange poolPlaysWrong)

/- THE SECOND FORM. 'bulk': how many values and letters a reading holds, each counted each time it is reached (what is shared counts as often as it is met; a slice's spare places count too). A statement '..UptoSaid' is the law's where the arguments, and the package variables that the reading takes, are together of bulk at most 1048576: NARROWER than '..Said'. Prove '..Said' where nothing that the law and all that it calls make is longer than what came in: it says more and counts as full. Else prove '..UptoSaid'. A law counts once. -/
mutual
def uptoBulk {H : Type} : DataW H → Nat
  | .lit (.string bytes) => bytes.length + 1
  | .lit _ => 1
  | .nil => 1
  | .ptr d => uptoBulk d + 1
  | .slice elems spare => uptoBulkAll elems + uptoBulkAll spare + 1
  | .agg parts => uptoBulkAll parts + 1
  | .iface _ d => uptoBulk d + 1
  | .map entries => uptoBulkEntries entries + 1
  | .held _ => 1
def uptoBulkAll {H : Type} : List (DataW H) → Nat
  | [] => 0
  | d :: r => uptoBulk d + uptoBulkAll r
def uptoBulkEntries {H : Type} : List (Lit × DataW H) → Nat
  | [] => 0
  | x :: r => uptoBulkEntry x + uptoBulkEntries r
def uptoBulkEntry {H : Type} : Lit × DataW H → Nat
  | (.string bytes, d) => bytes.length + uptoBulk d + 1
  | (_, d) => uptoBulk d + 1
 end
def uptoSmall : (H : Type) → List (DataW H) → Bool := fun _ ds => decide (uptoBulkAll ds ≤ 1048576)
def OpenSpec.upto (s : _root_.Go.ChangeSpec) : _root_.Go.OpenSpec := { _root_.Go.OpenSpec.ofChange s with cond := some uptoSmall }

/-- 'undertowlaw03.PoolInOrder', WHERE WHAT IT READS IS OF BULK AT MOST 1048576: true; the input reads as it did. -/
def poolInOrderUptoRow : OpenClaim := { program := "ytlkpbhmifhoaiaa", sum := "75a824f9c09d44208729ed0ab2beaf3179d4bf4ad74852c7245874ef948465e0", func := "undertow/undertowlaw03.PoolInOrder", spec := "poolInOrder", apart := false, narrowed := true }
def PoolInOrderUptoSaid : Prop := poolInOrderUptoRow.holds Try.pinned (OpenSpec.upto poolInOrderSpec)

/-- 'undertowlaw03.PoolEarly', WHERE WHAT IT READS IS OF BULK AT MOST 1048576: true; the input reads as it did. -/
def poolEarlyUptoRow : OpenClaim := { program := "ytlkpbhmifhoaiaa", sum := "75a824f9c09d44208729ed0ab2beaf3179d4bf4ad74852c7245874ef948465e0", func := "undertow/undertowlaw03.PoolEarly", spec := "poolEarly", unfollowed := true, recurses := true, apart := false, narrowed := true }
def PoolEarlyUptoSaid : Prop := poolEarlyUptoRow.holds Try.pinned (OpenSpec.upto poolEarlySpec)

/-- 'undertowlaw03.PoolOnce', WHERE WHAT IT READS IS OF BULK AT MOST 1048576: true; the input reads as it did. -/
def poolOnceUptoRow : OpenClaim := { program := "ytlkpbhmifhoaiaa", sum := "75a824f9c09d44208729ed0ab2beaf3179d4bf4ad74852c7245874ef948465e0", func := "undertow/undertowlaw03.PoolOnce", spec := "poolOnce", unfollowed := true, recurses := true, apart := false, narrowed := true }
def PoolOnceUptoSaid : Prop := poolOnceUptoRow.holds Try.pinned (OpenSpec.upto poolOnceSpec)

/-- 'undertowlaw03.PoolCopies', WHERE WHAT IT READS IS OF BULK AT MOST 1048576: true; the input reads as it did. -/
def poolCopiesUptoRow : OpenClaim := { program := "ytlkpbhmifhoaiaa", sum := "75a824f9c09d44208729ed0ab2beaf3179d4bf4ad74852c7245874ef948465e0", func := "undertow/undertowlaw03.PoolCopies", spec := "poolCopies", unfollowed := true, recurses := true, apart := false, narrowed := true }
def PoolCopiesUptoSaid : Prop := poolCopiesUptoRow.holds Try.pinned (OpenSpec.upto poolCopiesSpec)

/-- 'undertowlaw03.PoolKnown', WHERE WHAT IT READS IS OF BULK AT MOST 1048576: true; the input reads as it did. -/
def poolKnownUptoRow : OpenClaim := { program := "ytlkpbhmifhoaiaa", sum := "75a824f9c09d44208729ed0ab2beaf3179d4bf4ad74852c7245874ef948465e0", func := "undertow/undertowlaw03.PoolKnown", spec := "poolKnown", unfollowed := true, recurses := true, apart := false, narrowed := true }
def PoolKnownUptoSaid : Prop := poolKnownUptoRow.holds Try.pinned (OpenSpec.upto poolKnownSpec)

/-- 'undertowlaw03.PoolPlays', WHERE WHAT IT READS IS OF BULK AT MOST 1048576: true; the input reads as it did. -/
def poolPlaysUptoRow : OpenClaim := { program := "ytlkpbhmifhoaiaa", sum := "75a824f9c09d44208729ed0ab2beaf3179d4bf4ad74852c7245874ef948465e0", func := "undertow/undertowlaw03.PoolPlays", spec := "poolPlays", unfollowed := true, recurses := true, apart := false, narrowed := true }
def PoolPlaysUptoSaid : Prop := poolPlaysUptoRow.holds Try.pinned (OpenSpec.upto poolPlaysSpec)

end Rows
end Go.Proofs.Ytlkpbhmifhoaiaa
