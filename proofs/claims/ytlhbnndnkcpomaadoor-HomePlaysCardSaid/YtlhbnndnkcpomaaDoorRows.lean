/-
  NARROWER THAN 'FOR EVERY INPUT', by the rows' own cells (each row's printed sentence says how): HomeAnswers: laid · HomeOwned: laid · HomeMemory: laid · HomeCopies: laid · HomeKnown: laid · HomePlays: laid.
  DERIVED. THE GIVEN ROWS OF THIS SEAT. 6 by the template 'for every input the law returns true; each argument reads behind the call as it read before'; 0 by the template 'total and deterministic' (their statements: YtlhbnndnkcpomaaDoorTotals.lean).
  GIVEN WITH THE SEED: the statements are not yours to turn. If you find one false, say at which input.
  Laid BY PROGRAM, IN A SANDBOX (cutbox-rows.mjs): the forced cells as the released guide's own fill.sh prints them over the translation 80b3662b6b6931e7… (all of the seat's roots in one cut). By AI agents, Wed Nov 11 2026. No macro, syntax, notation, axiom, sorry.
-/
import Derived.Test.YtlhbnndnkcpomaaDoorChecked
import GoSem.Claim
import GoSem.ClaimJoined
import GoSem.ClaimMapViews
import Derived.JoinedTies
import Derived.KernelRfl
namespace Go.Proofs.YtlhbnndnkcpomaaDoor
/- THE CELL 'sum', in the pinned program and in every row, IS THE sha256 OF THE DUMP (.gsa) THAT YtlhbnndnkcpomaaDoorProg.lean LOADS. Nothing in Lean hashes anything: it is a label: what it is worth is what the hold of that sum in a sandbox is worth. -/
noncomputable def Tryd.pinned : Pinned := { name := "ytlhbnndnkcpomaadoor", sum := "80b3662b6b6931e7d1d100f6e0a83966b7291ae772a6a252b7a29cc0e80ef185", checked := Tryd.checked }
namespace Rows
def none {H : Type} : Left H := { results := [], args := [] }

/- WHAT THE LISTED PACKAGE-LEVEL VARIABLES READ AS WHEN THE CALL BEGINS. Each datum BY PROGRAM (the guide's laid-datum.mjs) off the statement by which the dump's own 'gosem.cut.vars' lays the variable. In a bare row this is a premise. The card (YtlhbnndnkcpomaaDoorCards.lean) ties it to the program's text. -/
def laid_math_bits_deBruijn32tab {H : Type} : DataW H := .agg [.lit (.int .u8 0), .lit (.int .u8 1), .lit (.int .u8 28), .lit (.int .u8 2), .lit (.int .u8 29), .lit (.int .u8 14), .lit (.int .u8 24), .lit (.int .u8 3), .lit (.int .u8 30), .lit (.int .u8 22), .lit (.int .u8 20), .lit (.int .u8 15), .lit (.int .u8 25), .lit (.int .u8 17), .lit (.int .u8 4), .lit (.int .u8 8), .lit (.int .u8 31), .lit (.int .u8 27), .lit (.int .u8 13), .lit (.int .u8 23), .lit (.int .u8 21), .lit (.int .u8 19), .lit (.int .u8 16), .lit (.int .u8 7), .lit (.int .u8 26), .lit (.int .u8 12), .lit (.int .u8 18), .lit (.int .u8 6), .lit (.int .u8 11), .lit (.int .u8 5), .lit (.int .u8 10), .lit (.int .u8 9)]

/-- 'undertowlaw11.HomeAnswers': WHATEVER THE INPUT: true; the input reads as it did. -/
def homeAnswersSpec : ChangeSpec := { name := "homeAnswers", fn := fun _ => fun
  | [d1, d2] => { results := [.lit (.bool true)], args := [d1, d2] }
  | _ => none }
def homeAnswersRow : OpenClaim := { program := "ytlhbnndnkcpomaadoor", sum := "80b3662b6b6931e7d1d100f6e0a83966b7291ae772a6a252b7a29cc0e80ef185", func := "undertow/undertowlaw11.HomeAnswers", spec := "homeAnswers", unfollowed := true, recurses := true, named := ["math/bits.deBruijn32tab"], plainKeys := false, apart := false, laid := [("math/bits.deBruijn32tab", laid_math_bits_deBruijn32tab)] }
def HomeAnswersSaid : Prop := homeAnswersRow.holds Tryd.pinned (OpenSpec.ofChange homeAnswersSpec)

/-- ITS FALSE NEIGHBOUR: 'it returns false'. Refute it at one input. -/
def homeAnswersWrong : ChangeSpec := { name := "homeAnswers", fn := fun _ => fun
  | [d1, d2] => { results := [.lit (.bool false)], args := [d1, d2] }
  | _ => none }
def HomeAnswersWrongFalsely : Prop := homeAnswersRow.holds Tryd.pinned (OpenSpec.ofChange homeAnswersWrong)

/-- 'undertowlaw11.HomeOwned': WHATEVER THE INPUT: true; the input reads as it did. -/
def homeOwnedSpec : ChangeSpec := { name := "homeOwned", fn := fun _ => fun
  | [d1, d2] => { results := [.lit (.bool true)], args := [d1, d2] }
  | _ => none }
def homeOwnedRow : OpenClaim := { program := "ytlhbnndnkcpomaadoor", sum := "80b3662b6b6931e7d1d100f6e0a83966b7291ae772a6a252b7a29cc0e80ef185", func := "undertow/undertowlaw11.HomeOwned", spec := "homeOwned", unfollowed := true, recurses := true, named := ["math/bits.deBruijn32tab"], plainKeys := false, apart := false, laid := [("math/bits.deBruijn32tab", laid_math_bits_deBruijn32tab)] }
def HomeOwnedSaid : Prop := homeOwnedRow.holds Tryd.pinned (OpenSpec.ofChange homeOwnedSpec)

/-- ITS FALSE NEIGHBOUR: 'it returns false'. Refute it at one input. -/
def homeOwnedWrong : ChangeSpec := { name := "homeOwned", fn := fun _ => fun
  | [d1, d2] => { results := [.lit (.bool false)], args := [d1, d2] }
  | _ => none }
def HomeOwnedWrongFalsely : Prop := homeOwnedRow.holds Tryd.pinned (OpenSpec.ofChange homeOwnedWrong)

/-- 'undertowlaw11.HomeMemory': WHATEVER THE INPUT: true; the input reads as it did. -/
def homeMemorySpec : ChangeSpec := { name := "homeMemory", fn := fun _ => fun
  | [d1, d2] => { results := [.lit (.bool true)], args := [d1, d2] }
  | _ => none }
def homeMemoryRow : OpenClaim := { program := "ytlhbnndnkcpomaadoor", sum := "80b3662b6b6931e7d1d100f6e0a83966b7291ae772a6a252b7a29cc0e80ef185", func := "undertow/undertowlaw11.HomeMemory", spec := "homeMemory", unfollowed := true, recurses := true, named := ["math/bits.deBruijn32tab"], plainKeys := false, apart := false, laid := [("math/bits.deBruijn32tab", laid_math_bits_deBruijn32tab)] }
def HomeMemorySaid : Prop := homeMemoryRow.holds Tryd.pinned (OpenSpec.ofChange homeMemorySpec)

/-- ITS FALSE NEIGHBOUR: 'it returns false'. Refute it at one input. -/
def homeMemoryWrong : ChangeSpec := { name := "homeMemory", fn := fun _ => fun
  | [d1, d2] => { results := [.lit (.bool false)], args := [d1, d2] }
  | _ => none }
def HomeMemoryWrongFalsely : Prop := homeMemoryRow.holds Tryd.pinned (OpenSpec.ofChange homeMemoryWrong)

/-- 'undertowlaw11.HomeCopies': WHATEVER THE INPUT: true; the input reads as it did. -/
def homeCopiesSpec : ChangeSpec := { name := "homeCopies", fn := fun _ => fun
  | [d1, d2, d3] => { results := [.lit (.bool true)], args := [d1, d2, d3] }
  | _ => none }
def homeCopiesRow : OpenClaim := { program := "ytlhbnndnkcpomaadoor", sum := "80b3662b6b6931e7d1d100f6e0a83966b7291ae772a6a252b7a29cc0e80ef185", func := "undertow/undertowlaw11.HomeCopies", spec := "homeCopies", inPlace := ["maps.clone"], unfollowed := true, recurses := true, named := ["math/bits.deBruijn32tab"], plainKeys := false, apart := false, laid := [("math/bits.deBruijn32tab", laid_math_bits_deBruijn32tab)] }
def HomeCopiesSaid : Prop := homeCopiesRow.holds Tryd.pinned (OpenSpec.ofChange homeCopiesSpec)

/-- ITS FALSE NEIGHBOUR: 'it returns false'. Refute it at one input. -/
def homeCopiesWrong : ChangeSpec := { name := "homeCopies", fn := fun _ => fun
  | [d1, d2, d3] => { results := [.lit (.bool false)], args := [d1, d2, d3] }
  | _ => none }
def HomeCopiesWrongFalsely : Prop := homeCopiesRow.holds Tryd.pinned (OpenSpec.ofChange homeCopiesWrong)

/-- 'undertowlaw11.HomeKnown': WHATEVER THE INPUT: true; the input reads as it did. -/
def homeKnownSpec : ChangeSpec := { name := "homeKnown", fn := fun _ => fun
  | [] => { results := [.lit (.bool true)], args := [] }
  | _ => none }
def homeKnownRow : OpenClaim := { program := "ytlhbnndnkcpomaadoor", sum := "80b3662b6b6931e7d1d100f6e0a83966b7291ae772a6a252b7a29cc0e80ef185", func := "undertow/undertowlaw11.HomeKnown", spec := "homeKnown", inPlace := ["maps.clone"], unfollowed := true, recurses := true, named := ["math/bits.deBruijn32tab"], plainKeys := false, apart := false, laid := [("math/bits.deBruijn32tab", laid_math_bits_deBruijn32tab)] }
def HomeKnownSaid : Prop := homeKnownRow.holds Tryd.pinned (OpenSpec.ofChange homeKnownSpec)

/-- ITS FALSE NEIGHBOUR: 'it returns false'. Refute it at one input. -/
def homeKnownWrong : ChangeSpec := { name := "homeKnown", fn := fun _ => fun
  | [] => { results := [.lit (.bool false)], args := [] }
  | _ => none }
def HomeKnownWrongFalsely : Prop := homeKnownRow.holds Tryd.pinned (OpenSpec.ofChange homeKnownWrong)

/-- 'undertowlaw11.HomePlays': WHATEVER THE INPUT: true; the input reads as it did. -/
def homePlaysSpec : ChangeSpec := { name := "homePlays", fn := fun _ => fun
  | [d1, d2, d3] => { results := [.lit (.bool true)], args := [d1, d2, d3] }
  | _ => none }
def homePlaysRow : OpenClaim := { program := "ytlhbnndnkcpomaadoor", sum := "80b3662b6b6931e7d1d100f6e0a83966b7291ae772a6a252b7a29cc0e80ef185", func := "undertow/undertowlaw11.HomePlays", spec := "homePlays", inPlace := ["maps.clone"], unfollowed := true, recurses := true, named := ["math/bits.deBruijn32tab"], plainKeys := false, apart := false, laid := [("math/bits.deBruijn32tab", laid_math_bits_deBruijn32tab)] }
def HomePlaysSaid : Prop := homePlaysRow.holds Tryd.pinned (OpenSpec.ofChange homePlaysSpec)

/-- ITS FALSE NEIGHBOUR: 'it returns false'. Refute it at one input. -/
def homePlaysWrong : ChangeSpec := { name := "homePlays", fn := fun _ => fun
  | [d1, d2, d3] => { results := [.lit (.bool false)], args := [d1, d2, d3] }
  | _ => none }
def HomePlaysWrongFalsely : Prop := homePlaysRow.holds Tryd.pinned (OpenSpec.ofChange homePlaysWrong)

/- THE SECOND FORM. 'bulk': how many values and letters a reading holds, each counted each time it is reached (what is shared counts as often as it is met; a slice's spare places count too). A statement '..UptoSaid' is the law's where the arguments, and the package variables that the reading takes, are together of bulk at most 1048576: NARROWER than '..Said'. Prove '..Said' where nothing that the law and all that it calls make is longer than what came in: it says more and counts as full. Else prove '..UptoSaid'. A law counts once. -/
mutual
def uptoBulk {H : Type} : DataW H → Nat
  | .lit (.string bytes) => bytes.length + 1
  | .lit _ => 1
  | .nil => 1
  | .ptr d => uptoBulk d + 1
  | .slice elems spare => uptoBulkAll elems + uptoBulkAll spare + 1
  | .agg parts => uptoBulkAll parts + 1
  | .iface _ d => uptoBulk d + 1
  | .map entries => uptoBulkEntries entries + 1
  | .held _ => 1
def uptoBulkAll {H : Type} : List (DataW H) → Nat
  | [] => 0
  | d :: r => uptoBulk d + uptoBulkAll r
def uptoBulkEntries {H : Type} : List (Lit × DataW H) → Nat
  | [] => 0
  | x :: r => uptoBulkEntry x + uptoBulkEntries r
def uptoBulkEntry {H : Type} : Lit × DataW H → Nat
  | (.string bytes, d) => bytes.length + uptoBulk d + 1
  | (_, d) => uptoBulk d + 1
 end
def uptoSmall : (H : Type) → List (DataW H) → Bool := fun _ ds => decide (uptoBulkAll ds ≤ 1048576)
def OpenSpec.upto (s : _root_.Go.ChangeSpec) : _root_.Go.OpenSpec := { _root_.Go.OpenSpec.ofChange s with cond := some uptoSmall }

/-- 'undertowlaw11.HomeAnswers', WHERE WHAT IT READS IS OF BULK AT MOST 1048576: true; the input reads as it did. -/
def homeAnswersUptoRow : OpenClaim := { program := "ytlhbnndnkcpomaadoor", sum := "80b3662b6b6931e7d1d100f6e0a83966b7291ae772a6a252b7a29cc0e80ef185", func := "undertow/undertowlaw11.HomeAnswers", spec := "homeAnswers", unfollowed := true, recurses := true, named := ["math/bits.deBruijn32tab"], plainKeys := false, apart := false, laid := [("math/bits.deBruijn32tab", laid_math_bits_deBruijn32tab)], narrowed := true }
def HomeAnswersUptoSaid : Prop := homeAnswersUptoRow.holds Tryd.pinned (OpenSpec.upto homeAnswersSpec)

/-- 'undertowlaw11.HomeOwned', WHERE WHAT IT READS IS OF BULK AT MOST 1048576: true; the input reads as it did. -/
def homeOwnedUptoRow : OpenClaim := { program := "ytlhbnndnkcpomaadoor", sum := "80b3662b6b6931e7d1d100f6e0a83966b7291ae772a6a252b7a29cc0e80ef185", func := "undertow/undertowlaw11.HomeOwned", spec := "homeOwned", unfollowed := true, recurses := true, named := ["math/bits.deBruijn32tab"], plainKeys := false, apart := false, laid := [("math/bits.deBruijn32tab", laid_math_bits_deBruijn32tab)], narrowed := true }
def HomeOwnedUptoSaid : Prop := homeOwnedUptoRow.holds Tryd.pinned (OpenSpec.upto homeOwnedSpec)

/-- 'undertowlaw11.HomeMemory', WHERE WHAT IT READS IS OF BULK AT MOST 1048576: true; the input reads as it did. -/
def homeMemoryUptoRow : OpenClaim := { program := "ytlhbnndnkcpomaadoor", sum := "80b3662b6b6931e7d1d100f6e0a83966b7291ae772a6a252b7a29cc0e80ef185", func := "undertow/undertowlaw11.HomeMemory", spec := "homeMemory", unfollowed := true, recurses := true, named := ["math/bits.deBruijn32tab"], plainKeys := false, apart := false, laid := [("math/bits.deBruijn32tab", laid_math_bits_deBruijn32tab)], narrowed := true }
def HomeMemoryUptoSaid : Prop := homeMemoryUptoRow.holds Tryd.pinned (OpenSpec.upto homeMemorySpec)

/-- 'undertowlaw11.HomeCopies', WHERE WHAT IT READS IS OF BULK AT MOST 1048576: true; the input reads as it did. -/
def homeCopiesUptoRow : OpenClaim := { program := "ytlhbnndnkcpomaadoor", sum := "80b3662b6b6931e7d1d100f6e0a83966b7291ae772a6a252b7a29cc0e80ef185", func := "undertow/undertowlaw11.HomeCopies", spec := "homeCopies", inPlace := ["maps.clone"], unfollowed := true, recurses := true, named := ["math/bits.deBruijn32tab"], plainKeys := false, apart := false, laid := [("math/bits.deBruijn32tab", laid_math_bits_deBruijn32tab)], narrowed := true }
def HomeCopiesUptoSaid : Prop := homeCopiesUptoRow.holds Tryd.pinned (OpenSpec.upto homeCopiesSpec)

/-- 'undertowlaw11.HomeKnown', WHERE WHAT IT READS IS OF BULK AT MOST 1048576: true; the input reads as it did. -/
def homeKnownUptoRow : OpenClaim := { program := "ytlhbnndnkcpomaadoor", sum := "80b3662b6b6931e7d1d100f6e0a83966b7291ae772a6a252b7a29cc0e80ef185", func := "undertow/undertowlaw11.HomeKnown", spec := "homeKnown", inPlace := ["maps.clone"], unfollowed := true, recurses := true, named := ["math/bits.deBruijn32tab"], plainKeys := false, apart := false, laid := [("math/bits.deBruijn32tab", laid_math_bits_deBruijn32tab)], narrowed := true }
def HomeKnownUptoSaid : Prop := homeKnownUptoRow.holds Tryd.pinned (OpenSpec.upto homeKnownSpec)

/-- 'undertowlaw11.HomePlays', WHERE WHAT IT READS IS OF BULK AT MOST 1048576: true; the input reads as it did. -/
def homePlaysUptoRow : OpenClaim := { program := "ytlhbnndnkcpomaadoor", sum := "80b3662b6b6931e7d1d100f6e0a83966b7291ae772a6a252b7a29cc0e80ef185", func := "undertow/undertowlaw11.HomePlays", spec := "homePlays", inPlace := ["maps.clone"], unfollowed := true, recurses := true, named := ["math/bits.deBruijn32tab"], plainKeys := false, apart := false, laid := [("math/bits.deBruijn32tab", laid_math_bits_deBruijn32tab)], narrowed := true }
def HomePlaysUptoSaid : Prop := homePlaysUptoRow.holds Tryd.pinned (OpenSpec.upto homePlaysSpec)

end Rows
end Go.Proofs.YtlhbnndnkcpomaaDoor
