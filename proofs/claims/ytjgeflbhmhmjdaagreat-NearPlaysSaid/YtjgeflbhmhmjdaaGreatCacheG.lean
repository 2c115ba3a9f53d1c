/- Package cache: All, as an iterator; Len. -/
import Derived.Test.YtjgeflbhmhmjdaaGreatCacheF
import Derived.Test.YtjgeflbhmhmjdaaGreatRangeA
set_option linter.unusedSimpArgs false
set_option linter.unusedVariables false
namespace Go.Proofs.YtjgeflbhmhmjdaaGreat.KA
open Go.RowKit
open BU (IsU words)
open PL (Cfg CC CV May)
attribute [local go_sem] Oper.semAt_some
attribute [local go_sem ↓] TLin.ld_eq TLin.st_eq TLin.al_eq TLin.bx_eq
attribute [local go_sem] TLin.al_run TLin.bx_run
def lns (n : Nat) (A : Nat → Ln) : List Ln := ((List.range n).map A).filter (fun x => !freeB x)
section
variable {w0 W W' : World} {p : Kp} {T : TypeId} {c : Cfg} {A : Nat → Ln} {M : Nat → Int} {L : List Obj}
end
end Go.Proofs.YtjgeflbhmhmjdaaGreat.KA
