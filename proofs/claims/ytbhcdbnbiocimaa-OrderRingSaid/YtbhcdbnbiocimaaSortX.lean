/- Sorting numbers of 64 bits without sign: slices.Sort. -/
import Derived.Test.YtbhcdbnbiocimaaSortW
set_option linter.unusedSimpArgs false
set_option linter.unusedVariables false
namespace Go.Proofs.Ytbhcdbnbiocimaa.SU
open Go.RowKit
open Go.Sort (ltInt PermIn SortedIn Below)
section
variable {w0 W : World} {g off : Nat} {d : Array Int}
set_option maxRecDepth 100000 in
set_option maxHeartbeats 4000000 in
theorem sort_any (cap : Nat) (h : SA w0 W g off d) (hsz : d.size ≤ 200) :
    Calls Try.prog 6 #[rowV g off d.size cap] W fun e w' => e = .returned (.tuple #[]) ∧ ∃ R, SA w0 w' g off R ∧ PermIn 0 d.size d R ∧ SortedIn ltInt 0 d.size R := by
  have HQ : ∀ lim : Nat, lim ≤ 300 → Calls Try.prog 11 #[rowV g off d.size cap, .int .i64 0, .int .i64 d.size, .int .i64 lim] W fun e w' => e = .returned (.tuple #[]) ∧ ∃ R, SA w0 w' g off R ∧ PermIn 0 d.size d R ∧ SortedIn ltInt 0 d.size R := fun lim hl =>
    pdq_any d.size w0 W g off d cap 0 d.size lim h (Nat.zero_le _) (Nat.le_refl _) hsz hl (Or.inl rfl) rfl
  have HQ := Lib.hid HQ
  clear h
  obtain ⟨n, hn⟩ : ∃ n, n = d.size := ⟨_, rfl⟩
  rw [← hn] at HQ hsz ⊢
  clear hn
  go_enter Try.func6, Try.ntmps6
  go_wp2_with (first | (go_at_call 12; refine (len_any n (by omega) _).mono ?_; rintro e w1 ⟨l, rfl, hl, _, rfl⟩) | (go_at_call 11; refine (HQ.out l (by omega)).mono ?_; rintro e w2 ⟨rfl, R, hS, hP, hO⟩))
  go_end0
  exact ⟨rfl, R, hS, hP, hO⟩
end
end Go.Proofs.Ytbhcdbnbiocimaa.SU
