/- Package cache: All, as an iterator; Len. -/
import Derived.Test.YtjgeflbhmhmjdaaGreatCacheF
import Derived.Test.YtjgeflbhmhmjdaaGreatRangeA
set_option linter.unusedSimpArgs false
set_option linter.unusedVariables false
namespace Go.Proofs.YtjgeflbhmhmjdaaGreat.KA
open Go.RowKit
open BU (IsU words)
open PL (Cfg CC CV May)
attribute [local go_sem] Oper.semAt_some
attribute [local go_sem ↓] TLin.ld_eq TLin.st_eq TLin.al_eq TLin.bx_eq
attribute [local go_sem] TLin.al_run TLin.bx_run
/-- The first n lines that are not free. -/
def lns (n : Nat) (A : Nat → Ln) : List Ln := ((List.range n).map A).filter (fun x => !freeB x)
theorem lns_succ (n : Nat) (A : Nat → Ln) : lns (n + 1) A = lns n A ++ (if freeB (A n) then [] else [A n]) := by
  unfold lns
  rw [List.range_succ, List.map_append, List.filter_append]
  congr 1
  simp only [List.map_cons, List.map_nil, List.filter_cons, List.filter_nil]
  cases freeB (A n) <;> rfl
theorem lns_pre (A : Nat → Ln) (k : Nat) : ∀ n, ∃ r, lns (k + n) A = lns k A ++ r
  | 0 => ⟨[], by simp⟩
  | n + 1 => by
    obtain ⟨r, h⟩ := lns_pre A k n
    exact ⟨r ++ (if freeB (A (k + n)) then [] else [A (k + n)]), by rw [← Nat.add_assoc, lns_succ, h, List.append_assoc]⟩
theorem lns_get {A : Nat → Ln} {k n : Nat} (hk : k < n) (hf : freeB (A k) = false) : (lns n A)[(lns k A).length]? = some (A k) := by
  obtain ⟨r, h⟩ := lns_pre A (k + 1) (n - (k + 1))
  rw [show k + 1 + (n - (k + 1)) = n by omega] at h
  rw [h, lns_succ, hf]
  simp
theorem lns_len_le (A : Nat → Ln) (n : Nat) : (lns n A).length ≤ n := by
  unfold lns
  refine Nat.le_trans (List.length_filter_le _ _) ?_
  simp
theorem lns_ok {A : Nat → Ln} (h : ∀ i, (A i).Ok) {n : Nat} {x : Ln} (hx : x ∈ lns n A) : x.Ok := by
  unfold lns at hx
  obtain ⟨i, _, rfl⟩ := List.mem_map.1 (List.mem_filter.1 hx).1
  exact h i
section
variable {w0 W W' : World} {p : Kp} {T : TypeId} {c : Cfg} {A : Nat → Ln} {M : Nat → Int} {L : List Obj}
end
end Go.Proofs.YtjgeflbhmhmjdaaGreat.KA
