/- Two caches of the same sizes: what one does the other does. -/
import Derived.Test.YtaneobggbplkbaaCacheRAll
import Derived.Test.YtaneobggbplkbaaCacheNil
set_option linter.unusedSimpArgs false
set_option linter.unusedVariables false
namespace Go.Proofs.Ytaneobggbplkbaa.KA
open Go.RowKit
open BU (IsU words)
open PL (Cfg CC CV May)
section
variable {p r : Kp} {c : Cfg} {A : Nat → Ln} {M : Nat → Int}
/-- Of the same sizes. -/
def Like (p r : Kp) : Prop := r.s = p.s ∧ r.y = p.y
theorem Like.eq (h : Like p r) : r = { r with s := p.s, y := p.y } := by
  obtain ⟨h1, h2⟩ := h
  cases r; cases p
  dsimp only at h1 h2
  subst h1 h2
  rfl
theorem Like.all (h : Like p r) : (∀ A x, r.putE A x = p.putE A x) ∧ (∀ A x, r.putA A x = p.putA A x) ∧ (∀ A M x, r.putM A M x = p.putM A M x) ∧ (∀ A b, r.place A b = p.place A b) ∧ (∀ A b, r.drpA A b = p.drpA A b) ∧ (∀ A M b, r.useM A M b = p.useM A M b) ∧
    (∀ A b s, r.trnE A b s = p.trnE A b s) ∧ (∀ A b s, r.trnA A b s = p.trnA A b s) ∧ (∀ A b w, r.wrE A b w = p.wrE A b w) ∧ (∀ A b w z, r.wrA A b w z = p.wrA A b w z) ∧ (∀ A M b w, r.wrM A M b w = p.wrM A M b w) ∧
    (∀ A M b, r.goes A M b = p.goes A M b) ∧ (∀ A M b, r.gone A M b = p.gone A M b) ∧ (∀ A b, r.fnd A b = p.fnd A b) ∧ (∀ A, Good r A ↔ Good p A) ∧ (∀ A, Uniq r A ↔ Uniq p A) := by
  obtain ⟨h1, h2⟩ := h
  cases r; cases p
  dsimp only at h1 h2
  subst h1 h2
  exact ⟨fun _ _ => rfl, fun _ _ => rfl, fun _ _ _ => rfl, fun _ _ => rfl, fun _ _ => rfl, fun _ _ _ => rfl, fun _ _ _ => rfl, fun _ _ _ => rfl, fun _ _ _ => rfl, fun _ _ _ _ => rfl, fun _ _ _ _ => rfl, fun _ _ _ => rfl, fun _ _ _ => rfl, fun _ _ => rfl, fun _ => Iff.rfl, fun _ => Iff.rfl⟩
theorem Like.trans {q : Kp} (h : Like p r) (k : Like r q) : Like p q := ⟨k.1.trans h.1, k.2.trans h.2⟩
theorem Like.symm (h : Like p r) : Like r p := ⟨h.1.symm, h.2.symm⟩
/-- A line whose first j words are x. -/
def lineJ (b s x : Int) (j : Nat) : Ln := ⟨b, s, Array.ofFn (n := 16) (fun i => .int .u32 (if i.val < j then x else 0))⟩
theorem lineJ_ok (b s x : Int) (j : Nat) (hs : 0 ≤ s ∧ s ≤ 255) : (lineJ b s x j).Ok := ⟨hs, by
  refine ⟨by simp [lineJ], fun u hu => ?_⟩
  unfold lineJ at hu
  obtain ⟨i, hi, rfl⟩ := Array.mem_iff_getElem.1 hu
  exact ⟨_, by simp [Array.getElem_ofFn]; rfl⟩⟩
theorem zeroD : Array.ofFn (n := 16) (fun _ => Value.int .u32 0) = TBlk.Z := by kernel_rfl
theorem lineJ_zero (b s x : Int) : lineJ b s x 0 = lineL b s := by
  have h : (fun i : Fin 16 => Value.int .u32 (if i.val < 0 then x else 0)) = fun _ => Value.int .u32 0 := by
    funext i
    rw [if_neg (Nat.not_lt_zero _)]
  exact congrArg (Ln.mk b s) ((congrArg (Array.ofFn (n := 16)) h).trans zeroD)
theorem wordsJ (x : Int) (j : Nat) : Array.ofFn (n := 16) (fun i => Value.int .u32 (if i.val < j + 1 then x else 0)) = (Array.ofFn (n := 16) (fun i => Value.int .u32 (if i.val < j then x else 0))).setIfInBounds j (.int .u32 x) := by
  apply Array.ext
  · simp
  · intro i h1 h2
    simp only [Array.size_ofFn] at h1
    rw [Array.getElem_setIfInBounds (by simp; exact h1)]
    simp only [Array.getElem_ofFn]
    by_cases e : j = i
    · subst e; rw [if_pos rfl, if_pos (by omega)]
    · rw [if_neg e]
      by_cases e2 : i < j
      · rw [if_pos (by omega), if_pos e2]
      · rw [if_neg (by omega), if_neg e2]
theorem lineJ_succ (b s x : Int) (j : Nat) : (lineJ b s x (j + 1)).cells = (lineJ b s x j).cells.setIfInBounds (2 + j) (.int .u32 x) := by
  rw [← cells_D]
  exact congrArg (fun D => (Ln.mk b s D).cells) (wordsJ x j)
theorem lineJ_get (b s x : Int) (j i : Nat) (hi : i < 16) : (lineJ b s x j).cells[2 + i]? = some (.int .u32 (if i < j then x else 0)) := by
  rw [Ln.getD]
  unfold lineJ
  dsimp only
  rw [Array.getElem?_eq_getElem (by simp; exact hi)]
  simp
end
end Go.Proofs.Ytaneobggbplkbaa.KA
