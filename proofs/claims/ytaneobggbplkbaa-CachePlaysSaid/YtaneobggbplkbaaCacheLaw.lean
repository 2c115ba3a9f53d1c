/- Package cache: plain laws of its state; the rows of calls that came in. -/
import Derived.Test.YtaneobggbplkbaaCacheW
import Derived.Test.YtaneobggbplkbaaRowF
set_option linter.unusedSimpArgs false
set_option linter.unusedVariables false
namespace Go.Proofs.Ytaneobggbplkbaa.KA
open Go.RowKit
open BU (IsU words)
open PL (Cfg CC CV May)
abbrev cfgO (cb : Nat) (c : Cfg) : Obj := boxO cb (CC c) 23
abbrev OT : TypeId := 33
abbrev opC (kk bb ww ss xx : Int) : Array Value := #[.int .i64 kk, .int .i64 bb, .int .i64 ww, .int .u8 ss, .int .u32 xx]
theorem script_at {w : World} {a : Option Addr} {len cap : Nat} {V : Nat → Nat → Value} {K B Ww Ss X : Nat → Int} (h : IsRowF w a len cap 5 V) (hV : ∀ i, i < len → V i 0 = .int .i64 (K i) ∧ V i 1 = .int .i64 (B i) ∧ V i 2 = .int .i64 (Ww i) ∧ V i 3 = .int .u8 (Ss i) ∧ V i 4 = .int .u32 (X i)) :
    ∀ i, i < len → ∃ x g q, a = some x ∧ x.add (i * 5) = ⟨g, q, none⟩ ∧ g < w.heap.size ∧ w.cell? ⟨g, q, none⟩ = some (.int .i64 (K i)) ∧ w.cell? ⟨g, q + 1, none⟩ = some (.int .i64 (B i)) ∧ w.cell? ⟨g, q + 2, none⟩ = some (.int .i64 (Ww i)) ∧ w.cell? ⟨g, q + 3, none⟩ = some (.int .u8 (Ss i)) ∧ w.cell? ⟨g, q + 4, none⟩ = some (.int .u32 (X i)) := fun i hi => by
  obtain ⟨x, g, q, hx, hxa, hg, hc⟩ := h.at (by decide) hi
  obtain ⟨h0, h1, h2, h3, h4⟩ := hV i hi
  exact ⟨x, g, q, hx, hxa, hg, by rw [← h0]; exact hc 0 (by decide), by rw [← h1]; exact hc 1 (by decide), by rw [← h2]; exact hc 2 (by decide), by rw [← h3]; exact hc 3 (by decide), by rw [← h4]; exact hc 4 (by decide)⟩
section
variable {p : Kp} {c : Cfg} {A : Nat → Ln} {M : Nat → Int}
/-- Every line may be, and stands in its set. -/
def Good (p : Kp) (A : Nat → Ln) : Prop := ∀ i, i < p.s * p.y → freeB (A i) = false → mayX (A i) = true ∧ p.set (A i).blk = i / p.y
theorem Good.nil : Good p (fun _ => Ln.nil) := fun i _ h => by cases h
theorem div_at {q j y : Nat} (hj : j < y) : (q * y + j) / y = q := by rw [Nat.mul_comm, Nat.mul_add_div (by omega), Nat.div_eq_of_lt hj, Nat.add_zero]
theorem place_at {b : Int} {i : Nat} (h : p.place A b = some i) : mayK b = true ∧ ∃ j, j < p.y ∧ i = p.set b * p.y + j ∧ hasB b (A i) = true := by
  rcases find_cases p A b with ⟨_, hp⟩ | ⟨_, _, hp, _⟩ | ⟨j, hm, hj, _, hp, hh⟩
  · rw [hp] at h; cases h
  · rw [hp] at h; cases h
  · rw [hp] at h; cases h; exact ⟨hm, j, hj, rfl, hh⟩
theorem fr_at {b : Int} (h : ¬ p.fr A b < 0) : ∃ j, j < p.y ∧ p.fr A b = j ∧ freeB (A (p.set b * p.y + j)) = true := by
  rcases firstW_cases freeB A (p.set b * p.y) p.y with ⟨h1, _⟩ | ⟨j, h1, h2, h3⟩
  · have h1 : p.fr A b = -1 := h1
    omega
  · exact ⟨j, h1, h2, h3⟩
theorem fr_none {b : Int} (h : p.fr A b < 0) : ∀ j, j < p.y → freeB (A (p.set b * p.y + j)) = false := by
  rcases firstW_cases freeB A (p.set b * p.y) p.y with ⟨_, h1⟩ | ⟨j, h1, h2, h3⟩
  · exact h1
  · have h2 : p.fr A b = j := h2
    omega
theorem fr_some {b : Int} {j : Nat} (hj : j < p.y) (h : freeB (A (p.set b * p.y + j)) = true) : ¬ p.fr A b < 0 := fun h2 => by
  have := fr_none h2 j hj
  rw [h] at this; cases this
theorem slot_at {b : Int} {i : Nat} (h : p.slot A b = some i) : ∃ j, j < p.y ∧ i = p.set b * p.y + j := by
  unfold Kp.slot at h
  cases hp : p.place A b with
  | some k =>
    rw [hp] at h; cases h
    obtain ⟨_, j, h1, h2, _⟩ := place_at hp
    exact ⟨j, h1, h2⟩
  | none =>
    rw [hp] at h
    dsimp only at h
    by_cases hf : p.fr A b < 0
    · rw [if_pos hf] at h; cases h
    · rw [if_neg hf] at h
      obtain ⟨j, h1, h2, _⟩ := fr_at hf
      rw [h2] at h; cases h
      exact ⟨j, h1, by simp⟩
theorem place_has {b : Int} (hm : mayK b = true) {j : Nat} (hj : j < p.y) (h : hasB b (A (p.set b * p.y + j)) = true) : (p.place A b).isSome = true := by
  rcases find_cases p A b with ⟨h0, _⟩ | ⟨_, _, _, h1⟩ | ⟨_, _, _, _, hp, _⟩
  · rw [hm] at h0; cases h0
  · rw [h1 j hj] at h; cases h
  · rw [hp]; rfl
theorem Good.put (h : Good p A) (x : Ln) : Good p (p.putA A x) := by
  unfold Kp.putA
  split
  · rename_i hx
    cases hs : p.slot A x.blk with
    | none => exact h
    | some k =>
      obtain ⟨j, hj, rfl⟩ := slot_at hs
      intro i hi hf
      dsimp only at hf ⊢
      unfold updL at hf ⊢
      by_cases e : i = p.set x.blk * p.y + j
      · rw [if_pos e]
        exact ⟨hx, by rw [e, div_at hj]⟩
      · rw [if_neg e] at hf ⊢
        exact h i hi hf
  · exact h
theorem Good.drp (h : Good p A) (b : Int) : Good p (p.drpA A b) := by
  unfold Kp.drpA
  split
  · exact h
  · intro i hi hf
    unfold updL at hf ⊢
    split at hf
    · cases hf
    · rename_i e; rw [if_neg e]; exact h i hi hf
theorem mayK_set {b : Int} (hf : p.Fits c) (hm : mayK b = true) : b % c.sets = (p.set b : Int) := by
  have h0 : 0 < p.s := by have := hf.sy.1; omega
  rw [hf.es]; unfold Kp.set
  have := Int.emod_nonneg b (show (p.s : Int) ≠ 0 by omega)
  omega
/-- Whether it would find room. -/
theorem goes_slot {b : Int} (hm : mayK b = true) : (p.goes A M b).isSome = (p.slot A b).isNone := by
  unfold Kp.goes Kp.slot
  rw [hm]
  cases p.place A b with
  | some i => rfl
  | none =>
    dsimp only
    by_cases h : p.fr A b < 0
    · rw [if_pos h, if_pos rfl, if_pos h]; rfl
    · rw [if_neg h, if_pos rfl, if_neg h]; rfl
theorem goes_at (hf : p.Fits c) (hg : Good p A) {b : Int} {i : Nat} (h : p.goes A M b = some i) : mayK b = true ∧ mayX (A i) = true ∧ p.set (A i).blk = p.set b ∧ (p.place A (A i).blk).isSome = true := by
  unfold Kp.goes at h
  cases hm : mayK b with
  | false => rw [hm] at h; cases h
  | true =>
    rw [hm] at h
    simp only [if_true] at h
    cases hp : p.place A b with
    | some k => rw [hp] at h; cases h
    | none =>
      rw [hp] at h
      dsimp only at h
      by_cases hfr : p.fr A b < 0
      · rw [if_pos hfr] at h
        have hv := vicV_rng (M (p.set b)) p.y (by have := hf.sy.2; omega)
        obtain ⟨v, hv2⟩ : ∃ v : Nat, vicV (M (p.set b)) p.y = v := ⟨_, (Int.toNat_of_nonneg hv.1).symm⟩
        rw [hv2] at h hv
        simp only [Int.toNat_natCast] at h
        cases h
        have hvy : v < p.y := by omega
        have hlt := hf.idx_lt (b := b) hvy
        obtain ⟨h1, h2⟩ := hg _ hlt (fr_none hfr v hvy)
        rw [div_at hvy] at h2
        refine ⟨rfl, h1, h2, ?_⟩
        have hm2 : mayK (A (p.set b * p.y + v)).blk = true := by unfold mayX at h1; revert h1; cases mayK (A (p.set b * p.y + v)).blk <;> simp
        refine place_has hm2 hvy ?_
        rw [h2]
        have hfv := fr_none hfr v hvy
        unfold hasB
        unfold freeB at hfv
        simp at hfv ⊢
        exact hfv
      · rw [if_neg hfr] at h; cases h
theorem mayX_line {b s : Int} (hm : mayK b = true) (hs : 1 ≤ s ∧ s ≤ 3) : mayX (lineL b s) = true := by
  unfold mayX lineL; rw [hm]; simp; exact hs
theorem put_line {b : Int} (hm : mayK b = true) : p.putE A (lineL b 1) = (if (p.goes A M b).isSome then 7 else 0) := by
  rw [goes_slot hm]
  unfold Kp.putE
  rw [mayX_line hm (by omega)]
  show (if true = true then (match p.slot A b with | none => (7 : Int) | some _ => 0) else 2) = _
  cases p.slot A b <;> rfl
theorem put_bad {b : Int} (hm : mayK b = false) : p.putE A (lineL b 1) = 2 := by
  unfold Kp.putE mayX
  show (if (mayK b && _ && _) = true then _ else (2 : Int)) = 2
  rw [hm]; rfl
theorem putE_same {p' : Kp} (h1 : p'.s = p.s) (h2 : p'.y = p.y) (x : Ln) : p'.putE A x = p.putE A x := by
  have e : ∀ b, p'.set b = p.set b := fun b => by unfold Kp.set; rw [h1]
  have ew : ∀ b, p'.way A b = p.way A b := fun b => by unfold Kp.way; rw [e, h2]
  have ep : ∀ b, p'.place A b = p.place A b := fun b => by unfold Kp.place; rw [e, ew, h2]
  have ef : ∀ b, p'.fr A b = p.fr A b := fun b => by unfold Kp.fr; rw [e, h2]
  have es : ∀ b, p'.slot A b = p.slot A b := fun b => by unfold Kp.slot; rw [e, ep, ef, h2]
  unfold Kp.putE; rw [es]
/-- What had to go is dropped: there is room. -/
theorem put_after {b b2 : Int} (hm : mayK b = true) {i : Nat} (hp : p.place A b2 = some i) (hs : p.set b2 = p.set b) : p.putE (p.drpA A b2) (lineL b 1) = 0 := by
  obtain ⟨_, j, hj, rfl, _⟩ := place_at hp
  unfold Kp.putE
  rw [mayX_line hm (by omega)]
  show (if true = true then (match p.slot (p.drpA A b2) b with | none => (7 : Int) | some _ => 0) else 2) = 0
  have hfree : freeB (p.drpA A b2 (p.set b * p.y + j)) = true := by
    unfold Kp.drpA; rw [hp, hs]; unfold updL; simp; rfl
  have hfr := fr_some hj hfree
  unfold Kp.slot
  cases p.place (p.drpA A b2) b with
  | some k => rfl
  | none => rw [if_neg hfr]; rfl
end
end Go.Proofs.Ytaneobggbplkbaa.KA
