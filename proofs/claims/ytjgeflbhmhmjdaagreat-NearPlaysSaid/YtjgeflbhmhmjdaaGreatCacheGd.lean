/- Package cache: plain laws of its places: every line stands in its set, none twice. -/
import Derived.Test.YtjgeflbhmhmjdaaGreatCacheH
import Derived.Test.YtjgeflbhmhmjdaaGreatAggNear
import Derived.Test.YtjgeflbhmhmjdaaGreatPlan
import Derived.ChangeArms
import Derived.OpenShut
set_option linter.unusedSimpArgs false
set_option linter.unusedVariables false
namespace Go.Proofs.YtjgeflbhmhmjdaaGreat.KA
open Go.RowKit
open BU (IsU words)
open PL (Cfg CC CV May)
section
variable {p : Kp} {c : Cfg} {A : Nat → Ln} {M : Nat → Int}
def Good (p : Kp) (A : Nat → Ln) : Prop := ∀ i, i < p.s * p.y → freeB (A i) = false → mayX (A i) = true ∧ p.set (A i).blk = i / p.y
theorem Good.nil : Good p (fun _ => Ln.nil) := fun i _ h => by cases h
theorem div_at {q j y : Nat} (hj : j < y) : (q * y + j) / y = q := by rw [Nat.mul_comm, Nat.mul_add_div (by omega), Nat.div_eq_of_lt hj, Nat.add_zero]
theorem place_at {b : Int} {i : Nat} (h : p.place A b = some i) : mayK b = true ∧ ∃ j, j < p.y ∧ i = p.set b * p.y + j ∧ hasB b (A i) = true := by
  rcases find_cases p A b with ⟨_, hp⟩ | ⟨_, _, hp, _⟩ | ⟨j, hm, hj, _, hp, hh⟩
  · rw [hp] at h; cases h
  · rw [hp] at h; cases h
  · rw [hp] at h; cases h; exact ⟨hm, j, hj, rfl, hh⟩
theorem fr_at {b : Int} (h : ¬ p.fr A b < 0) : ∃ j, j < p.y ∧ p.fr A b = j ∧ freeB (A (p.set b * p.y + j)) = true := by
  rcases firstW_cases freeB A (p.set b * p.y) p.y with ⟨h1, _⟩ | ⟨j, h1, h2, h3⟩
  · have h1 : p.fr A b = -1 := h1
    omega
  · exact ⟨j, h1, h2, h3⟩
theorem fr_none {b : Int} (h : p.fr A b < 0) : ∀ j, j < p.y → freeB (A (p.set b * p.y + j)) = false := by
  rcases firstW_cases freeB A (p.set b * p.y) p.y with ⟨_, h1⟩ | ⟨j, h1, h2, h3⟩
  · exact h1
  · have h2 : p.fr A b = j := h2
    omega
theorem slot_at {b : Int} {i : Nat} (h : p.slot A b = some i) : ∃ j, j < p.y ∧ i = p.set b * p.y + j := by
  unfold Kp.slot at h
  cases hp : p.place A b with
  | some k =>
    rw [hp] at h; cases h
    obtain ⟨_, j, h1, h2, _⟩ := place_at hp
    exact ⟨j, h1, h2⟩
  | none =>
    rw [hp] at h
    dsimp only at h
    by_cases hf : p.fr A b < 0
    · rw [if_pos hf] at h; cases h
    · rw [if_neg hf] at h
      obtain ⟨j, h1, h2, _⟩ := fr_at hf
      rw [h2] at h; cases h
      exact ⟨j, h1, by simp⟩
theorem place_has {b : Int} (hm : mayK b = true) {j : Nat} (hj : j < p.y) (h : hasB b (A (p.set b * p.y + j)) = true) : (p.place A b).isSome = true := by
  rcases find_cases p A b with ⟨h0, _⟩ | ⟨_, _, _, h1⟩ | ⟨_, _, _, _, hp, _⟩
  · rw [hm] at h0; cases h0
  · rw [h1 j hj] at h; cases h
  · rw [hp]; rfl
theorem Good.put (h : Good p A) (x : Ln) : Good p (p.putA A x) := by
  unfold Kp.putA
  split
  · rename_i hx
    cases hs : p.slot A x.blk with
    | none => exact h
    | some k =>
      obtain ⟨j, hj, rfl⟩ := slot_at hs
      intro i hi hf
      dsimp only at hf ⊢
      unfold updL at hf ⊢
      by_cases e : i = p.set x.blk * p.y + j
      · rw [if_pos e]
        exact ⟨hx, by rw [e, div_at hj]⟩
      · rw [if_neg e] at hf ⊢
        exact h i hi hf
  · exact h
theorem Good.drp (h : Good p A) (b : Int) : Good p (p.drpA A b) := by
  unfold Kp.drpA
  split
  · exact h
  · intro i hi hf
    unfold updL at hf ⊢
    split at hf
    · cases hf
    · rename_i e; rw [if_neg e]; exact h i hi hf
theorem mayK_set {b : Int} (hf : p.Fits c) (hm : mayK b = true) : b % c.sets = (p.set b : Int) := by
  have h0 : 0 < p.s := by have := hf.sy.1; omega
  rw [hf.es]; unfold Kp.set
  have := Int.emod_nonneg b (show (p.s : Int) ≠ 0 by omega)
  omega
theorem goes_slot {b : Int} (hm : mayK b = true) : (p.goes A M b).isSome = (p.slot A b).isNone := by
  unfold Kp.goes Kp.slot
  rw [hm]
  cases p.place A b with
  | some i => rfl
  | none =>
    dsimp only
    by_cases h : p.fr A b < 0
    · rw [if_pos h, if_pos rfl, if_pos h]; rfl
    · rw [if_neg h, if_pos rfl, if_neg h]; rfl
theorem goes_at (hf : p.Fits c) (hg : Good p A) {b : Int} {i : Nat} (h : p.goes A M b = some i) : mayK b = true ∧ mayX (A i) = true ∧ p.set (A i).blk = p.set b ∧ (p.place A (A i).blk).isSome = true := by
  unfold Kp.goes at h
  cases hm : mayK b with
  | false => rw [hm] at h; cases h
  | true =>
    rw [hm] at h
    simp only [if_true] at h
    cases hp : p.place A b with
    | some k => rw [hp] at h; cases h
    | none =>
      rw [hp] at h
      dsimp only at h
      by_cases hfr : p.fr A b < 0
      · rw [if_pos hfr] at h
        have hv := vicV_rng (M (p.set b)) p.y (by have := hf.sy.2; omega)
        obtain ⟨v, hv2⟩ : ∃ v : Nat, vicV (M (p.set b)) p.y = v := ⟨_, (Int.toNat_of_nonneg hv.1).symm⟩
        rw [hv2] at h hv
        simp only [Int.toNat_natCast] at h
        cases h
        have hvy : v < p.y := by omega
        have hlt := hf.idx_lt (b := b) hvy
        obtain ⟨h1, h2⟩ := hg _ hlt (fr_none hfr v hvy)
        rw [div_at hvy] at h2
        refine ⟨rfl, h1, h2, ?_⟩
        have hm2 : mayK (A (p.set b * p.y + v)).blk = true := by unfold mayX at h1; revert h1; cases mayK (A (p.set b * p.y + v)).blk <;> simp
        refine place_has hm2 hvy ?_
        rw [h2]
        have hfv := fr_none hfr v hvy
        unfold hasB
        unfold freeB at hfv
        simp at hfv ⊢
        exact hfv
      · rw [if_neg hfr] at h; cases h
def Uniq (p : Kp) (A : Nat → Ln) : Prop := ∀ i j, i < p.s * p.y → j < p.s * p.y → freeB (A i) = false → freeB (A j) = false → (A i).blk = (A j).blk → i = j
theorem hasB_iff {b : Int} {x : Ln} : hasB b x = true ↔ freeB x = false ∧ x.blk = b := by
  unfold hasB freeB; simp
theorem Uniq.nil : Uniq p (fun _ => Ln.nil) := fun i j _ _ h => by cases h
theorem Uniq.upd (h : Uniq p A) {i : Nat} {x : Ln} (hx : freeB x = true ∨ ∀ j, j < p.s * p.y → j ≠ i → freeB (A j) = false → (A j).blk ≠ x.blk) : Uniq p (updL A i x) := by
  intro j k hj hk fj fk e
  unfold updL at fj fk e
  by_cases e1 : j = i <;> by_cases e2 : k = i
  · rw [e1, e2]
  · rw [if_pos e1] at fj e; rw [if_neg e2] at fk e
    rcases hx with hx | hx
    · rw [hx] at fj; cases fj
    · exact absurd e.symm (hx k hk e2 fk)
  · rw [if_neg e1] at fj e; rw [if_pos e2] at fk e
    rcases hx with hx | hx
    · rw [hx] at fk; cases fk
    · exact absurd e (hx j hj e1 fj)
  · rw [if_neg e1] at fj e; rw [if_neg e2] at fk e
    exact h j k hj hk fj fk e
theorem place_eq (hf : p.Fits c) (hg : Good p A) (hu : Uniq p A) {i : Nat} (hi : i < p.s * p.y) (fi : freeB (A i) = false) : p.place A (A i).blk = some i := by
  obtain ⟨h1, h2⟩ := hg i hi fi
  have hm : mayK (A i).blk = true := by unfold mayX at h1; revert h1; cases mayK (A i).blk <;> simp
  have hy : 0 < p.y := by have := (Kp.small hf).2.2.1; omega
  have hmod : i % p.y < p.y := Nat.mod_lt _ hy
  have hiy : p.set (A i).blk * p.y + i % p.y = i := by rw [h2]; exact Nat.div_add_mod' i p.y
  have hs := place_has (A := A) hm hmod (by rw [hiy]; exact hasB_iff.2 ⟨fi, rfl⟩)
  obtain ⟨k, hk⟩ := Option.isSome_iff_exists.1 hs
  obtain ⟨_, j, hj, rfl, hh⟩ := place_at hk
  obtain ⟨fk, ek⟩ := hasB_iff.1 hh
  have := hu _ _ (hf.idx_lt hj) hi fk fi ek
  rw [hk, this]
theorem place_lt (hf : p.Fits c) {b : Int} {i : Nat} (h : p.place A b = some i) : i < p.s * p.y ∧ freeB (A i) = false ∧ (A i).blk = b := by
  obtain ⟨_, j, hj, rfl, hh⟩ := place_at h
  obtain ⟨f, e⟩ := hasB_iff.1 hh
  exact ⟨hf.idx_lt hj, f, e⟩
theorem Uniq.put (hf : p.Fits c) (hg : Good p A) (h : Uniq p A) (x : Ln) : Uniq p (p.putA A x) := by
  unfold Kp.putA
  split
  · cases hs : p.slot A x.blk with
    | none => exact h
    | some i =>
      refine h.upd (.inr fun j hj hne fj e => ?_)
      have hpl := place_eq hf hg h hj fj
      rw [e] at hpl
      unfold Kp.slot at hs
      rw [hpl] at hs
      cases hs
      exact hne rfl
  · exact h
theorem Uniq.drp (h : Uniq p A) (b : Int) : Uniq p (p.drpA A b) := by
  unfold Kp.drpA
  split
  · exact h
  · exact h.upd (.inl rfl)
theorem Uniq.turn (hf : p.Fits c) (h : Uniq p A) {b : Int} {i : Nat} (hp : p.place A b = some i) {x : Ln} (hx : x.blk = (A i).blk) : Uniq p (updL A i x) := by
  obtain ⟨h1, h2, h3⟩ := place_lt hf hp
  refine h.upd (.inr fun j hj hne fj e => hne ?_)
  exact h j i hj h1 fj h2 (e.trans hx)
theorem Good.turn (hf : p.Fits c) (h : Good p A) {b : Int} {i : Nat} (hp : p.place A b = some i) {x : Ln} (hx : x.blk = (A i).blk) (hs : 1 ≤ x.st ∧ x.st ≤ 3) : Good p (updL A i x) := by
  obtain ⟨h1, h2, h3⟩ := place_lt hf hp
  obtain ⟨g1, g2⟩ := h i h1 h2
  intro j hj fj
  unfold updL at fj ⊢
  by_cases e : j = i
  · rw [if_pos e, e]
    refine ⟨?_, by rw [hx]; exact g2⟩
    unfold mayX at g1 ⊢
    rw [hx]
    revert g1
    cases mayK (A i).blk <;> simp
    omega
  · rw [if_neg e] at fj ⊢
    exact h j hj fj
theorem Uniq.trn (hf : p.Fits c) (h : Uniq p A) (b s : Int) : Uniq p (p.trnA A b s) := by
  unfold Kp.trnA
  cases hp : p.place A b with
  | none => exact h
  | some i =>
    dsimp only
    split
    · exact h.turn hf hp rfl
    · exact h
theorem Good.trn (hf : p.Fits c) (h : Good p A) (b s : Int) : Good p (p.trnA A b s) := by
  unfold Kp.trnA
  cases hp : p.place A b with
  | none => exact h
  | some i =>
    dsimp only
    split
    · rename_i hs
      exact h.turn hf hp rfl (by unfold maySt at hs; simpa using hs)
    · exact h
theorem Uniq.wr (hf : p.Fits c) (h : Uniq p A) (b w z : Int) : Uniq p (p.wrA A b w z) := by
  unfold Kp.wrA
  cases hp : p.place A b with
  | none => exact h
  | some i =>
    dsimp only
    split
    · split
      · exact h
      · exact h.turn hf hp rfl
    · exact h
theorem Good.wr (hf : p.Fits c) (h : Good p A) (b w z : Int) : Good p (p.wrA A b w z) := by
  unfold Kp.wrA
  cases hp : p.place A b with
  | none => exact h
  | some i =>
    dsimp only
    split
    · split
      · exact h
      · exact h.turn hf hp rfl (by show 1 ≤ (3 : Int) ∧ (3 : Int) ≤ 3; omega)
    · exact h
theorem place_upd (hf : p.Fits c) (hg : Good p A) (hu : Uniq p A) {i : Nat} (hi : i < p.s * p.y) {x : Ln} (hx : mayX x = true) (hs : p.set x.blk = i / p.y) (hfree : freeB (A i) = true ∨ (A i).blk = x.blk)
    (hno : p.place A x.blk = none ∨ p.place A x.blk = some i) (b : Int) : p.place (updL A i x) b = if b = x.blk then some i else p.place A b := by
  have hfx : freeB x = false := by
    unfold mayX at hx
    unfold freeB
    simp only [Bool.and_eq_true, decide_eq_true_eq] at hx
    simp; omega
  have hg' : Good p (updL A i x) := fun j hj fj => by
    unfold updL at fj ⊢
    by_cases e : j = i
    · rw [if_pos e, e]; exact ⟨hx, hs⟩
    · rw [if_neg e] at fj ⊢; exact hg j hj fj
  have hu' : Uniq p (updL A i x) := hu.upd (.inr fun j hj hne fj e => by
    have hp := place_eq hf hg hu hj fj
    rw [e] at hp
    rcases hno with h | h
    · rw [h] at hp; cases hp
    · rw [h] at hp; cases hp; exact hne rfl)
  have hai : updL A i x i = x := updL_self A i x
  by_cases e : b = x.blk
  · rw [if_pos e, e]
    have := place_eq hf hg' hu' hi (by rw [hai]; exact hfx)
    rw [hai] at this
    exact this
  · rw [if_neg e]
    cases hp : p.place A b with
    | some j =>
      obtain ⟨h1, h2, h3⟩ := place_lt hf hp
      have hji : j ≠ i := fun e2 => by
        subst e2
        rcases hfree with h | h
        · rw [h] at h2; cases h2
        · exact e (h3.symm.trans h)
      have haj : updL A i x j = A j := by unfold updL; rw [if_neg hji]
      have := place_eq hf hg' hu' h1 (by rw [haj]; exact h2)
      rw [haj, h3] at this
      exact this
    | none =>
      cases hp2 : p.place (updL A i x) b with
      | none => rfl
      | some j =>
        obtain ⟨h1, h2, h3⟩ := place_lt hf hp2
        by_cases hji : j = i
        · subst hji; rw [hai] at h3; exact absurd h3.symm e
        · have haj : updL A i x j = A j := by unfold updL; rw [if_neg hji]
          rw [haj] at h2 h3
          have := place_eq hf hg hu h1 h2
          rw [h3, hp] at this
          cases this
theorem place_drp (hf : p.Fits c) (hg : Good p A) (hu : Uniq p A) {b0 : Int} {i : Nat} (h0 : p.place A b0 = some i) (b : Int) : p.place (updL A i Ln.nil) b = if b = b0 then none else p.place A b := by
  obtain ⟨hi, fi, ei⟩ := place_lt hf h0
  have e0 : updL A i Ln.nil = p.drpA A b0 := by unfold Kp.drpA; rw [h0]
  have hg' := hg.drp b0
  have hu' := hu.drp b0
  rw [← e0] at hg' hu'
  have hai : updL A i Ln.nil i = Ln.nil := updL_self A i _
  cases hp2 : p.place (updL A i Ln.nil) b with
  | some j =>
    obtain ⟨h1, h2, h3⟩ := place_lt hf hp2
    have hji : j ≠ i := fun e => by subst e; rw [hai] at h2; cases h2
    have haj : updL A i Ln.nil j = A j := by unfold updL; rw [if_neg hji]
    rw [haj] at h2 h3
    have hp := place_eq hf hg hu h1 h2
    rw [h3] at hp
    have hne : b ≠ b0 := fun e => by rw [e, h0] at hp; cases hp; exact hji rfl
    rw [if_neg hne, hp]
  | none =>
    by_cases e : b = b0
    · rw [if_pos e]
    · rw [if_neg e]
      cases hp : p.place A b with
      | none => rfl
      | some j =>
        obtain ⟨h1, h2, h3⟩ := place_lt hf hp
        have hji : j ≠ i := fun e2 => by subst e2; exact e (h3.symm.trans ei)
        have haj : updL A i Ln.nil j = A j := by unfold updL; rw [if_neg hji]
        have := place_eq hf hg' hu' h1 (by rw [haj]; exact h2)
        rw [haj, h3, hp2] at this
        cases this
end
end Go.Proofs.YtjgeflbhmhmjdaaGreat.KA
namespace Go.Proofs.YtjgeflbhmhmjdaaGreat.NR
open Go.RowKit
open BU (IsU words)
open PL (Cfg CC CV May)
open KA (Kp CIs OkA Uniq mayX mayK maySt mayW wrL freeB)
open DL (DS stampE beginE beginS endB openE endS failS overS)
def lnO (p : Kp) (A : Nat → Ln) (b : Int) : Option Ln := (p.place A b).map A
section
variable {p : Kp} {c : Cfg} {A : Nat → Ln} {M : Nat → Int}
theorem place_lnO (b : Int) : (p.place A b).isSome = (lnO p A b).isSome := by
  unfold lnO
  cases p.place A b <;> rfl
theorem lnO_none {b : Int} : p.place A b = none ↔ lnO p A b = none := by
  unfold lnO
  cases p.place A b <;> simp
theorem lnO_updL {i : Nat} {x : Ln} (hpl : ∀ b, p.place (updL A i x) b = if b = x.blk then some i else p.place A b) (hd : ∀ b, b ≠ x.blk → p.place A b ≠ some i) (b : Int) :
    lnO p (updL A i x) b = if b = x.blk then some x else lnO p A b := by
  unfold lnO
  rw [hpl]
  by_cases e : b = x.blk
  · rw [if_pos e, if_pos e]; show some (updL A i x i) = some x; unfold updL; rw [if_pos rfl]
  · rw [if_neg e, if_neg e]
    cases hq : p.place A b with
    | none => rfl
    | some j =>
      have hj : j ≠ i := fun h => hd b e (by rw [hq, h])
      show some (updL A i x j) = some (A j)
      unfold updL; rw [if_neg hj]
theorem lnO_turn (hf : p.Fits c) (hg : KA.Good p A) (hu : Uniq p A) {b0 : Int} {i : Nat} (hp : p.place A b0 = some i) {x : Ln} (hx : x.blk = b0) (hm : mayX x = true) (b : Int) : lnO p (updL A i x) b = if b = b0 then some x else lnO p A b := by
  obtain ⟨h1, h2, h3⟩ := KA.place_lt hf hp
  obtain ⟨_, h5⟩ := hg i h1 h2
  have := lnO_updL (A := A) (i := i) (x := x) (p := p) (fun b => KA.place_upd hf hg hu h1 hm (by rw [hx, ← h3]; exact h5) (.inr (by rw [hx]; exact h3)) (.inr (by rw [hx]; exact hp)) b) (fun b hb hq => by
    have := (KA.place_lt hf hq).2.2
    exact hb (by rw [hx, ← h3, this])) b
  rw [this, hx]
theorem lnO_drp (hf : p.Fits c) (hg : KA.Good p A) (hu : Uniq p A) (b0 b : Int) : lnO p (p.drpA A b0) b = if b = b0 then none else lnO p A b := by
  unfold KA.Kp.drpA
  cases hp : p.place A b0 with
  | none =>
    show lnO p A b = _
    split
    · rename_i e; rw [e]; exact lnO_none.1 hp
    · rfl
  | some i =>
    show lnO p (updL A i Ln.nil) b = _
    unfold lnO
    rw [KA.place_drp hf hg hu hp b]
    split
    · rfl
    · rename_i hne
      cases hq : p.place A b with
      | none => rfl
      | some j =>
        have hj : j ≠ i := fun e => by
          subst e
          have h1 := (KA.place_lt hf hp).2.2
          have h2 := (KA.place_lt hf hq).2.2
          exact hne (h2.symm.trans h1)
        show some (updL A i Ln.nil j) = some (A j)
        unfold updL; rw [if_neg hj]
theorem mayX_at (hf : p.Fits c) (hg : KA.Good p A) {b : Int} {i : Nat} (hp : p.place A b = some i) : mayX (A i) = true ∧ (A i).blk = b := by
  obtain ⟨h1, h2, h3⟩ := KA.place_lt hf hp
  exact ⟨(hg i h1 h2).1, h3⟩
theorem mayX_k {x : Ln} (h : mayX x = true) : mayK x.blk = true ∧ 1 ≤ x.st ∧ x.st ≤ 3 := by
  unfold KA.mayX at h
  simp only [Bool.and_eq_true, decide_eq_true_eq] at h
  exact ⟨h.1.1, h.1.2, h.2⟩
theorem mayX_mk {x : Ln} (h : mayK x.blk = true) (h1 : 1 ≤ x.st) (h3 : x.st ≤ 3) : mayX x = true := by
  unfold KA.mayX
  simp only [Bool.and_eq_true, decide_eq_true_eq]
  exact ⟨⟨h, h1⟩, h3⟩
def trnL (l : Ln) (s : Int) : Ln := if maySt s then { l with st := s } else l
theorem lnO_trn (hf : p.Fits c) (hg : KA.Good p A) (hu : Uniq p A) (b0 s b : Int) : lnO p (p.trnA A b0 s) b = if b = b0 then (lnO p A b0).map (fun l => trnL l s) else lnO p A b := by
  unfold KA.Kp.trnA trnL
  cases hp : p.place A b0 with
  | none =>
    show lnO p A b = _
    split
    · rename_i e; rw [e, lnO_none.1 hp]; rfl
    · rfl
  | some i =>
    have h0 : lnO p A b0 = some (A i) := by unfold lnO; rw [hp]; rfl
    obtain ⟨hm, hb⟩ := mayX_at hf hg hp
    show lnO p (if maySt s then updL A i { A i with st := s } else A) b = _
    rw [h0]
    cases hs : maySt s with
    | false =>
      simp only [Bool.false_eq_true, if_false]
      split
      · rename_i e; rw [e]; exact h0
      · rfl
    | true =>
      simp only [if_true]
      unfold KA.maySt at hs
      simp only [Bool.and_eq_true, decide_eq_true_eq] at hs
      exact lnO_turn hf hg hu hp (x := { A i with st := s }) hb (mayX_mk (mayX_k hm).1 hs.1 hs.2) b
def wroteL (l : Ln) (w z : Int) : Ln := if mayW w then (if l.st = 1 then l else wrL l w z) else l
theorem lnO_wr (hf : p.Fits c) (hg : KA.Good p A) (hu : Uniq p A) (b0 w z b : Int) : lnO p (p.wrA A b0 w z) b = if b = b0 then (lnO p A b0).map (fun l => wroteL l w z) else lnO p A b := by
  unfold KA.Kp.wrA wroteL
  cases hp : p.place A b0 with
  | none =>
    show lnO p A b = _
    split
    · rename_i e; rw [e, lnO_none.1 hp]; rfl
    · rfl
  | some i =>
    have h0 : lnO p A b0 = some (A i) := by unfold lnO; rw [hp]; rfl
    obtain ⟨hm, hb⟩ := mayX_at hf hg hp
    show lnO p (if mayW w then (if (A i).st = 1 then A else updL A i (wrL (A i) w z)) else A) b = _
    rw [h0]
    have same : lnO p A b = if b = b0 then some (A i) else lnO p A b := by
      split
      · rename_i e; rw [e]; exact h0
      · rfl
    cases hw : mayW w with
    | false =>
      simp only [Bool.false_eq_true, if_false]
      exact same
    | true =>
      simp only [if_true]
      by_cases hs : (A i).st = 1
      · rw [if_pos hs]
        simp only [Option.map_some, if_pos hs]
        exact same
      · rw [if_neg hs]
        simp only [Option.map_some, if_neg hs]
        exact lnO_turn hf hg hu hp (x := wrL (A i) w z) hb (mayX_mk (x := wrL (A i) w z) (mayX_k hm).1 (by show (1 : Int) ≤ 3; decide) (by show (3 : Int) ≤ 3; decide)) b
theorem putE_cases (x : Ln) : (p.putE A x = 0 ∧ mayX x = true ∧ ∃ i, p.slot A x.blk = some i ∧ p.putA A x = updL A i x) ∨ (p.putE A x ≠ 0 ∧ p.putA A x = A ∧ ∀ M, p.putM A M x = M) := by
  unfold KA.Kp.putE KA.Kp.putA KA.Kp.putM
  cases hx : mayX x with
  | false =>
    simp only [Bool.false_eq_true, if_false]
    exact .inr ⟨by decide, trivial, fun _ => trivial⟩
  | true =>
    simp only [if_true]
    cases hs : p.slot A x.blk with
    | none => exact .inr ⟨by decide, rfl, fun _ => rfl⟩
    | some i => exact .inl ⟨rfl, trivial, i, rfl, rfl⟩
theorem lnO_put (hf : p.Fits c) (hg : KA.Good p A) (hu : Uniq p A) {x : Ln} (he : p.putE A x = 0) (b : Int) : lnO p (p.putA A x) b = if b = x.blk then some x else lnO p A b := by
  rcases putE_cases (p := p) (A := A) x with ⟨_, hm, i, hs, e⟩ | ⟨h, _, _⟩
  · rw [e]
    cases hp : p.place A x.blk with
    | some k =>
      have : k = i := by unfold KA.Kp.slot at hs; rw [hp] at hs; simpa using hs
      subst this
      exact lnO_turn hf hg hu hp rfl hm b
    | none =>
      have hs' : (if p.fr A x.blk < 0 then none else some (p.set x.blk * p.y + (p.fr A x.blk).toNat)) = some i := by unfold KA.Kp.slot at hs; rw [hp] at hs; exact hs
      by_cases hfr : p.fr A x.blk < 0
      · rw [if_pos hfr] at hs'; cases hs'
      rw [if_neg hfr] at hs'
      obtain ⟨j, hj, hj2, hfree⟩ := KA.fr_at hfr
      rw [hj2, Int.toNat_natCast] at hs'
      obtain rfl : p.set x.blk * p.y + j = i := by simpa using hs'
      have hlt := hf.idx_lt (b := x.blk) hj
      refine lnO_updL (fun b => KA.place_upd hf hg hu hlt hm (by rw [KA.div_at hj]) (.inl hfree) (.inl hp) b) (fun b hb hq => ?_) b
      have := (KA.place_lt hf hq).2.1
      rw [hfree] at this; cases this
  · exact absurd he h
theorem goes_lt (hf : p.Fits c) {b : Int} {i : Nat} (h : p.goes A M b = some i) : i < p.s * p.y := by
  unfold KA.Kp.goes at h
  split at h
  · cases hp : p.place A b with
    | some k => rw [hp] at h; cases h
    | none =>
      rw [hp] at h
      dsimp only at h
      split at h
      · have hv := KA.vicV_rng (M (p.set b)) p.y (by have := hf.sy.2; omega)
        have := hf.idx_lt (b := b) (j := (KA.vicV (M (p.set b)) p.y).toNat) (by omega)
        obtain rfl : p.set b * p.y + (KA.vicV (M (p.set b)) p.y).toNat = i := by simpa using h
        exact this
      · cases h
  · cases h
theorem gone_at (hf : p.Fits c) (hg : KA.Good p A) (hu : Uniq p A) {b : Int} (h : (p.goes A M b).isSome = true) : lnO p A b = none ∧ lnO p A (p.gone A M b).blk = some (p.gone A M b) ∧ mayX (p.gone A M b) = true ∧ (p.gone A M b).blk ≠ b := by
  obtain ⟨i, hi⟩ := Option.isSome_iff_exists.1 h
  obtain ⟨h1, h2, h3, h4⟩ := KA.goes_at hf hg hi
  have hlt := goes_lt hf hi
  have hgo : p.gone A M b = A i := by unfold KA.Kp.gone; rw [hi]
  have hno : p.place A b = none := by
    cases hp : p.place A b with
    | none => rfl
    | some k =>
      unfold KA.Kp.goes at hi
      rw [h1, hp] at hi
      simp at hi
  rw [hgo]
  have hne : (A i).blk ≠ b := fun e => by rw [e, hno] at h4; cases h4
  refine ⟨lnO_none.1 hno, ?_, h2, hne⟩
  have hfr : freeB (A i) = false := by
    have := mayX_k h2
    unfold KA.freeB
    simp; omega
  unfold lnO
  rw [KA.place_eq hf hg hu hlt hfr]
  rfl
end
/- The backs. -/
section
variable {data room : Int} {zs : List BK.Bk}
theorem bkI_find (b : Int) : bkI zs b = (BK.findB zs b).isSome := rfl
theorem find_drop (h : BK.Inv data room zs) (b : Int) : BK.findB (BK.dropS zs b) b = none := BK.find_none_iff.2 (fun z hz => BK.dropS_not h b z hz)
theorem find_kill (h : BK.Inv data room zs) (b : Int) : BK.findB (BK.killS zs b) b = (BK.findB zs b).map (fun z => { z with live := false }) := by
  cases hf : BK.findB zs b with
  | none =>
    have e : BK.killS zs b = zs := by unfold BK.killS; rw [hf]
    rw [e, hf]; rfl
  | some z =>
    have hb := ((BK.find_some_iff h).1 hf).2
    cases hl : z.live with
    | false =>
      have e : BK.killS zs b = zs := by unfold BK.killS; rw [hf]; show (if z.live then _ else zs) = zs; rw [hl]; rfl
      rw [e, hf]
      show some z = some { z with live := false }
      rw [← hl]
    | true =>
      have e : BK.killS zs b = BK.dropS zs b ++ [⟨b, z.D, false⟩] := by unfold BK.killS; rw [hf]; show (if z.live then _ else zs) = _; rw [hl]; rfl
      have hk := h.kill b
      have hm : (⟨b, z.D, false⟩ : BK.Bk) ∈ BK.killS zs b := by rw [e]; simp
      rw [(BK.find_some_iff hk).2 ⟨hm, rfl⟩]
      show some (⟨b, z.D, false⟩ : BK.Bk) = some { z with live := false }
      rw [← hb]
end
structure NV (p : Kp) (S : Ns) : Prop where
  good : KA.Good p S.A
  uniq : Uniq p S.A
  st : 0 < S.d.depth → 1 ≤ S.d.st
  apart : ∀ b, bkI S.zs b = true → lnO p S.A b = none
  wait : S.wa = true → bkI S.zs S.q.blk = false
section
variable {p : Kp} {S : Ns}
theorem NV.new (p : Kp) (c : Cfg) (core : Int) : NV p (Ns.new c core) := ⟨KA.Good.nil, Uniq.nil, fun h => absurd h (by show ¬ (0 : Int) < 0; decide), fun b hb => (by cases hb), fun h => (by cases h)⟩
theorem ask_cases (p : Kp) (S : Ns) (b : Int) (wr : Bool) : (askR p S b wr = ⟨false, [], 2, S⟩) ∨ (S.wa = true ∧ askR p S b wr = ⟨false, [], 8, S⟩) ∨ (S.wa = false ∧ askR p S b wr = ⟨true, [], 0, S⟩) ∨ (S.wa = false ∧ askR p S b wr = ⟨false, [], 110, S⟩) ∨
    (S.wa = false ∧ bkI S.zs b = false ∧ (0 ≤ b ∧ b < S.data) ∧ hitB p S b wr = false ∧ (((p.goes S.A S.M b).isSome = false ∧ askR p S b wr = askQ S [] b wr) ∨
      ((p.goes S.A S.M b).isSome = true ∧ (p.gone S.A S.M b).st = 1 ∧ askR p S b wr = askQ (goneS p S (p.gone S.A S.M b)) [] b wr) ∨
      ((p.goes S.A S.M b).isSome = true ∧ (p.gone S.A S.M b).st ≠ 1 ∧ S.c.backs - (S.zs.length : Int) ≠ 0 ∧ askR p S b wr = askQ (goneS p (backS S (p.gone S.A S.M b)) (p.gone S.A S.M b)) [putN S (p.gone S.A S.M b)] b wr))) := by
  unfold askR
  by_cases h1 : b < 0 ∨ S.data ≤ b
  · rw [if_pos h1]; exact .inl rfl
  rw [if_neg h1]
  by_cases h2 : S.wa = true
  · rw [if_pos h2]; exact .inr (.inl ⟨h2, rfl⟩)
  rw [if_neg h2]
  have hwa : S.wa = false := by simpa using h2
  by_cases h3 : hitB p S b wr = true
  · rw [if_pos h3]; exact .inr (.inr (.inl ⟨hwa, rfl⟩))
  rw [if_neg h3]
  by_cases h4 : bkI S.zs b = true
  · rw [if_pos h4]; exact .inr (.inr (.inr (.inl ⟨hwa, rfl⟩)))
  rw [if_neg h4]
  by_cases h5 : (p.goes S.A S.M b).isSome = true
  · rw [if_pos h5]
    by_cases h6 : (p.gone S.A S.M b).st = 1
    · rw [if_neg (by simp [h6])]
      exact .inr (.inr (.inr (.inr ⟨hwa, by simpa using h4, by omega, by simpa using h3, .inr (.inl ⟨h5, h6, rfl⟩)⟩)))
    · rw [if_pos (by simp [h6])]
      by_cases h7 : S.c.backs - (S.zs.length : Int) = 0
      · rw [if_pos h7]; exact .inr (.inr (.inr (.inl ⟨hwa, rfl⟩)))
      · rw [if_neg h7]
        exact .inr (.inr (.inr (.inr ⟨hwa, by simpa using h4, by omega, by simpa using h3, .inr (.inr ⟨h5, h6, h7, rfl⟩)⟩)))
  · rw [if_neg h5]
    exact .inr (.inr (.inr (.inr ⟨hwa, by simpa using h4, by omega, by simpa using h3, .inl ⟨by simpa using h5, rfl⟩⟩)))
theorem NV.askQ (h : NV p S) {out : List Nt} {b : Int} {wr : Bool} (hb : bkI S.zs b = false) : NV p (NR.askQ S out b wr).S := ⟨h.good, h.uniq, h.st, h.apart, fun _ => hb⟩
theorem NV.drp (h : NV p S) (ho : S.Ok p) (b : Int) : NV p { S with A := p.drpA S.A b } := ⟨h.good.drp b, h.uniq.drp b, h.st, fun x hx => by
  show lnO p (p.drpA S.A b) x = none
  rw [lnO_drp ho.fits h.good h.uniq]
  split
  · rfl
  · exact h.apart x hx, h.wait⟩
theorem put_I (ho : S.Ok p) {g b : Int} {D : Array Value} (hD : IsU D) (hne : g ≠ b) : bkI (BK.putS S.data S.c.backs S.zs g D) b = bkI S.zs b := by
  rw [bkI_find, bkI_find, BK.put_otherB ho.inv g b hne (isU_N hD)]
theorem kill_I (ho : S.Ok p) (g b : Int) : bkI (BK.killS S.zs g) b = bkI S.zs b := by
  rw [bkI_find, bkI_find]
  by_cases e : g = b
  · rw [e, find_kill ho.inv]; cases BK.findB S.zs b <;> rfl
  · rw [BK.kill_otherB ho.inv g b e]
theorem drop_I (ho : S.Ok p) {g b : Int} (h : bkI (BK.dropS S.zs g) b = true) : bkI S.zs b = true := by
  rw [bkI_find] at h ⊢
  by_cases e : g = b
  · rw [e, find_drop ho.inv] at h; cases h
  · rw [BK.drop_otherB ho.inv g b e] at h; exact h
theorem gone_fit (h : NV p S) (ho : S.Ok p) {b : Int} (hs : (p.goes S.A S.M b).isSome = true) : MM.fit (p.gone S.A S.M b).blk := by
  have h1 := (mayX_k (gone_at ho.fits h.good h.uniq hs).2.2.1).1
  unfold KA.mayK at h1
  unfold MM.fit
  simp only [Bool.and_eq_true, decide_eq_true_eq] at h1
  show (decide (IntKind.i64.min ≤ _) && decide (_ ≤ IntKind.i64.max)) = true
  have e1 : IntKind.i64.min = -9223372036854775808 := by decide
  have e2 : IntKind.i64.max = 9223372036854775807 := by decide
  rw [e1, e2]
  simp only [Bool.and_eq_true, decide_eq_true_eq]
  omega
theorem NV.ask (h : NV p S) (ho : S.Ok p) (b : Int) (wr : Bool) : NV p (askR p S b wr).S := by
  rcases ask_cases p S b wr with e | ⟨_, e⟩ | ⟨_, e⟩ | ⟨_, e⟩ | ⟨hwa, hb, _, _, ⟨_, e⟩ | ⟨hg, _, e⟩ | ⟨hg, _, _, e⟩⟩ <;> rw [e]
  · exact h
  · exact h
  · exact h
  · exact h
  · exact h.askQ hb
  · exact (h.drp ho _).askQ hb
  · obtain ⟨_, h2, _, h4⟩ := gone_at ho.fits h.good h.uniq hg
    have hD := (gone_ok (p := p) ho.okA b).isU
    generalize p.gone S.A S.M b = g at *
    refine NV.askQ (S := goneS p (backS S g) g) ⟨h.good.drp _, h.uniq.drp _, h.st, fun x hx => ?_, fun hw => ?_⟩ ((put_I ho hD h4).trans hb)
    · show lnO p (p.drpA S.A g.blk) x = none
      rw [lnO_drp ho.fits h.good h.uniq]
      split
      · rfl
      · rename_i hne
        exact h.apart x ((put_I ho hD (fun e => hne e.symm)).symm.trans hx)
    · have hw : S.wa = true := hw
      rw [hwa] at hw; cases hw
theorem NV.clear (h : NV p S) : NV p { S with n := 0, f := MK.none2 } := ⟨h.good, h.uniq, h.st, h.apart, h.wait⟩
theorem NV.mark (h : NV p S) (b : Int) (r q : Bool) : NV p (markS S b r q) := by
  unfold markS
  split
  · exact ⟨h.good, h.uniq, h.st, h.apart, h.wait⟩
  · exact h
theorem NV.load (h : NV p S) (b w : Int) : NV p (loadS p S b w) := by
  unfold loadS
  split
  · exact NV.mark (S := { S with M := p.useM S.A S.M b }) ⟨h.good, h.uniq, h.st, h.apart, h.wait⟩ b true false
  · exact h
theorem NV.wrote (h : NV p S) (ho : S.Ok p) (b w z : Int) : NV p (wroteS p S b w z) := ⟨h.good.wr ho.fits b w z, h.uniq.wr ho.fits b w z, h.st, fun x hx => by
  show lnO p (p.wrA S.A b w z) x = none
  rw [lnO_wr ho.fits h.good h.uniq]
  have h0 := h.apart x hx
  split
  · rename_i e; rw [← e, h0]; rfl
  · exact h0, h.wait⟩
theorem NV.store (h : NV p S) (ho : S.Ok p) (b w z : Int) : NV p (storeS p S b w z) := by
  unfold storeS
  split
  · exact (h.wrote ho b w z).mark b false true
  · exact h.wrote ho b w z
theorem NV.kill (h : NV p S) (ho : S.Ok p) (b : Int) : NV p { S with zs := BK.killS S.zs b } := ⟨h.good, h.uniq, h.st, fun x hx => h.apart x ((kill_I ho b x).symm.trans hx), fun hw => (kill_I ho b _).trans (h.wait hw)⟩
theorem NV.drop (h : NV p S) (ho : S.Ok p) (b : Int) : NV p { S with zs := BK.dropS S.zs b } := ⟨h.good, h.uniq, h.st, fun x hx => h.apart x (drop_I ho hx), fun hw => by
  cases hx : bkI (BK.dropS S.zs b) S.q.blk with
  | false => rfl
  | true => rw [← drop_I ho hx]; exact h.wait hw⟩
theorem NV.asked1 (h : NV p S) (n : Nt) : NV p (askedS1 S n) := ⟨h.good, h.uniq, h.st, h.apart, h.wait⟩
theorem NV.asked2 (h : NV p S) (ho : S.Ok p) (n : Nt) : NV p (askedS2 p S n) := by
  have hk := h.kill ho n.blk
  unfold askedS2 askedA
  split
  · exact ⟨hk.good.drp _, hk.uniq.drp _, hk.st, fun x hx => by
      show lnO p (p.drpA S.A n.blk) x = none
      rw [lnO_drp ho.fits h.good h.uniq]
      split
      · rfl
      · exact hk.apart x hx, hk.wait⟩
  · split
    · exact ⟨hk.good.trn ho.fits _ _, hk.uniq.trn ho.fits _ _, hk.st, fun x hx => by
        show lnO p (p.trnA S.A n.blk 1) x = none
        rw [lnO_trn ho.fits h.good h.uniq]
        have h0 : lnO p S.A x = none := hk.apart x hx
        split
        · rename_i e; rw [← e, h0]; rfl
        · exact h0, hk.wait⟩
    · exact hk
theorem dataB_at {n : Nt} (h : dataB S n = true) : S.wa = true ∧ S.q.blk = n.blk ∧ ((n.state = 3) ↔ (S.q.kind = 2)) := by
  unfold dataB awaitsB at h
  simp only [Bool.and_eq_true, beq_iff_eq] at h
  refine ⟨h.1.1, h.1.2, ?_⟩
  have h2 := h.2
  by_cases e1 : n.state = 3 <;> by_cases e2 : S.q.kind = 2 <;> simp [e1, e2] at h2 ⊢
theorem NV.data (h : NV p S) (ho : S.Ok p) (n : Nt) : NV p (dataS p S n) := by
  unfold dataS
  split
  · rename_i hd
    obtain ⟨h1, h2, _⟩ := dataB_at hd
    have hno := h.wait h1
    rw [h2] at hno
    split
    · rename_i he
      exact ⟨h.good.put _, h.uniq.put ho.fits h.good _, h.st, fun x hx => by
        show lnO p (p.putA S.A (lineOf n)) x = none
        rw [lnO_put ho.fits h.good h.uniq he]
        have hx : bkI S.zs x = true := hx
        rw [if_neg (fun e => by rw [e] at hx; have : bkI S.zs n.blk = true := hx; rw [hno] at this; cases this)]
        exact h.apart x hx, fun hw => (by cases hw)⟩
    · rename_i he
      rcases putE_cases (p := p) (A := S.A) (lineOf n) with ⟨h0, _⟩ | ⟨_, h0, hM⟩
      · exact absurd h0 he
      · rw [h0, hM]; exact ⟨h.good, h.uniq, h.st, h.apart, h.wait⟩
  · exact h
theorem NV.nack (h : NV p S) (n : Nt) : NV p (nackS S n) := by
  unfold nackS
  split
  · exact ⟨h.good, h.uniq, h.st, h.apart, fun hw => (by cases hw)⟩
  · exact h
theorem Ns.Ok.asked1 (ho : S.Ok p) (n : Nt) : (askedS1 S n).Ok p := ⟨ho.fits, ho.okA, ho.inv, ho.allU, ho.dep, ho.ca, ho.st, ho.q⟩
theorem NV.take (h : NV p S) (ho : S.Ok p) (n : Nt) : NV p (takeR p S n).S := by
  unfold takeR
  split
  · split
    · exact h.data ho n
    split
    · exact h.nack n
    split
    · exact h.drop ho n.blk
    · unfold askedR
      split
      · exact h.asked1 n
      · exact (h.asked1 n).asked2 (ho.asked1 n) n
  · exact h
theorem NV.begin (h : NV p S) {st : Int} (h1 : 1 ≤ st) (ho : S.Ok p) : NV p { S with d := beginS S.c.nest S.d 0 st } := ⟨h.good, h.uniq, fun hd => by
  have hd : 0 < (beginS S.c.nest S.d 0 st).depth := hd
  show 1 ≤ (beginS S.c.nest S.d 0 st).st
  have hs := ho.st
  unfold DL.beginS at hd ⊢
  split
  · split
    · show 1 ≤ if S.d.st = 0 then st else S.d.st
      split <;> omega
    · rename_i h0 h2
      have := ho.dep
      exact h.st (by omega)
  · rename_i h0
    rw [if_neg h0] at hd
    exact h.st hd, h.apart, h.wait⟩
theorem NV.end_ (h : NV p S) : NV p { S with d := endS S.d } := ⟨h.good, h.uniq, fun hd => by
  have hd : 0 < (endS S.d).depth := hd
  show 1 ≤ (endS S.d).st
  unfold DL.endS at hd ⊢
  split
  · rename_i h0
    rw [if_pos h0] at hd
    split
    · rename_i h1
      rw [if_pos h1] at hd
      exact absurd hd (by show ¬ (0 : Int) < 0; decide)
    · rename_i h1
      rw [if_neg h1] at hd
      have hd : 0 < S.d.depth - 1 := hd
      exact h.st (by omega)
  · rename_i h0
    rw [if_neg h0] at hd
    exact h.st hd, h.apart, h.wait⟩
theorem NV.fail (h : NV p S) (c : Int) : NV p { S with d := failS S.d c } := ⟨h.good, h.uniq, fun hd => by
  have hd : 0 < (failS S.d c).depth := hd
  show 1 ≤ (failS S.d c).st
  unfold DL.failS at hd ⊢
  split
  · rename_i h0; rw [if_pos h0] at hd; exact h.st hd
  · rename_i h0; rw [if_neg h0] at hd; exact h.st hd, h.apart, h.wait⟩
theorem NV.over (h : NV p S) : NV p { S with d := overS S.d } := ⟨h.good, h.uniq, fun hd => by
  have hd : 0 < (overS S.d).depth := hd
  show 1 ≤ (overS S.d).st
  unfold DL.overS at hd ⊢
  split
  · rename_i h0; rw [if_pos h0] at hd; exact absurd hd (by show ¬ (0 : Int) < 0; decide)
  · rename_i h0; rw [if_neg h0] at hd; exact h.st hd, h.apart, h.wait⟩
theorem markS_n (S : Ns) (b : Int) (r q : Bool) : (markS S b r q).n ≤ S.n + 1 := by unfold markS; split; exact Nat.le_refl _; exact Nat.le_succ _
theorem loadS_n (p : Kp) (S : Ns) (b w : Int) : (loadS p S b w).n ≤ S.n + 1 := by
  unfold loadS
  split
  · exact markS_n { S with M := p.useM S.A S.M b } b true false
  · exact Nat.le_succ _
theorem storeS_n (p : Kp) (S : Ns) (b w z : Int) : (storeS p S b w z).n ≤ S.n + 1 := by
  unfold storeS
  split
  · exact markS_n (wroteS p S b w z) b false true
  · exact Nat.le_succ _
theorem askR_n (p : Kp) (S : Ns) (b : Int) (wr : Bool) : (askR p S b wr).S.n = S.n := by
  rcases ask_cases p S b wr with e | ⟨_, e⟩ | ⟨_, e⟩ | ⟨_, e⟩ | ⟨hwa, hb, _, _, ⟨_, e⟩ | ⟨hg, _, e⟩ | ⟨hg, _, _, e⟩⟩ <;> rw [e] <;> rfl
theorem takeR_n (p : Kp) (S : Ns) (n : Nt) : (takeR p S n).S.n = S.n := by
  unfold takeR
  split
  · split
    · show (dataS p S n).n = S.n
      unfold dataS
      split
      · split <;> rfl
      · rfl
    split
    · show (nackS S n).n = S.n
      unfold nackS
      split <;> rfl
    split
    · rfl
    · unfold askedR
      split <;> rfl
  · rfl
theorem take_wa (p : Kp) (S : Ns) (n : Nt) : ((takeR p S n).S.wa = S.wa ∧ (takeR p S n).S.q = S.q) ∨ (S.wa = true ∧ (takeR p S n).S.wa = false ∧ (takeR p S n).e = 0 ∧ (n.kind = 6 ∨ n.kind = 7) ∧ n.blk = S.q.blk) := by
  unfold takeR
  split
  · split
    · rename_i hk
      show ((dataS p S n).wa = S.wa ∧ (dataS p S n).q = S.q) ∨ (S.wa = true ∧ (dataS p S n).wa = false ∧ dataE p S n = 0 ∧ _ ∧ _)
      unfold dataS dataE
      split
      · rename_i hd
        obtain ⟨h1, h2, _⟩ := dataB_at hd
        split
        · rename_i he
          exact .inr ⟨h1, rfl, he, .inl hk, h2.symm⟩
        · exact .inl ⟨rfl, rfl⟩
      · exact .inl ⟨rfl, rfl⟩
    split
    · rename_i hk
      show ((nackS S n).wa = S.wa ∧ (nackS S n).q = S.q) ∨ (S.wa = true ∧ (nackS S n).wa = false ∧ nackE S n = 0 ∧ _ ∧ _)
      unfold nackS nackE
      split
      · rename_i hd
        unfold awaitsB at hd
        simp only [Bool.and_eq_true, beq_iff_eq] at hd
        exact .inr ⟨hd.1, rfl, rfl, .inr hk, hd.2.symm⟩
      · exact .inl ⟨rfl, rfl⟩
    split
    · exact .inl ⟨rfl, rfl⟩
    · unfold askedR
      split <;> exact .inl ⟨rfl, rfl⟩
  · exact .inl ⟨rfl, rfl⟩
theorem same_self (n : Nt) : n.same n = true := by unfold Nt.same; simp
end
end Go.Proofs.YtjgeflbhmhmjdaaGreat.NR
namespace Go.Proofs.YtjgeflbhmhmjdaaGreat.NR
open Go.RowKit
open BU (IsU words)
open PL (Cfg CC CV May)
open KA (Kp CIs OkA Uniq mayX mayK)
open DL (DS stampE beginE beginS endB openE endS failS overS)
theorem SC_isN (n : Int) : IsN 17 (DL.SC n) := ⟨rfl, fun u hu => by
  simp [DL.SC] at hu
  rcases hu with rfl | rfl | rfl | rfl <;> rfl⟩
theorem fit_k {b : Int} (h : mayK b = true) : MM.fit b := by
  unfold KA.mayK at h
  unfold MM.fit
  simp only [Bool.and_eq_true, decide_eq_true_eq] at h
  show (decide (IntKind.i64.min ≤ _) && decide (_ ≤ IntKind.i64.max)) = true
  have e1 : IntKind.i64.min = -9223372036854775808 := by decide
  have e2 : IntKind.i64.max = 9223372036854775807 := by decide
  rw [e1, e2]
  simp only [Bool.and_eq_true, decide_eq_true_eq]
  omega
structure KeepN (S : Ns) (n : Nt) : Prop where
  isU : IsU n.D
  fit : MM.fit n.blk
  put : n.kind = 3 → n.stick = ((S.f n.blk).1 || (S.f n.blk).2)
  ack : n.kind = 9 → n.has = true → (S.f n.blk).2 = true → ¬ 0 < S.d.depth
structure Keeps (S : Ns) (out : List Nt) : Prop where
  all : ∀ n ∈ out, KeepN S n
  len : out.length ≤ 2
theorem Keeps.nil (S : Ns) : Keeps S [] := ⟨fun n hn => (by cases hn), (by show 0 ≤ 2; decide)⟩
section
variable {p : Kp} {S : Ns}
theorem data_fit (ho : S.Ok p) {b : Int} (hb : 0 ≤ b ∧ b < S.data) : MM.fit b := by
  have := ho.dataR
  refine fit_k ?_
  unfold KA.mayK
  simp only [Bool.and_eq_true, decide_eq_true_eq]
  omega
theorem ask_keeps (h : NV p S) (ho : S.Ok p) (b : Int) (wr : Bool) : Keeps (askR p S b wr).S (askR p S b wr).out := by
  have hk : ∀ S' : Ns, ¬ (askN S' b wr).kind = 3 ∧ ¬ (askN S' b wr).kind = 9 := fun S' => by
    show ¬ (if wr = true then (2 : Int) else 1) = 3 ∧ ¬ (if wr = true then (2 : Int) else 1) = 9
    cases wr <;> decide
  rcases ask_cases p S b wr with e | ⟨h0, e⟩ | ⟨h0, e⟩ | ⟨h0, e⟩ | ⟨hwa, hb, hbd, _, ⟨_, e⟩ | ⟨hg, _, e⟩ | ⟨hg, _, _, e⟩⟩ <;> rw [e]
  · exact Keeps.nil _
  · exact Keeps.nil _
  · exact Keeps.nil _
  · exact Keeps.nil _
  · exact ⟨fun n hn => by
      obtain rfl : n = askN S b wr := by simpa [askQ] using hn
      exact ⟨isUZ, data_fit ho hbd, fun h => absurd h (hk S).1, fun h => absurd h (hk S).2⟩, by show 1 ≤ 2; decide⟩
  · exact ⟨fun n hn => by
      obtain rfl : n = askN (goneS p S (p.gone S.A S.M b)) b wr := by simpa [askQ] using hn
      exact ⟨isUZ, data_fit ho hbd, fun h => absurd h (hk _).1, fun h => absurd h (hk _).2⟩, by show 1 ≤ 2; decide⟩
  · have hgu := (gone_ok (p := p) (M := S.M) ho.okA b).isU
    have hgf := gone_fit h ho hg
    exact ⟨fun n hn => by
      rcases (by simpa [askQ] using hn : n = putN S (p.gone S.A S.M b) ∨ n = askN (goneS p (backS S (p.gone S.A S.M b)) (p.gone S.A S.M b)) b wr) with rfl | rfl
      · exact ⟨hgu, hgf, fun _ => rfl, fun h => by have h : (3 : Int) = 9 := h; cases h⟩
      · exact ⟨isUZ, data_fit ho hbd, fun h => absurd h (hk _).1, fun h => absurd h (hk _).2⟩, by show 2 ≤ 2; decide⟩
theorem fits_at {n : Nt} (hf : fitsB S n = true) (hc : 0 ≤ S.core) : (n.kind = 4 ∨ n.kind = 5 ∨ n.kind = 6 ∨ n.kind = 7 ∨ n.kind = 8) ∧ MM.fit n.blk ∧ 0 ≤ n.blk ∧ n.blk < S.data := by
  unfold fitsB at hf
  simp only [Bool.and_eq_true, beq_iff_eq, decide_eq_true_eq] at hf
  obtain ⟨⟨hm, ht⟩, hd⟩ := hf
  unfold MayN at hm
  simp only [Bool.and_eq_true] at hm
  obtain ⟨⟨⟨⟨⟨⟨⟨⟨⟨h1, h2⟩, h3⟩, h4⟩, -⟩, -⟩, -⟩, -⟩, -⟩, -⟩ := hm
  simp only [decide_eq_true_eq] at h2
  have hk : mayK n.blk = true := by
    unfold KA.mayK
    simp only [Bool.and_eq_true, decide_eq_true_eq]; omega
  refine ⟨?_, fit_k hk, h2.1, hd⟩
  have htw : toHome n.kind = false := by
    cases h : toHome n.kind with
    | false => rfl
    | true =>
      rw [h] at h4
      have h4 : n.too = -1 := by simpa using h4
      omega
  unfold kindB at h1
  simp only [Bool.and_eq_true, decide_eq_true_eq] at h1
  unfold toHome at htw
  simp only [Bool.or_eq_false_iff, beq_eq_false_iff_ne, ne_eq] at htw
  omega
theorem asked_true {n : Nt} (h : NV p S) (hd : 0 < S.d.depth) (hm : meetsB S n = true) : DL.askedB S.d (meetsB S n) = true := by
  unfold DL.askedB
  rw [hm]
  have h1 := h.st hd
  have e : stampE S.d = S.d.st := by unfold DL.stampE; rw [if_neg (by omega)]
  rw [e]
  simp
  omega
theorem meets4 {n : Nt} (hk : n.kind = 4) : meetsB S n = (S.f n.blk).2 := by unfold meetsB MK.meetB; rw [if_pos hk]
theorem meets5 {n : Nt} (hk : n.kind = 5) : meetsB S n = ((S.f n.blk).1 || (S.f n.blk).2) := by unfold meetsB MK.meetB; rw [if_neg (by omega), if_pos hk]
theorem take_cases (p : Kp) (S : Ns) (n : Nt) : (fitsB S n = false ∧ takeR p S n = ⟨[], false, 2, S⟩) ∨ (fitsB S n = true ∧ n.kind = 6 ∧ takeR p S n = dataR p S n) ∨ (fitsB S n = true ∧ n.kind = 7 ∧ takeR p S n = nackR S n) ∨ (fitsB S n = true ∧ n.kind = 8 ∧ takeR p S n = backR S n) ∨
    (fitsB S n = true ∧ n.kind ≠ 6 ∧ n.kind ≠ 7 ∧ n.kind ≠ 8 ∧ takeR p S n = askedR p S n) := by
  unfold takeR
  cases hf : fitsB S n with
  | false => exact .inl ⟨rfl, rfl⟩
  | true =>
    simp only [if_true]
    by_cases h6 : n.kind = 6
    · rw [if_pos h6]; exact .inr (.inl ⟨trivial, h6, rfl⟩)
    rw [if_neg h6]
    by_cases h7 : n.kind = 7
    · rw [if_pos h7]; exact .inr (.inr (.inl ⟨trivial, h7, rfl⟩))
    rw [if_neg h7]
    by_cases h8 : n.kind = 8
    · rw [if_pos h8]; exact .inr (.inr (.inr (.inl ⟨trivial, h8, rfl⟩)))
    rw [if_neg h8]
    exact .inr (.inr (.inr (.inr ⟨trivial, h6, h7, h8, rfl⟩)))
theorem ackN2_has (p : Kp) (S : Ns) (n : Nt) : (ackN2 p S n).kind = 9 ∧ (ackN2 p S n).blk = n.blk := by
  unfold ackN2 ackN1
  split <;> (split <;> exact ⟨rfl, rfl⟩)
theorem take_keeps (h : NV p S) (ho : S.Ok p) (hc : 0 ≤ S.core) {n : Nt} (hn : n.Ok) : Keeps (takeR p S n).S (takeR p S n).out := by
  rcases take_cases p S n with ⟨_, e⟩ | ⟨hf, hk, e⟩ | ⟨_, _, e⟩ | ⟨_, _, e⟩ | ⟨hf, h6, h7, h8, e⟩ <;> rw [e]
  · exact Keeps.nil _
  · have hfit := (fits_at hf hc).2.1
    show Keeps (dataS p S n) (dataO p S n)
    unfold dataO
    split
    · exact ⟨fun m hm => by
        obtain rfl : m = noteP S 11 n.blk := by simpa using hm
        exact ⟨isUZ, hfit, fun h => (by have h : (11 : Int) = 3 := h; cases h), fun h => (by have h : (11 : Int) = 9 := h; cases h)⟩, by show 1 ≤ 2; decide⟩
    · exact Keeps.nil _
  · exact Keeps.nil _
  · exact Keeps.nil _
  · obtain ⟨hk, hfit, _, _⟩ := fits_at hf hc
    unfold askedR
    split
    · exact ⟨fun m hm => by
        obtain rfl : m = refuseN S n := by simpa using hm
        exact ⟨isUZ, hfit, fun h => (by have h : (10 : Int) = 3 := h; cases h), fun h => (by have h : (10 : Int) = 9 := h; cases h)⟩, by show 1 ≤ 2; decide⟩
    · rename_i hno
      refine ⟨fun m hm => ?_, by show 1 ≤ 2; decide⟩
      obtain rfl : m = ackN2 p (askedS1 S n) n := by simpa using hm
      obtain ⟨e1, e2⟩ := ackN2_has p (askedS1 S n) n
      refine ⟨ackN2_isU (ho.asked1 n) n, by rw [e2]; exact hfit, fun h => (by rw [e1] at h; cases h), fun _ _ hw hd => ?_⟩
      rw [e2] at hw
      have hw : (S.f n.blk).2 = true := hw
      have hd : 0 < S.d.depth := hd
      refine hno (asked_true h hd ?_)
      rcases hk with hk | hk | hk | hk | hk
      · rw [meets4 hk]; exact hw
      · rw [meets5 hk, hw]; simp
      · exact absurd hk h6
      · exact absurd hk h7
      · exact absurd hk h8
end
end Go.Proofs.YtjgeflbhmhmjdaaGreat.NR
namespace Go.Proofs.YtjgeflbhmhmjdaaGreat.PL
open Go.ChangeShapes Go.WideShapes Go.Deep Go.RowKit
section
variable {H : Type} {enc : TypeId × Value → H} {w : World}

set_option maxRecDepth 100000 in
theorem open_cfg {r : Reach} {b0 base : Nat} {spare : Nat → Bool} {held : Bool} {v : Value} {d : DataW H} {p : List MemPlace} (hv : Value.okWide Tryz.prog w r b0 27 v)
    (h : DataW.Trod enc Tryz.prog w base spare held 27 v d p) : ∃ c : Cfg, v = CV c := by
  obtain ⟨cs, rfl, hsz⟩ := okWide_struct Tryz.underlying27 hv
  have hsz8 : cs.size = 8 := hsz.trans (by kernel_rfl)
  obtain ⟨fuel, hf⟩ := h
  obtain ⟨xs, n, _, _, hl, hlen, hg⟩ := DataW.trod_struct Tryz.underlying27 hf
  have key : ∀ j, j < 8 → ∃ z : Int, cs[j]? = some (.int .i64 z) := fun j hj => by
    have hx : ∃ y, xs[j]? = some y := ⟨_, List.getElem?_eq_getElem (by rw [hlen]; exact hj)⟩
    obtain ⟨y, hy⟩ := hx
    have hc1 : Tryz.prog.cellsOf 3 = 1 := by kernel_rfl
    have : j = 0 ∨ j = 1 ∨ j = 2 ∨ j = 3 ∨ j = 4 ∨ j = 5 ∨ j = 6 ∨ j = 7 := by omega
    have ht : DataW.trod enc Tryz.prog w base spare held n 3 ((cs.toList.drop j).take 1) = some y := by
      rcases this with rfl | rfl | rfl | rfl | rfl | rfl | rfl | rfl <;> (have := (hg _ _ rfl).trans hy; simpa [Value.cells, hc1] using this)
    obtain ⟨z, hz, _⟩ := DataW.trod_int Tryz.underlying3 ht
    refine ⟨z, ?_⟩
    have hjs : j < cs.toList.length := by simp [hsz8]; exact hj
    rw [List.drop_eq_getElem_cons hjs] at hz
    simp at hz
    rw [Array.getElem?_eq_getElem (by omega), hz]
  obtain ⟨z0, h0⟩ := key 0 (by omega); obtain ⟨z1, h1⟩ := key 1 (by omega); obtain ⟨z2, h2⟩ := key 2 (by omega); obtain ⟨z3, h3⟩ := key 3 (by omega)
  obtain ⟨z4, h4⟩ := key 4 (by omega); obtain ⟨z5, h5⟩ := key 5 (by omega); obtain ⟨z6, h6⟩ := key 6 (by omega); obtain ⟨z7, h7⟩ := key 7 (by omega)
  refine ⟨⟨z0, z1, z2, z3, z4, z5, z6, z7⟩, ?_⟩
  congr 1
  apply Array.ext_getElem?
  intro j
  by_cases hj : j < 8
  · have : j = 0 ∨ j = 1 ∨ j = 2 ∨ j = 3 ∨ j = 4 ∨ j = 5 ∨ j = 6 ∨ j = 7 := by omega
    rcases this with rfl | rfl | rfl | rfl | rfl | rfl | rfl | rfl <;> (first | exact h0 | exact h1 | exact h2 | exact h3 | exact h4 | exact h5 | exact h6 | exact h7)
  · rw [Array.getElem?_eq_none (by omega), Array.getElem?_eq_none (by simp; omega)]
end
end Go.Proofs.YtjgeflbhmhmjdaaGreat.PL
