/- Package cache, plain laws: what is found, and how many lines there are, as a map. -/
import Derived.Test.YtaneobggbplkbaaCacheUniq
import Derived.Test.YtaneobggbplkbaaGMap
set_option linter.unusedSimpArgs false
set_option linter.unusedVariables false
namespace Go.Proofs.Ytaneobggbplkbaa.KA
open Go.RowKit
open BU (IsU words)
open PL (Cfg CC CV May)
section
variable {p : Kp} {c : Cfg} {A : Nat → Ln} {M : Nat → Int}
/-- The lines of a cache, by their blocks. -/
def hasF (p : Kp) (A : Nat → Ln) : Int → Option Value := fun b => (p.place A b).map (fun i => .agg (A i).cells)
/-- How many. -/
def cntL (n : Nat) (A : Nat → Ln) : Nat := (lns n A).length
theorem cntL_succ (n : Nat) (A : Nat → Ln) : cntL (n + 1) A = cntL n A + (if freeB (A n) then 0 else 1) := by
  unfold cntL
  rw [lns_succ, List.length_append]
  cases freeB (A n) <;> rfl
theorem cntL_out (A : Nat → Ln) (i : Nat) (x : Ln) : ∀ n, n ≤ i → cntL n (updL A i x) = cntL n A
  | 0, _ => rfl
  | n + 1, h => by
    have e2 : updL A i x n = A n := by unfold updL; rw [if_neg (by omega)]
    rw [cntL_succ, cntL_succ, cntL_out A i x n (by omega), e2]
theorem cntL_upd (A : Nat → Ln) (i : Nat) (x : Ln) : ∀ n, i < n → cntL n (updL A i x) + (if freeB (A i) then 0 else 1) = cntL n A + (if freeB x then 0 else 1)
  | 0, h => absurd h (Nat.not_lt_zero _)
  | n + 1, h => by
    rw [cntL_succ, cntL_succ]
    by_cases e : i = n
    · subst e
      rw [cntL_out A i x i (Nat.le_refl _)]
      unfold updL
      rw [if_pos rfl]
      omega
    · have := cntL_upd A i x n (by omega)
      have e2 : updL A i x n = A n := by unfold updL; rw [if_neg (fun h => e h.symm)]
      rw [e2]
      omega
/-- A line is laid where its block stood, or where nothing stood; then it is found. -/
theorem place_upd (hf : p.Fits c) (hg : Good p A) (hu : Uniq p A) {i : Nat} (hi : i < p.s * p.y) {x : Ln} (hx : mayX x = true) (hs : p.set x.blk = i / p.y) (hfree : freeB (A i) = true ∨ (A i).blk = x.blk)
    (hno : p.place A x.blk = none ∨ p.place A x.blk = some i) (b : Int) : p.place (updL A i x) b = if b = x.blk then some i else p.place A b := by
  have hfx : freeB x = false := by
    unfold mayX at hx
    unfold freeB
    simp only [Bool.and_eq_true, decide_eq_true_eq] at hx
    simp; omega
  have hg' : Good p (updL A i x) := fun j hj fj => by
    unfold updL at fj ⊢
    by_cases e : j = i
    · rw [if_pos e, e]; exact ⟨hx, hs⟩
    · rw [if_neg e] at fj ⊢; exact hg j hj fj
  have hu' : Uniq p (updL A i x) := hu.upd (.inr fun j hj hne fj e => by
    have hp := place_eq hf hg hu hj fj
    rw [e] at hp
    rcases hno with h | h
    · rw [h] at hp; cases hp
    · rw [h] at hp; cases hp; exact hne rfl)
  have hai : updL A i x i = x := updL_self A i x
  by_cases e : b = x.blk
  · rw [if_pos e, e]
    have := place_eq hf hg' hu' hi (by rw [hai]; exact hfx)
    rw [hai] at this
    exact this
  · rw [if_neg e]
    cases hp : p.place A b with
    | some j =>
      obtain ⟨h1, h2, h3⟩ := place_lt hf hp
      have hji : j ≠ i := fun e2 => by
        subst e2
        rcases hfree with h | h
        · rw [h] at h2; cases h2
        · exact e (h3.symm.trans h)
      have haj : updL A i x j = A j := by unfold updL; rw [if_neg hji]
      have := place_eq hf hg' hu' h1 (by rw [haj]; exact h2)
      rw [haj, h3] at this
      exact this
    | none =>
      cases hp2 : p.place (updL A i x) b with
      | none => rfl
      | some j =>
        obtain ⟨h1, h2, h3⟩ := place_lt hf hp2
        by_cases hji : j = i
        · subst hji; rw [hai] at h3; exact absurd h3.symm e
        · have haj : updL A i x j = A j := by unfold updL; rw [if_neg hji]
          rw [haj] at h2 h3
          have := place_eq hf hg hu h1 h2
          rw [h3, hp] at this
          cases this
/-- A line is struck out. -/
theorem place_drp (hf : p.Fits c) (hg : Good p A) (hu : Uniq p A) {b0 : Int} {i : Nat} (h0 : p.place A b0 = some i) (b : Int) : p.place (updL A i Ln.nil) b = if b = b0 then none else p.place A b := by
  obtain ⟨hi, fi, ei⟩ := place_lt hf h0
  have e0 : updL A i Ln.nil = p.drpA A b0 := by unfold Kp.drpA; rw [h0]
  have hg' := hg.drp b0
  have hu' := hu.drp b0
  rw [← e0] at hg' hu'
  have hai : updL A i Ln.nil i = Ln.nil := updL_self A i _
  cases hp2 : p.place (updL A i Ln.nil) b with
  | some j =>
    obtain ⟨h1, h2, h3⟩ := place_lt hf hp2
    have hji : j ≠ i := fun e => by subst e; rw [hai] at h2; cases h2
    have haj : updL A i Ln.nil j = A j := by unfold updL; rw [if_neg hji]
    rw [haj] at h2 h3
    have hp := place_eq hf hg hu h1 h2
    rw [h3] at hp
    have hne : b ≠ b0 := fun e => by rw [e, h0] at hp; cases hp; exact hji rfl
    rw [if_neg hne, hp]
  | none =>
    by_cases e : b = b0
    · rw [if_pos e]
    · rw [if_neg e]
      cases hp : p.place A b with
      | none => rfl
      | some j =>
        obtain ⟨h1, h2, h3⟩ := place_lt hf hp
        have hji : j ≠ i := fun e2 => by subst e2; exact e (h3.symm.trans ei)
        have haj : updL A i Ln.nil j = A j := by unfold updL; rw [if_neg hji]
        have := place_eq hf hg' hu' h1 (by rw [haj]; exact h2)
        rw [haj, h3, hp2] at this
        cases this
theorem hasF_upd {i : Nat} {x : Ln} (h : ∀ b, p.place (updL A i x) b = if b = x.blk then some i else p.place A b) (hd : ∀ b, b ≠ x.blk → p.place A b ≠ some i) : hasF p (updL A i x) = GM.put (hasF p A) x.blk (.agg x.cells) := by
  funext b
  unfold hasF GM.put
  dsimp only
  rw [h b]
  by_cases e : b = x.blk
  · rw [if_pos e, if_pos e]
    show some (Value.agg (updL A i x i).cells) = _
    rw [updL_self]
  · rw [if_neg e, if_neg e]
    cases hp : p.place A b with
    | none => rfl
    | some j =>
      have hji : j ≠ i := fun e2 => hd b e (by rw [hp, e2])
      show some (Value.agg (updL A i x j).cells) = some (Value.agg (A j).cells)
      unfold updL; rw [if_neg hji]
theorem slot_facts (hf : p.Fits c) (hg : Good p A) (hu : Uniq p A) {x : Ln} {i : Nat} (h : p.slot A x.blk = some i) :
    i < p.s * p.y ∧ p.set x.blk = i / p.y ∧ (freeB (A i) = true ∨ (A i).blk = x.blk) ∧ (p.place A x.blk = none ∨ p.place A x.blk = some i) ∧ freeB (A i) = (p.place A x.blk).isNone := by
  obtain ⟨j, hj, hij⟩ := slot_at h
  have hlt := hf.idx_lt (b := x.blk) hj
  rw [← hij] at hlt
  refine ⟨hlt, by rw [hij, div_at hj], ?_⟩
  unfold Kp.slot at h
  cases hp : p.place A x.blk with
  | some k =>
    rw [hp] at h
    cases h
    obtain ⟨_, h2, h3⟩ := place_lt hf hp
    exact ⟨.inr h3, .inr rfl, by rw [h2]; rfl⟩
  | none =>
    rw [hp] at h
    dsimp only at h
    by_cases hfr : p.fr A x.blk < 0
    · rw [if_pos hfr] at h; cases h
    · rw [if_neg hfr] at h
      obtain ⟨k, hk, e, hfree⟩ := fr_at hfr
      rw [e] at h
      simp only [Int.toNat_natCast, Option.some.injEq] at h
      subst h
      exact ⟨.inl hfree, .inl rfl, by rw [hfree]; rfl⟩
/-- Put: OK, and what is found behind it; how many. -/
theorem put_has (hf : p.Fits c) (hg : Good p A) (hu : Uniq p A) {x : Ln} (h : p.putE A x = 0) :
    hasF p (p.putA A x) = GM.put (hasF p A) x.blk (.agg x.cells) ∧ cntL (p.s * p.y) (p.putA A x) = GM.putN (hasF p A) (cntL (p.s * p.y) A) x.blk ∧ mayX x = true := by
  unfold Kp.putE at h
  cases hm : mayX x with
  | false => rw [hm] at h; simp at h
  | true =>
    rw [hm] at h
    unfold Kp.putA
    rw [hm]
    simp only [if_true] at h ⊢
    cases hs : p.slot A x.blk with
    | none => rw [hs] at h; cases h
    | some i =>
      obtain ⟨h1, h2, h3, h4, h5⟩ := slot_facts hf hg hu hs
      have hpl := place_upd hf hg hu h1 hm h2 h3 h4
      dsimp only
      refine ⟨hasF_upd hpl (fun b hb hp => ?_), ?_, trivial⟩
      · obtain ⟨_, f1, f2⟩ := place_lt hf hp
        rcases h3 with h3 | h3
        · rw [h3] at f1; cases f1
        · exact hb (f2.symm.trans h3)
      · have hc := cntL_upd A i x _ h1
        have hfx : freeB x = false := by
          unfold mayX at hm
          unfold freeB
          simp only [Bool.and_eq_true, decide_eq_true_eq] at hm
          simp; omega
        rw [hfx, h5] at hc
        unfold GM.putN hasF
        cases hp : p.place A x.blk with
        | none => rw [hp] at hc; simp at hc ⊢; exact hc
        | some k => rw [hp] at hc; simp at hc ⊢; exact hc
theorem put_not {x : Ln} (h : p.putE A x ≠ 0) : p.putA A x = A := by
  unfold Kp.putE at h
  unfold Kp.putA
  cases hm : mayX x with
  | false => rfl
  | true =>
    rw [hm] at h
    simp only [if_true] at h ⊢
    cases hs : p.slot A x.blk with
    | none => rfl
    | some i => rw [hs] at h; exact absurd rfl h
theorem hasF_some (b : Int) : (hasF p A b).isSome = (p.place A b).isSome := by unfold hasF; cases p.place A b <;> rfl
/-- Drop. -/
theorem drp_has (hf : p.Fits c) (hg : Good p A) (hu : Uniq p A) (b : Int) : hasF p (p.drpA A b) = GM.del (hasF p A) b ∧ cntL (p.s * p.y) (p.drpA A b) = GM.delN (hasF p A) (cntL (p.s * p.y) A) b := by
  unfold GM.delN
  rw [hasF_some]
  unfold Kp.drpA
  cases hp : p.place A b with
  | none =>
    refine ⟨?_, rfl⟩
    funext x
    unfold GM.del hasF
    dsimp only
    by_cases e : x = b
    · rw [if_pos e, e, hp]; rfl
    · rw [if_neg e]
  | some i =>
    obtain ⟨h1, h2, h3⟩ := place_lt hf hp
    refine ⟨?_, ?_⟩
    · funext x
      unfold GM.del hasF
      dsimp only


      rw [place_drp hf hg hu hp x]
      by_cases e : x = b
      · rw [if_pos e, if_pos e]; rfl
      · rw [if_neg e, if_neg e]
        cases hx : p.place A x with
        | none => rfl
        | some j =>
          have hji : j ≠ i := fun e2 => by
            obtain ⟨_, _, e3⟩ := place_lt hf hx
            subst e2; exact e (e3.symm.trans h3)
          show some (Value.agg (updL A i Ln.nil j).cells) = some (Value.agg (A j).cells)
          unfold updL; rw [if_neg hji]
    · have hc := cntL_upd A i Ln.nil _ h1
      rw [h2] at hc
      have e : freeB Ln.nil = true := rfl
      rw [e] at hc
      simp at hc ⊢
      omega
/-- Write: OK, and what is found behind it. -/
theorem wr_has (hf : p.Fits c) (hg : Good p A) (hu : Uniq p A) {b w z : Int} (h : p.wrE A b w = 0) :
    ∃ i, p.place A b = some i ∧ mayW w = true ∧ hasF p (p.wrA A b w z) = GM.put (hasF p A) b (.agg (wrL (A i) w z).cells) ∧ cntL (p.s * p.y) (p.wrA A b w z) = cntL (p.s * p.y) A := by
  unfold Kp.wrE at h
  unfold Kp.wrA
  cases hp : p.place A b with
  | none => rw [hp] at h; cases h
  | some i =>
    rw [hp] at h
    dsimp only at h ⊢
    obtain ⟨h1, h2, h3⟩ := place_lt hf hp
    obtain ⟨g1, g2⟩ := hg i h1 h2
    cases hw : mayW w with
    | false => rw [hw] at h; simp at h
    | true =>
      rw [hw] at h
      simp only [if_true] at h ⊢
      by_cases hs : (A i).st = 1
      · rw [if_pos hs] at h; cases h
      · rw [if_neg hs]
        have hb : (wrL (A i) w z).blk = b := h3
        have hmx : mayX (wrL (A i) w z) = true := by
          unfold mayX at g1 ⊢
          show (mayK (A i).blk && decide (1 ≤ (3 : Int)) && decide ((3 : Int) ≤ 3)) = true
          revert g1
          cases mayK (A i).blk <;> simp
        refine ⟨i, rfl, trivial, ?_, ?_⟩
        · have hpl := place_upd hf hg hu h1 hmx (by rw [hb, ← h3]; exact g2) (.inr (by rw [hb]; exact h3)) (.inr (by rw [hb]; exact hp))
          have := hasF_upd hpl (fun b' hb' hp' => by
            obtain ⟨_, _, f2⟩ := place_lt hf hp'
            rw [hb] at hb'
            exact hb' (f2.symm.trans h3))
          rw [hb] at this
          exact this
        · have hc := cntL_upd A i (wrL (A i) w z) _ h1
          have e : freeB (wrL (A i) w z) = false := rfl
          rw [h2, e] at hc
          simp at hc
          exact hc
theorem wr_not {b w z : Int} (h : p.wrE A b w ≠ 0) : p.wrA A b w z = A := by
  unfold Kp.wrE at h
  unfold Kp.wrA
  cases hp : p.place A b with
  | none => rfl
  | some i =>
    rw [hp] at h
    dsimp only at h ⊢
    cases hw : mayW w with
    | false => rfl
    | true =>
      rw [hw] at h
      simp only [if_true] at h ⊢
      by_cases hs : (A i).st = 1
      · rw [if_pos hs]
      · rw [if_neg hs] at h; exact absurd rfl h
theorem hasF_nil : hasF p (fun _ => Ln.nil) = fun _ => none := by
  funext b
  unfold hasF
  cases hp : p.place (fun _ => Ln.nil) b with
  | none => rfl
  | some i =>
    obtain ⟨_, _, _, _, h⟩ := place_at hp
    obtain ⟨f, _⟩ := hasB_iff.1 h
    cases f
theorem cntL_nil (n : Nat) : cntL n (fun _ => Ln.nil) = 0 := by
  induction n with
  | zero => rfl
  | succ n ih => rw [cntL_succ, ih]; rfl
end
end Go.Proofs.Ytaneobggbplkbaa.KA
