/- Plain laws of transactions, for the statements DealDeep and DealKeeps. -/
import Derived.Test.YtdkdlgcgkkbghaaDealFailsW
import Derived.Deep.RegionHeld3
set_option linter.unusedSimpArgs false
set_option linter.unusedVariables false
namespace Go.Proofs.Ytdkdlgcgkkbghaa.DL
open Go.RowKit
open Go.Proofs.Ytdkdlgcgkkbghaa.Ord

theorem over_at (w w2 : World) (b : Nat) (n : Int) (v : Value) (d d' : DS) (hca : 0 ≤ d.ca ∧ d.ca ≤ 4294967295) (hv : overV d = v) (hs : overS d = d') (hb : DAt w2 b n d) (hU : Upd (From w.heap.size) w w2) (hB : w.heap.size ≤ b) :
    Calls Try.prog 15 #[.pointer (some ⟨b, 0, none⟩)] w2 fun e w' => e = .returned v ∧ DAt w' b n d' ∧ Upd (From w.heap.size) w w' :=
  (over_any b n d hca w2 hb).mono fun e w' ⟨he, h1, h2⟩ => ⟨by rw [he, hv], hs ▸ h1, hU.from (fromOnly h2 hB)⟩

/-- How a transaction stands. -/
def InvD (nest : Int) (d : DS) : Prop := 0 ≤ d.depth ∧ d.depth ≤ nest ∧ (0 < d.depth → d.st ≠ 0) ∧ (d.fa = true → 0 < d.depth) ∧ 0 ≤ d.ca ∧ d.ca ≤ 4294967295
theorem invD_begin {nest : Int} {d : DS} (h : InvD nest d) (n stamp : Int) :
    ((beginE nest d stamp = 0 ∧ (beginS nest d n stamp).depth = d.depth + 1) ∨ ((beginE nest d stamp = 2 ∨ beginE nest d stamp = 7 ∨ beginE nest d stamp = 8) ∧ beginS nest d n stamp = d)) ∧ InvD nest (beginS nest d n stamp) := by
  obtain ⟨depth, sn, st, fl, fa, ca⟩ := d
  obtain ⟨h0, h1, h2, h3, h4, h5⟩ := h
  simp only at h0 h1 h2 h3 h4 h5
  by_cases hs : stamp = 0
  · have hE : beginE nest ⟨depth, sn, st, fl, fa, ca⟩ stamp = 2 := by simp [beginE, hs]
    have hS : beginS nest ⟨depth, sn, st, fl, fa, ca⟩ n stamp = ⟨depth, sn, st, fl, fa, ca⟩ := by unfold beginS; rw [hE]; rfl
    exact ⟨.inr ⟨.inl hE, hS⟩, by rw [hS]; exact ⟨h0, h1, h2, h3, h4, h5⟩⟩
  · cases fa
    · by_cases hn : depth = nest
      · have hE : beginE nest ⟨depth, sn, st, fl, false, ca⟩ stamp = 7 := by simp [beginE, hs, hn]
        have hS : beginS nest ⟨depth, sn, st, fl, false, ca⟩ n stamp = ⟨depth, sn, st, fl, false, ca⟩ := by unfold beginS; rw [hE]; rfl
        exact ⟨.inr ⟨.inr (.inl hE), hS⟩, by rw [hS]; exact ⟨h0, h1, h2, h3, h4, h5⟩⟩
      · have hE : beginE nest ⟨depth, sn, st, fl, false, ca⟩ stamp = 0 := by simp [beginE, hs, hn]
        by_cases hz : depth = 0
        · have hS : beginS nest ⟨depth, sn, st, fl, false, ca⟩ n stamp = ⟨1, n, if st = 0 then stamp else st, false, false, ca⟩ := by unfold beginS; rw [hE]; simp [hz]
          refine ⟨.inl ⟨hE, by rw [hS]; simp only; omega⟩, ?_⟩
          rw [hS]
          refine ⟨by simp, by simp only; omega, fun _ => ?_, (fun h => by cases h), h4, h5⟩
          simp only
          split
          · exact hs
          · assumption
        · have hS : beginS nest ⟨depth, sn, st, fl, false, ca⟩ n stamp = ⟨depth + 1, sn, st, fl, false, ca⟩ := by unfold beginS; rw [hE]; simp [hz]
          refine ⟨.inl ⟨hE, by rw [hS]⟩, ?_⟩
          rw [hS]
          exact ⟨by simp only; omega, by simp only; omega, fun _ => h2 (by omega), (fun h => by cases h), h4, h5⟩
    · have hE : beginE nest ⟨depth, sn, st, fl, true, ca⟩ stamp = 8 := by simp [beginE, hs]
      have hS : beginS nest ⟨depth, sn, st, fl, true, ca⟩ n stamp = ⟨depth, sn, st, fl, true, ca⟩ := by unfold beginS; rw [hE]; rfl
      exact ⟨.inr ⟨.inr (.inr hE), hS⟩, by rw [hS]; exact ⟨h0, h1, h2, h3, h4, h5⟩⟩
theorem invD_end {nest : Int} {d : DS} (h : InvD nest d) :
    ((openE d = 0 ∧ (endS d).depth = d.depth - 1) ∨ (openE d = 8 ∧ endS d = d)) ∧ InvD nest (endS d) := by
  obtain ⟨depth, sn, st, fl, fa, ca⟩ := d
  obtain ⟨h0, h1, h2, h3, h4, h5⟩ := h
  simp only at h0 h1 h2 h3 h4 h5
  by_cases hz : depth = 0 ∨ fa = true
  · have ho : openE ⟨depth, sn, st, fl, fa, ca⟩ = 8 := by unfold openE; rw [if_pos hz]
    have he : endS ⟨depth, sn, st, fl, fa, ca⟩ = ⟨depth, sn, st, fl, fa, ca⟩ := by unfold endS; rw [ho]; rfl
    exact ⟨.inr ⟨ho, he⟩, by rw [he]; exact ⟨h0, h1, h2, h3, h4, h5⟩⟩
  · have ho : openE ⟨depth, sn, st, fl, fa, ca⟩ = 0 := by unfold openE; rw [if_neg hz]
    have hf : fa = false := by cases fa; rfl; exact absurd (.inr rfl) hz
    have hd0 : depth ≠ 0 := fun e => hz (.inl e)
    subst hf
    by_cases h1' : depth = 1
    · have he : endS ⟨depth, sn, st, fl, false, ca⟩ = ⟨0, sn, 0, false, false, ca⟩ := by unfold endS; rw [ho]; simp [h1']
      rw [he]
      exact ⟨.inl ⟨ho, by simp only; omega⟩, by simp, by simp only; omega, fun h => absurd h (by simp), (fun h => by cases h), h4, h5⟩
    · have he : endS ⟨depth, sn, st, fl, false, ca⟩ = ⟨depth - 1, sn, st, fl, false, ca⟩ := by unfold endS; rw [ho]; simp [h1']
      rw [he]
      exact ⟨.inl ⟨ho, rfl⟩, by simp only; omega, by simp only; omega, fun h => h2 (by omega), (fun h => by cases h), h4, h5⟩
theorem invD_fail {nest c : Int} {d : DS} (h : InvD nest d) (h0 : 0 ≤ c) (h1 : c ≤ 4294967295) : InvD nest (failS d c) := by
  unfold failS
  split
  · rename_i ho
    have hz : d.depth ≠ 0 := by
      intro e; unfold openE at ho; simp [e] at ho
    exact ⟨h.1, h.2.1, h.2.2.1, fun _ => by have := h.1; simp only; omega, h0, h1⟩
  · exact h
theorem invD_over {nest : Int} {d : DS} (h : InvD nest d) : InvD nest (overS d) := by
  unfold overS
  split
  · exact ⟨by simp, by have := h.1; have := h.2.1; simp only; omega, fun h' => absurd h' (by simp), (fun h' => by cases h'), h.2.2.2.2⟩
  · exact h

end Go.Proofs.Ytdkdlgcgkkbghaa.DL
