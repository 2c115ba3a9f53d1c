/- The contracts of package marks: Copy; Clear, and what it leaves alone. -/
import Derived.Test.YtkncijoclnjpoaaMarkAllIn
set_option linter.unusedSimpArgs false
set_option linter.unusedVariables false
namespace Go.Proofs.Ytkncijoclnjpoaa.MK
open Go.RowKit
open PL (Cfg CC CV May)
attribute [local go_sem] Oper.semAt_some
theorem clone_any {W : World} {mb n : Nat} {f : Int → Bool × Bool} (h : MM.Is W mb n f) : Calls Try.prog 34 #[.map (some mb)] W fun e W' =>
    e = .returned (.map (some W.heap.size)) ∧ Upd NoF W W' ∧ MM.Is W' W.heap.size n f := by
  obtain ⟨D, ⟨es, clock, hb, F, hs, hD⟩, r⟩ := h
  have hc := AnyW.maps_Clone Try.cloneA mb es clock W hb
  change Calls Try.prog 34 _ _ _ at hc
  refine hc.mono fun e W' ⟨he, hw⟩ => ?_
  subst hw
  exact ⟨he, Upd.alloc NoF W _, D, ⟨es, clock, (MapKept.heap_alloc W _).1, F, hs, hD⟩, r⟩
section
variable {w0 W W' : World} {kb mb n : Nat} {data : Int} {f : Int → Bool × Bool} {L : List Obj}
set_option maxRecDepth 100000 in
theorem clear_g (h : KIs w0 W kb mb n data f L) : Calls Try.prog 14 #[ptr kb] W fun e W' => e = .returned (.tuple #[]) ∧ KIs w0 W' kb mb 0 data none2 L ∧ W.grownBy W' (some mb) := by
  have k1 : W.cell? ⟨kb, 1, none⟩ = some (.map (some mb)) := (h.sep.box 0 rfl).cell 1
  obtain ⟨W1, hrun, hI, hg⟩ := h.map.clear 0
  have HF := Lib.hid (And.intro (h.step hg hI) hg)
  clear h hI hg
  go_enter Try.func14, Try.ntmps14
  go_wp2
  go_end0
  exact ⟨rfl, HF.out⟩
set_option maxRecDepth 100000 in
theorem copy_any (h : KIs w0 W kb mb n data f L) : Calls Try.prog 18 #[ptr kb] W fun e W' =>
    ∃ kb2 mb2, e = .returned (ptr kb2) ∧ mb2 ≠ mb ∧ KIs w0 W' kb2 mb2 n data f (marksO kb mb data :: L) ∧ MM.Is W' mb n f := by
  have hd := h.upd0 (Upd.drew NoF W)
  have k0 : W.drew.cell? ⟨kb, 0, none⟩ = some (.int .i64 data) := (hd.sep.box 0 rfl).cell 0
  have k1 : W.drew.cell? ⟨kb, 1, none⟩ = some (.map (some mb)) := (hd.sep.box 0 rfl).cell 1
  have HC := Lib.hid (clone_any hd.map)
  have HD := Lib.hid hd
  have hlt := h.map.lt
  clear h hd
  go_enter Try.func18, Try.ntmps18
  go_wp2_with fail
  go_region_with (go_at_call 34; refine HC.out.mono ?_; rintro e w2 ⟨rfl, hu, hI⟩; have H2 := Lib.hid (And.intro hu hI); clear hu hI; have k0b : w2.cell? ⟨kb, 0, none⟩ = some (.int .i64 data) := H2.out.1.cell k0 (fun h => h))
  all_goals
    go_wp2
    go_ret
    have h3 := HD.out.upd0 H2.out.1
    have hs := h3.sep.alloc #[.int .i64 data, .map (some W.heap.size)] 52
    have hu3 := Upd.alloc NoF w2 (.cells #[.int .i64 data, .map (some W.heap.size)] 52)
    exact ⟨_, W.heap.size, rfl, Nat.ne_of_gt hlt, ⟨hs, H2.out.2.upd hu3, HD.out.sep.size⟩, h3.map.upd hu3⟩
end
end Go.Proofs.Ytkncijoclnjpoaa.MK
