/- EntryMany: whatever it is given, the Go function answers true and leaves what it was given as it was. No condition. -/
import Derived.Test.YtfkcnghhcoginaaDoorEntryManyW
import Derived.Test.YtfkcnghhcoginaaDoorMaskLaid
import Derived.Test.YtfkcnghhcoginaaDoorTie
import Derived.Test.YtfkcnghhcoginaaDoorCards
import Derived.SevenTiedAt
import Derived.Lib.SmallJoins
set_option linter.unusedSimpArgs false
set_option linter.unusedVariables false
namespace Go.Proofs.YtfkcnghhcoginaaDoor.entryMany
open Go.ChangeShapes Go.WideShapes Go.ChangeAt Go.RowKit
open Go.ChangeMaps (open_string shut_string)
set_option maxRecDepth 100000 in
theorem lifted (os : Os) (started : os.Started) (H : Type) (enc : TypeId × Value → H) :
    ReturnsInHanded {} Tryd.checked os 5 .any (fun w args => (Rows.entryManySpec.pre enc Tryd.prog Tryd.f5 [] false w args ∧ laidMetH Tryd.prog laidTab w) ∧ sizedMet enc Tryd.prog Tryd.f5 (OpenSpec.ofChange Rows.entryManySpec) false w args)
      (Rows.entryManySpec.post enc Tryd.prog Tryd.f5 false true false false) := by
  refine returnsInHanded_of_change_and (C := Tryd.checked) (X := fun w _ => laidMetH Tryd.prog laidTab w) (fun _ _ _ hh h => h.of_heap hh) own started (by kernel_rfl) Tryd.func5
    (ChangeSpec.witness_shaped (enc := enc) (C := Tryd.checked) (os := os) (X := fun w _ => laidMetH Tryd.prog laidTab w) false (World.doorLaid Tryd.prog 400 os) #[.slice none 0 0] 8 rfl (World.shaped_of_RefB (by kernel_rfl) (by kernel_rfl)) (by kernel_rfl) (by kernel_rfl) (by kernel_rfl) (door_met os _)) ?_
  intro W base args ds gs before hval0 hW _ _ hL _
  have lt := tab_of_laid hL
  have hval : ∀ (j : Nat) t v, Tryd.f5.params[j]? = some t → args[j]? = some v → Value.okWide Tryd.prog W .any base t v := hval0
  have hW' := hW
  obtain ⟨p, q, hA0, hV, rfl, hfz, hnd⟩ := hW
  have hA : DataW.TrodAll enc Tryd.prog W 0 (fun _ => true) true Tryd.f5.params.toList args.toList ds p := hA0
  rw [Tryd.params5] at hA hval
  have hAk := hA
  obtain ⟨v0, vs0, d0, ds0, p0, q0, hargs, rfl, rfl, h0, r0'⟩ := trodAll_cons hA
  obtain ⟨rfl, rfl, rfl⟩ := trodAll_nil r0'
  obtain rfl : args = #[v0] := by cases args; simp_all
  obtain ⟨rfl, rfl⟩ := trodVars_none hV
  obtain ⟨a0, len0, cap0, rfl⟩ := okWide_slice Tryd.underlying39 (hval 0 39 v0 rfl rfl)
  obtain ⟨V0, r0'', w0⟩ := rowFields Tryd.underlying39 Tryd.underlying42 (by kernel_rfl) (by kernel_rfl) h0
  have r0 : IsRowF W a0 len0 cap0 4 V0 := r0''
  have f0 : ∀ i, i < len0 → V0 i 0 = .bool (boolOf (V0 i 0)) ∧ V0 i 1 = .bool (boolOf (V0 i 1)) ∧ V0 i 2 = .int .u8 (intOf (V0 i 2)) ∧ V0 i 3 = .int .i64 (intOf (V0 i 3)) := fun i hi => by
    obtain ⟨n, hn⟩ := w0 i hi
    obtain ⟨_, y0⟩ := hn 0 _ rfl
    obtain ⟨_, y1⟩ := hn 1 _ rfl
    obtain ⟨_, y2⟩ := hn 2 _ rfl
    obtain ⟨_, y3⟩ := hn 3 _ rfl
    exact ⟨field_bool Tryd.underlying4 y0, field_bool Tryd.underlying4 y1, (field_int Tryd.underlying5 y2).1, (field_int Tryd.underlying3 y3).1⟩
  have g0_2 := fun i (hi : i < len0) => bounds_u8 (field_int Tryd.underlying5 ((w0 i hi).choose_spec 2 _ rfl).choose_spec).2
  have g0_3 := fun i (hi : i < len0) => bounds_i64 (field_int Tryd.underlying3 ((w0 i hi).choose_spec 3 _ rfl).choose_spec).2
  clear hA0 hval0
  refine (ET.many_law a0 len0 cap0 V0 (fun i => boolOf (V0 i 0)) (fun i => boolOf (V0 i 1)) (fun i => intOf (V0 i 2)) (fun i => intOf (V0 i 3)) W lt r0 f0).mono fun e W' ⟨he, bel⟩ => ?_
  subst he
  exact ⟨_, rfl, _, _, _, [], _, [], hW', trodAll_mk1 (shut_bool Tryd.underlying4 _), trodAll_below laidOut bel (of_decide_eq_true (by kernel_rfl)) hAk, rfl, bel.frame _, fun h => by cases h⟩

theorem over : Rows.entryManyRow.holds Tryd.pinned (OpenSpec.ofChange Rows.entryManySpec) :=
  OpenClaim.holds_of_wide 5 Tryd.f5 rfl rfl rfl rfl rfl rfl rfl ⟨rfl, rfl, rfl, rfl, rfl⟩ rfl rfl rfl rfl rfl (by kernel_rfl) Tryd.func5 (by kernel_rfl)
    (of_decide_eq_true (by kernel_rfl)) (by unfold Func.isWrapper; first | (rw [if_pos (by decide +kernel)]; kernel_rfl) | (rw [if_neg (by decide +kernel)]; exact ⟨rfl, rfl⟩))
    (fun os started H enc _ => lifted os started H enc)

/-- The statement. -/
theorem proved : Rows.EntryManyCardSaid :=
  Claim7.holds_tied_plain_at .later [] [.data] true Rows.entryManyCard.stood.harness false
    over (fun _ h => by cases h) (by kernel_rfl) (fun _ h => by cases h) entryMany_row_tie rfl ⟨rfl, rfl⟩ (by kernel_rfl) rfl
    (fun f fn hf hfn => by
      obtain rfl : f = 5 := Option.some.inj ((show Tryd.prog.funcNamed "undertow/undertowlaw10.EntryMany" = some 5 by kernel_rfl).symm.trans hf) |>.symm
      obtain rfl : fn = Tryd.f5 := (Option.some.inj (Tryd.func5.symm.trans hfn)).symm
      exact ⟨by kernel_rfl, fun j t ht => by
        rw [Tryd.params5] at ht
        have hm : t ∈ ([39] : List TypeId) := by simpa using Array.mem_of_getElem? ht
        have hall : (([39] : List TypeId).all fun u => !Tryd.prog.wantsStandIn u) = true := by kernel_rfl
        exact (show Tryd.prog.wantsStandIn t = false by simpa using List.all_eq_true.1 hall t hm)⟩)
    (by kernel_rfl)
end Go.Proofs.YtfkcnghhcoginaaDoor.entryMany
