/- HomeAnswers: whatever it is given, the Go function answers true and leaves what it was given as it was. No condition. -/
import Derived.Test.YtlhbnndnkcpomaaDoorHomeAnswersW
import Derived.Test.YtlhbnndnkcpomaaDoorMaskLaid
import Derived.Test.YtlhbnndnkcpomaaDoorTie
import Derived.Test.YtlhbnndnkcpomaaDoorCards
import Derived.SevenTiedAt
import Derived.Lib.SmallJoins
set_option linter.unusedSimpArgs false
set_option linter.unusedVariables false
namespace Go.Proofs.YtlhbnndnkcpomaaDoor.homeAnswers
open Go.ChangeShapes Go.WideShapes Go.ChangeAt Go.RowKit
open Go.ChangeMaps (open_string shut_string)
set_option maxRecDepth 100000 in
theorem lifted (os : Os) (started : os.Started) (H : Type) (enc : TypeId × Value → H) :
    ReturnsInHanded {} Tryd.checked os 3 .any (fun w args => (Rows.homeAnswersSpec.pre enc Tryd.prog Tryd.f3 [] false w args ∧ laidMetH Tryd.prog laidTab w) ∧ sizedMet enc Tryd.prog Tryd.f3 (OpenSpec.ofChange Rows.homeAnswersSpec) false w args)
      (Rows.homeAnswersSpec.post enc Tryd.prog Tryd.f3 false true false false) := by
  refine returnsInHanded_of_change_and (C := Tryd.checked) (X := fun w _ => laidMetH Tryd.prog laidTab w) (fun _ _ _ hh h => h.of_heap hh) own started (by kernel_rfl) Tryd.func3
    (ChangeSpec.witness_shaped (enc := enc) (C := Tryd.checked) (os := os) (X := fun w _ => laidMetH Tryd.prog laidTab w) false (World.doorLaid Tryd.prog 400 os) #[.agg #[.int .i64 0, .int .i64 0, .int .i64 0, .int .i64 0, .int .i64 0, .int .i64 0, .int .i64 0, .int .i64 0], .slice none 0 0] 8 rfl (World.shaped_of_RefB (by kernel_rfl) (by kernel_rfl)) (by kernel_rfl) (by kernel_rfl) (by kernel_rfl) (door_met os _)) ?_
  intro W base args ds gs before hval0 hW _ _ hL _
  have lt := tab_of_laid hL
  have hval : ∀ (j : Nat) t v, Tryd.f3.params[j]? = some t → args[j]? = some v → Value.okWide Tryd.prog W .any base t v := hval0
  have hW' := hW
  obtain ⟨p, q, hA0, hV, rfl, hfz, hnd⟩ := hW
  have hA : DataW.TrodAll enc Tryd.prog W 0 (fun _ => true) true Tryd.f3.params.toList args.toList ds p := hA0
  rw [Tryd.params3] at hA hval
  have hAk := hA
  obtain ⟨v0, vs0, d0, ds0, p0, q0, hargs, rfl, rfl, h0, r0'⟩ := trodAll_cons hA
  obtain ⟨v1, vs1, d1, ds1, p1, q1, rfl, rfl, rfl, h1, r1'⟩ := trodAll_cons r0'
  obtain ⟨rfl, rfl, rfl⟩ := trodAll_nil r1'
  obtain rfl : args = #[v0, v1] := by cases args; simp_all
  obtain ⟨rfl, rfl⟩ := trodVars_none hV
  obtain ⟨a0, rfl⟩ := PL.open_cfg (hval 0 23 v0 rfl rfl) h0
  obtain ⟨a1, len1, cap1, rfl⟩ := okWide_slice Tryd.underlying24 (hval 1 24 v1 rfl rfl)
  obtain ⟨V1, r1'', w1⟩ := rowFields Tryd.underlying24 Tryd.underlying40 (by kernel_rfl) (by kernel_rfl) h1
  have r1 : IsRowF W a1 len1 cap1 5 V1 := r1''
  have f1 : ∀ i, i < len1 → V1 i 0 = .int .u8 (intOf (V1 i 0)) ∧ V1 i 1 = .int .i64 (intOf (V1 i 1)) ∧ V1 i 2 = .int .i64 (intOf (V1 i 2)) ∧ V1 i 3 = .int .i64 (intOf (V1 i 3)) ∧ V1 i 4 = .bool (boolOf (V1 i 4)) := fun i hi => by
    obtain ⟨n, hn⟩ := w1 i hi
    obtain ⟨_, y0⟩ := hn 0 _ rfl
    obtain ⟨_, y1⟩ := hn 1 _ rfl
    obtain ⟨_, y2⟩ := hn 2 _ rfl
    obtain ⟨_, y3⟩ := hn 3 _ rfl
    obtain ⟨_, y4⟩ := hn 4 _ rfl
    exact ⟨(field_int Tryd.underlying5 y0).1, (field_int Tryd.underlying3 y1).1, (field_int Tryd.underlying3 y2).1, (field_int Tryd.underlying3 y3).1, field_bool Tryd.underlying4 y4⟩
  have g1_0 := fun i (hi : i < len1) => bounds_u8 (field_int Tryd.underlying5 ((w1 i hi).choose_spec 0 _ rfl).choose_spec).2
  have g1_1 := fun i (hi : i < len1) => bounds_i64 (field_int Tryd.underlying3 ((w1 i hi).choose_spec 1 _ rfl).choose_spec).2
  have g1_2 := fun i (hi : i < len1) => bounds_i64 (field_int Tryd.underlying3 ((w1 i hi).choose_spec 2 _ rfl).choose_spec).2
  have g1_3 := fun i (hi : i < len1) => bounds_i64 (field_int Tryd.underlying3 ((w1 i hi).choose_spec 3 _ rfl).choose_spec).2
  clear hA0 hval0
  refine (HO.answers_any a0 a1 len1 cap1 V1 (fun i => intOf (V1 i 0)) (fun i => intOf (V1 i 1)) (fun i => intOf (V1 i 2)) (fun i => intOf (V1 i 3)) (fun i => boolOf (V1 i 4)) W lt r1 f1 (fun i hi => ⟨g1_0 i hi, g1_3 i hi⟩)).mono fun e W' ⟨he, bel⟩ => ?_
  subst he
  exact ⟨_, rfl, _, _, _, [], _, [], hW', trodAll_mk1 (shut_bool Tryd.underlying4 _), trodAll_below laidOut bel (of_decide_eq_true (by kernel_rfl)) hAk, rfl, bel.frame _, fun h => by cases h⟩

theorem over : Rows.homeAnswersRow.holds Tryd.pinned (OpenSpec.ofChange Rows.homeAnswersSpec) :=
  OpenClaim.holds_of_wide 3 Tryd.f3 rfl rfl rfl rfl rfl rfl rfl ⟨rfl, rfl, rfl, rfl, rfl⟩ rfl rfl rfl rfl rfl (by kernel_rfl) Tryd.func3 (by kernel_rfl)
    (of_decide_eq_true (by kernel_rfl)) (by unfold Func.isWrapper; first | (rw [if_pos (by decide +kernel)]; kernel_rfl) | (rw [if_neg (by decide +kernel)]; exact ⟨rfl, rfl⟩))
    (fun os started H enc _ => lifted os started H enc)

/-- The statement. -/
theorem proved : Rows.HomeAnswersCardSaid :=
  Claim7.holds_tied_plain_at .later [] [.data] true Rows.homeAnswersCard.stood.harness true
    over (fun _ h => by cases h) (by kernel_rfl) (fun _ h => by cases h) homeAnswers_row_tie rfl ⟨rfl, rfl⟩ (by kernel_rfl) rfl
    (fun f fn hf hfn => by
      obtain rfl : f = 3 := Option.some.inj ((show Tryd.prog.funcNamed "undertow/undertowlaw11.HomeAnswers" = some 3 by kernel_rfl).symm.trans hf) |>.symm
      obtain rfl : fn = Tryd.f3 := (Option.some.inj (Tryd.func3.symm.trans hfn)).symm
      exact ⟨by kernel_rfl, fun j t ht => by
        rw [Tryd.params3] at ht
        have hm : t ∈ ([23, 24] : List TypeId) := by simpa using Array.mem_of_getElem? ht
        have hall : (([23, 24] : List TypeId).all fun u => !Tryd.prog.wantsStandIn u) = true := by kernel_rfl
        exact (show Tryd.prog.wantsStandIn t = false by simpa using List.all_eq_true.1 hall t hm)⟩)
    (by kernel_rfl)
end Go.Proofs.YtlhbnndnkcpomaaDoor.homeAnswers
