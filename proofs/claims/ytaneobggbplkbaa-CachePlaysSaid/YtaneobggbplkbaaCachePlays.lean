/- CachePlays: whatever it is given, the Go function answers true and leaves what it was given as it was. No condition. -/
import Derived.Test.YtaneobggbplkbaaCachePlaysW
import Derived.Test.YtaneobggbplkbaaCfgIn
set_option linter.unusedSimpArgs false
set_option linter.unusedVariables false
namespace Go.Proofs.Ytaneobggbplkbaa.cachePlays
open Go.ChangeShapes Go.WideShapes Go.ChangeAt Go.RowKit
open Go.ChangeMaps (open_string shut_string)
set_option maxRecDepth 100000 in
theorem lifted (os : Os) (started : os.Started) (H : Type) (enc : TypeId × Value → H) :
    ReturnsInHanded {} Try.checked os 7 .any (Rows.cachePlaysSpec.pre6 enc Try.prog Try.f7 Rows.cachePlaysRow.domain false) (Rows.cachePlaysSpec.post enc Try.prog Try.f7 false true false false) := by
  refine returnsInHanded_of_change (C := Try.checked) own started (by kernel_rfl) Try.func7
    (ChangeSpec.witness6 (enc := enc) (C := Try.checked) false ⟨#[], #[.agg #[.int .i64 0, .int .i64 0, .int .i64 0, .int .i64 0, .int .i64 0, .int .i64 0, .int .i64 0, .int .i64 0], .slice none 0 0], []⟩ 8 (by kernel_rfl) (by kernel_rfl) (by kernel_rfl) (by kernel_rfl)) ?_
  intro W base args ds gs before hval0 hW hcnd hsz
  have hval : ∀ (j : Nat) t v, Try.f7.params[j]? = some t → args[j]? = some v → Value.okWide Try.prog W .any base t v := hval0
  have hW' := hW
  obtain ⟨p, q, hA0, hV, rfl, hfz, hnd⟩ := hW
  have hA : DataW.TrodAll enc Try.prog W 0 (fun _ => true) true Try.f7.params.toList args.toList ds p := hA0
  rw [Try.params7] at hA hval
  have hAk := hA
  obtain ⟨v0, vs0, d0, ds0, p0, q0, hargs, rfl, rfl, h0, r0'⟩ := trodAll_cons hA
  obtain ⟨v1, vs1, d1, ds1, p1, q1, rfl, rfl, rfl, h1, r1'⟩ := trodAll_cons r0'
  obtain ⟨rfl, rfl, rfl⟩ := trodAll_nil r1'
  obtain rfl : args = #[v0, v1] := by cases args; simp_all
  obtain ⟨rfl, rfl⟩ := trodVars_none hV
  obtain ⟨a0, rfl⟩ := PL.open_cfg (hval 0 23 v0 rfl rfl) h0
  obtain ⟨a1, len1, cap1, rfl⟩ := okWide_slice Try.underlying24 (hval 1 24 v1 rfl rfl)
  obtain ⟨V1, r1'', w1⟩ := rowFields Try.underlying24 Try.underlying33 (by kernel_rfl) (by kernel_rfl) h1
  have r1 : IsRowF W a1 len1 cap1 5 V1 := r1''
  have f1 : ∀ i, i < len1 → V1 i 0 = .int .i64 (intOf (V1 i 0)) ∧ V1 i 1 = .int .i64 (intOf (V1 i 1)) ∧ V1 i 2 = .int .i64 (intOf (V1 i 2)) ∧ V1 i 3 = .int .u8 (intOf (V1 i 3)) ∧ V1 i 4 = .int .u32 (intOf (V1 i 4)) := fun i hi => by
    obtain ⟨n, hn⟩ := w1 i hi
    obtain ⟨_, y0⟩ := hn 0 _ rfl
    obtain ⟨_, y1⟩ := hn 1 _ rfl
    obtain ⟨_, y2⟩ := hn 2 _ rfl
    obtain ⟨_, y3⟩ := hn 3 _ rfl
    obtain ⟨_, y4⟩ := hn 4 _ rfl
    exact ⟨(field_int Try.underlying3 y0).1, (field_int Try.underlying3 y1).1, (field_int Try.underlying3 y2).1, (field_int Try.underlying30 y3).1, (field_int Try.underlying31 y4).1⟩
  have g1_0 := fun i (hi : i < len1) => bounds_i64 (field_int Try.underlying3 ((w1 i hi).choose_spec 0 _ rfl).choose_spec).2
  have g1_1 := fun i (hi : i < len1) => bounds_i64 (field_int Try.underlying3 ((w1 i hi).choose_spec 1 _ rfl).choose_spec).2
  have g1_2 := fun i (hi : i < len1) => bounds_i64 (field_int Try.underlying3 ((w1 i hi).choose_spec 2 _ rfl).choose_spec).2
  have g1_3 := fun i (hi : i < len1) => bounds_u8 (field_int Try.underlying30 ((w1 i hi).choose_spec 3 _ rfl).choose_spec).2
  have g1_4 := fun i (hi : i < len1) => bounds_u32 (field_int Try.underlying31 ((w1 i hi).choose_spec 4 _ rfl).choose_spec).2
  clear hA0 hval0
  refine (KA.plays_any a0 a1 len1 cap1 V1 (fun i => intOf (V1 i 0)) (fun i => intOf (V1 i 1)) (fun i => intOf (V1 i 2)) (fun i => intOf (V1 i 3)) (fun i => intOf (V1 i 4)) W r1 f1 (fun i hi => ⟨g1_3 i hi, trivial⟩)).mono fun e W' ⟨he, bel⟩ => ?_
  subst he
  exact ⟨_, rfl, _, _, _, [], _, [], hW', trodAll_mk1 (shut_bool Try.underlying4 _), trodAll_below laidOut bel (of_decide_eq_true (by kernel_rfl)) hAk, rfl, bel.frame _, fun h => by cases h⟩

theorem over : Rows.cachePlaysRow.holds Try.pinned (OpenSpec.ofChange Rows.cachePlaysSpec) :=
  OpenClaim.holds_of_wide 7 Try.f7 rfl rfl rfl rfl rfl rfl rfl ⟨rfl, rfl, rfl, rfl, rfl⟩ rfl rfl rfl rfl rfl (by kernel_rfl) Try.func7 (by kernel_rfl)
    (of_decide_eq_true (by kernel_rfl)) (by unfold Func.isWrapper; first | (rw [if_pos (by decide +kernel)]; kernel_rfl) | (rw [if_neg (by decide +kernel)]; exact ⟨rfl, rfl⟩))
    (fun os started H enc _ => lifted os started H enc)

/-- The statement. -/
theorem proved : Rows.CachePlaysSaid :=
  over
end Go.Proofs.Ytaneobggbplkbaa.cachePlays
