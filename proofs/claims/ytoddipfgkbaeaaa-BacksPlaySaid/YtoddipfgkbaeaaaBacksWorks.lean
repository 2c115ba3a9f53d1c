/- The statements of layer 12 (backs): works, eight; a plan that came in. -/
import Derived.Test.YtoddipfgkbaeaaaBacksC
import Derived.ChangeKeysEq
import Derived.Lib.SmallJoins
set_option linter.unusedSimpArgs false
set_option linter.unusedVariables false
namespace Go.Proofs.Ytoddipfgkbaeaaa.BK
open Go.RowKit Go.WideShapes Go.ChangeAt
open PL (Cfg CC CV May)
attribute [local go_sem] Oper.semAt_some
attribute [local go_sem ↓] TBlk.ld_eq TBlk.st_eq TBlk.al_eq
attribute [local go_sem] TBlk.al_run

abbrev E8 : Cfg := ⟨2, 2, 2, 10, 1, 1, 1, 0⟩
theorem may8 : May E8 := by decide
set_option maxRecDepth 100000 in
theorem eight_any (w : World) : Calls Try.prog 19 #[] w fun e w' => e = .returned (CV E8) ∧ Upd NoF w w' := by
  go_enter Try.func19, Try.ntmps19
  go_wp2
  obtain ⟨W, hW⟩ : ∃ W, w.alloc (.cells (CC E8) 23) = W := ⟨_, rfl⟩
  have hu : Upd NoF w W := by rw [← hW]; exact Upd.alloc NoF w _
  have hq : Blk W w.heap.size (CC E8) 23 := by rw [← hW]; exact Blk.new w _ _
  rw [hW]
  clear hW
  refine bodyPost_ret (v := CV E8) (results_cell_row rfl _ W w.heap.size _ _ (0, 0) _ rfl hq Try.underlying23 rfl (by kernel_rfl)) rfl ⟨rfl, hu⟩

abbrev D5 : Array Value := #[.int .u32 5, .int .u32 0, .int .u32 0, .int .u32 0, .int .u32 0, .int .u32 0, .int .u32 0, .int .u32 0, .int .u32 0, .int .u32 0, .int .u32 0, .int .u32 0, .int .u32 0, .int .u32 0, .int .u32 0, .int .u32 0]
theorem isD5 : IsN 16 D5 := ⟨by kernel_rfl, Array.all_eq_true_iff_forall_mem.1 (by kernel_rfl)⟩
theorem eqD5 (w : World) : (binOp .eql 32 (.agg D5) (.agg D5)).run Try.prog w = .ok (.bool true) w := by
  have hi : (Try.prog.info? 30).isSome = true := by kernel_rfl
  obtain ⟨i, hi⟩ := Option.isSome_iff_exists.1 hi
  have hc : Try.prog.cellsOf 30 = 1 := by kernel_rfl
  have hA := fun xs ys => run_equalIn_array (P := Try.prog) (w := w) 9999 xs ys Try.underlying32 hi
  simp [go_sem, hA, hc, Op.eqItems]
attribute [local go_sem ↓] eqD5

set_option maxRecDepth 100000 in
set_option maxHeartbeats 2000000 in
theorem works_any (w : World) : Calls Try.prog 8 #[] w fun e w' => e = .returned (.bool true) ∧ Upd NoF w w' := by
  go_enter Try.func8, Try.ntmps8
  go_wp2_with fail
  refine (eight_any _).mono ?_
  rintro e w1 ⟨rfl, hu⟩
  have HU1 := Lib.hid hu
  clear hu
  go_wp2_with fail
  refine (new_yes E8 may8 w1).mono ?_
  rintro e w2 ⟨kb, rfl, hu, hb⟩
  have HS2 : Hid (Sep NoF w w2 [Bo kb 8 [] 1]) := Lib.hid (((Sep.zero NoF w).upd0 HU1.out).push hu hb)
  clear hu hb
  go_wp2_with fail
  refine (HS2.out.call (Φ' := Bo kb 8 [⟨3, D5, true⟩] 1) (E := fun e => e = _) 0 rfl (fun F hF => put_ok w2 F kb 8 [] 1 3 D5 isD5 hF (by decide) (by decide) rfl (by decide) (by decide))).mono ?_
  rintro e w3 ⟨rfl, hs⟩
  have HS3 : Hid (Sep NoF w w3 [Bo kb 8 [⟨3, D5, true⟩] 1]) := Lib.hid hs
  clear hs
  go_wp2_with fail
  refine (HS3.out.reads (E := fun e => e = _) 0 rfl (fun F hF => put_state w3 F kb 8 _ 1 3 0 D5 hF (by decide) (by decide) rfl)).mono ?_
  rintro e w4 ⟨rfl, hs⟩
  have HS4 := Lib.hid hs
  clear hs
  go_wp2_with fail
  refine (HS4.out.reads (E := fun e => e = _) 0 rfl (fun F hF => put_full w4 F kb 8 _ 1 4 TBlk.Z TBlk.isZ hF (by decide) (by decide) rfl (by decide))).mono ?_
  rintro e w5 ⟨rfl, hs⟩
  have HS5 := Lib.hid hs
  clear hs
  go_wp2_with fail
  refine (HS5.out.reads (E := fun e => e = _) 0 rfl (fun F hF => find_yes w5 F kb 8 _ 1 3 0 ⟨3, D5, true⟩ hF rfl rfl)).mono ?_
  rintro e w6 ⟨rfl, hs⟩
  have s3 := TBlk.st_new isD5 w6
  have l3 := TBlk.ld_new isD5 w6
  have HS6 := Lib.hid (hs.upd0 (Upd.alloc NoF w6 (.cells D5 32)))
  clear hs
  go_wp2_with fail
  refine (HS6.out.looks (E := fun e => e = _) 0 rfl (fun F hF => len_any _ F kb 8 _ 1 hF)).mono ?_
  rintro e w7 ⟨rfl, rfl⟩
  go_wp2
  go_ret
  exact ⟨rfl, HS6.out.upd⟩

section
variable {H : Type} {enc : TypeId × Value → H} {w : World}
/-- A plan that came in. -/
theorem open_cfg {r : Reach} {b0 base : Nat} {spare : Nat → Bool} {held : Bool} {v : Value} {d : DataW H} {p : List MemPlace} (hv : Value.okWide Try.prog w r b0 23 v)
    (h : DataW.Trod enc Try.prog w base spare held 23 v d p) : ∃ c : Cfg, v = CV c := by
  obtain ⟨cs, rfl, hsz⟩ := okWide_struct Try.underlying23 hv
  have hsz8 : cs.size = 8 := hsz.trans (by kernel_rfl)
  obtain ⟨fuel, hf⟩ := h
  obtain ⟨xs, n, _, _, hl, hlen, hg⟩ := DataW.trod_struct Try.underlying23 hf
  have key : ∀ j, j < 8 → ∃ z : Int, cs[j]? = some (.int .i64 z) := fun j hj => by
    have hx : ∃ y, xs[j]? = some y := ⟨_, List.getElem?_eq_getElem (by rw [hlen]; exact hj)⟩
    obtain ⟨y, hy⟩ := hx
    have hc1 : Try.prog.cellsOf 3 = 1 := by kernel_rfl
    have : j = 0 ∨ j = 1 ∨ j = 2 ∨ j = 3 ∨ j = 4 ∨ j = 5 ∨ j = 6 ∨ j = 7 := by omega
    have ht : DataW.trod enc Try.prog w base spare held n 3 ((cs.toList.drop j).take 1) = some y := by
      rcases this with rfl | rfl | rfl | rfl | rfl | rfl | rfl | rfl <;> (have := (hg _ _ rfl).trans hy; simpa [Value.cells, hc1] using this)
    obtain ⟨z, hz, _⟩ := DataW.trod_int Try.underlying3 ht
    refine ⟨z, ?_⟩
    have hjs : j < cs.toList.length := by simp [hsz8]; exact hj
    rw [List.drop_eq_getElem_cons hjs] at hz
    simp at hz
    rw [Array.getElem?_eq_getElem (by omega), hz]
  obtain ⟨z0, h0⟩ := key 0 (by omega); obtain ⟨z1, h1⟩ := key 1 (by omega); obtain ⟨z2, h2⟩ := key 2 (by omega); obtain ⟨z3, h3⟩ := key 3 (by omega)
  obtain ⟨z4, h4⟩ := key 4 (by omega); obtain ⟨z5, h5⟩ := key 5 (by omega); obtain ⟨z6, h6⟩ := key 6 (by omega); obtain ⟨z7, h7⟩ := key 7 (by omega)
  refine ⟨⟨z0, z1, z2, z3, z4, z5, z6, z7⟩, ?_⟩
  congr 1
  apply Array.ext_getElem?
  intro j
  by_cases hj : j < 8
  · have : j = 0 ∨ j = 1 ∨ j = 2 ∨ j = 3 ∨ j = 4 ∨ j = 5 ∨ j = 6 ∨ j = 7 := by omega
    rcases this with rfl | rfl | rfl | rfl | rfl | rfl | rfl | rfl <;> (first | exact h0 | exact h1 | exact h2 | exact h3 | exact h4 | exact h5 | exact h6 | exact h7)
  · rw [Array.getElem?_eq_none (by omega), Array.getElem?_eq_none (by simp; omega)]
end
end Go.Proofs.Ytoddipfgkbaeaaa.BK
