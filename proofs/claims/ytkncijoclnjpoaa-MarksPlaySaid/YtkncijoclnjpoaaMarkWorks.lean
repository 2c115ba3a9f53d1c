/- What each statement of layer 13 asks of marks: that they are kept; slices.Equal of numbers. -/
import Derived.Test.YtkncijoclnjpoaaMarkAll
set_option linter.unusedSimpArgs false
set_option linter.unusedVariables false
namespace Go.Proofs.Ytkncijoclnjpoaa.MK
open Go.RowKit
open PL (Cfg CC CV May)
attribute [local go_sem] Oper.semAt_some
theorem sorted_unique {l m : List Int} (hl : l.Pairwise (· < ·)) (hm : m.Pairwise (· < ·)) (h : ∀ a, a ∈ l ↔ a ∈ m) : l = m := by
  have nd : ∀ {k : List Int}, k.Pairwise (· < ·) → k.Nodup := fun h => h.imp (fun {a b} h => by omega)
  refine List.Perm.eq_of_pairwise (le := fun a b : Int => a < b) (fun a b _ _ h1 h2 => by omega) hl hm ?_
  exact (List.perm_ext_iff_of_nodup (nd hl) (nd hm)).2 h
theorem ints_at {W : World} {v : Value} {xs : List Int} (h : Row W 3 1 v xs.length (xs.map VI)) :
    ∃ a cap, v = .slice a xs.length cap ∧ xs.length ≤ cap ∧ cap ≤ maxLen ∧ ∀ k x, xs[k]? = some x → ∃ g, a = some ⟨g, 0, none⟩ ∧ W.cell? ⟨g, k, none⟩ = some (.int .i64 x) := by
  obtain ⟨a, cap, rfl, hn, hm, hnil⟩ := h.slice
  refine ⟨a, cap, rfl, hn, hm, fun k x hk => ?_⟩
  have hkl : k < xs.length := (List.getElem?_eq_some_iff.1 hk).1
  cases a with
  | none => have := (hnil rfl).1; omega
  | some a =>
    obtain ⟨⟨g, rfl⟩, hcell⟩ := h.cells
    refine ⟨g, rfl, ?_⟩
    have := hcell k (VI x) (by rw [List.getElem?_map, hk]; rfl)
    simpa using this
set_option maxRecDepth 100000 in
theorem equal_same (w : World) (v1 v2 : Value) (xs : List Int) (h1 : Row w 3 1 v1 xs.length (xs.map VI)) (h2 : Row w 3 1 v2 xs.length (xs.map VI)) :
    Calls Try.prog 26 #[v1, v2] w fun e w' => e = .returned (.bool true) ∧ Upd NoF w w' := by
  obtain ⟨a1, cap1, rfl, l1, m1, r1⟩ := ints_at h1
  obtain ⟨a2, cap2, rfl, l2, m2, r2⟩ := ints_at h2
  unfold maxLen at m1 m2
  have R1 := Lib.hid r1; have R2 := Lib.hid r2
  clear r1 r2 h1 h2
  go_enter Try.func26, Try.ntmps26
  go_wp2
  go_loopw [13] (fun i wr => ∃ k : Nat, k ≤ xs.length ∧ i = .int .i64 k ∧ Hid (Upd NoF w wr)) (fun i _ => xs.length - (intOf i).toNat)
  case atStart => exact ⟨0, Nat.zero_le _, rfl, Upd.refl _ _⟩
  case round =>
    obtain ⟨k, hk, rfl, HI⟩ := hrel
    by_cases hlt : k < xs.length
    · obtain ⟨n, hn⟩ : ∃ n, xs[k]? = some n := ⟨_, List.getElem?_eq_getElem hlt⟩
      obtain ⟨g1, rfl, hr1⟩ := R1.out k n hn
      obtain ⟨g2, rfl, hr2⟩ := R2.out k n hn
      have c1 := HI.out.cell hr1 (fun h => h)
      have c2 := HI.out.cell hr2 (fun h => h)
      clear hn hr1 hr2
      go_wp2
      go_quiet (fail)
      have HU := Lib.hid (HI.out.trans (Upd.drewN NoF wr nq) (fun _ _ h => h))
      go_wp2
      go_roundw
      case rel => exact ⟨k + 1, by omega, by go_num, HU.out⟩
      case measure => simp [intOf]; omega
    · obtain rfl : xs.length = k := by omega
      go_wp2
      go_ret
      exact ⟨rfl, HI.out⟩
def c8 : Cfg := ⟨2, 2, 2, 10, 1, 1, 1, 0⟩
theorem may8 : May c8 := by decide
theorem eight_any (w : World) : Calls Try.prog 17 #[] w fun e w' => e = .returned (CV c8) ∧ Upd NoF w w' := by
  show Calls Try.prog 17 #[] w fun e w' => e = .returned (.agg #[.int .i64 2, .int .i64 2, .int .i64 2, .int .i64 10, .int .i64 1, .int .i64 1, .int .i64 1, .int .i64 0]) ∧ Upd NoF w w'
  go_enter Try.func17, Try.ntmps17
  go_wp2
  exact bodyPost_ret (v := .agg #[.int .i64 2, .int .i64 2, .int .i64 2, .int .i64 10, .int .i64 1, .int .i64 1, .int .i64 1, .int .i64 0]) (by simp [results, Try.f17, go_sem]) rfl ⟨rfl, Upd.alloc NoF w _⟩
theorem fit_small {a : Int} (h : -9223372036854775808 ≤ a ∧ a ≤ 9223372036854775807) : MM.fit a := WalkArith.wf_i64 h
theorem row_lit (w : World) (x y : Int) : Row (w.alloc (.cells #[VI x, VI y] 3)) 3 1 (.slice (some ⟨w.heap.size, 0, none⟩) 2 2) 2 [VI x, VI y] :=
  ⟨rfl, .inr ⟨w.heap.size, 2, #[VI x, VI y], rfl, World.alloc_heap_new w _, Nat.le_refl _, by unfold maxLen; omega, Nat.le_refl _, rfl⟩⟩
theorem f35 (a : Int) : ((putF 8 (putF 8 none2 3 true false) 5 false true a).1 || (putF 8 (putF 8 none2 3 true false) 5 false true a).2) = true ↔ a ∈ [3, 5] := by
  unfold putF MM.put mayB
  by_cases h3 : a = 3
  · subst h3; simp
  · by_cases h5 : a = 5
    · subst h5; simp
    · simp [h3, h5]
set_option maxRecDepth 100000 in
set_option maxHeartbeats 2000000 in
theorem works_any (w : World) : Calls Try.prog 8 #[] w fun e w' => e = .returned (.bool true) ∧ Upd NoF w w' := by
  go_enter Try.func8, Try.ntmps8
  go_wp2_with fail
  refine (eight_any w).mono ?_
  rintro e v1 ⟨rfl, hu⟩
  have HS1 := Lib.hid ((Sep.zero NoF w).upd0 hu)
  clear hu
  go_wp2_with fail
  refine (new_yes HS1.out c8 may8).mono ?_
  rintro e v2 ⟨kb, mb, rfl, hk⟩
  have HK2 := Lib.hid hk
  clear hk
  have hd : c8.blocks - c8.cores * c8.logs = 8 := by decide
  rw [hd] at HK2
  go_wp2_with fail
  refine (read_any HK2.out (by decide) 3 (fit_small (by decide))).mono ?_
  rintro e v3 ⟨rfl, hk⟩
  have HK3 := Lib.hid hk
  clear hk
  have e3 : putE 8 3 = 0 := by decide
  rw [e3]
  go_wp2_with fail
  refine (write_any HK3.out (by decide) 5 (fit_small (by decide))).mono ?_
  rintro e v4 ⟨rfl, hk⟩
  have HK4 := Lib.hid hk
  clear hk
  have e5 : putE 8 5 = 0 := by decide
  rw [e5]
  go_wp2_with fail
  refine (all_any HK4.out (by decide)).mono ?_
  rintro e v5 ⟨v, ss, rfl, hp, hm, _, hk⟩
  obtain rfl : ss = [3, 5] := sorted_unique hp (by decide) (fun a => (hm a).trans (f35 a))
  have HK5 := Lib.hid hk
  clear hk hp hm
  go_wp2_with fail
  refine (equal_same _ _ _ [3, 5] ((HK5.out.sep.row 1 rfl).alloc _) (row_lit v5 3 5)).mono ?_
  rintro e v6 ⟨rfl, hu⟩
  have HU := Lib.hid ((HK5.out.sep.upd.trans (Upd.alloc NoF v5 (.cells #[VI 3, VI 5] 3)) (fun _ _ h => h)).trans hu (fun _ _ h => h))
  clear hu
  go_wp2
  go_ret
  exact ⟨rfl, HU.out⟩
end Go.Proofs.Ytkncijoclnjpoaa.MK
