/- The reference of the cache: New, Find (printed by tools/mkcrd.py). -/
import Derived.Test.YtaneobggbplkbaaCacheRC
set_option linter.unusedSimpArgs false
set_option linter.unusedVariables false
namespace Go.Proofs.Ytaneobggbplkbaa.KA
open Go.RowKit
open BU (IsU words)
open PL (Cfg CC CV May)
attribute [local go_sem] Oper.semAt_some
attribute [local go_sem ↓] TLin.ld_eq TLin.st_eq TLin.al_eq TLin.bx_eq mkL_eq mkU_eq
attribute [local go_sem] TLin.al_run TLin.bx_run
section
variable {w0 W W' : World} {p : Kp} {T : TypeId} {c : Cfg} {A : Nat → Ln} {M : Nat → Int} {L : List Obj}
set_option maxRecDepth 100000 in
theorem rnew_no (c : Cfg) (hc : ¬ May c) (w : World) : Calls Try.prog 23 #[CV c] w fun e w' => e = .returned (.tuple #[.pointer none, .int .i64 2]) ∧ Upd NoF w w' := by
  have HM := Lib.hid (fun w => PL.rMay_any c w)
  rw [decide_eq_false hc] at HM
  have hu1 := Upd.alloc NoF w (.cells (CC c) 23)
  have HU := Lib.hid hu1
  clear hc hu1
  go_enter Try.func23, Try.ntmps23
  go_wp2_with fail
  refine (HM.out _).mono ?_
  rintro e w2 ⟨rfl, hu⟩
  have HU2 := Lib.hid (HU.out.trans hu (fun _ _ h => h))
  clear hu
  go_wp2
  go_ret2
  exact ⟨rfl, HU2.out⟩
set_option maxRecDepth 100000 in
set_option maxHeartbeats 2000000 in
theorem rnew_yes (h : Sep NoF w0 W L) (c : Cfg) (hc : May c) : Calls Try.prog 23 #[CV c] W fun e W' =>
    ∃ p : Kp, e = .returned (.tuple #[ptr p.kb, .int .i64 0]) ∧ CIs RT w0 W' p c (fun _ => Ln.nil) (fun _ => 0) L ∧ Upd NoF W W' := by
  have hs := hc.2.2.2.2.2.2.1; have hy := hc.2.2.2.2.2.2.2.1
  obtain ⟨s, es⟩ : ∃ s : Nat, c.sets = s := ⟨c.sets.toNat, by omega⟩
  obtain ⟨y, ey⟩ : ∃ y : Nat, c.ways = y := ⟨c.ways.toNat, by omega⟩
  have hf : ∀ kb gl gm, (Kp.mk kb gl gm (s * y) s #[] #[] s y).Fits c := fun kb gl gm => by
    have hsy : s * y ≤ 64 := by
      have h1 : s = 1 ∨ s = 2 ∨ s = 4 ∨ s = 8 ∨ s = 16 := by omega
      have h2 : y = 1 ∨ y = 2 ∨ y = 4 := by omega
      rcases h1 with e | e | e | e | e <;> rcases h2 with e2 | e2 | e2 <;> rw [e, e2] <;> omega
    exact ⟨hc, es, ey, ⟨Nat.le_refl _, by unfold maxLen; dsimp only; omega⟩, ⟨Nat.le_refl _, by unfold maxLen; dsimp only; omega⟩, by simp, by simp⟩
  have hsm := Kp.small (hf 0 0 0)
  dsimp only at hsm
  have HFT := Lib.hid hf
  have HM := Lib.hid (fun w => (PL.rMay_any c w))
  rw [decide_eq_true hc] at HM
  have h1 := h.alloc (CC c) 23
  have hu1 := Upd.alloc NoF W (.cells (CC c) 23)
  obtain ⟨W1, hW1⟩ : ∃ X, W.alloc (.cells (CC c) 23) = X := ⟨_, rfl⟩
  rw [hW1] at h1 hu1
  have HS := Lib.hid h1; have HW1 := Lib.hid hW1; have HU1 := Lib.hid hu1
  have mk1 := mkL_run (s * y) (by omega)
  have mk2 := mkU_run s (by omega)
  have wm : IntKind.i64.wrap ((s : Int) * (y : Int)) = ((s * y : Nat) : Int) := by
    rw [show ((s : Int) * (y : Int)) = ((s * y : Nat) : Int) by simp]
    exact IntWalk.i64_in _ (by omega)
  have HES := Lib.hid (And.intro es ey)
  clear hc hs hy hf hW1 h h1 hu1 hsm es ey
  generalize hn : s * y = n at *
  go_enter Try.func23, Try.ntmps23
  go_wp2_with fail
  rw [HW1.out]
  refine (HM.out _).mono ?_
  rintro e W2 ⟨rfl, hu⟩
  have HS2 := Lib.hid (HS.out.upd0 hu)
  have HU2 := Lib.hid (HU1.out.trans hu (fun _ _ h => h))
  have d0 : W2.cell? ⟨W.heap.size, 0, none⟩ = some (.int .i64 c.cores) := (HS2.out.box 0 rfl).cell 0
  have d1 : W2.cell? ⟨W.heap.size, 1, none⟩ = some (.int .i64 s) := by rw [← HES.out.1]; exact (HS2.out.box 0 rfl).cell 1
  have d2 : W2.cell? ⟨W.heap.size, 2, none⟩ = some (.int .i64 y) := by rw [← HES.out.2]; exact (HS2.out.box 0 rfl).cell 2
  have d3 : W2.cell? ⟨W.heap.size, 3, none⟩ = some (.int .i64 c.blocks) := (HS2.out.box 0 rfl).cell 3
  have d4 : W2.cell? ⟨W.heap.size, 4, none⟩ = some (.int .i64 c.logs) := (HS2.out.box 0 rfl).cell 4
  have d5 : W2.cell? ⟨W.heap.size, 5, none⟩ = some (.int .i64 c.backs) := (HS2.out.box 0 rfl).cell 5
  have d6 : W2.cell? ⟨W.heap.size, 6, none⟩ = some (.int .i64 c.nest) := (HS2.out.box 0 rfl).cell 6
  have d7 : W2.cell? ⟨W.heap.size, 7, none⟩ = some (.int .i64 c.tries) := (HS2.out.box 0 rfl).cell 7
  have HS3 : Hid (Sep NoF w0 W2 L) := Lib.hid (HS2.out.drop 0 (Nat.succ_pos _))
  have d0_0 : (W2.alloc (.cells (lnRow n fun _ => Ln.nil) LT)).drew.cell? ⟨W.heap.size, 0, none⟩ = some (.int .i64 c.cores) := ((Upd.alloc NoF W2 _).trans (Upd.drew NoF _) (fun _ _ h => h)).cell d0 (fun h => h)
  have d0_1 : (W2.alloc (.cells (lnRow n fun _ => Ln.nil) LT)).drew.cell? ⟨W.heap.size, 1, none⟩ = some (.int .i64 s) := ((Upd.alloc NoF W2 _).trans (Upd.drew NoF _) (fun _ _ h => h)).cell d1 (fun h => h)
  have d0_2 : (W2.alloc (.cells (lnRow n fun _ => Ln.nil) LT)).drew.cell? ⟨W.heap.size, 2, none⟩ = some (.int .i64 y) := ((Upd.alloc NoF W2 _).trans (Upd.drew NoF _) (fun _ _ h => h)).cell d2 (fun h => h)
  have d0_3 : (W2.alloc (.cells (lnRow n fun _ => Ln.nil) LT)).drew.cell? ⟨W.heap.size, 3, none⟩ = some (.int .i64 c.blocks) := ((Upd.alloc NoF W2 _).trans (Upd.drew NoF _) (fun _ _ h => h)).cell d3 (fun h => h)
  have d0_4 : (W2.alloc (.cells (lnRow n fun _ => Ln.nil) LT)).drew.cell? ⟨W.heap.size, 4, none⟩ = some (.int .i64 c.logs) := ((Upd.alloc NoF W2 _).trans (Upd.drew NoF _) (fun _ _ h => h)).cell d4 (fun h => h)
  have d0_5 : (W2.alloc (.cells (lnRow n fun _ => Ln.nil) LT)).drew.cell? ⟨W.heap.size, 5, none⟩ = some (.int .i64 c.backs) := ((Upd.alloc NoF W2 _).trans (Upd.drew NoF _) (fun _ _ h => h)).cell d5 (fun h => h)
  have d0_6 : (W2.alloc (.cells (lnRow n fun _ => Ln.nil) LT)).drew.cell? ⟨W.heap.size, 6, none⟩ = some (.int .i64 c.nest) := ((Upd.alloc NoF W2 _).trans (Upd.drew NoF _) (fun _ _ h => h)).cell d6 (fun h => h)
  have d0_7 : (W2.alloc (.cells (lnRow n fun _ => Ln.nil) LT)).drew.cell? ⟨W.heap.size, 7, none⟩ = some (.int .i64 c.tries) := ((Upd.alloc NoF W2 _).trans (Upd.drew NoF _) (fun _ _ h => h)).cell d7 (fun h => h)
  have d1_0 : (W2.alloc (.cells (rowU s fun _ => 0) UT)).drew.cell? ⟨W.heap.size, 0, none⟩ = some (.int .i64 c.cores) := ((Upd.alloc NoF W2 _).trans (Upd.drew NoF _) (fun _ _ h => h)).cell d0 (fun h => h)
  have d1_1 : (W2.alloc (.cells (rowU s fun _ => 0) UT)).drew.cell? ⟨W.heap.size, 1, none⟩ = some (.int .i64 s) := ((Upd.alloc NoF W2 _).trans (Upd.drew NoF _) (fun _ _ h => h)).cell d1 (fun h => h)
  have d1_2 : (W2.alloc (.cells (rowU s fun _ => 0) UT)).drew.cell? ⟨W.heap.size, 2, none⟩ = some (.int .i64 y) := ((Upd.alloc NoF W2 _).trans (Upd.drew NoF _) (fun _ _ h => h)).cell d2 (fun h => h)
  have d1_3 : (W2.alloc (.cells (rowU s fun _ => 0) UT)).drew.cell? ⟨W.heap.size, 3, none⟩ = some (.int .i64 c.blocks) := ((Upd.alloc NoF W2 _).trans (Upd.drew NoF _) (fun _ _ h => h)).cell d3 (fun h => h)
  have d1_4 : (W2.alloc (.cells (rowU s fun _ => 0) UT)).drew.cell? ⟨W.heap.size, 4, none⟩ = some (.int .i64 c.logs) := ((Upd.alloc NoF W2 _).trans (Upd.drew NoF _) (fun _ _ h => h)).cell d4 (fun h => h)
  have d1_5 : (W2.alloc (.cells (rowU s fun _ => 0) UT)).drew.cell? ⟨W.heap.size, 5, none⟩ = some (.int .i64 c.backs) := ((Upd.alloc NoF W2 _).trans (Upd.drew NoF _) (fun _ _ h => h)).cell d5 (fun h => h)
  have d1_6 : (W2.alloc (.cells (rowU s fun _ => 0) UT)).drew.cell? ⟨W.heap.size, 6, none⟩ = some (.int .i64 c.nest) := ((Upd.alloc NoF W2 _).trans (Upd.drew NoF _) (fun _ _ h => h)).cell d6 (fun h => h)
  have d1_7 : (W2.alloc (.cells (rowU s fun _ => 0) UT)).drew.cell? ⟨W.heap.size, 7, none⟩ = some (.int .i64 c.tries) := ((Upd.alloc NoF W2 _).trans (Upd.drew NoF _) (fun _ _ h => h)).cell d7 (fun h => h)
  have d2_0 : ((W2.alloc (.cells (lnRow n fun _ => Ln.nil) LT)).alloc (.cells (rowU s fun _ => 0) UT)).drew.cell? ⟨W.heap.size, 0, none⟩ = some (.int .i64 c.cores) := (((Upd.alloc NoF W2 _).trans (Upd.alloc NoF _ _) (fun _ _ h => h)).trans (Upd.drew NoF _) (fun _ _ h => h)).cell d0 (fun h => h)
  have d2_1 : ((W2.alloc (.cells (lnRow n fun _ => Ln.nil) LT)).alloc (.cells (rowU s fun _ => 0) UT)).drew.cell? ⟨W.heap.size, 1, none⟩ = some (.int .i64 s) := (((Upd.alloc NoF W2 _).trans (Upd.alloc NoF _ _) (fun _ _ h => h)).trans (Upd.drew NoF _) (fun _ _ h => h)).cell d1 (fun h => h)
  have d2_2 : ((W2.alloc (.cells (lnRow n fun _ => Ln.nil) LT)).alloc (.cells (rowU s fun _ => 0) UT)).drew.cell? ⟨W.heap.size, 2, none⟩ = some (.int .i64 y) := (((Upd.alloc NoF W2 _).trans (Upd.alloc NoF _ _) (fun _ _ h => h)).trans (Upd.drew NoF _) (fun _ _ h => h)).cell d2 (fun h => h)
  have d2_3 : ((W2.alloc (.cells (lnRow n fun _ => Ln.nil) LT)).alloc (.cells (rowU s fun _ => 0) UT)).drew.cell? ⟨W.heap.size, 3, none⟩ = some (.int .i64 c.blocks) := (((Upd.alloc NoF W2 _).trans (Upd.alloc NoF _ _) (fun _ _ h => h)).trans (Upd.drew NoF _) (fun _ _ h => h)).cell d3 (fun h => h)
  have d2_4 : ((W2.alloc (.cells (lnRow n fun _ => Ln.nil) LT)).alloc (.cells (rowU s fun _ => 0) UT)).drew.cell? ⟨W.heap.size, 4, none⟩ = some (.int .i64 c.logs) := (((Upd.alloc NoF W2 _).trans (Upd.alloc NoF _ _) (fun _ _ h => h)).trans (Upd.drew NoF _) (fun _ _ h => h)).cell d4 (fun h => h)
  have d2_5 : ((W2.alloc (.cells (lnRow n fun _ => Ln.nil) LT)).alloc (.cells (rowU s fun _ => 0) UT)).drew.cell? ⟨W.heap.size, 5, none⟩ = some (.int .i64 c.backs) := (((Upd.alloc NoF W2 _).trans (Upd.alloc NoF _ _) (fun _ _ h => h)).trans (Upd.drew NoF _) (fun _ _ h => h)).cell d5 (fun h => h)
  have d2_6 : ((W2.alloc (.cells (lnRow n fun _ => Ln.nil) LT)).alloc (.cells (rowU s fun _ => 0) UT)).drew.cell? ⟨W.heap.size, 6, none⟩ = some (.int .i64 c.nest) := (((Upd.alloc NoF W2 _).trans (Upd.alloc NoF _ _) (fun _ _ h => h)).trans (Upd.drew NoF _) (fun _ _ h => h)).cell d6 (fun h => h)
  have d2_7 : ((W2.alloc (.cells (lnRow n fun _ => Ln.nil) LT)).alloc (.cells (rowU s fun _ => 0) UT)).drew.cell? ⟨W.heap.size, 7, none⟩ = some (.int .i64 c.tries) := (((Upd.alloc NoF W2 _).trans (Upd.alloc NoF _ _) (fun _ _ h => h)).trans (Upd.drew NoF _) (fun _ _ h => h)).cell d7 (fun h => h)
  have d3_0 : ((W2.alloc (.cells (rowU s fun _ => 0) UT)).alloc (.cells (lnRow n fun _ => Ln.nil) LT)).drew.cell? ⟨W.heap.size, 0, none⟩ = some (.int .i64 c.cores) := (((Upd.alloc NoF W2 _).trans (Upd.alloc NoF _ _) (fun _ _ h => h)).trans (Upd.drew NoF _) (fun _ _ h => h)).cell d0 (fun h => h)
  have d3_1 : ((W2.alloc (.cells (rowU s fun _ => 0) UT)).alloc (.cells (lnRow n fun _ => Ln.nil) LT)).drew.cell? ⟨W.heap.size, 1, none⟩ = some (.int .i64 s) := (((Upd.alloc NoF W2 _).trans (Upd.alloc NoF _ _) (fun _ _ h => h)).trans (Upd.drew NoF _) (fun _ _ h => h)).cell d1 (fun h => h)
  have d3_2 : ((W2.alloc (.cells (rowU s fun _ => 0) UT)).alloc (.cells (lnRow n fun _ => Ln.nil) LT)).drew.cell? ⟨W.heap.size, 2, none⟩ = some (.int .i64 y) := (((Upd.alloc NoF W2 _).trans (Upd.alloc NoF _ _) (fun _ _ h => h)).trans (Upd.drew NoF _) (fun _ _ h => h)).cell d2 (fun h => h)
  have d3_3 : ((W2.alloc (.cells (rowU s fun _ => 0) UT)).alloc (.cells (lnRow n fun _ => Ln.nil) LT)).drew.cell? ⟨W.heap.size, 3, none⟩ = some (.int .i64 c.blocks) := (((Upd.alloc NoF W2 _).trans (Upd.alloc NoF _ _) (fun _ _ h => h)).trans (Upd.drew NoF _) (fun _ _ h => h)).cell d3 (fun h => h)
  have d3_4 : ((W2.alloc (.cells (rowU s fun _ => 0) UT)).alloc (.cells (lnRow n fun _ => Ln.nil) LT)).drew.cell? ⟨W.heap.size, 4, none⟩ = some (.int .i64 c.logs) := (((Upd.alloc NoF W2 _).trans (Upd.alloc NoF _ _) (fun _ _ h => h)).trans (Upd.drew NoF _) (fun _ _ h => h)).cell d4 (fun h => h)
  have d3_5 : ((W2.alloc (.cells (rowU s fun _ => 0) UT)).alloc (.cells (lnRow n fun _ => Ln.nil) LT)).drew.cell? ⟨W.heap.size, 5, none⟩ = some (.int .i64 c.backs) := (((Upd.alloc NoF W2 _).trans (Upd.alloc NoF _ _) (fun _ _ h => h)).trans (Upd.drew NoF _) (fun _ _ h => h)).cell d5 (fun h => h)
  have d3_6 : ((W2.alloc (.cells (rowU s fun _ => 0) UT)).alloc (.cells (lnRow n fun _ => Ln.nil) LT)).drew.cell? ⟨W.heap.size, 6, none⟩ = some (.int .i64 c.nest) := (((Upd.alloc NoF W2 _).trans (Upd.alloc NoF _ _) (fun _ _ h => h)).trans (Upd.drew NoF _) (fun _ _ h => h)).cell d6 (fun h => h)
  have d3_7 : ((W2.alloc (.cells (rowU s fun _ => 0) UT)).alloc (.cells (lnRow n fun _ => Ln.nil) LT)).drew.cell? ⟨W.heap.size, 7, none⟩ = some (.int .i64 c.tries) := (((Upd.alloc NoF W2 _).trans (Upd.alloc NoF _ _) (fun _ _ h => h)).trans (Upd.drew NoF _) (fun _ _ h => h)).cell d7 (fun h => h)
  have d4_0 : W2.drew.cell? ⟨W.heap.size, 0, none⟩ = some (.int .i64 c.cores) := (Upd.drew NoF W2).cell d0 (fun h => h)
  have d4_1 : W2.drew.cell? ⟨W.heap.size, 1, none⟩ = some (.int .i64 s) := (Upd.drew NoF W2).cell d1 (fun h => h)
  have d4_2 : W2.drew.cell? ⟨W.heap.size, 2, none⟩ = some (.int .i64 y) := (Upd.drew NoF W2).cell d2 (fun h => h)
  have d4_3 : W2.drew.cell? ⟨W.heap.size, 3, none⟩ = some (.int .i64 c.blocks) := (Upd.drew NoF W2).cell d3 (fun h => h)
  have d4_4 : W2.drew.cell? ⟨W.heap.size, 4, none⟩ = some (.int .i64 c.logs) := (Upd.drew NoF W2).cell d4 (fun h => h)
  have d4_5 : W2.drew.cell? ⟨W.heap.size, 5, none⟩ = some (.int .i64 c.backs) := (Upd.drew NoF W2).cell d5 (fun h => h)
  have d4_6 : W2.drew.cell? ⟨W.heap.size, 6, none⟩ = some (.int .i64 c.nest) := (Upd.drew NoF W2).cell d6 (fun h => h)
  have d4_7 : W2.drew.cell? ⟨W.heap.size, 7, none⟩ = some (.int .i64 c.tries) := (Upd.drew NoF W2).cell d7 (fun h => h)
  have HN := Lib.hid hn
  have hcl : ∀ kb gl gm, (Kp.mk kb gl gm n s #[] #[] s y).cells c = #[.int .i64 c.cores, .int .i64 s, .int .i64 y, .int .i64 c.blocks, .int .i64 c.logs, .int .i64 c.backs, .int .i64 c.nest, .int .i64 c.tries, .slice (some ⟨gl, 0, none⟩) n n, .slice (some ⟨gm, 0, none⟩) s s] := fun kb gl gm => by
    unfold Kp.cells; rw [HES.out.1, HES.out.2]; dsimp only; rw [hn]
  have HCL := Lib.hid hcl
  have fin : ∀ (kb gl gm : Nat) (V : World), Upd NoF W2 V → Sep NoF w0 V (boxO kb ((Kp.mk kb gl gm n s #[] #[] s y).cells c) RT :: boxO gl (lnRow n (fun _ => Ln.nil)) LT :: boxO gm (rowU s (fun _ => 0)) UT :: L) →
      ∃ p : Kp, (Ending.returned (.tuple #[ptr kb, .int .i64 0])) = .returned (.tuple #[ptr p.kb, .int .i64 0]) ∧ CIs RT w0 V p c (fun _ => Ln.nil) (fun _ => 0) L ∧ Upd NoF W V := fun kb gl gm V hu hs => by
    refine ⟨Kp.mk kb gl gm n s #[] #[] s y, rfl, ⟨?_, HFT.out kb gl gm, ⟨fun _ => Ln.nil_ok, fun _ => by omega⟩⟩, HU2.out.trans hu (fun _ _ h => h)⟩
    dsimp only
    rw [hn, Array.append_empty, Array.append_empty]
    exact hs
  have HFIN := Lib.hid fin
  clear hu HM HS HS2 HW1 HU1 hn hcl fin
  go_wp2_with fail
  go_region
  · go_wp2
    go_ret2
    refine HFIN.out _ W2.heap.size (W2.heap.size + 1) _ ((((Upd.alloc NoF _ _).trans (Upd.alloc NoF _ _) (fun _ _ h => h)).trans (Upd.alloc NoF _ _) (fun _ _ h => h)).trans (Upd.drew NoF _) (fun _ _ h => h)) ?_
    have a1 := ((HS3.out.alloc (lnRow n (fun _ => Ln.nil)) LT).alloc (rowU s (fun _ => 0)) UT).alloc ((Kp.mk 0 W2.heap.size (W2.heap.size + 1) n s #[] #[] s y).cells c) RT
    rw [World.size_alloc, World.size_alloc] at a1
    have a2 := (swap23 a1).upd0 (Upd.drew NoF _)
    rw [HCL.out] at a2 ⊢
    exact a2
  · go_wp2
    go_ret2
    refine HFIN.out _ (W2.heap.size + 1) W2.heap.size _ ((((Upd.alloc NoF _ _).trans (Upd.alloc NoF _ _) (fun _ _ h => h)).trans (Upd.alloc NoF _ _) (fun _ _ h => h)).trans (Upd.drew NoF _) (fun _ _ h => h)) ?_
    have a1 := ((HS3.out.alloc (rowU s (fun _ => 0)) UT).alloc (lnRow n (fun _ => Ln.nil)) LT).alloc ((Kp.mk 0 (W2.heap.size + 1) W2.heap.size n s #[] #[] s y).cells c) RT
    rw [World.size_alloc, World.size_alloc] at a1
    have a2 := a1.upd0 (Upd.drew NoF _)
    rw [HCL.out] at a2 ⊢
    exact a2
set_option maxRecDepth 100000 in
set_option maxHeartbeats 1000000 in
theorem rfind_is (h : CIs T w0 W p c A M L) (hg : Good p A) (hu : Uniq p A) (b : Int) : Calls Try.prog 46 #[ptr p.kb, .int .i64 b] W fun e W' =>
    e = .returned (.tuple #[.agg (p.fnd A b).cells, .bool (p.place A b).isSome]) ∧ Upd NoF W W' := by
  have hu1 := Upd.alloc NoF W (.cells TLin.Z LT)
  have h1 := h.upd0 hu1
  have HPL := Lib.hid (rplace_is h1 hg hu b)
  have hub : ∀ (Y : World) (vs : List Value), (W.alloc (.cells TLin.Z LT)).setCells W.heap.size 0 vs = Y → Upd NoF W Y := fun Y vs e => by
    rw [← e]; exact hu1.trans (upd_setCells vs 0 _) (fun k hk e => by have e : k = W.heap.size := e; omega)
  have HB := Lib.hid hub
  have hQ := Blk.new W TLin.Z LT
  cases hp : p.place A b with
  | none =>
    rw [plI_none hp] at HPL
    have e1 : p.fnd A b = Ln.nil := by unfold Kp.fnd; rw [hp]
    rw [e1, Ln.nil_cells]
    obtain ⟨s1, q1⟩ := TLin.st_at TLin.isZ TLin.isZ hQ
    rw [zlit] at s1
    have HV := Lib.hid (TLin.ldV_at TLin.isZ q1.whole)
    generalize hX : (W.alloc (.cells TLin.Z LT)).setCells W.heap.size 0 TLin.Z.toList = X at *
    have HF := Lib.hid (HB.out _ _ hX)
    clear hX q1 hQ hub hu1 h h1 hg hu hp e1 HB
    go_enter Try.func46, Try.ntmps46
    go_wp2_with fail
    refine HPL.out.mono ?_
    rintro e W2 ⟨rfl, rfl⟩
    go_wp2
    have hv := HV.out
    refine bodyPost_ret (v := .tuple #[.agg TLin.Z, .bool false]) ?_ ?_ ?_
    · simp [results, Try.f46, asAddr, hv]
    · rfl
    exact ⟨rfl, HF.out⟩
  | some i =>
    rw [plI_some hp] at HPL
    obtain ⟨hi, -⟩ := place_lt h.fits hp
    have e1 : p.fnd A b = A i := by unfold Kp.fnd; rw [hp]
    rw [e1]
    have hx := h.ok.okA i
    have hxN := Ln.Ok.isN hx.isU
    have l1 := TLin.ld_at hxN (lnRow_range h1.bl hx.isU hi)
    have k8 : (W.alloc (.cells TLin.Z LT)).cell? ⟨p.kb, 8, none⟩ = some (.slice (some ⟨p.gl, 0, none⟩) (p.s * p.y) p.cl) := h1.bk.cell 8
    have hi0 : decide ((i : Int) < 0) = false := by simp
    have hii : (i : Int) < ((p.s * p.y : Nat) : Int) := by omega
    obtain ⟨s1, q1⟩ := TLin.st_at TLin.isZ hxN hQ
    have HV := Lib.hid (TLin.ldV_at hxN q1.whole)
    generalize A i = x at *
    generalize hX : (W.alloc (.cells TLin.Z LT)).setCells W.heap.size 0 x.cells.toList = X at *
    have HF := Lib.hid (HB.out _ _ hX)
    clear hX q1 hQ hub hu1 h h1 hg hu hp e1 HB hxN hx
    go_enter Try.func46, Try.ntmps46
    go_wp2_with fail
    refine HPL.out.mono ?_
    rintro e W2 ⟨rfl, rfl⟩
    go_wp2
    have hv := HV.out
    refine bodyPost_ret (v := .tuple #[.agg x.cells, .bool true]) ?_ ?_ ?_
    · simp [results, Try.f46, asAddr, hv]
    · rfl
    exact ⟨rfl, HF.out⟩
end
end Go.Proofs.Ytaneobggbplkbaa.KA
