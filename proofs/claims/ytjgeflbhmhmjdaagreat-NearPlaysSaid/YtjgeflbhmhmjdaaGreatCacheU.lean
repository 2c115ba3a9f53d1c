/- The contract of cache.use. -/
import Derived.Test.YtjgeflbhmhmjdaaGreatCacheC
set_option linter.unusedSimpArgs false
set_option linter.unusedVariables false
namespace Go.Proofs.YtjgeflbhmhmjdaaGreat.KA
open Go.RowKit
open BU (IsU words)
open PL (Cfg CC CV May)
attribute [local go_sem] Oper.semAt_some
section
variable {w0 W W' : World} {p : Kp} {T : TypeId} {c : Cfg} {A : Nat → Ln} {M : Nat → Int} {L : List Obj}
structure CIs (T : TypeId) (w0 W : World) (p : Kp) (c : Cfg) (A : Nat → Ln) (M : Nat → Int) (L : List Obj) : Prop where
  sep : Sep NoF w0 W (boxO p.kb (p.cells c) T :: boxO p.gl (lnRow (p.s * p.y) A ++ p.tl) LT :: boxO p.gm (rowU p.s M ++ p.tm) UT :: L)
  fits : p.Fits c
  ok : OkA A M
theorem CIs.bk (h : CIs T w0 W p c A M L) : Blk W p.kb (p.cells c) T := h.sep.box 0 rfl
theorem CIs.bl (h : CIs T w0 W p c A M L) : Blk W p.gl (lnRow (p.s * p.y) A ++ p.tl) LT := h.sep.box 1 rfl
theorem CIs.bm (h : CIs T w0 W p c A M L) : Blk W p.gm (rowU p.s M ++ p.tm) UT := h.sep.box 2 rfl
theorem CIs.upd0 (h : CIs T w0 W p c A M L) (hu : Upd NoF W W') : CIs T w0 W' p c A M L := ⟨h.sep.upd0 hu, h.fits, h.ok⟩
theorem CIs.line (h : CIs T w0 W p c A M L) {i : Nat} (hi : i < p.s * p.y) {x : Ln} (hx : x.Ok) : CIs T w0 (W.setCells p.gl (i * 18) x.cells.toList) p c (updL A i x) M L := by
  refine ⟨?_, h.fits, h.ok.line i hx⟩
  have := Sep.setM h.sep 1 rfl (i * 18) x.cells.toList
  rw [lnX_set (fun j => (h.ok.okA j).isU) hx.isU hi] at this
  exact this
theorem CIs.cell (h : CIs T w0 W p c A M L) {i r : Nat} (hi : i < p.s * p.y) {x : Ln} (hx : x.Ok) {v : Value} (hr : r < 18) (e : x.cells = (A i).cells.setIfInBounds r v) : CIs T w0 (W.setCell ⟨p.gl, i * 18 + r, none⟩ v) p c (updL A i x) M L := by
  refine ⟨?_, h.fits, h.ok.line i hx⟩
  have := h.sep.set 1 rfl (i * 18 + r) v
  rw [lnX_setc (fun j => (h.ok.okA j).isU) hx.isU hi hr e] at this
  exact this
theorem CIs.mem (h : CIs T w0 W p c A M L) {q : Nat} (hq : q < p.s) {z : Int} (hz : 0 ≤ z ∧ z ≤ 255) : CIs T w0 (W.setCell ⟨p.gm, q, none⟩ (.int .u8 z)) p c A (updM M q z) L := by
  refine ⟨?_, h.fits, h.ok.mem q hz⟩
  have := h.sep.set 2 rfl q (.int .u8 z)
  rw [rowX_set hq] at this
  exact this
set_option maxRecDepth 100000 in
set_option maxHeartbeats 4000000 in
theorem kuse_any (hb : Blk W p.kb (p.cells c) T) (hm : Blk W p.gm (rowU p.s M ++ p.tm) UT) (hf : p.Fits c) (hM : ∀ i, 0 ≤ M i ∧ M i ≤ 255) (q : Nat) (hq : q < p.s) (j : Nat) (hj : j < p.y) : Calls Tryz.prog 85 #[ptr p.kb, .int .i64 q, .int .i64 j] W fun e W' =>
    e = .returned (.tuple #[]) ∧ W' = W.drew.setCell ⟨p.gm, q, none⟩ (.int .u8 (useV (M q) p.y j)) := by
  have hsm := Kp.small hf
  have hy := hf.sy.2
  have HC := Lib.hid (fun w => use_any (M q) (hM q) p.y j (by omega) (by omega) (by omega) w)
  have k2 : W.drew.cell? ⟨p.kb, 2, none⟩ = some (.int .i64 p.y) := by rw [← hf.ew]; exact hb.cell 2
  have k9 : W.drew.cell? ⟨p.kb, 9, none⟩ = some (.slice (some ⟨p.gm, 0, none⟩) p.s p.cm) := hb.cell 9
  have m1 : W.drew.cell? ⟨p.gm, q, none⟩ = some (.int .u8 (M q)) := (hm.cell q).trans (rowX_get hq)
  have m2 : W.drew.frozen? ⟨p.gm, q, none⟩ = false := hm.frozen q
  have hq1 : (q : Int) < (p.s : Int) := by omega
  generalize useV (M q) p.y j = z at *
  generalize M q = x at *
  clear hb hm hf hM hsm hy hj
  go_enter Tryz.func85, Tryz.ntmps85
  go_region_with (refine (HC.out _).mono ?_; rintro e W2 ⟨rfl, rfl⟩)
  all_goals
    go_wp2
    go_end0
    exact ⟨rfl, rfl⟩
theorem use_is (h : CIs T w0 W p c A M L) (q : Nat) (hq : q < p.s) (j : Nat) (hj : j < p.y) : Calls Tryz.prog 85 #[ptr p.kb, .int .i64 q, .int .i64 j] W fun e W' =>
    e = .returned (.tuple #[]) ∧ CIs T w0 W' p c A (updM M q (useV (M q) p.y j)) L ∧ KeepsRec W W' := by
  refine (kuse_any h.bk h.bm h.fits h.ok.okM q hq j hj).mono ?_
  rintro e W' ⟨he, rfl⟩
  have hsm := Kp.small h.fits
  exact ⟨he, (h.upd0 (Upd.drew NoF W)).mem hq (useV_rng (h.ok.okM q) _ _ (by omega) (by omega)), ((Upd.drew (fun _ => True) W).trans (Upd.setCell (F := fun _ => True) _ (p := ⟨p.gm, q, none⟩) trivial _) (fun _ _ h => h)).others⟩
end
end Go.Proofs.YtjgeflbhmhmjdaaGreat.KA
