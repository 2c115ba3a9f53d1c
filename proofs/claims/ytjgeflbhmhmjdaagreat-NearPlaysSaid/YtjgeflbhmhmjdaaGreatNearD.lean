/- A core's side: what is done with a note that comes. -/
import Derived.Test.YtjgeflbhmhmjdaaGreatNoteD
import Derived.Deep.QuietTactic
set_option linter.unusedSimpArgs false
set_option linter.unusedVariables false
namespace Go.Proofs.YtjgeflbhmhmjdaaGreat.NR
open Go.RowKit
open BU (IsU words)
open PL (Cfg CC CV May)
open KA (Kp CIs OkA LT UT KT)
open DL (DS CD stampE)
attribute [local go_sem] Oper.semAt_some
attribute [local go_sem ↓] TNot.ld_eq TNot.st_eq TNot.al_eq TNot.bx_eq TBlk.ld_eq TBlk.st_eq TBlk.al_eq TBlk.bx_eq TLin.ld_eq TLin.st_eq TLin.al_eq TLin.bx_eq bdN_eq bsN_eq
attribute [local go_sem] TNot.al_run TNot.bx_run TBlk.al_run TBlk.bx_run TLin.al_run TLin.bx_run

section
variable {w0 W W' V : World} {a : Ad} {S : Ns} {L : List Obj}
theorem NIs.alloc (h : NIs w0 W a S L) (cs : Array Value) (T : TypeId) : NIs w0 (W.alloc (.cells cs T)) a S (boxO W.heap.size cs T :: L) := ⟨(h.sep.alloc cs T).sink 8, h.ok⟩
theorem NIs.lb {g : Nat} {cs : Array Value} {T : TypeId} (h : NIs w0 W a S (boxO g cs T :: L)) : Blk W g cs T := h.sep.box 8 rfl
theorem NIs.lb2 {Φ : Obj} {g : Nat} {cs : Array Value} {T : TypeId} (h : NIs w0 W a S (Φ :: boxO g cs T :: L)) : Blk W g cs T := h.sep.box 9 rfl
theorem NIs.pop {Φ : Obj} (h : NIs w0 W a S (Φ :: L)) : NIs w0 W a S L := ⟨h.sep.drop 8 (by simp), h.ok⟩
theorem NIs.setw (h : NIs w0 W a S L) (b : Bool) : NIs w0 (W.setCell ⟨a.nb, 37, none⟩ (.bool b)) a { S with wa := b } L := by
  refine ⟨?_, ⟨h.ok.fits, h.ok.okA, h.ok.inv, h.ok.allU, h.ok.dep, h.ok.ca, h.ok.st, h.ok.q⟩⟩
  have h1 := h.sep.set 3 rfl 37 (Value.bool b)
  have e : (S.cells a).setIfInBounds 37 (Value.bool b) = Ns.cells { S with wa := b } a := by
    have hq := (Nt.Ok.isN h.ok.q.isU).1
    apply Array.ext_getElem?
    intro j
    unfold Ns.cells
    have e0 : Ns.head { S with wa := b } a = S.head a := rfl
    rw [e0, Array.getElem?_setIfInBounds]
    have hsz : (S.head a ++ (S.q.cells ++ #[Value.bool S.wa])).size = 38 := by simp [head_size, hq]
    by_cases hj : 37 = j
    · subst hj
      rw [if_pos rfl, if_pos (by rw [hsz]; decide), Array.getElem?_append_right (by rw [head_size]; decide), head_size, Array.getElem?_append_right (by rw [hq]; decide), hq]
      rfl
    · rw [if_neg hj]
      by_cases h1 : j < 13
      · rw [Array.getElem?_append_left (by rw [head_size]; exact h1), Array.getElem?_append_left (by rw [head_size]; exact h1)]
      · rw [Array.getElem?_append_right (xs := S.head a) (ys := S.q.cells ++ #[Value.bool S.wa]) (by rw [head_size]; omega), Array.getElem?_append_right (xs := S.head a) (ys := S.q.cells ++ #[Value.bool b]) (by rw [head_size]; omega), head_size]
        by_cases h2 : j < 37
        · rw [Array.getElem?_append_left (by omega), Array.getElem?_append_left (by omega)]
        · rw [Array.getElem?_eq_none (by simp [hq]; omega), Array.getElem?_eq_none (by simp [hq]; omega)]
  rw [e] at h1
  exact h1
def fitsB (S : Ns) (n : Nt) : Bool := MayN n && (n.too == S.core) && decide (n.blk < S.data)
set_option maxRecDepth 100000 in
set_option maxHeartbeats 1000000 in
theorem fits_is (h : NIs w0 W a S L) (n : Nt) (hn : n.Ok) : Calls Tryz.prog 54 #[ptr a.nb, .agg n.cells] W fun e W' => e = .returned (.bool (fitsB S n)) ∧ Upd NoF W W' := by
  have hnN := Nt.Ok.isN hn.isU
  have h1 := h.alloc n.cells NT
  have hu1 := Upd.alloc NoF W (.cells n.cells NT)
  obtain ⟨V, hV⟩ : ∃ V, W.alloc (.cells n.cells NT) = V := ⟨_, rfl⟩
  rw [hV] at h1 hu1
  have HV := Lib.hid hV; have HH := Lib.hid h1; have HU1 := Lib.hid hu1; have HN := Lib.hid hn; have HNN := Lib.hid hnN
  have HF := Lib.hid (fun X (hX : Upd NoF V X) => (show (TNot.ld (.pointer (some ⟨W.heap.size, 0, none⟩))).run Tryz.prog X = .ok (.agg n.cells) X ∧ X.cell? ⟨W.heap.size, 2, none⟩ = some (.int .i64 n.too) ∧ X.cell? ⟨W.heap.size, 3, none⟩ = some (.int .i64 n.blk) ∧ X.cell? ⟨a.nb, 8, none⟩ = some (.int .i64 S.core) ∧
      X.cell? ⟨a.nb, 0, none⟩ = some (.int .i64 S.c.cores) ∧ X.cell? ⟨a.nb, 1, none⟩ = some (.int .i64 S.c.sets) ∧ X.cell? ⟨a.nb, 2, none⟩ = some (.int .i64 S.c.ways) ∧ X.cell? ⟨a.nb, 3, none⟩ = some (.int .i64 S.c.blocks) ∧ X.cell? ⟨a.nb, 4, none⟩ = some (.int .i64 S.c.logs) ∧ X.cell? ⟨a.nb, 5, none⟩ = some (.int .i64 S.c.backs) ∧ X.cell? ⟨a.nb, 6, none⟩ = some (.int .i64 S.c.nest) ∧ X.cell? ⟨a.nb, 7, none⟩ = some (.int .i64 S.c.tries) from
    have hx := HH.out.upd0 hX
    ⟨TNot.ld_at hnN hx.lb.whole, (hx.lb.cell 2).trans n.get2, (hx.lb.cell 3).trans n.get3, hx.hd (by decide), hx.hd (by decide), hx.hd (by decide), hx.hd (by decide), hx.hd (by decide), hx.hd (by decide), hx.hd (by decide), hx.hd (by decide), hx.hd (by decide)⟩))
  have HM := Lib.hid (fun w => NC.May_any n hn w)
  have HD := Lib.hid (fun w => PL.pData_yes S.c h.ok.may w)
  have hdata : S.c.blocks - S.c.cores * S.c.logs = S.data := rfl
  rw [hdata] at HD
  have HDR := Lib.hid (Upd.drew NoF V)
  have hfit : fitsB S n = (MayN n && (n.too == S.core) && decide (n.blk < S.data)) := rfl
  rw [hfit]
  clear h h1 hu1 hn hnN hV hdata hfit
  generalize S.core = core at *
  generalize S.data = data at *
  cases hm : MayN n
  · rw [hm] at HM
    simp only [Bool.false_and]
    clear hm
    go_enter Tryz.func54, Tryz.ntmps54
    go_upto_region 1 with fail
    rw [HV.out]
    refine wp_region_held_drew (S := (fun X => Upd NoF V X)) (by kernel_rfl) (HDR.out) (fun hHeld => ?_)
    refine rgn 0 (v := ?vq1) hHeld ?yq1 ?_
    case yq1 => (intro w hSw; obtain ⟨k0, k1, k2, k3, k4, k5, k6, k7, k8, k9, k10, k11⟩ := HF.out _ hSw; go_simp; try with_reducible rfl)
    simp only [Act.put, rns]
    refine reg_step (i := 1) (by kernel_rfl) rfl (by kernel_rfl) (fun K hK => ?_)
    go_simp
    refine (HM.out _).mono ?_
    rintro e W2 ⟨rfl, hu⟩
    have HS : (fun X => Upd NoF V X) W2 := hHeld.trans hu (fun _ _ h => h)
    clear hu
    go_wp2_with fail
    refine hK.out _ _ HS (fun hHeld2 => ?_)
    clear hK hHeld2 hHeld; have hHeld := HS; clear HS
    try simp only [Act.put, rns]
    refine rgn 2 (v := .bool false) hHeld ?yq2 ?_
    case yq2 => (intro w hSw; obtain ⟨k0, k1, k2, k3, k4, k5, k6, k7, k8, k9, k10, k11⟩ := HF.out _ hSw; go_simp; try with_reducible rfl)
    simp only [Act.put, rns]
    refine rgn 3 (v := .bool false) hHeld ?yq3 ?_
    case yq3 => (intro w hSw; obtain ⟨k0, k1, k2, k3, k4, k5, k6, k7, k8, k9, k10, k11⟩ := HF.out _ hSw; go_simp; try with_reducible rfl)
    simp only [Act.put, rns]
    refine reg_off (i := 4) rfl (by kernel_rfl) (by kernel_rfl) (by kernel_rfl) (fun _ _ _ h => h) (by kernel_rfl) hHeld ?_
    simp only [Act.put, rns]
    refine reg_off (i := 5) rfl (by kernel_rfl) (by kernel_rfl) (by kernel_rfl) (fun _ _ _ h => h) (by kernel_rfl) hHeld ?_
    simp only [Act.put, rns]
    refine reg_off (i := 6) rfl (by kernel_rfl) (by kernel_rfl) (by kernel_rfl) (fun _ _ _ h => h) (by kernel_rfl) hHeld ?_
    simp only [Act.put, rns]
    refine reg_off (i := 7) rfl (by kernel_rfl) (by kernel_rfl) (by kernel_rfl) (fun _ _ _ h => h) (by kernel_rfl) hHeld ?_
    simp only [Act.put, rns]
    refine reg_off (i := 8) rfl (by kernel_rfl) (by kernel_rfl) (by kernel_rfl) (fun _ _ _ h => h) (by kernel_rfl) hHeld ?_
    simp only [Act.put, rns]
    refine reg_off (i := 9) rfl (by kernel_rfl) (by kernel_rfl) (by kernel_rfl) (fun _ _ _ h => h) (by kernel_rfl) hHeld ?_
    simp only [Act.put, rns]
    refine reg_off (i := 10) rfl (by kernel_rfl) (by kernel_rfl) (by kernel_rfl) (fun _ _ _ h => h) (by kernel_rfl) hHeld ?_
    simp only [Act.put, rns]
    refine rgn 11 (v := .bool false) hHeld ?yq4 ?_
    case yq4 => (intro w hSw; obtain ⟨k0, k1, k2, k3, k4, k5, k6, k7, k8, k9, k10, k11⟩ := HF.out _ hSw; go_simp; try with_reducible rfl)
    simp only [Act.put, rns]
    refine rgn 12 (v := .bool false) hHeld ?yq5 ?_
    case yq5 => (intro w hSw; obtain ⟨k0, k1, k2, k3, k4, k5, k6, k7, k8, k9, k10, k11⟩ := HF.out _ hSw; go_simp; try with_reducible rfl)
    simp only [Act.put, rns]
    refine reg_off (i := 13) rfl (by kernel_rfl) (by kernel_rfl) (by kernel_rfl) (fun _ _ _ h => h) (by kernel_rfl) hHeld ?_
    simp only [Act.put, rns]
    refine reg_off (i := 14) rfl (by kernel_rfl) (by kernel_rfl) (by kernel_rfl) (fun _ _ _ h => h) (by kernel_rfl) hHeld ?_
    simp only [Act.put, rns]
    refine reg_off (i := 15) rfl (by kernel_rfl) (by kernel_rfl) (by kernel_rfl) (fun _ _ _ h => h) (by kernel_rfl) hHeld ?_
    simp only [Act.put, rns]
    refine reg_off (i := 16) rfl (by kernel_rfl) (by kernel_rfl) (by kernel_rfl) (fun _ _ _ h => h) (by kernel_rfl) hHeld ?_
    simp only [Act.put, rns]
    refine reg_off (i := 17) rfl (by kernel_rfl) (by kernel_rfl) (by kernel_rfl) (fun _ _ _ h => h) (by kernel_rfl) hHeld ?_
    simp only [Act.put, rns]
    refine reg_off (i := 18) rfl (by kernel_rfl) (by kernel_rfl) (by kernel_rfl) (fun _ _ _ h => h) (by kernel_rfl) hHeld ?_
    simp only [Act.put, rns]
    refine reg_off (i := 19) rfl (by kernel_rfl) (by kernel_rfl) (by kernel_rfl) (fun _ _ _ h => h) (by kernel_rfl) hHeld ?_
    simp only [Act.put, rns]
    refine reg_off (i := 20) rfl (by kernel_rfl) (by kernel_rfl) (by kernel_rfl) (fun _ _ _ h => h) (by kernel_rfl) hHeld ?_
    simp only [Act.put, rns]
    refine rgn 21 (v := .bool false) hHeld ?yq6 ?_
    case yq6 => (intro w hSw; obtain ⟨k0, k1, k2, k3, k4, k5, k6, k7, k8, k9, k10, k11⟩ := HF.out _ hSw; go_simp; try with_reducible rfl)
    simp only [Act.put, rns]
    refine rgn 22 (v := .bool false) hHeld ?yq7 ?_
    case yq7 => (intro w hSw; obtain ⟨k0, k1, k2, k3, k4, k5, k6, k7, k8, k9, k10, k11⟩ := HF.out _ hSw; go_simp; try with_reducible rfl)
    simp only [Act.put, rns]
    refine wpAnyH_done (by kernel_rfl) ?_ _
    go_wp2
    go_ret
    exact ⟨rfl, HU1.out.trans hHeld (fun _ _ h => h)⟩
  · rw [hm] at HM
    cases ht : (n.too == core)
    · simp only [Bool.true_and, Bool.false_and]
      clear hm
      go_enter Tryz.func54, Tryz.ntmps54
      go_upto_region 1 with fail
      rw [HV.out]
      refine wp_region_held_drew (S := (fun X => Upd NoF V X)) (by kernel_rfl) (HDR.out) (fun hHeld => ?_)
      refine rgn 0 (v := ?vq8) hHeld ?yq8 ?_
      case yq8 => (intro w hSw; obtain ⟨k0, k1, k2, k3, k4, k5, k6, k7, k8, k9, k10, k11⟩ := HF.out _ hSw; go_simp; try with_reducible rfl)
      simp only [Act.put, rns]
      refine reg_step (i := 1) (by kernel_rfl) rfl (by kernel_rfl) (fun K hK => ?_)
      go_simp
      refine (HM.out _).mono ?_
      rintro e W2 ⟨rfl, hu⟩
      have HS : (fun X => Upd NoF V X) W2 := hHeld.trans hu (fun _ _ h => h)
      clear hu
      go_wp2_with fail
      refine hK.out _ _ HS (fun hHeld2 => ?_)
      clear hK hHeld2 hHeld; have hHeld := HS; clear HS
      try simp only [Act.put, rns]
      refine rgn 2 (v := .bool true) hHeld ?yq9 ?_
      case yq9 => (intro w hSw; obtain ⟨k0, k1, k2, k3, k4, k5, k6, k7, k8, k9, k10, k11⟩ := HF.out _ hSw; go_simp; try with_reducible rfl)
      simp only [Act.put, rns]
      refine rgn 3 (v := .bool true) hHeld ?yq10 ?_
      case yq10 => (intro w hSw; obtain ⟨k0, k1, k2, k3, k4, k5, k6, k7, k8, k9, k10, k11⟩ := HF.out _ hSw; go_simp; try with_reducible rfl)
      simp only [Act.put, rns]
      refine rgn 4 (v := ?vq11) hHeld ?yq11 ?_
      case yq11 => (intro w hSw; obtain ⟨k0, k1, k2, k3, k4, k5, k6, k7, k8, k9, k10, k11⟩ := HF.out _ hSw; go_simp; try with_reducible rfl)
      simp only [Act.put, rns]
      refine rgn 5 (v := ?vq12) hHeld ?yq12 ?_
      case yq12 => (intro w hSw; obtain ⟨k0, k1, k2, k3, k4, k5, k6, k7, k8, k9, k10, k11⟩ := HF.out _ hSw; go_simp; try with_reducible rfl)
      simp only [Act.put, rns]
      refine rgn 6 (v := ?vq13) hHeld ?yq13 ?_
      case yq13 => (intro w hSw; obtain ⟨k0, k1, k2, k3, k4, k5, k6, k7, k8, k9, k10, k11⟩ := HF.out _ hSw; go_simp; try with_reducible rfl)
      simp only [Act.put, rns]
      refine rgn 7 (v := ?vq14) hHeld ?yq14 ?_
      case yq14 => (intro w hSw; obtain ⟨k0, k1, k2, k3, k4, k5, k6, k7, k8, k9, k10, k11⟩ := HF.out _ hSw; go_simp; try with_reducible rfl)
      simp only [Act.put, rns]
      refine rgn 8 (v := ?vq15) hHeld ?yq15 ?_
      case yq15 => (intro w hSw; obtain ⟨k0, k1, k2, k3, k4, k5, k6, k7, k8, k9, k10, k11⟩ := HF.out _ hSw; go_simp; try with_reducible rfl)
      simp only [Act.put, rns]
      refine rgn 9 (v := ?vq16) hHeld ?yq16 ?_
      case yq16 => (intro w hSw; obtain ⟨k0, k1, k2, k3, k4, k5, k6, k7, k8, k9, k10, k11⟩ := HF.out _ hSw; go_simp; try with_reducible rfl)
      simp only [Act.put, rns]
      refine rgn 10 (v := .bool false) hHeld ?yq17 ?_
      case yq17 => (intro w hSw; obtain ⟨k0, k1, k2, k3, k4, k5, k6, k7, k8, k9, k10, k11⟩ := HF.out _ hSw; go_simp; try with_reducible rfl)
      simp only [Act.put, rns]
      refine rgn 11 (v := .bool false) hHeld ?yq18 ?_
      case yq18 => (intro w hSw; obtain ⟨k0, k1, k2, k3, k4, k5, k6, k7, k8, k9, k10, k11⟩ := HF.out _ hSw; go_simp; try with_reducible rfl)
      simp only [Act.put, rns]
      refine rgn 12 (v := .bool false) hHeld ?yq19 ?_
      case yq19 => (intro w hSw; obtain ⟨k0, k1, k2, k3, k4, k5, k6, k7, k8, k9, k10, k11⟩ := HF.out _ hSw; go_simp; try with_reducible rfl)
      simp only [Act.put, rns]
      refine reg_off (i := 13) rfl (by kernel_rfl) (by kernel_rfl) (by kernel_rfl) (fun _ _ _ h => h) (by kernel_rfl) hHeld ?_
      simp only [Act.put, rns]
      refine reg_off (i := 14) rfl (by kernel_rfl) (by kernel_rfl) (by kernel_rfl) (fun _ _ _ h => h) (by kernel_rfl) hHeld ?_
      simp only [Act.put, rns]
      refine reg_off (i := 15) rfl (by kernel_rfl) (by kernel_rfl) (by kernel_rfl) (fun _ _ _ h => h) (by kernel_rfl) hHeld ?_
      simp only [Act.put, rns]
      refine reg_off (i := 16) rfl (by kernel_rfl) (by kernel_rfl) (by kernel_rfl) (fun _ _ _ h => h) (by kernel_rfl) hHeld ?_
      simp only [Act.put, rns]
      refine reg_off (i := 17) rfl (by kernel_rfl) (by kernel_rfl) (by kernel_rfl) (fun _ _ _ h => h) (by kernel_rfl) hHeld ?_
      simp only [Act.put, rns]
      refine reg_off (i := 18) rfl (by kernel_rfl) (by kernel_rfl) (by kernel_rfl) (fun _ _ _ h => h) (by kernel_rfl) hHeld ?_
      simp only [Act.put, rns]
      refine reg_off (i := 19) rfl (by kernel_rfl) (by kernel_rfl) (by kernel_rfl) (fun _ _ _ h => h) (by kernel_rfl) hHeld ?_
      simp only [Act.put, rns]
      refine reg_off (i := 20) rfl (by kernel_rfl) (by kernel_rfl) (by kernel_rfl) (fun _ _ _ h => h) (by kernel_rfl) hHeld ?_
      simp only [Act.put, rns]
      refine rgn 21 (v := .bool false) hHeld ?yq20 ?_
      case yq20 => (intro w hSw; obtain ⟨k0, k1, k2, k3, k4, k5, k6, k7, k8, k9, k10, k11⟩ := HF.out _ hSw; go_simp; try with_reducible rfl)
      simp only [Act.put, rns]
      refine rgn 22 (v := .bool false) hHeld ?yq21 ?_
      case yq21 => (intro w hSw; obtain ⟨k0, k1, k2, k3, k4, k5, k6, k7, k8, k9, k10, k11⟩ := HF.out _ hSw; go_simp; try with_reducible rfl)
      simp only [Act.put, rns]
      refine wpAnyH_done (by kernel_rfl) ?_ _
      go_wp2
      go_ret
      exact ⟨rfl, HU1.out.trans hHeld (fun _ _ h => h)⟩
    · simp only [Bool.true_and]
      clear hm
      go_enter Tryz.func54, Tryz.ntmps54
      go_upto_region 1 with fail
      rw [HV.out]
      refine wp_region_held_drew (S := (fun X => Upd NoF V X)) (by kernel_rfl) (HDR.out) (fun hHeld => ?_)
      refine rgn 0 (v := ?vq22) hHeld ?yq22 ?_
      case yq22 => (intro w hSw; obtain ⟨k0, k1, k2, k3, k4, k5, k6, k7, k8, k9, k10, k11⟩ := HF.out _ hSw; go_simp; try with_reducible rfl)
      simp only [Act.put, rns]
      refine reg_step (i := 1) (by kernel_rfl) rfl (by kernel_rfl) (fun K hK => ?_)
      go_simp
      refine (HM.out _).mono ?_
      rintro e W2 ⟨rfl, hu⟩
      have HS : (fun X => Upd NoF V X) W2 := hHeld.trans hu (fun _ _ h => h)
      clear hu
      go_wp2_with fail
      refine hK.out _ _ HS (fun hHeld2 => ?_)
      clear hK hHeld2 hHeld; have hHeld := HS; clear HS
      try simp only [Act.put, rns]
      refine rgn 2 (v := .bool true) hHeld ?yq23 ?_
      case yq23 => (intro w hSw; obtain ⟨k0, k1, k2, k3, k4, k5, k6, k7, k8, k9, k10, k11⟩ := HF.out _ hSw; go_simp; try with_reducible rfl)
      simp only [Act.put, rns]
      refine rgn 3 (v := .bool true) hHeld ?yq24 ?_
      case yq24 => (intro w hSw; obtain ⟨k0, k1, k2, k3, k4, k5, k6, k7, k8, k9, k10, k11⟩ := HF.out _ hSw; go_simp; try with_reducible rfl)
      simp only [Act.put, rns]
      refine rgn 4 (v := ?vq25) hHeld ?yq25 ?_
      case yq25 => (intro w hSw; obtain ⟨k0, k1, k2, k3, k4, k5, k6, k7, k8, k9, k10, k11⟩ := HF.out _ hSw; go_simp; try with_reducible rfl)
      simp only [Act.put, rns]
      refine rgn 5 (v := ?vq26) hHeld ?yq26 ?_
      case yq26 => (intro w hSw; obtain ⟨k0, k1, k2, k3, k4, k5, k6, k7, k8, k9, k10, k11⟩ := HF.out _ hSw; go_simp; try with_reducible rfl)
      simp only [Act.put, rns]
      refine rgn 6 (v := ?vq27) hHeld ?yq27 ?_
      case yq27 => (intro w hSw; obtain ⟨k0, k1, k2, k3, k4, k5, k6, k7, k8, k9, k10, k11⟩ := HF.out _ hSw; go_simp; try with_reducible rfl)
      simp only [Act.put, rns]
      refine rgn 7 (v := ?vq28) hHeld ?yq28 ?_
      case yq28 => (intro w hSw; obtain ⟨k0, k1, k2, k3, k4, k5, k6, k7, k8, k9, k10, k11⟩ := HF.out _ hSw; go_simp; try with_reducible rfl)
      simp only [Act.put, rns]
      refine rgn 8 (v := ?vq29) hHeld ?yq29 ?_
      case yq29 => (intro w hSw; obtain ⟨k0, k1, k2, k3, k4, k5, k6, k7, k8, k9, k10, k11⟩ := HF.out _ hSw; go_simp; try with_reducible rfl)
      simp only [Act.put, rns]
      refine rgn 9 (v := ?vq30) hHeld ?yq30 ?_
      case yq30 => (intro w hSw; obtain ⟨k0, k1, k2, k3, k4, k5, k6, k7, k8, k9, k10, k11⟩ := HF.out _ hSw; go_simp; try with_reducible rfl)
      simp only [Act.put, rns]
      refine rgn 10 (v := .bool true) hHeld ?yq31 ?_
      case yq31 => (intro w hSw; obtain ⟨k0, k1, k2, k3, k4, k5, k6, k7, k8, k9, k10, k11⟩ := HF.out _ hSw; go_simp; try with_reducible rfl)
      simp only [Act.put, rns]
      refine rgn 11 (v := .bool true) hHeld ?yq32 ?_
      case yq32 => (intro w hSw; obtain ⟨k0, k1, k2, k3, k4, k5, k6, k7, k8, k9, k10, k11⟩ := HF.out _ hSw; go_simp; try with_reducible rfl)
      simp only [Act.put, rns]
      refine rgn 12 (v := .bool true) hHeld ?yq33 ?_
      case yq33 => (intro w hSw; obtain ⟨k0, k1, k2, k3, k4, k5, k6, k7, k8, k9, k10, k11⟩ := HF.out _ hSw; go_simp; try with_reducible rfl)
      simp only [Act.put, rns]
      refine rgn 13 (v := ?vq34) hHeld ?yq34 ?_
      case yq34 => (intro w hSw; obtain ⟨k0, k1, k2, k3, k4, k5, k6, k7, k8, k9, k10, k11⟩ := HF.out _ hSw; go_simp; try with_reducible rfl)
      simp only [Act.put, rns]
      refine rgn 14 (v := ?vq35) hHeld ?yq35 ?_
      case yq35 => (intro w hSw; obtain ⟨k0, k1, k2, k3, k4, k5, k6, k7, k8, k9, k10, k11⟩ := HF.out _ hSw; go_simp; try with_reducible rfl)
      simp only [Act.put, rns]
      refine rgn 15 (v := ?vq36) hHeld ?yq36 ?_
      case yq36 => (intro w hSw; obtain ⟨k0, k1, k2, k3, k4, k5, k6, k7, k8, k9, k10, k11⟩ := HF.out _ hSw; go_simp; try with_reducible rfl)
      simp only [Act.put, rns]
      refine rgn 16 (v := ?vq37) hHeld ?yq37 ?_
      case yq37 => (intro w hSw; obtain ⟨k0, k1, k2, k3, k4, k5, k6, k7, k8, k9, k10, k11⟩ := HF.out _ hSw; go_simp; try with_reducible rfl)
      simp only [Act.put, rns]
      refine rgn 17 (v := ?vq38) hHeld ?yq38 ?_
      case yq38 => (intro w hSw; obtain ⟨k0, k1, k2, k3, k4, k5, k6, k7, k8, k9, k10, k11⟩ := HF.out _ hSw; go_simp; try with_reducible rfl)
      simp only [Act.put, rns]
      refine rgn 18 (v := ?vq39) hHeld ?yq39 ?_
      case yq39 => (intro w hSw; obtain ⟨k0, k1, k2, k3, k4, k5, k6, k7, k8, k9, k10, k11⟩ := HF.out _ hSw; go_simp; try with_reducible rfl)
      simp only [Act.put, rns]
      refine reg_step (i := 19) (by kernel_rfl) rfl (by kernel_rfl) (fun K hK => ?_)
      go_simp
      refine (HD.out _).mono ?_
      rintro e W2 ⟨rfl, hu⟩
      have HS : (fun X => Upd NoF V X) W2 := hHeld.trans hu (fun _ _ h => h)
      clear hu
      go_wp2_with fail
      refine hK.out _ _ HS (fun hHeld2 => ?_)
      clear hK hHeld2 hHeld; have hHeld := HS; clear HS
      try simp only [Act.put, rns]
      refine rgn 20 (v := .bool (decide (n.blk < data))) hHeld ?yq40 ?_
      case yq40 => (intro w hSw; obtain ⟨k0, k1, k2, k3, k4, k5, k6, k7, k8, k9, k10, k11⟩ := HF.out _ hSw; go_simp; try with_reducible rfl)
      simp only [Act.put, rns]
      refine rgn 21 (v := .bool (decide (n.blk < data))) hHeld ?yq41 ?_
      case yq41 => (intro w hSw; obtain ⟨k0, k1, k2, k3, k4, k5, k6, k7, k8, k9, k10, k11⟩ := HF.out _ hSw; go_simp; try with_reducible rfl)
      simp only [Act.put, rns]
      refine rgn 22 (v := .bool (decide (n.blk < data))) hHeld ?yq42 ?_
      case yq42 => (intro w hSw; obtain ⟨k0, k1, k2, k3, k4, k5, k6, k7, k8, k9, k10, k11⟩ := HF.out _ hSw; go_simp; try with_reducible rfl)
      simp only [Act.put, rns]
      refine wpAnyH_done (by kernel_rfl) ?_ _
      go_wp2
      go_ret
      exact ⟨rfl, HU1.out.trans hHeld (fun _ _ h => h)⟩
end
end Go.Proofs.YtjgeflbhmhmjdaaGreat.NR
