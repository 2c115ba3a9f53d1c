/- The reference of a core's side: Take. -/
import Derived.Test.YtjgeflbhmhmjdaaGreatNearRH
import Derived.Test.YtjgeflbhmhmjdaaGreatNearI
import Derived.Test.YtjgeflbhmhmjdaaGreatCacheGd
import Derived.Test.YtjgeflbhmhmjdaaGreatAggNear
import Derived.Deep.QuietTactic
set_option linter.unusedSimpArgs false
set_option linter.unusedVariables false
namespace Go.Proofs.YtjgeflbhmhmjdaaGreat.NR
open Go.RowKit
open BU (IsU words)
open PL (Cfg CC CV May)
open KA (Kp CIs OkA LT UT)
open DL (DS CD stampE)
attribute [local go_sem] Oper.semAt_some
attribute [local go_sem ↓] TNot.ld_eq TNot.st_eq TNot.al_eq TNot.bx_eq TBlk.ld_eq TBlk.st_eq TBlk.al_eq TBlk.bx_eq TLin.ld_eq TLin.st_eq TLin.al_eq TLin.bx_eq TCfg.ld_eq TCfg.st_eq TCfg.al_eq TCfg.bx_eq bdN_eq bsN_eq bdL_eq
attribute [local go_sem] TNot.al_run TNot.bx_run TBlk.al_run TBlk.bx_run TLin.al_run TLin.bx_run TCfg.al_run TCfg.bx_run
section
variable {w0 W W' V : World} {r : Rd} {S : Ns} {L : List Obj}
abbrev REnds (w0 : World) (r : Rd) (t : Tk) (L : List Obj) (e : Ending) (W' : World) : Prop := ∃ v, e = .returned (retV v t.g t.e) ∧ RIs w0 W' r t.S (outO v t.out :: L)
theorem RIs.ldc (h : RIs w0 W r S L) : (TCfg.ld (.pointer (some ⟨r.nb, 0, none⟩))).run Tryz.prog W = .ok (.agg (CC S.c)) W :=
  TCfg.ld_at (CC_isN S.c) (h.box.range 0 _ (fun j v hv => by
    rw [Nat.zero_add]
    have hj : j < 8 := by
      have := (List.getElem?_eq_some_iff.1 hv).1
      simpa using this
    rw [rcells_head S r (by omega)]
    have e : S.rhead r = CC S.c ++ #[.int .i64 S.core, ptr r.p.kb, ptr r.bb, ptr r.rb, ptr r.db] := rfl
    rw [e, Array.getElem?_append_left (by simpa using hj), ← hv, Array.getElem?_toList]))
set_option maxRecDepth 100000 in
set_option maxHeartbeats 4000000 in
theorem rtake_nofit (h : RIs w0 W r S L) (n : Nt) (hn : n.Ok) (hf : (NE.fitsN S.c n && (n.too == S.core)) = false) : Calls Tryz.prog 70 #[ptr r.nb, .agg n.cells] W (REnds w0 r ⟨[], false, 2, S⟩ L) := by
  by_cases hfn : NE.fitsN S.c n = true
  · have htoo : (n.too != S.core) = true := by rw [hfn, Bool.true_and] at hf; rw [bne, hf]; rfl
    clear hf
    have hnN := Nt.Ok.isN hn.isU
    have h1 := h.alloc n.cells NT
    obtain ⟨xn, hxn⟩ : ∃ x, W.heap.size = x := ⟨_, rfl⟩
    obtain ⟨V, hV⟩ : ∃ V, W.alloc (.cells n.cells NT) = V := ⟨_, rfl⟩
    rw [hxn, hV] at h1
    have HNN := Lib.hid hnN
    have HN := Lib.hid hn
    have HH := Lib.hid (h1.upd0 (Upd.drew NoF V))
    have HFI := Lib.hid (fun w => NE.rfits_any S.c n hn h.ok.ok.may w)
    clear h h1 hnN hn
    go_enter Tryz.func70, Tryz.ntmps70
    go_upto_region 1 with fail
    clear hxn hV
    refine wp_region_held_drew (S := (fun X : World => (TCfg.ld (.pointer (some ⟨r.nb, 0, none⟩))).run Tryz.prog X = .ok (.agg (CC S.c)) X ∧ X.cell? ⟨r.nb, 8, none⟩ = some (.int .i64 S.core) ∧ (TNot.ld (.pointer (some ⟨xn, 0, none⟩))).run Tryz.prog X = .ok (.agg n.cells) X ∧ X.cell? ⟨xn, 2, none⟩ = some (.int .i64 n.too))) (by kernel_rfl) (⟨HH.out.ldc, HH.out.hd (by decide), TNot.ld_at HNN.out HH.out.lb.whole, (HH.out.lb.cell 2).trans n.get2⟩) (fun hHeld => ?_)
    obtain ⟨V0, hV0⟩ : ∃ X, V.drew = X := ⟨_, rfl⟩
    rw [hV0] at hHeld HH ⊢
    clear hV0
    refine rgn 0 (v := ?vq1) hHeld ?yq1 ?_
    case yq1 => (intro w hSw; obtain ⟨k0, k1, k2, k3⟩ := hSw; go_simp; try with_reducible rfl)
    simp only [Act.put, rns]
    refine rgn 1 (v := ?vq2) hHeld ?yq2 ?_
    case yq2 => (intro w hSw; obtain ⟨k0, k1, k2, k3⟩ := hSw; go_simp; try with_reducible rfl)
    simp only [Act.put, rns]
    refine rgn 2 (v := ?vq3) hHeld ?yq3 ?_
    case yq3 => (intro w hSw; obtain ⟨k0, k1, k2, k3⟩ := hSw; go_simp; try with_reducible rfl)
    simp only [Act.put, rns]
    refine rgn 3 (v := ?vq4) hHeld ?yq4 ?_
    case yq4 => (intro w hSw; obtain ⟨k0, k1, k2, k3⟩ := hSw; go_simp; try with_reducible rfl)
    simp only [Act.put, rns]
    refine rgn 4 (v := ?vq5) hHeld ?yq5 ?_
    case yq5 => (intro w hSw; obtain ⟨k0, k1, k2, k3⟩ := hSw; go_simp; try with_reducible rfl)
    simp only [Act.put, rns]
    refine reg_step (i := 5) (by kernel_rfl) rfl (by kernel_rfl) (fun K hK => ?_)
    go_simp
    refine (HFI.out _).mono ?_
    rw [hfn]
    rintro e V1 ⟨rfl, hu⟩
    have HH1 := Lib.hid (HH.out.upd0 hu)
    have HS : (fun X : World => (TCfg.ld (.pointer (some ⟨r.nb, 0, none⟩))).run Tryz.prog X = .ok (.agg (CC S.c)) X ∧ X.cell? ⟨r.nb, 8, none⟩ = some (.int .i64 S.core) ∧ (TNot.ld (.pointer (some ⟨xn, 0, none⟩))).run Tryz.prog X = .ok (.agg n.cells) X ∧ X.cell? ⟨xn, 2, none⟩ = some (.int .i64 n.too)) V1 := ⟨HH1.out.ldc, HH1.out.hd (by decide), TNot.ld_at HNN.out HH1.out.lb.whole, (HH1.out.lb.cell 2).trans n.get2⟩
    clear hu
    go_wp2_with fail
    refine hK.out _ _ HS (fun hHeld2 => ?_)
    clear hK hHeld2 hHeld; have hHeld := HS; clear HS
    try simp only [Act.put, rns]
    refine rgn 6 (v := .bool false) hHeld ?yq6 ?_
    case yq6 => (intro w hSw; obtain ⟨k0, k1, k2, k3⟩ := hSw; go_simp; try with_reducible rfl)
    simp only [Act.put, rns]
    refine rgn 7 (v := .bool false) hHeld ?yq7 ?_
    case yq7 => (intro w hSw; obtain ⟨k0, k1, k2, k3⟩ := hSw; go_simp; try with_reducible rfl)
    simp only [Act.put, rns]
    refine rgn 8 (v := ?vq8) hHeld ?yq8 ?_
    case yq8 => (intro w hSw; obtain ⟨k0, k1, k2, k3⟩ := hSw; go_simp; try with_reducible rfl)
    simp only [Act.put, rns]
    refine rgn 9 (v := ?vq9) hHeld ?yq9 ?_
    case yq9 => (intro w hSw; obtain ⟨k0, k1, k2, k3⟩ := hSw; go_simp; try with_reducible rfl)
    simp only [Act.put, rns]
    refine rgn 10 (v := ?vq10) hHeld ?yq10 ?_
    case yq10 => (intro w hSw; obtain ⟨k0, k1, k2, k3⟩ := hSw; go_simp; try with_reducible rfl)
    simp only [Act.put, rns]
    refine rgn 11 (v := ?vq11) hHeld ?yq11 ?_
    case yq11 => (intro w hSw; obtain ⟨k0, k1, k2, k3⟩ := hSw; go_simp; try with_reducible rfl)
    simp only [Act.put, rns]
    refine rgn 12 (v := ?vq12) hHeld ?yq12 ?_
    case yq12 => (intro w hSw; obtain ⟨k0, k1, k2, k3⟩ := hSw; go_simp; try with_reducible rfl)
    simp only [Act.put, rns]
    refine rgn 13 (v := ?vq13) hHeld ?yq13 ?_
    case yq13 => (intro w hSw; obtain ⟨k0, k1, k2, k3⟩ := hSw; go_simp; try with_reducible rfl)
    simp only [Act.put, rns]
    refine rgn 14 (v := .bool true) hHeld ?yq14 ?_
    case yq14 => (intro w hSw; obtain ⟨k0, k1, k2, k3⟩ := hSw; have kt := htoo; go_simp; try with_reducible rfl)
    simp only [Act.put, rns]
    refine rgn 15 (v := .bool true) hHeld ?yq15 ?_
    case yq15 => (intro w hSw; obtain ⟨k0, k1, k2, k3⟩ := hSw; go_simp; try with_reducible rfl)
    simp only [Act.put, rns]
    refine wpAnyH_done (by kernel_rfl) ?_ _
    clear hHeld HH HFI hfn
    go_wp2_with fail
    go_ret3
    exact ⟨nilV, rfl, HH1.out.pop.outNil⟩
  · have hfn : NE.fitsN S.c n = false := by simpa using hfn
    clear hf
    have hnN := Nt.Ok.isN hn.isU
    have h1 := h.alloc n.cells NT
    obtain ⟨xn, hxn⟩ : ∃ x, W.heap.size = x := ⟨_, rfl⟩
    obtain ⟨V, hV⟩ : ∃ V, W.alloc (.cells n.cells NT) = V := ⟨_, rfl⟩
    rw [hxn, hV] at h1
    have HNN := Lib.hid hnN
    have HN := Lib.hid hn
    have HH := Lib.hid (h1.upd0 (Upd.drew NoF V))
    have HFI := Lib.hid (fun w => NE.rfits_any S.c n hn h.ok.ok.may w)
    clear h h1 hnN hn
    go_enter Tryz.func70, Tryz.ntmps70
    go_upto_region 1 with fail
    clear hxn hV
    refine wp_region_held_drew (S := (fun X : World => (TCfg.ld (.pointer (some ⟨r.nb, 0, none⟩))).run Tryz.prog X = .ok (.agg (CC S.c)) X ∧ X.cell? ⟨r.nb, 8, none⟩ = some (.int .i64 S.core) ∧ (TNot.ld (.pointer (some ⟨xn, 0, none⟩))).run Tryz.prog X = .ok (.agg n.cells) X ∧ X.cell? ⟨xn, 2, none⟩ = some (.int .i64 n.too))) (by kernel_rfl) (⟨HH.out.ldc, HH.out.hd (by decide), TNot.ld_at HNN.out HH.out.lb.whole, (HH.out.lb.cell 2).trans n.get2⟩) (fun hHeld => ?_)
    obtain ⟨V0, hV0⟩ : ∃ X, V.drew = X := ⟨_, rfl⟩
    rw [hV0] at hHeld HH ⊢
    clear hV0
    refine rgn 0 (v := ?vq16) hHeld ?yq16 ?_
    case yq16 => (intro w hSw; obtain ⟨k0, k1, k2, k3⟩ := hSw; go_simp; try with_reducible rfl)
    simp only [Act.put, rns]
    refine rgn 1 (v := ?vq17) hHeld ?yq17 ?_
    case yq17 => (intro w hSw; obtain ⟨k0, k1, k2, k3⟩ := hSw; go_simp; try with_reducible rfl)
    simp only [Act.put, rns]
    refine rgn 2 (v := ?vq18) hHeld ?yq18 ?_
    case yq18 => (intro w hSw; obtain ⟨k0, k1, k2, k3⟩ := hSw; go_simp; try with_reducible rfl)
    simp only [Act.put, rns]
    refine rgn 3 (v := ?vq19) hHeld ?yq19 ?_
    case yq19 => (intro w hSw; obtain ⟨k0, k1, k2, k3⟩ := hSw; go_simp; try with_reducible rfl)
    simp only [Act.put, rns]
    refine rgn 4 (v := ?vq20) hHeld ?yq20 ?_
    case yq20 => (intro w hSw; obtain ⟨k0, k1, k2, k3⟩ := hSw; go_simp; try with_reducible rfl)
    simp only [Act.put, rns]
    refine reg_step (i := 5) (by kernel_rfl) rfl (by kernel_rfl) (fun K hK => ?_)
    go_simp
    refine (HFI.out _).mono ?_
    rw [hfn]
    rintro e V1 ⟨rfl, hu⟩
    have HH1 := Lib.hid (HH.out.upd0 hu)
    have HS : (fun X : World => (TCfg.ld (.pointer (some ⟨r.nb, 0, none⟩))).run Tryz.prog X = .ok (.agg (CC S.c)) X ∧ X.cell? ⟨r.nb, 8, none⟩ = some (.int .i64 S.core) ∧ (TNot.ld (.pointer (some ⟨xn, 0, none⟩))).run Tryz.prog X = .ok (.agg n.cells) X ∧ X.cell? ⟨xn, 2, none⟩ = some (.int .i64 n.too)) V1 := ⟨HH1.out.ldc, HH1.out.hd (by decide), TNot.ld_at HNN.out HH1.out.lb.whole, (HH1.out.lb.cell 2).trans n.get2⟩
    clear hu
    go_wp2_with fail
    refine hK.out _ _ HS (fun hHeld2 => ?_)
    clear hK hHeld2 hHeld; have hHeld := HS; clear HS
    try simp only [Act.put, rns]
    refine rgn 6 (v := .bool true) hHeld ?yq21 ?_
    case yq21 => (intro w hSw; obtain ⟨k0, k1, k2, k3⟩ := hSw; go_simp; try with_reducible rfl)
    simp only [Act.put, rns]
    refine rgn 7 (v := .bool true) hHeld ?yq22 ?_
    case yq22 => (intro w hSw; obtain ⟨k0, k1, k2, k3⟩ := hSw; go_simp; try with_reducible rfl)
    simp only [Act.put, rns]
    refine reg_off (i := 8) rfl (by kernel_rfl) (by kernel_rfl) (by kernel_rfl) (fun _ _ _ h => h) (by kernel_rfl) hHeld ?_
    simp only [Act.put, rns]
    refine reg_off (i := 9) rfl (by kernel_rfl) (by kernel_rfl) (by kernel_rfl) (fun _ _ _ h => h) (by kernel_rfl) hHeld ?_
    simp only [Act.put, rns]
    refine reg_off (i := 10) rfl (by kernel_rfl) (by kernel_rfl) (by kernel_rfl) (fun _ _ _ h => h) (by kernel_rfl) hHeld ?_
    simp only [Act.put, rns]
    refine reg_off (i := 11) rfl (by kernel_rfl) (by kernel_rfl) (by kernel_rfl) (fun _ _ _ h => h) (by kernel_rfl) hHeld ?_
    simp only [Act.put, rns]
    refine reg_off (i := 12) rfl (by kernel_rfl) (by kernel_rfl) (by kernel_rfl) (fun _ _ _ h => h) (by kernel_rfl) hHeld ?_
    simp only [Act.put, rns]
    refine reg_off (i := 13) rfl (by kernel_rfl) (by kernel_rfl) (by kernel_rfl) (fun _ _ _ h => h) (by kernel_rfl) hHeld ?_
    simp only [Act.put, rns]
    refine reg_off (i := 14) rfl (by kernel_rfl) (by kernel_rfl) (by kernel_rfl) (fun _ _ _ h => h) (by kernel_rfl) hHeld ?_
    simp only [Act.put, rns]
    refine rgn 15 (v := .bool true) hHeld ?yq23 ?_
    case yq23 => (intro w hSw; obtain ⟨k0, k1, k2, k3⟩ := hSw; go_simp; try with_reducible rfl)
    simp only [Act.put, rns]
    refine wpAnyH_done (by kernel_rfl) ?_ _
    clear hHeld HH HFI hfn
    go_wp2_with fail
    go_ret3
    exact ⟨nilV, rfl, HH1.out.pop.outNil⟩
set_option maxRecDepth 100000 in
set_option maxHeartbeats 4000000 in
theorem rtake_data (h : RIs w0 W r S L) (n : Nt) (hn : n.Ok) (hf : (NE.fitsN S.c n && (n.too == S.core)) = true) (hk : n.kind = 6) (hqk : S.wa = true → S.q.kind = 1 ∨ S.q.kind = 2) : Calls Tryz.prog 70 #[ptr r.nb, .agg n.cells] W (REnds w0 r (dataR r.p S n) L) := by
  unfold dataR
  have HQK := Lib.hid hqk
  clear hqk
  have hk6 : (n.kind == 6) = true := by simp [hk]
  have HDB := Lib.hid (show dataB S n = (awaitsB S n.blk && !((n.state == 3) != (S.q.kind == 2))) from rfl)
  have HDE := Lib.hid (show dataE r.p S n = if dataB S n then r.p.putE S.A (lineOf n) else 8 from rfl)
  have HDS := Lib.hid (show dataS r.p S n = if dataB S n then (if r.p.putE S.A (lineOf n) = 0 then { S with A := r.p.putA S.A (lineOf n), M := r.p.putM S.A S.M (lineOf n), wa := false } else { S with A := r.p.putA S.A (lineOf n), M := r.p.putM S.A S.M (lineOf n) }) else S from rfl)
  have HDO := Lib.hid (show dataO r.p S n = if dataB S n && (r.p.putE S.A (lineOf n) == 0) then [noteP S 11 n.blk] else [] from rfl)
  clear hk
  have hfn : NE.fitsN S.c n = true := by rw [Bool.and_eq_true] at hf; exact hf.1
  have htoo : (n.too != S.core) = false := by rw [Bool.and_eq_true] at hf; rw [bne, hf.2]; rfl
  clear hf
  have hnN := Nt.Ok.isN hn.isU
  have h1 := h.alloc n.cells NT
  obtain ⟨xn, hxn⟩ : ∃ x, W.heap.size = x := ⟨_, rfl⟩
  obtain ⟨V, hV⟩ : ∃ V, W.alloc (.cells n.cells NT) = V := ⟨_, rfl⟩
  rw [hxn, hV] at h1
  have HNN := Lib.hid hnN
  have HN := Lib.hid hn
  have HH := Lib.hid (h1.upd0 (Upd.drew NoF V))
  have HFI := Lib.hid (fun w => NE.rfits_any S.c n hn h.ok.ok.may w)
  clear h h1 hnN hn
  go_enter Tryz.func70, Tryz.ntmps70
  go_upto_region 1 with fail
  clear hxn hV
  refine wp_region_held_drew (S := (fun X : World => (TCfg.ld (.pointer (some ⟨r.nb, 0, none⟩))).run Tryz.prog X = .ok (.agg (CC S.c)) X ∧ X.cell? ⟨r.nb, 8, none⟩ = some (.int .i64 S.core) ∧ (TNot.ld (.pointer (some ⟨xn, 0, none⟩))).run Tryz.prog X = .ok (.agg n.cells) X ∧ X.cell? ⟨xn, 2, none⟩ = some (.int .i64 n.too))) (by kernel_rfl) (⟨HH.out.ldc, HH.out.hd (by decide), TNot.ld_at HNN.out HH.out.lb.whole, (HH.out.lb.cell 2).trans n.get2⟩) (fun hHeld => ?_)
  obtain ⟨V0, hV0⟩ : ∃ X, V.drew = X := ⟨_, rfl⟩
  rw [hV0] at hHeld HH ⊢
  clear hV0
  refine rgn 0 (v := ?vq24) hHeld ?yq24 ?_
  case yq24 => (intro w hSw; obtain ⟨k0, k1, k2, k3⟩ := hSw; go_simp; try with_reducible rfl)
  simp only [Act.put, rns]
  refine rgn 1 (v := ?vq25) hHeld ?yq25 ?_
  case yq25 => (intro w hSw; obtain ⟨k0, k1, k2, k3⟩ := hSw; go_simp; try with_reducible rfl)
  simp only [Act.put, rns]
  refine rgn 2 (v := ?vq26) hHeld ?yq26 ?_
  case yq26 => (intro w hSw; obtain ⟨k0, k1, k2, k3⟩ := hSw; go_simp; try with_reducible rfl)
  simp only [Act.put, rns]
  refine rgn 3 (v := ?vq27) hHeld ?yq27 ?_
  case yq27 => (intro w hSw; obtain ⟨k0, k1, k2, k3⟩ := hSw; go_simp; try with_reducible rfl)
  simp only [Act.put, rns]
  refine rgn 4 (v := ?vq28) hHeld ?yq28 ?_
  case yq28 => (intro w hSw; obtain ⟨k0, k1, k2, k3⟩ := hSw; go_simp; try with_reducible rfl)
  simp only [Act.put, rns]
  refine reg_step (i := 5) (by kernel_rfl) rfl (by kernel_rfl) (fun K hK => ?_)
  go_simp
  refine (HFI.out _).mono ?_
  rw [hfn]
  rintro e V1 ⟨rfl, hu⟩
  have HH1 := Lib.hid (HH.out.upd0 hu)
  have HS : (fun X : World => (TCfg.ld (.pointer (some ⟨r.nb, 0, none⟩))).run Tryz.prog X = .ok (.agg (CC S.c)) X ∧ X.cell? ⟨r.nb, 8, none⟩ = some (.int .i64 S.core) ∧ (TNot.ld (.pointer (some ⟨xn, 0, none⟩))).run Tryz.prog X = .ok (.agg n.cells) X ∧ X.cell? ⟨xn, 2, none⟩ = some (.int .i64 n.too)) V1 := ⟨HH1.out.ldc, HH1.out.hd (by decide), TNot.ld_at HNN.out HH1.out.lb.whole, (HH1.out.lb.cell 2).trans n.get2⟩
  clear hu
  go_wp2_with fail
  refine hK.out _ _ HS (fun hHeld2 => ?_)
  clear hK hHeld2 hHeld; have hHeld := HS; clear HS
  try simp only [Act.put, rns]
  refine rgn 6 (v := .bool false) hHeld ?yq29 ?_
  case yq29 => (intro w hSw; obtain ⟨k0, k1, k2, k3⟩ := hSw; go_simp; try with_reducible rfl)
  simp only [Act.put, rns]
  refine rgn 7 (v := .bool false) hHeld ?yq30 ?_
  case yq30 => (intro w hSw; obtain ⟨k0, k1, k2, k3⟩ := hSw; go_simp; try with_reducible rfl)
  simp only [Act.put, rns]
  refine rgn 8 (v := ?vq31) hHeld ?yq31 ?_
  case yq31 => (intro w hSw; obtain ⟨k0, k1, k2, k3⟩ := hSw; go_simp; try with_reducible rfl)
  simp only [Act.put, rns]
  refine rgn 9 (v := ?vq32) hHeld ?yq32 ?_
  case yq32 => (intro w hSw; obtain ⟨k0, k1, k2, k3⟩ := hSw; go_simp; try with_reducible rfl)
  simp only [Act.put, rns]
  refine rgn 10 (v := ?vq33) hHeld ?yq33 ?_
  case yq33 => (intro w hSw; obtain ⟨k0, k1, k2, k3⟩ := hSw; go_simp; try with_reducible rfl)
  simp only [Act.put, rns]
  refine rgn 11 (v := ?vq34) hHeld ?yq34 ?_
  case yq34 => (intro w hSw; obtain ⟨k0, k1, k2, k3⟩ := hSw; go_simp; try with_reducible rfl)
  simp only [Act.put, rns]
  refine rgn 12 (v := ?vq35) hHeld ?yq35 ?_
  case yq35 => (intro w hSw; obtain ⟨k0, k1, k2, k3⟩ := hSw; go_simp; try with_reducible rfl)
  simp only [Act.put, rns]
  refine rgn 13 (v := ?vq36) hHeld ?yq36 ?_
  case yq36 => (intro w hSw; obtain ⟨k0, k1, k2, k3⟩ := hSw; go_simp; try with_reducible rfl)
  simp only [Act.put, rns]
  refine rgn 14 (v := .bool false) hHeld ?yq37 ?_
  case yq37 => (intro w hSw; obtain ⟨k0, k1, k2, k3⟩ := hSw; have kt := htoo; go_simp; try with_reducible rfl)
  simp only [Act.put, rns]
  refine rgn 15 (v := .bool false) hHeld ?yq38 ?_
  case yq38 => (intro w hSw; obtain ⟨k0, k1, k2, k3⟩ := hSw; go_simp; try with_reducible rfl)
  simp only [Act.put, rns]
  refine wpAnyH_done (by kernel_rfl) ?_ _
  clear hHeld HH HFI hfn
  go_upto_region 3 with fail
  go_cut [7] from 25 to 39 (fun s7 wx => s7 = .bool (awaitsB S n.blk) ∧ Hid (RIs w0 wx r S (boxO xn n.cells NT :: L)))
  case first =>
    have c37 := HH1.out.wc
    have c16 : V1.cell? ⟨r.nb, 16, none⟩ = some (.int .i64 S.q.blk) := HH1.out.qc (i := 3) S.q.get3
    have k3 := (HH1.out.lb.cell 3).trans n.get3
    have HAB := Lib.hid (show awaitsB S n.blk = (S.wa && (S.q.blk == n.blk)) from rfl)
    cases hwa : S.wa
    · rw [hwa] at c37
      go_quiet (fail)
      go_wp2_with fail
      go_meet
      rw [HAB.out, hwa]
      exact ⟨rfl, Lib.hid (HH1.out.upd0 (Upd.drewN NoF _ _))⟩
    · rw [hwa] at c37
      go_quiet (fail)
      go_wp2_with fail
      go_meet
      rw [HAB.out, hwa]
      exact ⟨by simp, Lib.hid (HH1.out.upd0 (Upd.drewN NoF _ _))⟩
  case rest =>
  obtain ⟨rfl, HH2⟩ := hcut
  clear HH1
  have k0 := (HH2.out.lb.cell 0).trans n.get0
  have c13 : wc.cell? ⟨r.nb, 13, none⟩ = some (.int .u8 S.q.kind) := HH2.out.qc (i := 0) S.q.get0
  have k5 := (HH2.out.lb.cell 5).trans n.get5
  cases hab : awaitsB S n.blk
  · rw [hab] at HDB
    have hdb : dataB S n = false := HDB.out
    rw [hdb] at HDE HDS HDO
    simp only [Bool.false_eq_true, if_false, Bool.false_and] at HDE HDS HDO
    clear hdb HDB
    go_wp2_with fail
    go_ret3
    exact ⟨nilV, by rw [HDE.out]; rfl, by rw [HDS.out, HDO.out]; exact HH2.out.pop.outNil⟩
  · have hwa : S.wa = true := by
      unfold awaitsB at hab
      rw [Bool.and_eq_true] at hab
      exact hab.1
    rw [hab] at HDB
    clear hab
    rcases HQK.out hwa with hq | hq
    · rw [hq] at c13 HDB
      by_cases hs : n.state = 3
      · have hs1 : (n.state == 3) = true := by simp [hs]
        have hs2 : (n.state != 3) = false := by simp [hs]
        have hdb : dataB S n = false := by rw [HDB.out, hs1]; rfl
        rw [hdb] at HDE HDS HDO
        simp only [Bool.false_eq_true, if_false, Bool.false_and] at HDE HDS HDO
        clear hdb HDB hs hq hwa
        go_wp2_with fail
        go_ret3
        exact ⟨nilV, by rw [HDE.out]; rfl, by rw [HDS.out, HDO.out]; exact HH2.out.pop.outNil⟩
      · have hs1 : (n.state == 3) = false := by simp [hs]
        have hs2 : (n.state != 3) = true := by simp [hs]
        have hdb : dataB S n = true := by rw [HDB.out, hs1]; rfl
        rw [hdb] at HDE HDS HDO
        simp only [if_true, Bool.true_and] at HDE HDS HDO
        clear hdb HDB hs hq hwa
        have HP := Lib.hid (HH2.out.upd0 (Upd.drew NoF wc))
        have y := fun w => bd_line HN.out.isU.1 n.blk n.state w
        have e0 : (Ln.mk n.blk n.state n.D) = lineOf n := rfl
        rw [e0] at y
        clear e0
        go_upto_region 8 with fail
        refine wp_region_held_drew (S := (fun X : World => X.cell? ⟨r.nb, 9, none⟩ = some (ptr r.p.kb) ∧ X.cell? ⟨xn, 3, none⟩ = some (.int .i64 n.blk) ∧ X.cell? ⟨xn, 5, none⟩ = some (.int .u8 n.state) ∧ (TBlk.ld (.pointer (some ⟨xn, 8, none⟩))).run Tryz.prog X = .ok (.agg n.D) X)) (by kernel_rfl) (⟨HP.out.hd (i := 9) (by decide), (HP.out.lb.cell 3).trans n.get3, (HP.out.lb.cell 5).trans n.get5, TBlk.ld_at (isU_N HN.out.isU) (HP.out.lb.range 8 _ (fun j v hv => (n.getD j).trans (by simpa using hv)))⟩) (fun hHeld => ?_)
        obtain ⟨P0, hP0⟩ : ∃ X, wc.drew = X := ⟨_, rfl⟩
        rw [hP0] at hHeld HP ⊢
        clear hP0
        refine rgn 0 (v := ?vq39) hHeld ?yq39 ?_
        case yq39 => (intro w hSw; obtain ⟨k0, k1, k2, k3⟩ := hSw; go_simp; try with_reducible rfl)
        simp only [Act.put, rns]
        refine rgn 1 (v := ?vq40) hHeld ?yq40 ?_
        case yq40 => (intro w hSw; obtain ⟨k0, k1, k2, k3⟩ := hSw; go_simp; try with_reducible rfl)
        simp only [Act.put, rns]
        refine rgn 2 (v := ?vq41) hHeld ?yq41 ?_
        case yq41 => (intro w hSw; obtain ⟨k0, k1, k2, k3⟩ := hSw; go_simp; try with_reducible rfl)
        simp only [Act.put, rns]
        refine rgn 3 (v := ?vq42) hHeld ?yq42 ?_
        case yq42 => (intro w hSw; obtain ⟨k0, k1, k2, k3⟩ := hSw; go_simp; try with_reducible rfl)
        simp only [Act.put, rns]
        refine rgn 4 (v := ?vq43) hHeld ?yq43 ?_
        case yq43 => (intro w hSw; obtain ⟨k0, k1, k2, k3⟩ := hSw; go_simp; try with_reducible rfl)
        simp only [Act.put, rns]
        refine rgn 5 (v := ?vq44) hHeld ?yq44 ?_
        case yq44 => (intro w hSw; obtain ⟨k0, k1, k2, k3⟩ := hSw; go_simp; try with_reducible rfl)
        simp only [Act.put, rns]
        refine rgn 6 (v := ?vq45) hHeld ?yq45 ?_
        case yq45 => (intro w hSw; obtain ⟨k0, k1, k2, k3⟩ := hSw; go_simp; try with_reducible rfl)
        simp only [Act.put, rns]
        refine rgn 7 (v := ?vq46) hHeld ?yq46 ?_
        case yq46 => (intro w hSw; obtain ⟨k0, k1, k2, k3⟩ := hSw; go_simp; try with_reducible rfl)
        simp only [Act.put, rns]
        refine rgn 8 (v := ?vq47) hHeld ?yq47 ?_
        case yq47 => (intro w hSw; obtain ⟨k0, k1, k2, k3⟩ := hSw; go_simp; try with_reducible rfl)
        simp only [Act.put, rns]
        refine rgn 9 (v := ?vq48) hHeld ?yq48 ?_
        case yq48 => (intro w hSw; obtain ⟨k0, k1, k2, k3⟩ := hSw; go_simp; try with_reducible rfl)
        simp only [Act.put, rns]
        refine rgn 10 (v := .agg (lineOf n).cells) hHeld ?yq49 ?_
        case yq49 => (intro w hSw; go_simp; try with_reducible rfl)
        simp only [Act.put, rns]
        refine reg_step (i := 11) (by kernel_rfl) rfl (by kernel_rfl) (fun K hK => ?_)
        go_simp
        refine (rcput_is HP.out (lineOf n) (lineOf_ok HN.out)).mono ?_
        rintro e P1 ⟨rfl, hN2⟩
        have HS : (fun X : World => X.cell? ⟨r.nb, 9, none⟩ = some (ptr r.p.kb) ∧ X.cell? ⟨xn, 3, none⟩ = some (.int .i64 n.blk) ∧ X.cell? ⟨xn, 5, none⟩ = some (.int .u8 n.state) ∧ (TBlk.ld (.pointer (some ⟨xn, 8, none⟩))).run Tryz.prog X = .ok (.agg n.D) X) P1 := ⟨hN2.hd (i := 9) (by decide), (hN2.lb.cell 3).trans n.get3, (hN2.lb.cell 5).trans n.get5, TBlk.ld_at (isU_N HN.out.isU) (hN2.lb.range 8 _ (fun j v hv => (n.getD j).trans (by simpa using hv)))⟩
        have HQ := Lib.hid hN2
        clear hN2
        go_wp2_with fail
        refine hK.out _ _ HS (fun hHeld2 => ?_)
        clear hK hHeld2 hHeld; have hHeld := HS; clear HS
        try simp only [Act.put, rns]
        refine rgn 12 (v := ?vq50) hHeld ?yq50 ?_
        case yq50 => (intro w hSw; go_simp; try with_reducible rfl)
        simp only [Act.put, rns]
        refine wpAnyH_done (by kernel_rfl) ?_ _
        clear hHeld HP HH2 y
        obtain ⟨pe, hpe⟩ : ∃ x, r.p.putE S.A (lineOf n) = x := ⟨_, rfl⟩
        rw [hpe]
        have HPE := Lib.hid hpe
        clear hpe
        by_cases h0 : pe = 0
        · subst h0
          obtain ⟨SP, hSP⟩ : ∃ s : Ns, ({ S with A := r.p.putA S.A (lineOf n), M := r.p.putM S.A S.M (lineOf n) } : Ns) = s := ⟨_, rfl⟩
          have EPH : Hid (∀ i : Nat, (SP.rhead r)[i]? = (S.rhead r)[i]?) := Lib.hid (by rw [← hSP]; exact fun _ => rfl)
          have EPN : Hid (noteP SP 11 n.blk = noteP S 11 n.blk) := Lib.hid (by rw [← hSP]; rfl)
          have c37 := HQ.out.wc
          have f37 := HQ.out.box.frozen 37
          have HQ1 := Lib.hid (HQ.out.setw false)
          have HQ2 := Lib.hid (HQ1.out.upd0 (Upd.drew NoF _))
          have y5 := fun w => bd_note S 11 n.blk w
          have hyN := Nt.Ok.isN (noteP_isU S 11 n.blk)
          have y6 := fun w => bsN_run hyN.1 w
          clear HQ EPH EPN hSP
          go_upto_region 12 with fail
          refine wp_region_held_drew (S := (fun X : World => X.cell? ⟨r.nb, 8, none⟩ = some (.int .i64 S.core) ∧ X.cell? ⟨xn, 3, none⟩ = some (.int .i64 n.blk))) (by kernel_rfl) (⟨HQ2.out.hd (i := 8) (by decide), (HQ2.out.lb.cell 3).trans n.get3⟩) (fun hHeld => ?_)
          obtain ⟨Q0, hQ0⟩ : ∃ X, (P1.setCell ⟨r.nb, 37, none⟩ (.bool false)).drew = X := ⟨_, rfl⟩
          rw [hQ0] at hHeld HQ2 ⊢
          clear hQ0 c37 f37 HQ1
          refine rgn 0 (v := ?vq51) hHeld ?yq51 ?_
          case yq51 => (intro w hSw; obtain ⟨k0, k1⟩ := hSw; go_simp; try with_reducible rfl)
          simp only [Act.put, rns]
          refine rgn 1 (v := ?vq52) hHeld ?yq52 ?_
          case yq52 => (intro w hSw; obtain ⟨k0, k1⟩ := hSw; go_simp; try with_reducible rfl)
          simp only [Act.put, rns]
          refine rgn 2 (v := ?vq53) hHeld ?yq53 ?_
          case yq53 => (intro w hSw; obtain ⟨k0, k1⟩ := hSw; go_simp; try with_reducible rfl)
          simp only [Act.put, rns]
          refine rgn 3 (v := ?vq54) hHeld ?yq54 ?_
          case yq54 => (intro w hSw; obtain ⟨k0, k1⟩ := hSw; go_simp; try with_reducible rfl)
          simp only [Act.put, rns]
          refine rgn 4 (v := ?vq55) hHeld ?yq55 ?_
          case yq55 => (intro w hSw; obtain ⟨k0, k1⟩ := hSw; go_simp; try with_reducible rfl)
          simp only [Act.put, rns]
          refine rgn 5 (v := ?vq56) hHeld ?yq56 ?_
          case yq56 => (intro w hSw; obtain ⟨k0, k1⟩ := hSw; go_simp; try with_reducible rfl)
          simp only [Act.put, rns]
          refine rgn 6 (v := ?vq57) hHeld ?yq57 ?_
          case yq57 => (intro w hSw; obtain ⟨k0, k1⟩ := hSw; go_simp; try with_reducible rfl)
          simp only [Act.put, rns]
          refine reg_step (i := 7) (by kernel_rfl) rfl (by kernel_rfl) (fun K hK => ?_)
          go_simp
          have HQ3 := Lib.hid (HQ2.out.alloc (noteP S 11 n.blk).cells NT)
          have HS : (fun X : World => X.cell? ⟨r.nb, 8, none⟩ = some (.int .i64 S.core) ∧ X.cell? ⟨xn, 3, none⟩ = some (.int .i64 n.blk)) (Q0.alloc (.cells (noteP S 11 n.blk).cells NT)) := ⟨HQ3.out.hd (i := 8) (by decide), (HQ3.out.lb2.cell 3).trans n.get3⟩
          refine hK.out _ _ HS (fun hHeld2 => ?_)
          clear hK hHeld2 hHeld; have hHeld := HS; clear HS
          try simp only [Act.put, rns]
          refine rgn 8 (v := ?vq58) hHeld ?yq58 ?_
          case yq58 => (intro w hSw; go_simp; try with_reducible rfl)
          simp only [Act.put, rns]
          refine rgn 9 (v := ?vq59) hHeld ?yq59 ?_
          case yq59 => (intro w hSw; go_simp; try with_reducible rfl)
          simp only [Act.put, rns]
          refine rgn 10 (v := ?vq60) hHeld ?yq60 ?_
          case yq60 => (intro w hSw; go_simp; try with_reducible rfl)
          simp only [Act.put, rns]
          refine wpAnyH_done (by kernel_rfl) ?_ _
          clear hHeld HQ2
          have HQ4 := Lib.hid (HQ3.out.toOut isUZ)
          clear HQ3 y5 y6
          generalize (noteP S 11 n.blk).cells = x at *
          go_wp2_with fail
          go_ret3
          exact ⟨sl Q0.heap.size 1 1, by rw [HDE.out, HPE.out]; rfl, by rw [HDS.out, HDO.out, HPE.out]; exact HQ4.out.pop2⟩
        · have hb0 : (pe != 0) = true := by simp [h0]
          have HPN : Hid ((pe == 0) = false) := Lib.hid (by simp [h0])
          have H0 := Lib.hid h0
          clear h0
          go_wp2_with fail
          go_ret3
          exact ⟨nilV, by rw [HDE.out, HPE.out]; rfl, by rw [HDS.out, HDO.out, HPE.out, if_neg H0.out, HPN.out]; exact HQ.out.pop.outNil⟩
    · rw [hq] at c13 HDB
      by_cases hs : n.state = 3
      · have hs1 : (n.state == 3) = true := by simp [hs]
        have hs2 : (n.state != 3) = false := by simp [hs]
        have hdb : dataB S n = true := by rw [HDB.out, hs1]; rfl
        rw [hdb] at HDE HDS HDO
        simp only [if_true, Bool.true_and] at HDE HDS HDO
        clear hdb HDB hs hq hwa
        have HP := Lib.hid (HH2.out.upd0 (Upd.drew NoF wc))
        have y := fun w => bd_line HN.out.isU.1 n.blk n.state w
        have e0 : (Ln.mk n.blk n.state n.D) = lineOf n := rfl
        rw [e0] at y
        clear e0
        go_upto_region 8 with fail
        refine wp_region_held_drew (S := (fun X : World => X.cell? ⟨r.nb, 9, none⟩ = some (ptr r.p.kb) ∧ X.cell? ⟨xn, 3, none⟩ = some (.int .i64 n.blk) ∧ X.cell? ⟨xn, 5, none⟩ = some (.int .u8 n.state) ∧ (TBlk.ld (.pointer (some ⟨xn, 8, none⟩))).run Tryz.prog X = .ok (.agg n.D) X)) (by kernel_rfl) (⟨HP.out.hd (i := 9) (by decide), (HP.out.lb.cell 3).trans n.get3, (HP.out.lb.cell 5).trans n.get5, TBlk.ld_at (isU_N HN.out.isU) (HP.out.lb.range 8 _ (fun j v hv => (n.getD j).trans (by simpa using hv)))⟩) (fun hHeld => ?_)
        obtain ⟨P0, hP0⟩ : ∃ X, wc.drew = X := ⟨_, rfl⟩
        rw [hP0] at hHeld HP ⊢
        clear hP0
        refine rgn 0 (v := ?vq61) hHeld ?yq61 ?_
        case yq61 => (intro w hSw; obtain ⟨k0, k1, k2, k3⟩ := hSw; go_simp; try with_reducible rfl)
        simp only [Act.put, rns]
        refine rgn 1 (v := ?vq62) hHeld ?yq62 ?_
        case yq62 => (intro w hSw; obtain ⟨k0, k1, k2, k3⟩ := hSw; go_simp; try with_reducible rfl)
        simp only [Act.put, rns]
        refine rgn 2 (v := ?vq63) hHeld ?yq63 ?_
        case yq63 => (intro w hSw; obtain ⟨k0, k1, k2, k3⟩ := hSw; go_simp; try with_reducible rfl)
        simp only [Act.put, rns]
        refine rgn 3 (v := ?vq64) hHeld ?yq64 ?_
        case yq64 => (intro w hSw; obtain ⟨k0, k1, k2, k3⟩ := hSw; go_simp; try with_reducible rfl)
        simp only [Act.put, rns]
        refine rgn 4 (v := ?vq65) hHeld ?yq65 ?_
        case yq65 => (intro w hSw; obtain ⟨k0, k1, k2, k3⟩ := hSw; go_simp; try with_reducible rfl)
        simp only [Act.put, rns]
        refine rgn 5 (v := ?vq66) hHeld ?yq66 ?_
        case yq66 => (intro w hSw; obtain ⟨k0, k1, k2, k3⟩ := hSw; go_simp; try with_reducible rfl)
        simp only [Act.put, rns]
        refine rgn 6 (v := ?vq67) hHeld ?yq67 ?_
        case yq67 => (intro w hSw; obtain ⟨k0, k1, k2, k3⟩ := hSw; go_simp; try with_reducible rfl)
        simp only [Act.put, rns]
        refine rgn 7 (v := ?vq68) hHeld ?yq68 ?_
        case yq68 => (intro w hSw; obtain ⟨k0, k1, k2, k3⟩ := hSw; go_simp; try with_reducible rfl)
        simp only [Act.put, rns]
        refine rgn 8 (v := ?vq69) hHeld ?yq69 ?_
        case yq69 => (intro w hSw; obtain ⟨k0, k1, k2, k3⟩ := hSw; go_simp; try with_reducible rfl)
        simp only [Act.put, rns]
        refine rgn 9 (v := ?vq70) hHeld ?yq70 ?_
        case yq70 => (intro w hSw; obtain ⟨k0, k1, k2, k3⟩ := hSw; go_simp; try with_reducible rfl)
        simp only [Act.put, rns]
        refine rgn 10 (v := .agg (lineOf n).cells) hHeld ?yq71 ?_
        case yq71 => (intro w hSw; go_simp; try with_reducible rfl)
        simp only [Act.put, rns]
        refine reg_step (i := 11) (by kernel_rfl) rfl (by kernel_rfl) (fun K hK => ?_)
        go_simp
        refine (rcput_is HP.out (lineOf n) (lineOf_ok HN.out)).mono ?_
        rintro e P1 ⟨rfl, hN2⟩
        have HS : (fun X : World => X.cell? ⟨r.nb, 9, none⟩ = some (ptr r.p.kb) ∧ X.cell? ⟨xn, 3, none⟩ = some (.int .i64 n.blk) ∧ X.cell? ⟨xn, 5, none⟩ = some (.int .u8 n.state) ∧ (TBlk.ld (.pointer (some ⟨xn, 8, none⟩))).run Tryz.prog X = .ok (.agg n.D) X) P1 := ⟨hN2.hd (i := 9) (by decide), (hN2.lb.cell 3).trans n.get3, (hN2.lb.cell 5).trans n.get5, TBlk.ld_at (isU_N HN.out.isU) (hN2.lb.range 8 _ (fun j v hv => (n.getD j).trans (by simpa using hv)))⟩
        have HQ := Lib.hid hN2
        clear hN2
        go_wp2_with fail
        refine hK.out _ _ HS (fun hHeld2 => ?_)
        clear hK hHeld2 hHeld; have hHeld := HS; clear HS
        try simp only [Act.put, rns]
        refine rgn 12 (v := ?vq72) hHeld ?yq72 ?_
        case yq72 => (intro w hSw; go_simp; try with_reducible rfl)
        simp only [Act.put, rns]
        refine wpAnyH_done (by kernel_rfl) ?_ _
        clear hHeld HP HH2 y
        obtain ⟨pe, hpe⟩ : ∃ x, r.p.putE S.A (lineOf n) = x := ⟨_, rfl⟩
        rw [hpe]
        have HPE := Lib.hid hpe
        clear hpe
        by_cases h0 : pe = 0
        · subst h0
          obtain ⟨SP, hSP⟩ : ∃ s : Ns, ({ S with A := r.p.putA S.A (lineOf n), M := r.p.putM S.A S.M (lineOf n) } : Ns) = s := ⟨_, rfl⟩
          have EPH : Hid (∀ i : Nat, (SP.rhead r)[i]? = (S.rhead r)[i]?) := Lib.hid (by rw [← hSP]; exact fun _ => rfl)
          have EPN : Hid (noteP SP 11 n.blk = noteP S 11 n.blk) := Lib.hid (by rw [← hSP]; rfl)
          have c37 := HQ.out.wc
          have f37 := HQ.out.box.frozen 37
          have HQ1 := Lib.hid (HQ.out.setw false)
          have HQ2 := Lib.hid (HQ1.out.upd0 (Upd.drew NoF _))
          have y5 := fun w => bd_note S 11 n.blk w
          have hyN := Nt.Ok.isN (noteP_isU S 11 n.blk)
          have y6 := fun w => bsN_run hyN.1 w
          clear HQ EPH EPN hSP
          go_upto_region 12 with fail
          refine wp_region_held_drew (S := (fun X : World => X.cell? ⟨r.nb, 8, none⟩ = some (.int .i64 S.core) ∧ X.cell? ⟨xn, 3, none⟩ = some (.int .i64 n.blk))) (by kernel_rfl) (⟨HQ2.out.hd (i := 8) (by decide), (HQ2.out.lb.cell 3).trans n.get3⟩) (fun hHeld => ?_)
          obtain ⟨Q0, hQ0⟩ : ∃ X, (P1.setCell ⟨r.nb, 37, none⟩ (.bool false)).drew = X := ⟨_, rfl⟩
          rw [hQ0] at hHeld HQ2 ⊢
          clear hQ0 c37 f37 HQ1
          refine rgn 0 (v := ?vq73) hHeld ?yq73 ?_
          case yq73 => (intro w hSw; obtain ⟨k0, k1⟩ := hSw; go_simp; try with_reducible rfl)
          simp only [Act.put, rns]
          refine rgn 1 (v := ?vq74) hHeld ?yq74 ?_
          case yq74 => (intro w hSw; obtain ⟨k0, k1⟩ := hSw; go_simp; try with_reducible rfl)
          simp only [Act.put, rns]
          refine rgn 2 (v := ?vq75) hHeld ?yq75 ?_
          case yq75 => (intro w hSw; obtain ⟨k0, k1⟩ := hSw; go_simp; try with_reducible rfl)
          simp only [Act.put, rns]
          refine rgn 3 (v := ?vq76) hHeld ?yq76 ?_
          case yq76 => (intro w hSw; obtain ⟨k0, k1⟩ := hSw; go_simp; try with_reducible rfl)
          simp only [Act.put, rns]
          refine rgn 4 (v := ?vq77) hHeld ?yq77 ?_
          case yq77 => (intro w hSw; obtain ⟨k0, k1⟩ := hSw; go_simp; try with_reducible rfl)
          simp only [Act.put, rns]
          refine rgn 5 (v := ?vq78) hHeld ?yq78 ?_
          case yq78 => (intro w hSw; obtain ⟨k0, k1⟩ := hSw; go_simp; try with_reducible rfl)
          simp only [Act.put, rns]
          refine rgn 6 (v := ?vq79) hHeld ?yq79 ?_
          case yq79 => (intro w hSw; obtain ⟨k0, k1⟩ := hSw; go_simp; try with_reducible rfl)
          simp only [Act.put, rns]
          refine reg_step (i := 7) (by kernel_rfl) rfl (by kernel_rfl) (fun K hK => ?_)
          go_simp
          have HQ3 := Lib.hid (HQ2.out.alloc (noteP S 11 n.blk).cells NT)
          have HS : (fun X : World => X.cell? ⟨r.nb, 8, none⟩ = some (.int .i64 S.core) ∧ X.cell? ⟨xn, 3, none⟩ = some (.int .i64 n.blk)) (Q0.alloc (.cells (noteP S 11 n.blk).cells NT)) := ⟨HQ3.out.hd (i := 8) (by decide), (HQ3.out.lb2.cell 3).trans n.get3⟩
          refine hK.out _ _ HS (fun hHeld2 => ?_)
          clear hK hHeld2 hHeld; have hHeld := HS; clear HS
          try simp only [Act.put, rns]
          refine rgn 8 (v := ?vq80) hHeld ?yq80 ?_
          case yq80 => (intro w hSw; go_simp; try with_reducible rfl)
          simp only [Act.put, rns]
          refine rgn 9 (v := ?vq81) hHeld ?yq81 ?_
          case yq81 => (intro w hSw; go_simp; try with_reducible rfl)
          simp only [Act.put, rns]
          refine rgn 10 (v := ?vq82) hHeld ?yq82 ?_
          case yq82 => (intro w hSw; go_simp; try with_reducible rfl)
          simp only [Act.put, rns]
          refine wpAnyH_done (by kernel_rfl) ?_ _
          clear hHeld HQ2
          have HQ4 := Lib.hid (HQ3.out.toOut isUZ)
          clear HQ3 y5 y6
          generalize (noteP S 11 n.blk).cells = x at *
          go_wp2_with fail
          go_ret3
          exact ⟨sl Q0.heap.size 1 1, by rw [HDE.out, HPE.out]; rfl, by rw [HDS.out, HDO.out, HPE.out]; exact HQ4.out.pop2⟩
        · have hb0 : (pe != 0) = true := by simp [h0]
          have HPN : Hid ((pe == 0) = false) := Lib.hid (by simp [h0])
          have H0 := Lib.hid h0
          clear h0
          go_wp2_with fail
          go_ret3
          exact ⟨nilV, by rw [HDE.out, HPE.out]; rfl, by rw [HDS.out, HDO.out, HPE.out, if_neg H0.out, HPN.out]; exact HQ.out.pop.outNil⟩
      · have hs1 : (n.state == 3) = false := by simp [hs]
        have hs2 : (n.state != 3) = true := by simp [hs]
        have hdb : dataB S n = false := by rw [HDB.out, hs1]; rfl
        rw [hdb] at HDE HDS HDO
        simp only [Bool.false_eq_true, if_false, Bool.false_and] at HDE HDS HDO
        clear hdb HDB hs hq hwa
        go_wp2_with fail
        go_ret3
        exact ⟨nilV, by rw [HDE.out]; rfl, by rw [HDS.out, HDO.out]; exact HH2.out.pop.outNil⟩
set_option maxRecDepth 100000 in
set_option maxHeartbeats 4000000 in
theorem rtake_nack (h : RIs w0 W r S L) (n : Nt) (hn : n.Ok) (hf : (NE.fitsN S.c n && (n.too == S.core)) = true) (hk : n.kind = 7) : Calls Tryz.prog 70 #[ptr r.nb, .agg n.cells] W (REnds w0 r (nackR S n) L) := by
  unfold nackR
  have hk6 : (n.kind == 6) = false := by simp [hk]
  have hk7 : (n.kind == 7) = true := by simp [hk]
  have HNS := Lib.hid (show nackS S n = if awaitsB S n.blk then { S with wa := false } else S from rfl)
  have HNG := Lib.hid (show nackG S n = (awaitsB S n.blk && DL.refusedB S.d n.stamp) from rfl)
  have HNE := Lib.hid (show nackE S n = if awaitsB S n.blk then 0 else 8 from rfl)
  clear hk
  have hfn : NE.fitsN S.c n = true := by rw [Bool.and_eq_true] at hf; exact hf.1
  have htoo : (n.too != S.core) = false := by rw [Bool.and_eq_true] at hf; rw [bne, hf.2]; rfl
  clear hf
  have hnN := Nt.Ok.isN hn.isU
  have h1 := h.alloc n.cells NT
  obtain ⟨xn, hxn⟩ : ∃ x, W.heap.size = x := ⟨_, rfl⟩
  obtain ⟨V, hV⟩ : ∃ V, W.alloc (.cells n.cells NT) = V := ⟨_, rfl⟩
  rw [hxn, hV] at h1
  have HNN := Lib.hid hnN
  have HN := Lib.hid hn
  have HH := Lib.hid (h1.upd0 (Upd.drew NoF V))
  have HFI := Lib.hid (fun w => NE.rfits_any S.c n hn h.ok.ok.may w)
  clear h h1 hnN hn
  go_enter Tryz.func70, Tryz.ntmps70
  go_upto_region 1 with fail
  clear hxn hV
  refine wp_region_held_drew (S := (fun X : World => (TCfg.ld (.pointer (some ⟨r.nb, 0, none⟩))).run Tryz.prog X = .ok (.agg (CC S.c)) X ∧ X.cell? ⟨r.nb, 8, none⟩ = some (.int .i64 S.core) ∧ (TNot.ld (.pointer (some ⟨xn, 0, none⟩))).run Tryz.prog X = .ok (.agg n.cells) X ∧ X.cell? ⟨xn, 2, none⟩ = some (.int .i64 n.too))) (by kernel_rfl) (⟨HH.out.ldc, HH.out.hd (by decide), TNot.ld_at HNN.out HH.out.lb.whole, (HH.out.lb.cell 2).trans n.get2⟩) (fun hHeld => ?_)
  obtain ⟨V0, hV0⟩ : ∃ X, V.drew = X := ⟨_, rfl⟩
  rw [hV0] at hHeld HH ⊢
  clear hV0
  refine rgn 0 (v := ?vq24) hHeld ?yq24 ?_
  case yq24 => (intro w hSw; obtain ⟨k0, k1, k2, k3⟩ := hSw; go_simp; try with_reducible rfl)
  simp only [Act.put, rns]
  refine rgn 1 (v := ?vq25) hHeld ?yq25 ?_
  case yq25 => (intro w hSw; obtain ⟨k0, k1, k2, k3⟩ := hSw; go_simp; try with_reducible rfl)
  simp only [Act.put, rns]
  refine rgn 2 (v := ?vq26) hHeld ?yq26 ?_
  case yq26 => (intro w hSw; obtain ⟨k0, k1, k2, k3⟩ := hSw; go_simp; try with_reducible rfl)
  simp only [Act.put, rns]
  refine rgn 3 (v := ?vq27) hHeld ?yq27 ?_
  case yq27 => (intro w hSw; obtain ⟨k0, k1, k2, k3⟩ := hSw; go_simp; try with_reducible rfl)
  simp only [Act.put, rns]
  refine rgn 4 (v := ?vq28) hHeld ?yq28 ?_
  case yq28 => (intro w hSw; obtain ⟨k0, k1, k2, k3⟩ := hSw; go_simp; try with_reducible rfl)
  simp only [Act.put, rns]
  refine reg_step (i := 5) (by kernel_rfl) rfl (by kernel_rfl) (fun K hK => ?_)
  go_simp
  refine (HFI.out _).mono ?_
  rw [hfn]
  rintro e V1 ⟨rfl, hu⟩
  have HH1 := Lib.hid (HH.out.upd0 hu)
  have HS : (fun X : World => (TCfg.ld (.pointer (some ⟨r.nb, 0, none⟩))).run Tryz.prog X = .ok (.agg (CC S.c)) X ∧ X.cell? ⟨r.nb, 8, none⟩ = some (.int .i64 S.core) ∧ (TNot.ld (.pointer (some ⟨xn, 0, none⟩))).run Tryz.prog X = .ok (.agg n.cells) X ∧ X.cell? ⟨xn, 2, none⟩ = some (.int .i64 n.too)) V1 := ⟨HH1.out.ldc, HH1.out.hd (by decide), TNot.ld_at HNN.out HH1.out.lb.whole, (HH1.out.lb.cell 2).trans n.get2⟩
  clear hu
  go_wp2_with fail
  refine hK.out _ _ HS (fun hHeld2 => ?_)
  clear hK hHeld2 hHeld; have hHeld := HS; clear HS
  try simp only [Act.put, rns]
  refine rgn 6 (v := .bool false) hHeld ?yq29 ?_
  case yq29 => (intro w hSw; obtain ⟨k0, k1, k2, k3⟩ := hSw; go_simp; try with_reducible rfl)
  simp only [Act.put, rns]
  refine rgn 7 (v := .bool false) hHeld ?yq30 ?_
  case yq30 => (intro w hSw; obtain ⟨k0, k1, k2, k3⟩ := hSw; go_simp; try with_reducible rfl)
  simp only [Act.put, rns]
  refine rgn 8 (v := ?vq31) hHeld ?yq31 ?_
  case yq31 => (intro w hSw; obtain ⟨k0, k1, k2, k3⟩ := hSw; go_simp; try with_reducible rfl)
  simp only [Act.put, rns]
  refine rgn 9 (v := ?vq32) hHeld ?yq32 ?_
  case yq32 => (intro w hSw; obtain ⟨k0, k1, k2, k3⟩ := hSw; go_simp; try with_reducible rfl)
  simp only [Act.put, rns]
  refine rgn 10 (v := ?vq33) hHeld ?yq33 ?_
  case yq33 => (intro w hSw; obtain ⟨k0, k1, k2, k3⟩ := hSw; go_simp; try with_reducible rfl)
  simp only [Act.put, rns]
  refine rgn 11 (v := ?vq34) hHeld ?yq34 ?_
  case yq34 => (intro w hSw; obtain ⟨k0, k1, k2, k3⟩ := hSw; go_simp; try with_reducible rfl)
  simp only [Act.put, rns]
  refine rgn 12 (v := ?vq35) hHeld ?yq35 ?_
  case yq35 => (intro w hSw; obtain ⟨k0, k1, k2, k3⟩ := hSw; go_simp; try with_reducible rfl)
  simp only [Act.put, rns]
  refine rgn 13 (v := ?vq36) hHeld ?yq36 ?_
  case yq36 => (intro w hSw; obtain ⟨k0, k1, k2, k3⟩ := hSw; go_simp; try with_reducible rfl)
  simp only [Act.put, rns]
  refine rgn 14 (v := .bool false) hHeld ?yq37 ?_
  case yq37 => (intro w hSw; obtain ⟨k0, k1, k2, k3⟩ := hSw; have kt := htoo; go_simp; try with_reducible rfl)
  simp only [Act.put, rns]
  refine rgn 15 (v := .bool false) hHeld ?yq38 ?_
  case yq38 => (intro w hSw; obtain ⟨k0, k1, k2, k3⟩ := hSw; go_simp; try with_reducible rfl)
  simp only [Act.put, rns]
  refine wpAnyH_done (by kernel_rfl) ?_ _
  clear hHeld HH HFI hfn
  go_upto_region 3 with fail
  go_cut [7] from 25 to 39 (fun s7 wx => s7 = .bool (awaitsB S n.blk) ∧ Hid (RIs w0 wx r S (boxO xn n.cells NT :: L)))
  case first =>
    have c37 := HH1.out.wc
    have c16 : V1.cell? ⟨r.nb, 16, none⟩ = some (.int .i64 S.q.blk) := HH1.out.qc (i := 3) S.q.get3
    have k3 := (HH1.out.lb.cell 3).trans n.get3
    have HAB := Lib.hid (show awaitsB S n.blk = (S.wa && (S.q.blk == n.blk)) from rfl)
    cases hwa : S.wa
    · rw [hwa] at c37
      go_quiet (fail)
      go_wp2_with fail
      go_meet
      rw [HAB.out, hwa]
      exact ⟨rfl, Lib.hid (HH1.out.upd0 (Upd.drewN NoF _ _))⟩
    · rw [hwa] at c37
      go_quiet (fail)
      go_wp2_with fail
      go_meet
      rw [HAB.out, hwa]
      exact ⟨by simp, Lib.hid (HH1.out.upd0 (Upd.drewN NoF _ _))⟩
  case rest =>
  obtain ⟨rfl, HH2⟩ := hcut
  clear HH1
  have k0 := (HH2.out.lb.cell 0).trans n.get0
  cases hab : awaitsB S n.blk
  · rw [hab] at HNS HNG HNE
    simp only [Bool.false_eq_true, if_false, Bool.false_and] at HNS HNG HNE
    clear hab
    go_wp2_with fail
    go_ret3
    exact ⟨nilV, by rw [HNG.out, HNE.out]; rfl, by rw [HNS.out]; exact HH2.out.pop.outNil⟩
  · rw [hab] at HNS HNG HNE
    simp only [if_true, Bool.true_and] at HNS HNG HNE
    clear hab
    have c37 := HH2.out.wc
    have f37 := HH2.out.box.frozen 37
    have HQ1 := Lib.hid (HH2.out.setw false)
    have HQ2 := Lib.hid (HQ1.out.upd0 (Upd.drew NoF _))
    clear HH2
    go_upto_region 17 with fail
    refine wp_region_held_drew (S := (fun X : World => X.cell? ⟨r.nb, 12, none⟩ = some (ptr r.db) ∧ X.cell? ⟨xn, 4, none⟩ = some (.int .u64 n.stamp))) (by kernel_rfl) (⟨HQ2.out.hd (i := 12) (by decide), (HQ2.out.lb.cell 4).trans n.get4⟩) (fun hHeld => ?_)
    obtain ⟨Q0, hQ0⟩ : ∃ X, (wc.setCell ⟨r.nb, 37, none⟩ (.bool false)).drew = X := ⟨_, rfl⟩
    rw [hQ0] at hHeld HQ2 ⊢
    clear hQ0 c37 f37 HQ1
    refine rgn 0 (v := ?vq83) hHeld ?yq83 ?_
    case yq83 => (intro w hSw; obtain ⟨k0, k1⟩ := hSw; go_simp; try with_reducible rfl)
    simp only [Act.put, rns]
    refine rgn 1 (v := ?vq84) hHeld ?yq84 ?_
    case yq84 => (intro w hSw; obtain ⟨k0, k1⟩ := hSw; go_simp; try with_reducible rfl)
    simp only [Act.put, rns]
    refine rgn 2 (v := ?vq85) hHeld ?yq85 ?_
    case yq85 => (intro w hSw; obtain ⟨k0, k1⟩ := hSw; go_simp; try with_reducible rfl)
    simp only [Act.put, rns]
    refine rgn 3 (v := ?vq86) hHeld ?yq86 ?_
    case yq86 => (intro w hSw; obtain ⟨k0, k1⟩ := hSw; go_simp; try with_reducible rfl)
    simp only [Act.put, rns]
    refine rgn 4 (v := ?vq87) hHeld ?yq87 ?_
    case yq87 => (intro w hSw; obtain ⟨k0, k1⟩ := hSw; go_simp; try with_reducible rfl)
    simp only [Act.put, rns]
    refine rgn 5 (v := ?vq88) hHeld ?yq88 ?_
    case yq88 => (intro w hSw; obtain ⟨k0, k1⟩ := hSw; go_simp; try with_reducible rfl)
    simp only [Act.put, rns]
    refine reg_step (i := 6) (by kernel_rfl) rfl (by kernel_rfl) (fun K hK => ?_)
    go_simp
    refine (rdrefused_is HQ2.out n.stamp HN.out.stamp.1).mono ?_
    rintro e Q1 ⟨rfl, hu⟩
    have HQ3 := Lib.hid (HQ2.out.upd0 hu)
    have HS : (fun X : World => X.cell? ⟨r.nb, 12, none⟩ = some (ptr r.db) ∧ X.cell? ⟨xn, 4, none⟩ = some (.int .u64 n.stamp)) Q1 := ⟨HQ3.out.hd (i := 12) (by decide), (HQ3.out.lb.cell 4).trans n.get4⟩
    clear hu
    go_wp2_with fail
    refine hK.out _ _ HS (fun hHeld2 => ?_)
    clear hK hHeld2 hHeld; have hHeld := HS; clear HS
    try simp only [Act.put, rns]
    refine rgn 7 (v := ?vq89) hHeld ?yq89 ?_
    case yq89 => (intro w hSw; go_simp; try with_reducible rfl)
    simp only [Act.put, rns]
    refine rgn 8 (v := ?vq90) hHeld ?yq90 ?_
    case yq90 => (intro w hSw; go_simp; try with_reducible rfl)
    simp only [Act.put, rns]
    refine rgn 9 (v := ?vq91) hHeld ?yq91 ?_
    case yq91 => (intro w hSw; go_simp; try with_reducible rfl)
    simp only [Act.put, rns]
    refine wpAnyH_done (by kernel_rfl) ?_ _
    clear hHeld HQ2
    go_wp2_with fail
    go_ret3
    exact ⟨nilV, by rw [HNG.out, HNE.out]; rfl, by rw [HNS.out]; exact HQ3.out.pop.outNil⟩
set_option maxRecDepth 100000 in
set_option maxHeartbeats 4000000 in
theorem rtake_back (h : RIs w0 W r S L) (n : Nt) (hn : n.Ok) (hf : (NE.fitsN S.c n && (n.too == S.core)) = true) (hk : n.kind = 8) : Calls Tryz.prog 70 #[ptr r.nb, .agg n.cells] W (REnds w0 r (backR S n) L) := by
  unfold backR backE
  have hk6 : (n.kind == 6) = false := by simp [hk]
  have hk7 : (n.kind == 7) = false := by simp [hk]
  have hk8 : (n.kind == 8) = true := by simp [hk]
  clear hk
  have hfn : NE.fitsN S.c n = true := by rw [Bool.and_eq_true] at hf; exact hf.1
  have htoo : (n.too != S.core) = false := by rw [Bool.and_eq_true] at hf; rw [bne, hf.2]; rfl
  clear hf
  have hnN := Nt.Ok.isN hn.isU
  have h1 := h.alloc n.cells NT
  obtain ⟨xn, hxn⟩ : ∃ x, W.heap.size = x := ⟨_, rfl⟩
  obtain ⟨V, hV⟩ : ∃ V, W.alloc (.cells n.cells NT) = V := ⟨_, rfl⟩
  rw [hxn, hV] at h1
  have HNN := Lib.hid hnN
  have HN := Lib.hid hn
  have HH := Lib.hid (h1.upd0 (Upd.drew NoF V))
  have HFI := Lib.hid (fun w => NE.rfits_any S.c n hn h.ok.ok.may w)
  clear h h1 hnN hn
  go_enter Tryz.func70, Tryz.ntmps70
  go_upto_region 1 with fail
  clear hxn hV
  refine wp_region_held_drew (S := (fun X : World => (TCfg.ld (.pointer (some ⟨r.nb, 0, none⟩))).run Tryz.prog X = .ok (.agg (CC S.c)) X ∧ X.cell? ⟨r.nb, 8, none⟩ = some (.int .i64 S.core) ∧ (TNot.ld (.pointer (some ⟨xn, 0, none⟩))).run Tryz.prog X = .ok (.agg n.cells) X ∧ X.cell? ⟨xn, 2, none⟩ = some (.int .i64 n.too))) (by kernel_rfl) (⟨HH.out.ldc, HH.out.hd (by decide), TNot.ld_at HNN.out HH.out.lb.whole, (HH.out.lb.cell 2).trans n.get2⟩) (fun hHeld => ?_)
  obtain ⟨V0, hV0⟩ : ∃ X, V.drew = X := ⟨_, rfl⟩
  rw [hV0] at hHeld HH ⊢
  clear hV0
  refine rgn 0 (v := ?vq24) hHeld ?yq24 ?_
  case yq24 => (intro w hSw; obtain ⟨k0, k1, k2, k3⟩ := hSw; go_simp; try with_reducible rfl)
  simp only [Act.put, rns]
  refine rgn 1 (v := ?vq25) hHeld ?yq25 ?_
  case yq25 => (intro w hSw; obtain ⟨k0, k1, k2, k3⟩ := hSw; go_simp; try with_reducible rfl)
  simp only [Act.put, rns]
  refine rgn 2 (v := ?vq26) hHeld ?yq26 ?_
  case yq26 => (intro w hSw; obtain ⟨k0, k1, k2, k3⟩ := hSw; go_simp; try with_reducible rfl)
  simp only [Act.put, rns]
  refine rgn 3 (v := ?vq27) hHeld ?yq27 ?_
  case yq27 => (intro w hSw; obtain ⟨k0, k1, k2, k3⟩ := hSw; go_simp; try with_reducible rfl)
  simp only [Act.put, rns]
  refine rgn 4 (v := ?vq28) hHeld ?yq28 ?_
  case yq28 => (intro w hSw; obtain ⟨k0, k1, k2, k3⟩ := hSw; go_simp; try with_reducible rfl)
  simp only [Act.put, rns]
  refine reg_step (i := 5) (by kernel_rfl) rfl (by kernel_rfl) (fun K hK => ?_)
  go_simp
  refine (HFI.out _).mono ?_
  rw [hfn]
  rintro e V1 ⟨rfl, hu⟩
  have HH1 := Lib.hid (HH.out.upd0 hu)
  have HS : (fun X : World => (TCfg.ld (.pointer (some ⟨r.nb, 0, none⟩))).run Tryz.prog X = .ok (.agg (CC S.c)) X ∧ X.cell? ⟨r.nb, 8, none⟩ = some (.int .i64 S.core) ∧ (TNot.ld (.pointer (some ⟨xn, 0, none⟩))).run Tryz.prog X = .ok (.agg n.cells) X ∧ X.cell? ⟨xn, 2, none⟩ = some (.int .i64 n.too)) V1 := ⟨HH1.out.ldc, HH1.out.hd (by decide), TNot.ld_at HNN.out HH1.out.lb.whole, (HH1.out.lb.cell 2).trans n.get2⟩
  clear hu
  go_wp2_with fail
  refine hK.out _ _ HS (fun hHeld2 => ?_)
  clear hK hHeld2 hHeld; have hHeld := HS; clear HS
  try simp only [Act.put, rns]
  refine rgn 6 (v := .bool false) hHeld ?yq29 ?_
  case yq29 => (intro w hSw; obtain ⟨k0, k1, k2, k3⟩ := hSw; go_simp; try with_reducible rfl)
  simp only [Act.put, rns]
  refine rgn 7 (v := .bool false) hHeld ?yq30 ?_
  case yq30 => (intro w hSw; obtain ⟨k0, k1, k2, k3⟩ := hSw; go_simp; try with_reducible rfl)
  simp only [Act.put, rns]
  refine rgn 8 (v := ?vq31) hHeld ?yq31 ?_
  case yq31 => (intro w hSw; obtain ⟨k0, k1, k2, k3⟩ := hSw; go_simp; try with_reducible rfl)
  simp only [Act.put, rns]
  refine rgn 9 (v := ?vq32) hHeld ?yq32 ?_
  case yq32 => (intro w hSw; obtain ⟨k0, k1, k2, k3⟩ := hSw; go_simp; try with_reducible rfl)
  simp only [Act.put, rns]
  refine rgn 10 (v := ?vq33) hHeld ?yq33 ?_
  case yq33 => (intro w hSw; obtain ⟨k0, k1, k2, k3⟩ := hSw; go_simp; try with_reducible rfl)
  simp only [Act.put, rns]
  refine rgn 11 (v := ?vq34) hHeld ?yq34 ?_
  case yq34 => (intro w hSw; obtain ⟨k0, k1, k2, k3⟩ := hSw; go_simp; try with_reducible rfl)
  simp only [Act.put, rns]
  refine rgn 12 (v := ?vq35) hHeld ?yq35 ?_
  case yq35 => (intro w hSw; obtain ⟨k0, k1, k2, k3⟩ := hSw; go_simp; try with_reducible rfl)
  simp only [Act.put, rns]
  refine rgn 13 (v := ?vq36) hHeld ?yq36 ?_
  case yq36 => (intro w hSw; obtain ⟨k0, k1, k2, k3⟩ := hSw; go_simp; try with_reducible rfl)
  simp only [Act.put, rns]
  refine rgn 14 (v := .bool false) hHeld ?yq37 ?_
  case yq37 => (intro w hSw; obtain ⟨k0, k1, k2, k3⟩ := hSw; have kt := htoo; go_simp; try with_reducible rfl)
  simp only [Act.put, rns]
  refine rgn 15 (v := .bool false) hHeld ?yq38 ?_
  case yq38 => (intro w hSw; obtain ⟨k0, k1, k2, k3⟩ := hSw; go_simp; try with_reducible rfl)
  simp only [Act.put, rns]
  refine wpAnyH_done (by kernel_rfl) ?_ _
  clear hHeld HH HFI hfn
  go_upto_region 3 with fail
  go_cut [7] from 25 to 39 (fun s7 wx => s7 = .bool (awaitsB S n.blk) ∧ Hid (RIs w0 wx r S (boxO xn n.cells NT :: L)))
  case first =>
    have c37 := HH1.out.wc
    have c16 : V1.cell? ⟨r.nb, 16, none⟩ = some (.int .i64 S.q.blk) := HH1.out.qc (i := 3) S.q.get3
    have k3 := (HH1.out.lb.cell 3).trans n.get3
    have HAB := Lib.hid (show awaitsB S n.blk = (S.wa && (S.q.blk == n.blk)) from rfl)
    cases hwa : S.wa
    · rw [hwa] at c37
      go_quiet (fail)
      go_wp2_with fail
      go_meet
      rw [HAB.out, hwa]
      exact ⟨rfl, Lib.hid (HH1.out.upd0 (Upd.drewN NoF _ _))⟩
    · rw [hwa] at c37
      go_quiet (fail)
      go_wp2_with fail
      go_meet
      rw [HAB.out, hwa]
      exact ⟨by simp, Lib.hid (HH1.out.upd0 (Upd.drewN NoF _ _))⟩
  case rest =>
  obtain ⟨rfl, HH2⟩ := hcut
  clear HH1
  have k0 := (HH2.out.lb.cell 0).trans n.get0
  have HQ2 := Lib.hid (HH2.out.upd0 (Upd.drew NoF wc))
  generalize awaitsB S n.blk = ab at *
  clear HH2
  go_upto_region 19 with fail
  refine wp_region_held_drew (S := (fun X : World => X.cell? ⟨r.nb, 10, none⟩ = some (ptr r.bb) ∧ X.cell? ⟨xn, 3, none⟩ = some (.int .i64 n.blk))) (by kernel_rfl) (⟨HQ2.out.hd (i := 10) (by decide), (HQ2.out.lb.cell 3).trans n.get3⟩) (fun hHeld => ?_)
  obtain ⟨Q0, hQ0⟩ : ∃ X, wc.drew = X := ⟨_, rfl⟩
  rw [hQ0] at hHeld HQ2 ⊢
  clear hQ0 k0
  refine rgn 0 (v := ?vq92) hHeld ?yq92 ?_
  case yq92 => (intro w hSw; obtain ⟨k0, k1⟩ := hSw; go_simp; try with_reducible rfl)
  simp only [Act.put, rns]
  refine rgn 1 (v := ?vq93) hHeld ?yq93 ?_
  case yq93 => (intro w hSw; obtain ⟨k0, k1⟩ := hSw; go_simp; try with_reducible rfl)
  simp only [Act.put, rns]
  refine rgn 2 (v := ?vq94) hHeld ?yq94 ?_
  case yq94 => (intro w hSw; obtain ⟨k0, k1⟩ := hSw; go_simp; try with_reducible rfl)
  simp only [Act.put, rns]
  refine rgn 3 (v := ?vq95) hHeld ?yq95 ?_
  case yq95 => (intro w hSw; obtain ⟨k0, k1⟩ := hSw; go_simp; try with_reducible rfl)
  simp only [Act.put, rns]
  refine rgn 4 (v := ?vq96) hHeld ?yq96 ?_
  case yq96 => (intro w hSw; obtain ⟨k0, k1⟩ := hSw; go_simp; try with_reducible rfl)
  simp only [Act.put, rns]
  refine rgn 5 (v := ?vq97) hHeld ?yq97 ?_
  case yq97 => (intro w hSw; obtain ⟨k0, k1⟩ := hSw; go_simp; try with_reducible rfl)
  simp only [Act.put, rns]
  refine reg_step (i := 6) (by kernel_rfl) rfl (by kernel_rfl) (fun K hK => ?_)
  go_simp
  refine (rbdrop_is HQ2.out n.blk).mono ?_
  rintro e Q1 ⟨rfl, hN2⟩
  have HS : (fun X : World => X.cell? ⟨r.nb, 10, none⟩ = some (ptr r.bb) ∧ X.cell? ⟨xn, 3, none⟩ = some (.int .i64 n.blk)) Q1 := ⟨hN2.hd (i := 10) (by decide), (hN2.lb.cell 3).trans n.get3⟩
  have HQ3 := Lib.hid hN2
  clear hN2
  go_wp2_with fail
  refine hK.out _ _ HS (fun hHeld2 => ?_)
  clear hK hHeld2 hHeld; have hHeld := HS; clear HS
  try simp only [Act.put, rns]
  refine rgn 7 (v := ?vq98) hHeld ?yq98 ?_
  case yq98 => (intro w hSw; go_simp; try with_reducible rfl)
  simp only [Act.put, rns]
  refine wpAnyH_done (by kernel_rfl) ?_ _
  clear hHeld HQ2
  generalize BK.dropB S.zs n.blk = db at *
  cases db
  · go_wp2_with fail
    go_ret3
    exact ⟨nilV, rfl, HQ3.out.pop.outNil⟩
  · go_wp2_with fail
    go_ret3
    exact ⟨nilV, rfl, HQ3.out.pop.outNil⟩
set_option maxRecDepth 100000 in
set_option maxHeartbeats 4000000 in
theorem rtake_asked (h : RIs w0 W r S L) (n : Nt) (hn : n.Ok) (hf : (NE.fitsN S.c n && (n.too == S.core)) = true) (hk : n.kind = 4 ∨ n.kind = 5) (hap : ∀ b, bkI S.zs b = true → lnO r.p S.A b = none) : Calls Tryz.prog 70 #[ptr r.nb, .agg n.cells] W (REnds w0 r (askedR r.p S n) L) := by
  have hk6 : (n.kind == 6) = false := by simp; omega
  have hk7 : (n.kind == 7) = false := by simp; omega
  have hk8 : (n.kind == 8) = false := by simp; omega
  have HAS := Lib.hid (fun (X : World) (L' : List Obj) (hx : RIs w0 X r S L') => rnasked_is hx n hn hk hap)
  have HAG : Hid ((askedR r.p S n).g = false ∧ (askedR r.p S n).e = 0) := Lib.hid (by unfold askedR; split <;> exact ⟨rfl, rfl⟩)
  clear hk hap
  have hfn : NE.fitsN S.c n = true := by rw [Bool.and_eq_true] at hf; exact hf.1
  have htoo : (n.too != S.core) = false := by rw [Bool.and_eq_true] at hf; rw [bne, hf.2]; rfl
  clear hf
  have hnN := Nt.Ok.isN hn.isU
  have h1 := h.alloc n.cells NT
  obtain ⟨xn, hxn⟩ : ∃ x, W.heap.size = x := ⟨_, rfl⟩
  obtain ⟨V, hV⟩ : ∃ V, W.alloc (.cells n.cells NT) = V := ⟨_, rfl⟩
  rw [hxn, hV] at h1
  have HNN := Lib.hid hnN
  have HN := Lib.hid hn
  have HH := Lib.hid (h1.upd0 (Upd.drew NoF V))
  have HFI := Lib.hid (fun w => NE.rfits_any S.c n hn h.ok.ok.may w)
  clear h h1 hnN hn
  go_enter Tryz.func70, Tryz.ntmps70
  go_upto_region 1 with fail
  clear hxn hV
  refine wp_region_held_drew (S := (fun X : World => (TCfg.ld (.pointer (some ⟨r.nb, 0, none⟩))).run Tryz.prog X = .ok (.agg (CC S.c)) X ∧ X.cell? ⟨r.nb, 8, none⟩ = some (.int .i64 S.core) ∧ (TNot.ld (.pointer (some ⟨xn, 0, none⟩))).run Tryz.prog X = .ok (.agg n.cells) X ∧ X.cell? ⟨xn, 2, none⟩ = some (.int .i64 n.too))) (by kernel_rfl) (⟨HH.out.ldc, HH.out.hd (by decide), TNot.ld_at HNN.out HH.out.lb.whole, (HH.out.lb.cell 2).trans n.get2⟩) (fun hHeld => ?_)
  obtain ⟨V0, hV0⟩ : ∃ X, V.drew = X := ⟨_, rfl⟩
  rw [hV0] at hHeld HH ⊢
  clear hV0
  refine rgn 0 (v := ?vq24) hHeld ?yq24 ?_
  case yq24 => (intro w hSw; obtain ⟨k0, k1, k2, k3⟩ := hSw; go_simp; try with_reducible rfl)
  simp only [Act.put, rns]
  refine rgn 1 (v := ?vq25) hHeld ?yq25 ?_
  case yq25 => (intro w hSw; obtain ⟨k0, k1, k2, k3⟩ := hSw; go_simp; try with_reducible rfl)
  simp only [Act.put, rns]
  refine rgn 2 (v := ?vq26) hHeld ?yq26 ?_
  case yq26 => (intro w hSw; obtain ⟨k0, k1, k2, k3⟩ := hSw; go_simp; try with_reducible rfl)
  simp only [Act.put, rns]
  refine rgn 3 (v := ?vq27) hHeld ?yq27 ?_
  case yq27 => (intro w hSw; obtain ⟨k0, k1, k2, k3⟩ := hSw; go_simp; try with_reducible rfl)
  simp only [Act.put, rns]
  refine rgn 4 (v := ?vq28) hHeld ?yq28 ?_
  case yq28 => (intro w hSw; obtain ⟨k0, k1, k2, k3⟩ := hSw; go_simp; try with_reducible rfl)
  simp only [Act.put, rns]
  refine reg_step (i := 5) (by kernel_rfl) rfl (by kernel_rfl) (fun K hK => ?_)
  go_simp
  refine (HFI.out _).mono ?_
  rw [hfn]
  rintro e V1 ⟨rfl, hu⟩
  have HH1 := Lib.hid (HH.out.upd0 hu)
  have HS : (fun X : World => (TCfg.ld (.pointer (some ⟨r.nb, 0, none⟩))).run Tryz.prog X = .ok (.agg (CC S.c)) X ∧ X.cell? ⟨r.nb, 8, none⟩ = some (.int .i64 S.core) ∧ (TNot.ld (.pointer (some ⟨xn, 0, none⟩))).run Tryz.prog X = .ok (.agg n.cells) X ∧ X.cell? ⟨xn, 2, none⟩ = some (.int .i64 n.too)) V1 := ⟨HH1.out.ldc, HH1.out.hd (by decide), TNot.ld_at HNN.out HH1.out.lb.whole, (HH1.out.lb.cell 2).trans n.get2⟩
  clear hu
  go_wp2_with fail
  refine hK.out _ _ HS (fun hHeld2 => ?_)
  clear hK hHeld2 hHeld; have hHeld := HS; clear HS
  try simp only [Act.put, rns]
  refine rgn 6 (v := .bool false) hHeld ?yq29 ?_
  case yq29 => (intro w hSw; obtain ⟨k0, k1, k2, k3⟩ := hSw; go_simp; try with_reducible rfl)
  simp only [Act.put, rns]
  refine rgn 7 (v := .bool false) hHeld ?yq30 ?_
  case yq30 => (intro w hSw; obtain ⟨k0, k1, k2, k3⟩ := hSw; go_simp; try with_reducible rfl)
  simp only [Act.put, rns]
  refine rgn 8 (v := ?vq31) hHeld ?yq31 ?_
  case yq31 => (intro w hSw; obtain ⟨k0, k1, k2, k3⟩ := hSw; go_simp; try with_reducible rfl)
  simp only [Act.put, rns]
  refine rgn 9 (v := ?vq32) hHeld ?yq32 ?_
  case yq32 => (intro w hSw; obtain ⟨k0, k1, k2, k3⟩ := hSw; go_simp; try with_reducible rfl)
  simp only [Act.put, rns]
  refine rgn 10 (v := ?vq33) hHeld ?yq33 ?_
  case yq33 => (intro w hSw; obtain ⟨k0, k1, k2, k3⟩ := hSw; go_simp; try with_reducible rfl)
  simp only [Act.put, rns]
  refine rgn 11 (v := ?vq34) hHeld ?yq34 ?_
  case yq34 => (intro w hSw; obtain ⟨k0, k1, k2, k3⟩ := hSw; go_simp; try with_reducible rfl)
  simp only [Act.put, rns]
  refine rgn 12 (v := ?vq35) hHeld ?yq35 ?_
  case yq35 => (intro w hSw; obtain ⟨k0, k1, k2, k3⟩ := hSw; go_simp; try with_reducible rfl)
  simp only [Act.put, rns]
  refine rgn 13 (v := ?vq36) hHeld ?yq36 ?_
  case yq36 => (intro w hSw; obtain ⟨k0, k1, k2, k3⟩ := hSw; go_simp; try with_reducible rfl)
  simp only [Act.put, rns]
  refine rgn 14 (v := .bool false) hHeld ?yq37 ?_
  case yq37 => (intro w hSw; obtain ⟨k0, k1, k2, k3⟩ := hSw; have kt := htoo; go_simp; try with_reducible rfl)
  simp only [Act.put, rns]
  refine rgn 15 (v := .bool false) hHeld ?yq38 ?_
  case yq38 => (intro w hSw; obtain ⟨k0, k1, k2, k3⟩ := hSw; go_simp; try with_reducible rfl)
  simp only [Act.put, rns]
  refine wpAnyH_done (by kernel_rfl) ?_ _
  clear hHeld HH HFI hfn
  go_upto_region 3 with fail
  go_cut [7] from 25 to 39 (fun s7 wx => s7 = .bool (awaitsB S n.blk) ∧ Hid (RIs w0 wx r S (boxO xn n.cells NT :: L)))
  case first =>
    have c37 := HH1.out.wc
    have c16 : V1.cell? ⟨r.nb, 16, none⟩ = some (.int .i64 S.q.blk) := HH1.out.qc (i := 3) S.q.get3
    have k3 := (HH1.out.lb.cell 3).trans n.get3
    have HAB := Lib.hid (show awaitsB S n.blk = (S.wa && (S.q.blk == n.blk)) from rfl)
    cases hwa : S.wa
    · rw [hwa] at c37
      go_quiet (fail)
      go_wp2_with fail
      go_meet
      rw [HAB.out, hwa]
      exact ⟨rfl, Lib.hid (HH1.out.upd0 (Upd.drewN NoF _ _))⟩
    · rw [hwa] at c37
      go_quiet (fail)
      go_wp2_with fail
      go_meet
      rw [HAB.out, hwa]
      exact ⟨by simp, Lib.hid (HH1.out.upd0 (Upd.drewN NoF _ _))⟩
  case rest =>
  obtain ⟨rfl, HH2⟩ := hcut
  clear HH1
  have k0 := (HH2.out.lb.cell 0).trans n.get0
  generalize awaitsB S n.blk = ab at *
  have l3 := TNot.ld_at HNN.out HH2.out.lb.whole
  obtain ⟨t, ht⟩ : ∃ t, askedR r.p S n = t := ⟨_, rfl⟩
  rw [ht] at HAG
  have HT := Lib.hid ht
  clear ht
  go_wp2_with fail
  refine (HAS.out _ _ HH2.out).mono ?_
  rintro e X1 ⟨rfl, ho, hU, hs⟩
  rw [HT.out] at ho hs
  have HOO := Lib.hid ho
  have HX := Lib.hid (hs.alloc (askedO r.p S n).cells NT)
  have hz := Nt.Ok.isN hU
  have y3 := bsN_run hz.1 X1
  have HU := Lib.hid hU
  clear ho hs hz hU l3 HH2 HAS
  have HX2 := Lib.hid (HX.out.toOut HU.out)
  clear HX
  generalize askedO r.p S n = m at *
  go_wp2_with fail
  go_ret3
  exact ⟨sl X1.heap.size 1 1, by rw [HT.out, HAG.out.1, HAG.out.2]; rfl, by rw [HT.out, HOO.out]; exact HX2.out.pop2⟩
theorem rtake_is (h : RIs w0 W r S L) (n : Nt) (hn : n.Ok) (hc : 0 ≤ S.core ∧ S.core < S.c.cores) (hap : ∀ b, bkI S.zs b = true → lnO r.p S.A b = none) (hqk : S.wa = true → S.q.kind = 1 ∨ S.q.kind = 2) :
    Calls Tryz.prog 70 #[ptr r.nb, .agg n.cells] W (REnds w0 r (takeR r.p S n) L) := by
  unfold takeR
  have he := rfit_eq h.ok.ok n hc
  cases hf : fitsB S n with
  | false =>
    simp only [Bool.false_eq_true, if_false]
    exact rtake_nofit h n hn (he.trans hf)
  | true =>
    simp only [if_true]
    have hf' := he.trans hf
    have hk := (fits_at hf hc.1).1
    by_cases h6 : n.kind = 6
    · rw [if_pos h6]; exact rtake_data h n hn hf' h6 hqk
    rw [if_neg h6]
    by_cases h7 : n.kind = 7
    · rw [if_pos h7]; exact rtake_nack h n hn hf' h7
    rw [if_neg h7]
    by_cases h8 : n.kind = 8
    · rw [if_pos h8]; exact rtake_back h n hn hf' h8
    rw [if_neg h8]
    exact rtake_asked h n hn hf' (by omega) hap
end
end Go.Proofs.YtjgeflbhmhmjdaaGreat.NR
