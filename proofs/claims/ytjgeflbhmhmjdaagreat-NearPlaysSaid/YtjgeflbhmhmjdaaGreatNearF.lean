/- A core's side: a block is back; a block can't be had; a block comes. -/
import Derived.Test.YtjgeflbhmhmjdaaGreatNearE
import Derived.Deep.QuietTactic
set_option linter.unusedSimpArgs false
set_option linter.unusedVariables false
namespace Go.Proofs.YtjgeflbhmhmjdaaGreat.NR
open Go.RowKit
open BU (IsU words)
open PL (Cfg CC CV May)
open KA (Kp CIs OkA LT UT KT)
open DL (DS CD stampE)
attribute [local go_sem] Oper.semAt_some
attribute [local go_sem ↓] TNot.ld_eq TNot.st_eq TNot.al_eq TNot.bx_eq TBlk.ld_eq TBlk.st_eq TBlk.al_eq TBlk.bx_eq TLin.ld_eq TLin.st_eq TLin.al_eq TLin.bx_eq bdN_eq bsN_eq bdL_eq
attribute [local go_sem] TNot.al_run TNot.bx_run TBlk.al_run TBlk.bx_run TLin.al_run TLin.bx_run

abbrev nilV : Value := .slice none 0 0
theorem Row.nilN (W : World) : Row W NT 24 (.slice none 0 0) 0 [] := ⟨rfl, .inl ⟨rfl, rfl⟩⟩
section
variable {w0 W W' V : World} {a : Ad} {S : Ns} {L : List Obj}
def retV (out : Value) (g : Bool) (e : Int) : Value := .tuple #[out, .bool g, .int .i64 e]
theorem NIs.outNil (h : NIs w0 W a S L) : NIs w0 W a S (outO nilV [] :: L) :=
  ⟨(h.sep.push (Φ := outO nilV []) (Upd.refl _ _) ⟨Row.nilN W, fun k hk => by simp [Value.ownBlock] at hk⟩).sink 8, h.ok⟩
theorem NIs.toOut {g : Nat} {n : Nt} (h : NIs w0 W a S (boxO g n.cells NT :: L)) (hn : IsU n.D) : NIs w0 W a S (outO (sl g 1 1) [n] :: L) :=
  ⟨((h.sep.pickN 8 rfl).head (fun F hF => out_one (Nt.Ok.isN hn).1 hF)).sink 8, h.ok⟩
theorem NIs.pop2 {Φ Ψ : Obj} (h : NIs w0 W a S (Φ :: Ψ :: L)) : NIs w0 W a S (Φ :: L) := ⟨h.sep.drop 9 (by simp), h.ok⟩
def backE (S : Ns) (n : Nt) : Int := if BK.dropB S.zs n.blk then 0 else 8
set_option maxRecDepth 100000 in
set_option maxHeartbeats 1000000 in
theorem nback_is (h : NIs w0 W a S L) (n : Nt) (hn : n.Ok) : Calls Tryz.prog 58 #[ptr a.nb, .agg n.cells] W fun e W' => e = .returned (retV nilV false (backE S n)) ∧ NIs w0 W' a { S with zs := BK.dropS S.zs n.blk } L := by
  have hnN := Nt.Ok.isN hn.isU
  have h1 := h.alloc n.cells NT
  have hu1 := Upd.alloc NoF W (.cells n.cells NT)
  obtain ⟨V, hV⟩ : ∃ V, W.alloc (.cells n.cells NT) = V := ⟨_, rfl⟩
  rw [hV] at h1 hu1
  have HV := Lib.hid hV; have HH := Lib.hid h1; have HU1 := Lib.hid hu1; have HN := Lib.hid hn; have HNN := Lib.hid hnN
  have hd := h1.upd0 (Upd.drew NoF V)
  have HF : Hid (∀ (X : World) (S' : Ns), NIs w0 X a S' (boxO W.heap.size n.cells NT :: L) → S'.head a = S.head a → (fun X => X.cell? ⟨a.nb, 10, none⟩ = some (ptr a.bb) ∧ X.cell? ⟨W.heap.size, 3, none⟩ = some (.int .i64 n.blk)) X) := Lib.hid (fun X S' hx e => ⟨(hx.hd (i := 10) (by decide)).trans (by rw [e]; rfl), (hx.lb.cell 3).trans n.get3⟩)
  have HC := Lib.hid (bdrop_is hd n.blk)
  have HS0 := Lib.hid (HF.out _ S hd rfl)
  have he : backE S n = if BK.dropB S.zs n.blk then 0 else 8 := rfl
  rw [he]
  clear h h1 hu1 hn hnN hV hd he
  generalize hB : BK.dropB S.zs n.blk = B at *
  clear hB
  generalize BK.dropS S.zs n.blk = zs' at *
  cases B
  · go_enter Tryz.func58, Tryz.ntmps58
    go_upto_region 1 with fail
    rw [HV.out]
    refine wp_region_held_drew (S := (fun X => X.cell? ⟨a.nb, 10, none⟩ = some (ptr a.bb) ∧ X.cell? ⟨W.heap.size, 3, none⟩ = some (.int .i64 n.blk))) (by kernel_rfl) (HS0.out) (fun hHeld => ?_)
    refine rgn 0 (v := ?vq1) hHeld ?yq1 ?_
    case yq1 => (intro w hSw; obtain ⟨k0, k1⟩ := hSw; go_simp; try with_reducible rfl)
    simp only [Act.put, rns]
    refine rgn 1 (v := ?vq2) hHeld ?yq2 ?_
    case yq2 => (intro w hSw; obtain ⟨k0, k1⟩ := hSw; go_simp; try with_reducible rfl)
    simp only [Act.put, rns]
    refine rgn 2 (v := ?vq3) hHeld ?yq3 ?_
    case yq3 => (intro w hSw; obtain ⟨k0, k1⟩ := hSw; go_simp; try with_reducible rfl)
    simp only [Act.put, rns]
    refine rgn 3 (v := ?vq4) hHeld ?yq4 ?_
    case yq4 => (intro w hSw; obtain ⟨k0, k1⟩ := hSw; go_simp; try with_reducible rfl)
    simp only [Act.put, rns]
    refine rgn 4 (v := ?vq5) hHeld ?yq5 ?_
    case yq5 => (intro w hSw; obtain ⟨k0, k1⟩ := hSw; go_simp; try with_reducible rfl)
    simp only [Act.put, rns]
    refine rgn 5 (v := ?vq6) hHeld ?yq6 ?_
    case yq6 => (intro w hSw; obtain ⟨k0, k1⟩ := hSw; go_simp; try with_reducible rfl)
    simp only [Act.put, rns]
    refine reg_step (i := 6) (by kernel_rfl) rfl (by kernel_rfl) (fun K hK => ?_)
    go_simp
    refine HC.out.mono ?_
    rintro e W2 ⟨rfl, hN2⟩
    have HS : (fun X => X.cell? ⟨a.nb, 10, none⟩ = some (ptr a.bb) ∧ X.cell? ⟨W.heap.size, 3, none⟩ = some (.int .i64 n.blk)) W2 := HF.out _ _ hN2 rfl
    have HN2 := Lib.hid hN2
    clear hN2
    go_wp2_with fail
    refine hK.out _ _ HS (fun hHeld2 => ?_)
    clear hK hHeld2 hHeld; have hHeld := HS; clear HS
    try simp only [Act.put, rns]
    refine rgn 7 (v := .bool true) hHeld ?yq7 ?_
    case yq7 => (intro w hSw; obtain ⟨k0, k1⟩ := hSw; go_simp; try with_reducible rfl)
    simp only [Act.put, rns]
    refine wpAnyH_done (by kernel_rfl) ?_ _
    go_wp2
    go_ret3
    exact ⟨rfl, HN2.out.pop⟩
  · go_enter Tryz.func58, Tryz.ntmps58
    go_upto_region 1 with fail
    rw [HV.out]
    refine wp_region_held_drew (S := (fun X => X.cell? ⟨a.nb, 10, none⟩ = some (ptr a.bb) ∧ X.cell? ⟨W.heap.size, 3, none⟩ = some (.int .i64 n.blk))) (by kernel_rfl) (HS0.out) (fun hHeld => ?_)
    refine rgn 0 (v := ?vq8) hHeld ?yq8 ?_
    case yq8 => (intro w hSw; obtain ⟨k0, k1⟩ := hSw; go_simp; try with_reducible rfl)
    simp only [Act.put, rns]
    refine rgn 1 (v := ?vq9) hHeld ?yq9 ?_
    case yq9 => (intro w hSw; obtain ⟨k0, k1⟩ := hSw; go_simp; try with_reducible rfl)
    simp only [Act.put, rns]
    refine rgn 2 (v := ?vq10) hHeld ?yq10 ?_
    case yq10 => (intro w hSw; obtain ⟨k0, k1⟩ := hSw; go_simp; try with_reducible rfl)
    simp only [Act.put, rns]
    refine rgn 3 (v := ?vq11) hHeld ?yq11 ?_
    case yq11 => (intro w hSw; obtain ⟨k0, k1⟩ := hSw; go_simp; try with_reducible rfl)
    simp only [Act.put, rns]
    refine rgn 4 (v := ?vq12) hHeld ?yq12 ?_
    case yq12 => (intro w hSw; obtain ⟨k0, k1⟩ := hSw; go_simp; try with_reducible rfl)
    simp only [Act.put, rns]
    refine rgn 5 (v := ?vq13) hHeld ?yq13 ?_
    case yq13 => (intro w hSw; obtain ⟨k0, k1⟩ := hSw; go_simp; try with_reducible rfl)
    simp only [Act.put, rns]
    refine reg_step (i := 6) (by kernel_rfl) rfl (by kernel_rfl) (fun K hK => ?_)
    go_simp
    refine HC.out.mono ?_
    rintro e W2 ⟨rfl, hN2⟩
    have HS : (fun X => X.cell? ⟨a.nb, 10, none⟩ = some (ptr a.bb) ∧ X.cell? ⟨W.heap.size, 3, none⟩ = some (.int .i64 n.blk)) W2 := HF.out _ _ hN2 rfl
    have HN2 := Lib.hid hN2
    clear hN2
    go_wp2_with fail
    refine hK.out _ _ HS (fun hHeld2 => ?_)
    clear hK hHeld2 hHeld; have hHeld := HS; clear HS
    try simp only [Act.put, rns]
    refine rgn 7 (v := .bool false) hHeld ?yq14 ?_
    case yq14 => (intro w hSw; obtain ⟨k0, k1⟩ := hSw; go_simp; try with_reducible rfl)
    simp only [Act.put, rns]
    refine wpAnyH_done (by kernel_rfl) ?_ _
    go_wp2
    go_ret3
    exact ⟨rfl, HN2.out.pop⟩
def nackS (S : Ns) (n : Nt) : Ns := if awaitsB S n.blk then { S with wa := false } else S
def nackG (S : Ns) (n : Nt) : Bool := awaitsB S n.blk && DL.refusedB S.d n.stamp
def nackE (S : Ns) (n : Nt) : Int := if awaitsB S n.blk then 0 else 8
set_option maxRecDepth 100000 in
set_option maxHeartbeats 1000000 in
theorem nack_is (h : NIs w0 W a S L) (n : Nt) (hn : n.Ok) : Calls Tryz.prog 57 #[ptr a.nb, .agg n.cells] W fun e W' => e = .returned (retV nilV (nackG S n) (nackE S n)) ∧ NIs w0 W' a (nackS S n) L := by
  have hnN := Nt.Ok.isN hn.isU
  have h1 := h.alloc n.cells NT
  have hu1 := Upd.alloc NoF W (.cells n.cells NT)
  obtain ⟨V, hV⟩ : ∃ V, W.alloc (.cells n.cells NT) = V := ⟨_, rfl⟩
  rw [hV] at h1 hu1
  have HV := Lib.hid hV; have HH := Lib.hid h1; have HU1 := Lib.hid hu1; have HN := Lib.hid hn; have HNN := Lib.hid hnN
  have k3 : V.cell? ⟨W.heap.size, 3, none⟩ = some (.int .i64 n.blk) := (h1.lb.cell 3).trans n.get3
  have HA := Lib.hid (awaits_is h1 n.blk)
  have h2 := h1.setw false
  have f37 : V.frozen? ⟨a.nb, 37, none⟩ = false := h1.box.frozen 37
  have c37 : V.cell? ⟨a.nb, 37, none⟩ = some (.bool S.wa) := h1.wc
  have HF : Hid (∀ X, Upd NoF (V.setCell ⟨a.nb, 37, none⟩ (.bool false)) X → (fun X => Upd NoF (V.setCell ⟨a.nb, 37, none⟩ (.bool false)) X ∧ X.cell? ⟨a.nb, 12, none⟩ = some (ptr a.db) ∧ X.cell? ⟨W.heap.size, 4, none⟩ = some (.int .u64 n.stamp)) X) := Lib.hid (fun X hX => have hx := h2.upd0 hX; ⟨hX, hx.hd (by decide), (hx.lb.cell 4).trans n.get4⟩)
  have HC := Lib.hid (fun X hX => DL.refused_any a.db S.c.nest S.d n.stamp X (h2.upd0 hX).deal)
  have HD := Lib.hid (Upd.drew NoF (V.setCell ⟨a.nb, 37, none⟩ (.bool false)))
  have HP := Lib.hid h2
  have HQ := Lib.hid h1
  unfold nackS nackG nackE
  clear h h1 hu1 hn hnN hV h2
  generalize S.wa = wa at c37
  cases hB : awaitsB S n.blk
  · rw [hB] at HA
    clear hB
    go_enter Tryz.func57, Tryz.ntmps57
    go_upto_region 1 with fail
    rw [HV.out]
    go_wp2_with (go_at_call 100; refine HA.out.mono ?_; rintro e W2 ⟨rfl, rfl⟩)
    go_ret3
    exact ⟨rfl, HQ.out.pop⟩
  · rw [hB] at HA
    clear hB
    generalize DL.refusedB S.d n.stamp = rb at *
    go_enter Tryz.func57, Tryz.ntmps57
    go_upto_region 1 with fail
    rw [HV.out]
    go_upto_region 4 with (go_at_call 100; refine HA.out.mono ?_; rintro e W2 ⟨rfl, rfl⟩)
    refine wp_region_held_drew (S := (fun X => Upd NoF (V.setCell ⟨a.nb, 37, none⟩ (.bool false)) X ∧ X.cell? ⟨a.nb, 12, none⟩ = some (ptr a.db) ∧ X.cell? ⟨W.heap.size, 4, none⟩ = some (.int .u64 n.stamp))) (by kernel_rfl) (HF.out _ HD.out) (fun hHeld => ?_)
    refine rgn 0 (v := ?vq15) hHeld ?yq15 ?_
    case yq15 => (intro w hSw; obtain ⟨-, k0, k1⟩ := hSw; go_simp; try with_reducible rfl)
    simp only [Act.put, rns]
    refine rgn 1 (v := ?vq16) hHeld ?yq16 ?_
    case yq16 => (intro w hSw; obtain ⟨-, k0, k1⟩ := hSw; go_simp; try with_reducible rfl)
    simp only [Act.put, rns]
    refine rgn 2 (v := ?vq17) hHeld ?yq17 ?_
    case yq17 => (intro w hSw; obtain ⟨-, k0, k1⟩ := hSw; go_simp; try with_reducible rfl)
    simp only [Act.put, rns]
    refine rgn 3 (v := ?vq18) hHeld ?yq18 ?_
    case yq18 => (intro w hSw; obtain ⟨-, k0, k1⟩ := hSw; go_simp; try with_reducible rfl)
    simp only [Act.put, rns]
    refine rgn 4 (v := ?vq19) hHeld ?yq19 ?_
    case yq19 => (intro w hSw; obtain ⟨-, k0, k1⟩ := hSw; go_simp; try with_reducible rfl)
    simp only [Act.put, rns]
    refine rgn 5 (v := ?vq20) hHeld ?yq20 ?_
    case yq20 => (intro w hSw; obtain ⟨-, k0, k1⟩ := hSw; go_simp; try with_reducible rfl)
    simp only [Act.put, rns]
    refine reg_step (i := 6) (by kernel_rfl) rfl (by kernel_rfl) (fun K hK => ?_)
    go_simp
    refine (HC.out _ hHeld.1).mono ?_
    rintro e W2 ⟨rfl, hu⟩
    have HS : (fun X => Upd NoF (V.setCell ⟨a.nb, 37, none⟩ (.bool false)) X ∧ X.cell? ⟨a.nb, 12, none⟩ = some (ptr a.db) ∧ X.cell? ⟨W.heap.size, 4, none⟩ = some (.int .u64 n.stamp)) W2 := HF.out _ (hHeld.1.trans hu (fun _ _ h => h))
    clear hu
    go_wp2_with fail
    refine hK.out _ _ HS (fun hHeld2 => ?_)
    clear hK hHeld2 hHeld; have hHeld := HS; clear HS
    try simp only [Act.put, rns]
    refine rgn 7 (v := ?vq21) hHeld ?yq21 ?_
    case yq21 => (intro w hSw; obtain ⟨-, k0, k1⟩ := hSw; go_simp; try with_reducible rfl)
    simp only [Act.put, rns]
    refine rgn 8 (v := ?vq22) hHeld ?yq22 ?_
    case yq22 => (intro w hSw; obtain ⟨-, k0, k1⟩ := hSw; go_simp; try with_reducible rfl)
    simp only [Act.put, rns]
    refine rgn 9 (v := ?vq23) hHeld ?yq23 ?_
    case yq23 => (intro w hSw; obtain ⟨-, k0, k1⟩ := hSw; go_simp; try with_reducible rfl)
    simp only [Act.put, rns]
    refine wpAnyH_done (by kernel_rfl) ?_ _
    go_wp2
    go_ret3
    exact ⟨rfl, (HP.out.upd0 hHeld.1).pop⟩
def lineOf (n : Nt) : Ln := ⟨n.blk, n.state, n.D⟩
def dataB (S : Ns) (n : Nt) : Bool := awaitsB S n.blk && !((n.state == 3) != (S.q.kind == 2))
def dataE (p : Kp) (S : Ns) (n : Nt) : Int := if dataB S n then p.putE S.A (lineOf n) else 8
def dataS (p : Kp) (S : Ns) (n : Nt) : Ns := if dataB S n then (if p.putE S.A (lineOf n) = 0 then { S with A := p.putA S.A (lineOf n), M := p.putM S.A S.M (lineOf n), wa := false } else { S with A := p.putA S.A (lineOf n), M := p.putM S.A S.M (lineOf n) }) else S
def dataO (p : Kp) (S : Ns) (n : Nt) : List Nt := if dataB S n && (p.putE S.A (lineOf n) == 0) then [noteP S 11 n.blk] else []
theorem lineOf_ok {n : Nt} (hn : n.Ok) : (lineOf n).Ok := ⟨hn.state, hn.isU⟩
set_option maxRecDepth 100000 in
set_option maxHeartbeats 2000000 in
theorem data_is (h : NIs w0 W a S L) (n : Nt) (hn : n.Ok) : Calls Tryz.prog 56 #[ptr a.nb, .agg n.cells] W fun e W' => ∃ v, e = .returned (retV v false (dataE a.p S n)) ∧ NIs w0 W' a (dataS a.p S n) (outO v (dataO a.p S n) :: L) := by
  have hnN := Nt.Ok.isN hn.isU
  have h1 := h.alloc n.cells NT
  have hu1 := Upd.alloc NoF W (.cells n.cells NT)
  obtain ⟨V, hV⟩ : ∃ V, W.alloc (.cells n.cells NT) = V := ⟨_, rfl⟩
  rw [hV] at h1 hu1
  have HV := Lib.hid hV; have HH := Lib.hid h1; have HU1 := Lib.hid hu1; have HN := Lib.hid hn; have HNN := Lib.hid hnN
  have HF1 := Lib.hid (fun X (hX : Upd NoF V X) => (show X.cell? ⟨W.heap.size, 3, none⟩ = some (.int .i64 n.blk) ∧ X.cell? ⟨W.heap.size, 5, none⟩ = some (.int .u8 n.state) ∧ X.cell? ⟨a.nb, 13, none⟩ = some (.int .u8 S.q.kind) from have hx := h1.upd0 hX; ⟨(hx.lb.cell 3).trans n.get3, (hx.lb.cell 5).trans n.get5, hx.qc (i := 0) S.q.get0⟩))
  have HA := Lib.hid (fun X (hX : Upd NoF V X) => awaits_is (h1.upd0 hX) n.blk)
  have HF : Hid (∀ (X : World) (S' : Ns), NIs w0 X a S' (boxO W.heap.size n.cells NT :: L) → S'.head a = S.head a → (fun X => X.cell? ⟨a.nb, 9, none⟩ = some (ptr a.p.kb) ∧ X.cell? ⟨W.heap.size, 3, none⟩ = some (.int .i64 n.blk) ∧ X.cell? ⟨W.heap.size, 5, none⟩ = some (.int .u8 n.state) ∧ (TBlk.ld (.pointer (some ⟨W.heap.size, 8, none⟩))).run Tryz.prog X = .ok (.agg n.D) X) X) := Lib.hid (fun X S' hx e => ⟨(hx.hd (i := 9) (by decide)).trans (by rw [e]; rfl), (hx.lb.cell 3).trans n.get3, (hx.lb.cell 5).trans n.get5, TBlk.ld_at (isU_N hn.isU) (hx.lb.range 8 _ (fun j v hv => (n.getD j).trans (by simpa using hv)))⟩)
  have HC := Lib.hid (fun X (hX : Upd NoF V X) => cput_is (h1.upd0 hX) (lineOf n) (lineOf_ok hn))
  have HDR := Lib.hid (Upd.drew NoF V)
  have y := fun w => bd_line hn.isU.1 n.blk n.state w
  have e0 : (Ln.mk n.blk n.state n.D) = lineOf n := rfl
  rw [e0] at y
  have HNO := Lib.hid (noteP_isU S 11 n.blk)
  unfold dataE dataS dataO dataB
  clear h h1 hu1 hn hnN hV e0
  obtain ⟨x, hx⟩ : ∃ x, (n.state == 3) = x := ⟨_, rfl⟩
  obtain ⟨q, hq⟩ : ∃ q, (S.q.kind == 2) = q := ⟨_, rfl⟩
  rw [hx, hq]
  generalize lineOf n = ln at *
  generalize hpe : a.p.putE S.A ln = pe at *
  clear hpe
  cases hB : awaitsB S n.blk
  · rw [hB] at HA
    clear hB hx hq
    simp only [Bool.false_and, Bool.false_eq_true, if_false]
    go_enter Tryz.func56, Tryz.ntmps56
    go_upto_region 1 with fail
    rw [HV.out]
    refine wp_region_held_drew (S := (fun X => Upd NoF V X)) (by kernel_rfl) (HDR.out) (fun hHeld => ?_)
    refine rgn 0 (v := ?vq24) hHeld ?yq24 ?_
    case yq24 => (intro w hSw; obtain ⟨k0, k1, k2⟩ := HF1.out _ hSw; go_simp; try with_reducible rfl)
    simp only [Act.put, rns]
    refine rgn 1 (v := ?vq25) hHeld ?yq25 ?_
    case yq25 => (intro w hSw; obtain ⟨k0, k1, k2⟩ := HF1.out _ hSw; go_simp; try with_reducible rfl)
    simp only [Act.put, rns]
    refine rgn 2 (v := ?vq26) hHeld ?yq26 ?_
    case yq26 => (intro w hSw; obtain ⟨k0, k1, k2⟩ := HF1.out _ hSw; go_simp; try with_reducible rfl)
    simp only [Act.put, rns]
    refine reg_step (i := 3) (by kernel_rfl) rfl (by kernel_rfl) (fun K hK => ?_)
    go_simp
    refine (HA.out _ hHeld).mono ?_
    rintro e W2 ⟨rfl, rfl⟩
    have HS : (fun X => Upd NoF V X) _ := hHeld
    go_wp2_with fail
    refine hK.out _ _ HS (fun hHeld2 => ?_)
    clear hK hHeld2 hHeld; have hHeld := HS; clear HS
    try simp only [Act.put, rns]
    refine rgn 4 (v := .bool true) hHeld ?yq27 ?_
    case yq27 => (intro w hSw; obtain ⟨k0, k1, k2⟩ := HF1.out _ hSw; go_simp; try with_reducible rfl)
    simp only [Act.put, rns]
    refine rgn 5 (v := .bool true) hHeld ?yq28 ?_
    case yq28 => (intro w hSw; obtain ⟨k0, k1, k2⟩ := HF1.out _ hSw; go_simp; try with_reducible rfl)
    simp only [Act.put, rns]
    refine reg_off (i := 6) rfl (by kernel_rfl) (by kernel_rfl) (by kernel_rfl) (fun _ _ _ h => h) (by kernel_rfl) hHeld ?_
    simp only [Act.put, rns]
    refine reg_off (i := 7) rfl (by kernel_rfl) (by kernel_rfl) (by kernel_rfl) (fun _ _ _ h => h) (by kernel_rfl) hHeld ?_
    simp only [Act.put, rns]
    refine reg_off (i := 8) rfl (by kernel_rfl) (by kernel_rfl) (by kernel_rfl) (fun _ _ _ h => h) (by kernel_rfl) hHeld ?_
    simp only [Act.put, rns]
    refine reg_off (i := 9) rfl (by kernel_rfl) (by kernel_rfl) (by kernel_rfl) (fun _ _ _ h => h) (by kernel_rfl) hHeld ?_
    simp only [Act.put, rns]
    refine reg_off (i := 10) rfl (by kernel_rfl) (by kernel_rfl) (by kernel_rfl) (fun _ _ _ h => h) (by kernel_rfl) hHeld ?_
    simp only [Act.put, rns]
    refine reg_off (i := 11) rfl (by kernel_rfl) (by kernel_rfl) (by kernel_rfl) (fun _ _ _ h => h) (by kernel_rfl) hHeld ?_
    simp only [Act.put, rns]
    refine reg_off (i := 12) rfl (by kernel_rfl) (by kernel_rfl) (by kernel_rfl) (fun _ _ _ h => h) (by kernel_rfl) hHeld ?_
    simp only [Act.put, rns]
    refine reg_off (i := 13) rfl (by kernel_rfl) (by kernel_rfl) (by kernel_rfl) (fun _ _ _ h => h) (by kernel_rfl) hHeld ?_
    simp only [Act.put, rns]
    refine reg_off (i := 14) rfl (by kernel_rfl) (by kernel_rfl) (by kernel_rfl) (fun _ _ _ h => h) (by kernel_rfl) hHeld ?_
    simp only [Act.put, rns]
    refine reg_off (i := 15) rfl (by kernel_rfl) (by kernel_rfl) (by kernel_rfl) (fun _ _ _ h => h) (by kernel_rfl) hHeld ?_
    simp only [Act.put, rns]
    refine rgn 16 (v := .bool true) hHeld ?yq29 ?_
    case yq29 => (intro w hSw; obtain ⟨k0, k1, k2⟩ := HF1.out _ hSw; go_simp; try with_reducible rfl)
    simp only [Act.put, rns]
    refine wpAnyH_done (by kernel_rfl) ?_ _
    go_wp2
    go_ret3
    exact ⟨_, rfl, ((HH.out.upd0 hHeld).pop).outNil⟩
  · rw [hB] at HA
    cases hxq : (x != q)
    · obtain rfl : x = q := by simpa using hxq
      clear hxq
      simp only [Bool.true_and, Bool.not_false, if_true, Bool.true_and]
      clear hB
      go_enter Tryz.func56, Tryz.ntmps56
      go_upto_region 1 with fail
      rw [HV.out]
      refine wp_region_held_drew (S := (fun X => Upd NoF V X)) (by kernel_rfl) (HDR.out) (fun hHeld => ?_)
      refine rgn 0 (v := ?vq30) hHeld ?yq30 ?_
      case yq30 => (intro w hSw; obtain ⟨k0, k1, k2⟩ := HF1.out _ hSw; go_simp; try with_reducible rfl)
      simp only [Act.put, rns]
      refine rgn 1 (v := ?vq31) hHeld ?yq31 ?_
      case yq31 => (intro w hSw; obtain ⟨k0, k1, k2⟩ := HF1.out _ hSw; go_simp; try with_reducible rfl)
      simp only [Act.put, rns]
      refine rgn 2 (v := ?vq32) hHeld ?yq32 ?_
      case yq32 => (intro w hSw; obtain ⟨k0, k1, k2⟩ := HF1.out _ hSw; go_simp; try with_reducible rfl)
      simp only [Act.put, rns]
      refine reg_step (i := 3) (by kernel_rfl) rfl (by kernel_rfl) (fun K hK => ?_)
      go_simp
      refine (HA.out _ hHeld).mono ?_
      rintro e W2 ⟨rfl, rfl⟩
      have HS : (fun X => Upd NoF V X) _ := hHeld
      go_wp2_with fail
      refine hK.out _ _ HS (fun hHeld2 => ?_)
      clear hK hHeld2 hHeld; have hHeld := HS; clear HS
      try simp only [Act.put, rns]
      refine rgn 4 (v := .bool false) hHeld ?yq33 ?_
      case yq33 => (intro w hSw; obtain ⟨k0, k1, k2⟩ := HF1.out _ hSw; go_simp; try with_reducible rfl)
      simp only [Act.put, rns]
      refine rgn 5 (v := .bool false) hHeld ?yq34 ?_
      case yq34 => (intro w hSw; obtain ⟨k0, k1, k2⟩ := HF1.out _ hSw; go_simp; try with_reducible rfl)
      simp only [Act.put, rns]
      refine rgn 6 (v := ?vq35) hHeld ?yq35 ?_
      case yq35 => (intro w hSw; obtain ⟨k0, k1, k2⟩ := HF1.out _ hSw; go_simp; try with_reducible rfl)
      simp only [Act.put, rns]
      refine rgn 7 (v := ?vq36) hHeld ?yq36 ?_
      case yq36 => (intro w hSw; obtain ⟨k0, k1, k2⟩ := HF1.out _ hSw; go_simp; try with_reducible rfl)
      simp only [Act.put, rns]
      refine rgn 8 (v := .bool x) hHeld ?yq37 ?_
      case yq37 => (intro w hSw; obtain ⟨k0, k1, k2⟩ := HF1.out _ hSw; go_simp; try with_reducible rfl)
      simp only [Act.put, rns]
      refine rgn 9 (v := ?vq38) hHeld ?yq38 ?_
      case yq38 => (intro w hSw; obtain ⟨k0, k1, k2⟩ := HF1.out _ hSw; go_simp; try with_reducible rfl)
      simp only [Act.put, rns]
      refine rgn 10 (v := ?vq39) hHeld ?yq39 ?_
      case yq39 => (intro w hSw; obtain ⟨k0, k1, k2⟩ := HF1.out _ hSw; go_simp; try with_reducible rfl)
      simp only [Act.put, rns]
      refine rgn 11 (v := ?vq40) hHeld ?yq40 ?_
      case yq40 => (intro w hSw; obtain ⟨k0, k1, k2⟩ := HF1.out _ hSw; go_simp; try with_reducible rfl)
      simp only [Act.put, rns]
      refine rgn 12 (v := ?vq41) hHeld ?yq41 ?_
      case yq41 => (intro w hSw; obtain ⟨k0, k1, k2⟩ := HF1.out _ hSw; go_simp; try with_reducible rfl)
      simp only [Act.put, rns]
      refine rgn 13 (v := ?vq42) hHeld ?yq42 ?_
      case yq42 => (intro w hSw; obtain ⟨k0, k1, k2⟩ := HF1.out _ hSw; go_simp; try with_reducible rfl)
      simp only [Act.put, rns]
      refine rgn 14 (v := .bool x) hHeld ?yq43 ?_
      case yq43 => (intro w hSw; obtain ⟨k0, k1, k2⟩ := HF1.out _ hSw; go_simp; try with_reducible rfl)
      simp only [Act.put, rns]
      refine rgn 15 (v := .bool false) hHeld ?yq44 ?_
      case yq44 => (intro w hSw; obtain ⟨k0, k1, k2⟩ := HF1.out _ hSw; go_simp; try with_reducible rfl)
      simp only [Act.put, rns]
      refine rgn 16 (v := .bool false) hHeld ?yq45 ?_
      case yq45 => (intro w hSw; obtain ⟨k0, k1, k2⟩ := HF1.out _ hSw; go_simp; try with_reducible rfl)
      simp only [Act.put, rns]
      refine wpAnyH_done (by kernel_rfl) ?_ _
      have HK := Lib.hid (hHeld.trans (Upd.drew NoF _) (fun _ _ h => h))
      have HS0 := Lib.hid (HF.out _ S (HH.out.upd0 HK.out) rfl)
      clear hHeld hx hq
      go_upto_region 3 with fail
      refine wp_region_held_drew (S := (fun X => X.cell? ⟨a.nb, 9, none⟩ = some (ptr a.p.kb) ∧ X.cell? ⟨W.heap.size, 3, none⟩ = some (.int .i64 n.blk) ∧ X.cell? ⟨W.heap.size, 5, none⟩ = some (.int .u8 n.state) ∧ (TBlk.ld (.pointer (some ⟨W.heap.size, 8, none⟩))).run Tryz.prog X = .ok (.agg n.D) X)) (by kernel_rfl) (HS0.out) (fun hHeld => ?_)
      refine rgn 0 (v := ?vq46) hHeld ?yq46 ?_
      case yq46 => (intro w hSw; obtain ⟨k0, k1, k2, k3⟩ := hSw; go_simp; try with_reducible rfl)
      simp only [Act.put, rns]
      refine rgn 1 (v := ?vq47) hHeld ?yq47 ?_
      case yq47 => (intro w hSw; obtain ⟨k0, k1, k2, k3⟩ := hSw; go_simp; try with_reducible rfl)
      simp only [Act.put, rns]
      refine rgn 2 (v := ?vq48) hHeld ?yq48 ?_
      case yq48 => (intro w hSw; obtain ⟨k0, k1, k2, k3⟩ := hSw; go_simp; try with_reducible rfl)
      simp only [Act.put, rns]
      refine rgn 3 (v := ?vq49) hHeld ?yq49 ?_
      case yq49 => (intro w hSw; obtain ⟨k0, k1, k2, k3⟩ := hSw; go_simp; try with_reducible rfl)
      simp only [Act.put, rns]
      refine rgn 4 (v := ?vq50) hHeld ?yq50 ?_
      case yq50 => (intro w hSw; obtain ⟨k0, k1, k2, k3⟩ := hSw; go_simp; try with_reducible rfl)
      simp only [Act.put, rns]
      refine rgn 5 (v := ?vq51) hHeld ?yq51 ?_
      case yq51 => (intro w hSw; obtain ⟨k0, k1, k2, k3⟩ := hSw; go_simp; try with_reducible rfl)
      simp only [Act.put, rns]
      refine rgn 6 (v := ?vq52) hHeld ?yq52 ?_
      case yq52 => (intro w hSw; obtain ⟨k0, k1, k2, k3⟩ := hSw; go_simp; try with_reducible rfl)
      simp only [Act.put, rns]
      refine rgn 7 (v := ?vq53) hHeld ?yq53 ?_
      case yq53 => (intro w hSw; obtain ⟨k0, k1, k2, k3⟩ := hSw; go_simp; try with_reducible rfl)
      simp only [Act.put, rns]
      refine rgn 8 (v := ?vq54) hHeld ?yq54 ?_
      case yq54 => (intro w hSw; obtain ⟨k0, k1, k2, k3⟩ := hSw; go_simp; try with_reducible rfl)
      simp only [Act.put, rns]
      refine rgn 9 (v := ?vq55) hHeld ?yq55 ?_
      case yq55 => (intro w hSw; obtain ⟨k0, k1, k2, k3⟩ := hSw; go_simp; try with_reducible rfl)
      simp only [Act.put, rns]
      refine rgn 10 (v := .agg ln.cells) hHeld ?yq56 ?_
      case yq56 => (intro w hSw; obtain ⟨k0, k1, k2, k3⟩ := hSw; go_simp; try with_reducible rfl)
      simp only [Act.put, rns]
      refine reg_step (i := 11) (by kernel_rfl) rfl (by kernel_rfl) (fun K hK => ?_)
      go_simp
      refine (HC.out _ HK.out).mono ?_
      rintro e W2 ⟨rfl, hN2⟩
      have HS : (fun X => X.cell? ⟨a.nb, 9, none⟩ = some (ptr a.p.kb) ∧ X.cell? ⟨W.heap.size, 3, none⟩ = some (.int .i64 n.blk) ∧ X.cell? ⟨W.heap.size, 5, none⟩ = some (.int .u8 n.state) ∧ (TBlk.ld (.pointer (some ⟨W.heap.size, 8, none⟩))).run Tryz.prog X = .ok (.agg n.D) X) W2 := HF.out _ _ hN2 rfl
      have HN2 := Lib.hid hN2
      clear hN2
      go_wp2_with fail
      refine hK.out _ _ HS (fun hHeld2 => ?_)
      clear hK hHeld2 hHeld; have hHeld := HS; clear HS
      try simp only [Act.put, rns]
      refine rgn 12 (v := ?vq57) hHeld ?yq57 ?_
      case yq57 => (intro w hSw; obtain ⟨k0, k1, k2, k3⟩ := hSw; go_simp; try with_reducible rfl)
      simp only [Act.put, rns]
      refine wpAnyH_done (by kernel_rfl) ?_ _
      clear hHeld HS0 HC HA HF HF1 y
      by_cases hz : pe = 0
      · have hz1 : (pe != 0) = false := by simp [hz]
        have c37 := HN2.out.wc
        have f37 : _ = false := HN2.out.box.frozen 37
        have hN3 := HN2.out.setw false
        have HN3 := Lib.hid hN3
        clear hN3
        have HZ := Lib.hid hz
        clear hz
        have c8 : (W2.setCell ⟨a.nb, 37, none⟩ (.bool false)).cell? ⟨a.nb, 8, none⟩ = some (.int .i64 S.core) := HN3.out.hd (by decide)
        have k3 : (W2.setCell ⟨a.nb, 37, none⟩ (.bool false)).cell? ⟨W.heap.size, 3, none⟩ = some (.int .i64 n.blk) := (HN3.out.lb.cell 3).trans n.get3
        have HNA := Lib.hid (note_any 11 n.blk S.core a.nb S rfl _ c8)
        clear c8
        go_wp2_with fail
        refine HNA.out.mono ?_
        rintro e W4 ⟨rfl, hu⟩
        have y3 := fun w => bsN_run (Nt.Ok.isN HNO.out).1 w
        have HU := Lib.hid hu
        clear hu HNA
        go_wp2
        go_ret3
        refine ⟨sl W4.heap.size 1 1, (by first | rfl | (rw [HZ.out]; rfl)), ?_⟩
        exact (((HN3.out.upd0 HU.out).alloc (noteP S 11 n.blk).cells NT).toOut HNO.out).pop2
      · have hz1 : (pe != 0) = true := by simp [hz]
        have HZ := Lib.hid hz
        clear hz
        go_wp2
        go_ret3
        refine ⟨nilV, rfl, ?_⟩
        exact HN2.out.pop.outNil
    · obtain rfl : x = !q := by revert hxq; cases x <;> cases q <;> simp
      clear hxq
      simp only [Bool.true_and, Bool.not_true, Bool.false_eq_true, if_false, Bool.false_and, Bool.and_false]
      clear hB
      go_enter Tryz.func56, Tryz.ntmps56
      go_upto_region 1 with fail
      rw [HV.out]
      refine wp_region_held_drew (S := (fun X => Upd NoF V X)) (by kernel_rfl) (HDR.out) (fun hHeld => ?_)
      refine rgn 0 (v := ?vq58) hHeld ?yq58 ?_
      case yq58 => (intro w hSw; obtain ⟨k0, k1, k2⟩ := HF1.out _ hSw; go_simp; try with_reducible rfl)
      simp only [Act.put, rns]
      refine rgn 1 (v := ?vq59) hHeld ?yq59 ?_
      case yq59 => (intro w hSw; obtain ⟨k0, k1, k2⟩ := HF1.out _ hSw; go_simp; try with_reducible rfl)
      simp only [Act.put, rns]
      refine rgn 2 (v := ?vq60) hHeld ?yq60 ?_
      case yq60 => (intro w hSw; obtain ⟨k0, k1, k2⟩ := HF1.out _ hSw; go_simp; try with_reducible rfl)
      simp only [Act.put, rns]
      refine reg_step (i := 3) (by kernel_rfl) rfl (by kernel_rfl) (fun K hK => ?_)
      go_simp
      refine (HA.out _ hHeld).mono ?_
      rintro e W2 ⟨rfl, rfl⟩
      have HS : (fun X => Upd NoF V X) _ := hHeld
      go_wp2_with fail
      refine hK.out _ _ HS (fun hHeld2 => ?_)
      clear hK hHeld2 hHeld; have hHeld := HS; clear HS
      try simp only [Act.put, rns]
      refine rgn 4 (v := .bool false) hHeld ?yq61 ?_
      case yq61 => (intro w hSw; obtain ⟨k0, k1, k2⟩ := HF1.out _ hSw; go_simp; try with_reducible rfl)
      simp only [Act.put, rns]
      refine rgn 5 (v := .bool false) hHeld ?yq62 ?_
      case yq62 => (intro w hSw; obtain ⟨k0, k1, k2⟩ := HF1.out _ hSw; go_simp; try with_reducible rfl)
      simp only [Act.put, rns]
      refine rgn 6 (v := ?vq63) hHeld ?yq63 ?_
      case yq63 => (intro w hSw; obtain ⟨k0, k1, k2⟩ := HF1.out _ hSw; go_simp; try with_reducible rfl)
      simp only [Act.put, rns]
      refine rgn 7 (v := ?vq64) hHeld ?yq64 ?_
      case yq64 => (intro w hSw; obtain ⟨k0, k1, k2⟩ := HF1.out _ hSw; go_simp; try with_reducible rfl)
      simp only [Act.put, rns]
      refine rgn 8 (v := .bool (!q)) hHeld ?yq65 ?_
      case yq65 => (intro w hSw; obtain ⟨k0, k1, k2⟩ := HF1.out _ hSw; go_simp; try with_reducible rfl)
      simp only [Act.put, rns]
      refine rgn 9 (v := ?vq66) hHeld ?yq66 ?_
      case yq66 => (intro w hSw; obtain ⟨k0, k1, k2⟩ := HF1.out _ hSw; go_simp; try with_reducible rfl)
      simp only [Act.put, rns]
      refine rgn 10 (v := ?vq67) hHeld ?yq67 ?_
      case yq67 => (intro w hSw; obtain ⟨k0, k1, k2⟩ := HF1.out _ hSw; go_simp; try with_reducible rfl)
      simp only [Act.put, rns]
      refine rgn 11 (v := ?vq68) hHeld ?yq68 ?_
      case yq68 => (intro w hSw; obtain ⟨k0, k1, k2⟩ := HF1.out _ hSw; go_simp; try with_reducible rfl)
      simp only [Act.put, rns]
      refine rgn 12 (v := ?vq69) hHeld ?yq69 ?_
      case yq69 => (intro w hSw; obtain ⟨k0, k1, k2⟩ := HF1.out _ hSw; go_simp; try with_reducible rfl)
      simp only [Act.put, rns]
      refine rgn 13 (v := ?vq70) hHeld ?yq70 ?_
      case yq70 => (intro w hSw; obtain ⟨k0, k1, k2⟩ := HF1.out _ hSw; go_simp; try with_reducible rfl)
      simp only [Act.put, rns]
      refine rgn 14 (v := .bool q) hHeld ?yq71 ?_
      case yq71 => (intro w hSw; obtain ⟨k0, k1, k2⟩ := HF1.out _ hSw; go_simp; try with_reducible rfl)
      simp only [Act.put, rns]
      refine rgn 15 (v := .bool true) hHeld ?yq72 ?_
      case yq72 => (intro w hSw; obtain ⟨k0, k1, k2⟩ := HF1.out _ hSw; go_simp; try with_reducible rfl)
      simp only [Act.put, rns]
      refine rgn 16 (v := .bool true) hHeld ?yq73 ?_
      case yq73 => (intro w hSw; obtain ⟨k0, k1, k2⟩ := HF1.out _ hSw; go_simp; try with_reducible rfl)
      simp only [Act.put, rns]
      refine wpAnyH_done (by kernel_rfl) ?_ _
      go_wp2
      go_ret3
      exact ⟨_, rfl, ((HH.out.upd0 hHeld).pop).outNil⟩
end
end Go.Proofs.YtjgeflbhmhmjdaaGreat.NR
