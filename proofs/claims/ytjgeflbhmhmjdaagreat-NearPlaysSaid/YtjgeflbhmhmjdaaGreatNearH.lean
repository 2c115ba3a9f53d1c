/- A core's side: somebody wants a block, and gets it. -/
import Derived.Test.YtjgeflbhmhmjdaaGreatNearG
import Derived.Deep.CutBlock
set_option linter.unusedSimpArgs false
set_option linter.unusedVariables false
namespace Go.Proofs.YtjgeflbhmhmjdaaGreat.NR
open Go.RowKit
open BU (IsU words)
open PL (Cfg CC CV May)
open KA (Kp CIs OkA LT UT KT)
open DL (DS CD stampE)
attribute [local go_sem] Oper.semAt_some
attribute [local go_sem ↓] TNot.ld_eq TNot.st_eq TNot.al_eq TNot.bx_eq TBlk.ld_eq TBlk.st_eq TBlk.al_eq TBlk.bx_eq TLin.ld_eq TLin.st_eq TLin.al_eq TLin.bx_eq bdN_eq bsN_eq bdL_eq
attribute [local go_sem] TNot.al_run TNot.bx_run TBlk.al_run TBlk.bx_run TLin.al_run TLin.bx_run

def ackN1 (p : Kp) (S : Ns) (n : Nt) : Nt := if (p.place S.A n.blk).isSome && ((p.fnd S.A n.blk).st != 1) then { noteP S 9 n.blk with has := true, D := (p.fnd S.A n.blk).D } else noteP S 9 n.blk
def ackN2 (p : Kp) (S : Ns) (n : Nt) : Nt := if bkL S.zs n.blk then { ackN1 p S n with has := true, D := bkD S.zs n.blk } else ackN1 p S n
def askedA (p : Kp) (S : Ns) (n : Nt) : Nat → Ln := if n.kind = 5 then p.drpA S.A n.blk else if (p.place S.A n.blk).isSome then p.trnA S.A n.blk 1 else S.A
def askedS2 (p : Kp) (S : Ns) (n : Nt) : Ns := { S with zs := BK.killS S.zs n.blk, A := askedA p S n }
theorem ackN1_isU {p : Kp} {S : Ns} (h : S.Ok p) (n : Nt) : IsU (ackN1 p S n).D := by
  unfold ackN1
  split
  · exact (KA.fnd_ok (p := p) h.okA n.blk).isU
  · exact isUZ
theorem ackN2_isU {p : Kp} {S : Ns} (h : S.Ok p) (n : Nt) : IsU (ackN2 p S n).D := by
  unfold ackN2
  split
  · exact bkD_isU h.allU n.blk
  · exact ackN1_isU h n
theorem kill_dead {zs : List BK.Bk} {b : Int} (h : bkL zs b = false) : BK.killS zs b = zs := by
  unfold bkL at h
  unfold BK.killS
  cases hf : BK.findB zs b with
  | none => rfl
  | some z => rw [hf] at h; simp only at h ⊢; rw [h]; rfl
section
variable {w0 W W' V : World} {a : Ad} {S : Ns} {L : List Obj}
theorem NIs.setL2 {Φ : Obj} {g : Nat} {cs : Array Value} {T : TypeId} (h : NIs w0 W a S (Φ :: boxO g cs T :: L)) (j : Nat) (v : Value) : NIs w0 (W.setCell ⟨g, j, none⟩ v) a S (Φ :: boxO g (cs.setIfInBounds j v) T :: L) := ⟨h.sep.set 9 rfl j v, h.ok⟩
theorem NIs.setM2 {Φ : Obj} {g : Nat} {cs : Array Value} {T : TypeId} (h : NIs w0 W a S (Φ :: boxO g cs T :: L)) (j : Nat) (vs : List Value) : NIs w0 (W.setCells g j vs) a S (Φ :: boxO g (setMany cs j vs) T :: L) := by
  obtain ⟨F, hF, hst⟩ := h.sep.step 9 rfl
  exact ⟨hst (boxO g (setMany cs j vs) T) _ ((upd_setCells (b := g) vs j W).mono (fun k _ (hk : k = g) => hk ▸ hF.2)) ⟨blk_setCells vs j W _ hF.1, .inl hF.2⟩, h.ok⟩
theorem bst_mid {x X : Array Value} (hx : IsN 16 x) {w : World} {b o : Nat} {T : TypeId} (h : Blk w b X T) (ho : o + 16 ≤ X.size) : (TBlk.st (.pointer (some ⟨b, o, none⟩)) (.agg x)).run Tryz.prog w = .ok () (w.setCells b o x.toList) :=
  run_storeAt_mid w b o BT x (there_of h (by rw [hx.1]; exact ho)) (by rw [TBlk.infoS, hx.1]) hx.all
theorem NIs.setA {g : Nat} {cs : Array Value} {T : TypeId} (h : NIs w0 W a S (boxO g cs T :: L)) {vs : Array Value} (hs : vs.size = cs.size) : NIs w0 (W.setCells g 0 vs.toList) a S (boxO g vs T :: L) := by
  obtain ⟨F, hF, hst⟩ := h.sep.step 8 rfl
  have h1 := blk_setCells vs.toList 0 W _ hF.1
  rw [setMany_all cs vs hs] at h1
  exact ⟨hst (boxO g vs T) _ ((upd_setCells (b := g) vs.toList 0 W).mono (fun k _ (hk : k = g) => hk ▸ hF.2)) ⟨h1, .inl hF.2⟩, h.ok⟩
set_option maxRecDepth 100000 in
set_option maxHeartbeats 4000000 in
theorem asked_yes (h : NIs w0 W a S L) (n : Nt) (hn : n.Ok) (hb : MM.fit n.blk) (hno : DL.askedB S.d (meetsB S n) = false) : Calls Tryz.prog 55 #[ptr a.nb, .agg n.cells] W fun e W' =>
    ∃ v, e = .returned (retV v false 0) ∧ NIs w0 W' a (askedS2 a.p (askedS1 S n) n) (outO v [ackN2 a.p (askedS1 S n) n] :: L) := by
  have hnN := Nt.Ok.isN hn.isU
  have h1 := h.alloc n.cells NT
  obtain ⟨V, hV⟩ : ∃ V, W.alloc (.cells n.cells NT) = V := ⟨_, rfl⟩
  rw [hV] at h1
  have HV := Lib.hid hV; have HN := Lib.hid hn
  have hd := h1.upd0 (Upd.drew NoF V)
  have HF : Hid (∀ (X : World) (S' : Ns), NIs w0 X a S' (boxO W.heap.size n.cells NT :: L) → S'.head a = S.head a → (fun X => X.cell? ⟨a.nb, 11, none⟩ = some (ptr a.xk) ∧ X.cell? ⟨a.nb, 12, none⟩ = some (ptr a.db) ∧ X.cell? ⟨W.heap.size, 0, none⟩ = some (.int .u8 n.kind) ∧ X.cell? ⟨W.heap.size, 3, none⟩ = some (.int .i64 n.blk) ∧ X.cell? ⟨W.heap.size, 4, none⟩ = some (.int .u64 n.stamp)) X) :=
    Lib.hid (fun X S' hx e => ⟨(hx.hd (i := 11) (by decide)).trans (by rw [e]; rfl), (hx.hd (i := 12) (by decide)).trans (by rw [e]; rfl), (hx.lb.cell 0).trans n.get0, (hx.lb.cell 3).trans n.get3, (hx.lb.cell 4).trans n.get4⟩)
  have hS0 : (fun X => X.cell? ⟨a.nb, 11, none⟩ = some (ptr a.xk) ∧ X.cell? ⟨a.nb, 12, none⟩ = some (ptr a.db) ∧ X.cell? ⟨W.heap.size, 0, none⟩ = some (.int .u8 n.kind) ∧ X.cell? ⟨W.heap.size, 3, none⟩ = some (.int .i64 n.blk) ∧ X.cell? ⟨W.heap.size, 4, none⟩ = some (.int .u64 n.stamp)) V.drew := HF.out _ S hd rfl
  have HM := Lib.hid (MK.meets_any hd.marks n.kind n.blk hb)
  have HC := Lib.hid (fun X (hX : Upd NoF V.drew X) => dasked_is (hd.upd0 hX) (meetsB S n) n.stamp)
  have HD := Lib.hid hd
  have em : MK.meetB n.kind (S.f n.blk) = meetsB S n := rfl
  rw [em] at HM
  rw [hno] at HC
  have e1 : ({ S with d := DL.askedS S.d (meetsB S n) n.stamp } : Ns) = askedS1 S n := rfl
  have eh : (askedS1 S n).head a = S.head a := rfl
  have EH := Lib.hid eh
  have ec : (askedS1 S n).core = S.core := rfl
  have EC := Lib.hid ec
  rw [e1] at HC
  clear h h1 hn hnN hV hd em hno e1 eh ec hb
  generalize askedS1 S n = S1 at *
  generalize meetsB S n = mt at *
  go_enter Tryz.func55, Tryz.ntmps55
  go_upto_region 1 with fail
  rw [HV.out]
  go_region_held3 (fun X => X.cell? ⟨a.nb, 11, none⟩ = some (ptr a.xk) ∧ X.cell? ⟨a.nb, 12, none⟩ = some (ptr a.db) ∧ X.cell? ⟨W.heap.size, 0, none⟩ = some (.int .u8 n.kind) ∧ X.cell? ⟨W.heap.size, 3, none⟩ = some (.int .i64 n.blk) ∧ X.cell? ⟨W.heap.size, 4, none⟩ = some (.int .u64 n.stamp)) (first | assumption | exact hS0) (first | (go_at_call 97; refine HM.out.mono ?_; rintro e wa ⟨rfl, hu⟩; have HUa := Lib.hid hu; have hS' : (fun X => X.cell? ⟨a.nb, 11, none⟩ = some (ptr a.xk) ∧ X.cell? ⟨a.nb, 12, none⟩ = some (ptr a.db) ∧ X.cell? ⟨W.heap.size, 0, none⟩ = some (.int .u8 n.kind) ∧ X.cell? ⟨W.heap.size, 3, none⟩ = some (.int .i64 n.blk) ∧ X.cell? ⟨W.heap.size, 4, none⟩ = some (.int .u64 n.stamp)) wa := HF.out _ S (HD.out.upd0 hu) rfl; clear hu) | (go_at_call 96; refine (HC.out _ HUa.out).mono ?_; rintro e wb ⟨rfl, hN2⟩; have hS' : (fun X => X.cell? ⟨a.nb, 11, none⟩ = some (ptr a.xk) ∧ X.cell? ⟨a.nb, 12, none⟩ = some (ptr a.db) ∧ X.cell? ⟨W.heap.size, 0, none⟩ = some (.int .u8 n.kind) ∧ X.cell? ⟨W.heap.size, 3, none⟩ = some (.int .i64 n.blk) ∧ X.cell? ⟨W.heap.size, 4, none⟩ = some (.int .u64 n.stamp)) wb := HF.out _ _ hN2 EH.out; have HN2 := Lib.hid hN2; clear hN2))
  all_goals
    clear hS' hS0 HM HC HD HF
    have c8 := (HN2.out.hd (i := 8) (by decide)).trans (show (S1.head a)[8]? = some (.int .i64 S.core) by rw [EH.out]; rfl)
    have k3 := (HN2.out.lb.cell 3).trans n.get3
    have HNA := Lib.hid (note_any 9 n.blk S.core a.nb S1 EC.out _ c8)
    clear c8
    go_wp2_with fail
    refine HNA.out.mono ?_
    rintro e w4 ⟨rfl, hu⟩
    have s1 := TNot.st_new (Nt.Ok.isN (noteP_isU S1 9 n.blk)) w4
    have hN4 := (HN2.out.upd0 hu).alloc (noteP S1 9 n.blk).cells NT
    clear hu HNA HN2 k3
    generalize hy0 : noteP S1 9 n.blk = y0 at *
    have HY0 := Lib.hid hy0
    clear hy0
    go_upto_region 6 with fail
    clear s1
    obtain ⟨y8, hy8⟩ : ∃ y8, w4.heap.size = y8 := ⟨_, rfl⟩
    obtain ⟨X5, hX5⟩ : ∃ X, w4.alloc (.cells y0.cells NT) = X := ⟨_, rfl⟩
    rw [hX5, hy8] at hN4
    rw [hX5, hy8]
    clear hX5 hy8
    have HN5 := Lib.hid hN4
    clear hN4
    go_cut [9, 10] from 46 to 56 (fun s9 s10 wx => ∃ (g9 : Nat), s9 = ptr g9 ∧ s10 = .bool (a.p.place S1.A n.blk).isSome ∧ Hid (NIs w0 wx a S1 (boxO g9 (a.p.fnd S1.A n.blk).cells LT :: boxO y8 y0.cells NT :: boxO W.heap.size n.cells NT :: L)))
    case first =>
      have hd := HN5.out.upd0 (Upd.drew NoF X5)
      have hlN := Ln.Ok.isN (KA.fnd_ok (p := a.p) HN5.out.ok.okA n.blk).isU
      have HLN := Lib.hid hlN
      have HSF : Hid (∀ (X : World) (P : List Obj), NIs w0 X a S1 (boxO y8 y0.cells NT :: boxO W.heap.size n.cells NT :: L) → (fun X => X.cell? ⟨a.nb, 9, none⟩ = some (ptr a.p.kb) ∧ X.cell? ⟨W.heap.size, 3, none⟩ = some (.int .i64 n.blk)) X) := Lib.hid (fun X P hx => ⟨(hx.hd (i := 9) (by decide)).trans (by rw [EH.out]; rfl), (hx.lb2.cell 3).trans n.get3⟩)
      have HSG : Hid (∀ (X : World) (g : Nat) (cs : Array Value), NIs w0 X a S1 (boxO g cs LT :: boxO y8 y0.cells NT :: boxO W.heap.size n.cells NT :: L) → (fun X => X.cell? ⟨a.nb, 9, none⟩ = some (ptr a.p.kb) ∧ X.cell? ⟨W.heap.size, 3, none⟩ = some (.int .i64 n.blk)) X) := Lib.hid (fun X g cs hx => HSF.out X [] hx.pop)
      have HS0 := Lib.hid (HSF.out _ [] hd)
      have HD := Lib.hid hd
      clear hd hlN
      refine wp_region_held_drew (S := (fun X => X.cell? ⟨a.nb, 9, none⟩ = some (ptr a.p.kb) ∧ X.cell? ⟨W.heap.size, 3, none⟩ = some (.int .i64 n.blk))) (by kernel_rfl) (HS0.out) (fun hHeld => ?_)
      refine rgn 0 (v := ?vq1) hHeld ?yq1 ?_
      case yq1 => (intro w hSw; obtain ⟨k0, k1⟩ := hSw; go_simp; try with_reducible rfl)
      simp only [Act.put, rns]
      refine rgn 1 (v := ?vq2) hHeld ?yq2 ?_
      case yq2 => (intro w hSw; obtain ⟨k0, k1⟩ := hSw; go_simp; try with_reducible rfl)
      simp only [Act.put, rns]
      refine rgn 2 (v := ?vq3) hHeld ?yq3 ?_
      case yq3 => (intro w hSw; obtain ⟨k0, k1⟩ := hSw; go_simp; try with_reducible rfl)
      simp only [Act.put, rns]
      refine rgn 3 (v := ?vq4) hHeld ?yq4 ?_
      case yq4 => (intro w hSw; obtain ⟨k0, k1⟩ := hSw; go_simp; try with_reducible rfl)
      simp only [Act.put, rns]
      refine rgn 4 (v := ?vq5) hHeld ?yq5 ?_
      case yq5 => (intro w hSw; obtain ⟨k0, k1⟩ := hSw; go_simp; try with_reducible rfl)
      simp only [Act.put, rns]
      refine rgn 5 (v := ?vq6) hHeld ?yq6 ?_
      case yq6 => (intro w hSw; obtain ⟨k0, k1⟩ := hSw; go_simp; try with_reducible rfl)
      simp only [Act.put, rns]
      refine reg_two (i := 6) (j := 10) (by kernel_rfl) rfl rfl (by kernel_rfl) (by kernel_rfl) (fun K hK => ?_) (fun K hK => ?_)
      · go_simp
        refine (KA.find_is HD.out.cache n.blk).mono ?_
        rintro e W2 ⟨rfl, hu⟩
        have HA2 := Lib.hid (HD.out.upd0 hu)
        have HS : (fun X => X.cell? ⟨a.nb, 9, none⟩ = some (ptr a.p.kb) ∧ X.cell? ⟨W.heap.size, 3, none⟩ = some (.int .i64 n.blk)) W2 := HSF.out _ [] HA2.out
        clear hu
        go_wp2_with fail
        refine hK.out _ _ HS (fun hHeld2 => ?_)
        clear hK hHeld2 hHeld; have hHeld := HS; clear HS
        try simp only [Act.put, rns]
        refine rgn 7 (v := ?vq7) hHeld ?yq7 ?_
        case yq7 => (intro w hSw; obtain ⟨k0, k1⟩ := hSw; go_simp; try with_reducible rfl)
        simp only [Act.put, rns]
        refine rgn 8 (v := ?vq8) hHeld ?yq8 ?_
        case yq8 => (intro w hSw; obtain ⟨k0, k1⟩ := hSw; go_simp; try with_reducible rfl)
        simp only [Act.put, rns]
        refine rgn 9 (v := ?vq9) hHeld ?yq9 ?_
        case yq9 => (intro w hSw; obtain ⟨k0, k1⟩ := hSw; go_simp; try with_reducible rfl)
        simp only [Act.put, rns]
        refine reg_step (i := 10) (by kernel_rfl) rfl (by kernel_rfl) (fun K hK => ?_)
        go_simp
        have s1 := TLin.st_new HLN.out W2
        have HA3 := Lib.hid (HA2.out.alloc TLin.Z LT)
        have HA4 := Lib.hid (HA2.out.alloc (a.p.fnd S1.A n.blk).cells LT)
        have HS : (fun X => X.cell? ⟨a.nb, 9, none⟩ = some (ptr a.p.kb) ∧ X.cell? ⟨W.heap.size, 3, none⟩ = some (.int .i64 n.blk)) (W2.alloc (.cells TLin.Z LT)) := HSG.out _ _ _ HA3.out
        refine hK.out _ _ HS (fun hHeld2 => ?_)
        clear hK hHeld2 hHeld; have hHeld := HS; clear HS
        try simp only [Act.put, rns]
        refine reg_step (i := 11) (by kernel_rfl) rfl (by kernel_rfl) (fun K hK => ?_)
        go_simp
        have HS : (fun X => X.cell? ⟨a.nb, 9, none⟩ = some (ptr a.p.kb) ∧ X.cell? ⟨W.heap.size, 3, none⟩ = some (.int .i64 n.blk)) (W2.alloc (.cells (a.p.fnd S1.A n.blk).cells LT)) := HSG.out _ _ _ HA4.out
        clear s1
        refine hK.out _ _ HS (fun hHeld2 => ?_)
        clear hK hHeld2 hHeld; have hHeld := HS; clear HS
        try simp only [Act.put, rns]
        refine rgn 12 (v := ?vq10) hHeld ?yq10 ?_
        case yq10 => (intro w hSw; obtain ⟨k0, k1⟩ := hSw; go_simp; try with_reducible rfl)
        simp only [Act.put, rns]
        refine wpAnyH_done (by kernel_rfl) ?_ _
        go_wp2_with fail
        go_meet
        exact ⟨_, rfl, rfl, HA4⟩
      · go_simp
        have HB1 : Hid (NIs w0 (X5.alloc (.cells TLin.Z LT)).drew a S1 (boxO X5.heap.size TLin.Z LT :: boxO y8 y0.cells NT :: boxO W.heap.size n.cells NT :: L)) := Lib.hid (HD.out.alloc TLin.Z LT)
        have HS : (fun X => X.cell? ⟨a.nb, 9, none⟩ = some (ptr a.p.kb) ∧ X.cell? ⟨W.heap.size, 3, none⟩ = some (.int .i64 n.blk)) (X5.alloc (.cells TLin.Z LT)).drew := HSG.out _ _ _ HB1.out
        refine hK.out _ _ HS (fun hHeld2 => ?_)
        clear hK hHeld2 hHeld; have hHeld := HS; clear HS
        try simp only [Act.put, rns]
        refine reg_step (i := 6) (by kernel_rfl) rfl (by kernel_rfl) (fun K hK => ?_)
        go_simp
        refine (KA.find_is HB1.out.cache n.blk).mono ?_
        rintro e W2 ⟨rfl, hu⟩
        have HB2 := Lib.hid (HB1.out.upd0 hu)
        have HS : (fun X => X.cell? ⟨a.nb, 9, none⟩ = some (ptr a.p.kb) ∧ X.cell? ⟨W.heap.size, 3, none⟩ = some (.int .i64 n.blk)) W2 := HSG.out _ _ _ HB2.out
        have s1 := (TLin.st_at TLin.isZ HLN.out HB2.out.lb).1
        have HB3 := Lib.hid (HB2.out.setA (vs := (a.p.fnd S1.A n.blk).cells) (HLN.out.1.trans TLin.size_Z.symm))
        clear hu
        go_wp2_with fail
        refine hK.out _ _ HS (fun hHeld2 => ?_)
        clear hK hHeld2 hHeld; have hHeld := HS; clear HS
        try simp only [Act.put, rns]
        refine rgn 7 (v := ?vq11) hHeld ?yq11 ?_
        case yq11 => (intro w hSw; obtain ⟨k0, k1⟩ := hSw; go_simp; try with_reducible rfl)
        simp only [Act.put, rns]
        refine rgn 8 (v := ?vq12) hHeld ?yq12 ?_
        case yq12 => (intro w hSw; obtain ⟨k0, k1⟩ := hSw; go_simp; try with_reducible rfl)
        simp only [Act.put, rns]
        refine rgn 9 (v := ?vq13) hHeld ?yq13 ?_
        case yq13 => (intro w hSw; obtain ⟨k0, k1⟩ := hSw; go_simp; try with_reducible rfl)
        simp only [Act.put, rns]
        refine reg_step (i := 11) (by kernel_rfl) rfl (by kernel_rfl) (fun K hK => ?_)
        go_simp
        have HS : (fun X => X.cell? ⟨a.nb, 9, none⟩ = some (ptr a.p.kb) ∧ X.cell? ⟨W.heap.size, 3, none⟩ = some (.int .i64 n.blk)) (W2.setCells X5.heap.size 0 ((a.p.fnd S1.A n.blk).cells).toList) := HSG.out _ _ _ HB3.out
        clear s1
        refine hK.out _ _ HS (fun hHeld2 => ?_)
        clear hK hHeld2 hHeld; have hHeld := HS; clear HS
        try simp only [Act.put, rns]
        refine rgn 12 (v := ?vq14) hHeld ?yq14 ?_
        case yq14 => (intro w hSw; obtain ⟨k0, k1⟩ := hSw; go_simp; try with_reducible rfl)
        simp only [Act.put, rns]
        refine wpAnyH_done (by kernel_rfl) ?_ _
        go_wp2_with fail
        go_meet
        exact ⟨_, rfl, rfl, HB3⟩
    case rest =>
      obtain ⟨g9, rfl, rfl, hN6⟩ := hcut
      clear HN5
      go_step
      go_step
      go_cut [10] from 56 to 66 (fun s10 wx => s10 = .bool (a.p.place S1.A n.blk).isSome ∧ Hid (NIs w0 wx a S1 (boxO g9 (a.p.fnd S1.A n.blk).cells LT :: boxO y8 (ackN1 a.p S1 n).cells NT :: boxO W.heap.size n.cells NT :: L)))
      case first =>
        have c1 := (hN6.out.lb.cell 1).trans (a.p.fnd S1.A n.blk).get1
        have HY : ackN1 a.p S1 n = if (a.p.place S1.A n.blk).isSome && ((a.p.fnd S1.A n.blk).st != 1) then { noteP S1 9 n.blk with has := true, D := (a.p.fnd S1.A n.blk).D } else noteP S1 9 n.blk := rfl
        rw [HY0.out] at HY
        have HYY := Lib.hid HY
        clear HY
        have HLU := Lib.hid (KA.fnd_ok (p := a.p) hN6.out.ok.okA n.blk).isU
        have HYU : Hid (IsU y0.D) := Lib.hid (by rw [← HY0.out]; exact isUZ)
        generalize a.p.fnd S1.A n.blk = l at *
        cases hp : (a.p.place S1.A n.blk).isSome
        · go_wp2_with fail
          go_meet
          rw [HYY.out, hp]
          exact ⟨rfl, hN6⟩
        · cases hs : (l.st != 1)
          · go_wp2_with fail
            go_meet
            rw [HYY.out, hp, hs]
            exact ⟨rfl, hN6⟩
          · go_upto_region 8 with fail
            have hd := hN6.out.upd0 (Upd.drew NoF wc)
            have l0 := TBlk.ld_at (isU_N HLU.out) (hd.lb.range 2 _ (fun j v hv => (l.getD j).trans (by simpa using hv)))
            have c6 := (hd.lb2.cell 6).trans y0.get6
            have f6 : _ = false := hd.lb2.frozen 6
            have hN7 := hd.setL2 6 (.bool true)
            have l1 : (TBlk.ld (.pointer (some ⟨g9, 2, none⟩))).run Tryz.prog (wc.setCell ⟨y8, 6, none⟩ (.bool true)).drew = .ok (.agg l.D) (wc.setCell ⟨y8, 6, none⟩ (.bool true)).drew := TBlk.ld_at (isU_N HLU.out) (hN7.lb.range 2 _ (fun j v hv => (l.getD j).trans (by simpa using hv)))
            have s8 : (TBlk.st (.pointer (some ⟨y8, 8, none⟩)) (.agg l.D)).run Tryz.prog (wc.setCell ⟨y8, 6, none⟩ (.bool true)).drew = .ok () ((wc.setCell ⟨y8, 6, none⟩ (.bool true)).drew.setCells y8 8 l.D.toList) := bst_mid (isU_N HLU.out) hN7.lb2 (o := 8) (by rw [Array.size_setIfInBounds, (Nt.Ok.isN HYU.out).1]; decide)
            have hN8 := hN7.setM2 8 l.D.toList
            rw [set_has, set_data { y0 with has := true } HYU.out.1 HLU.out.1] at hN8
            have HN8 := Lib.hid hN8
            have HP := Lib.hid hp
            have HS := Lib.hid hs
            clear hN8 hN7 hN6 c1 hd hp hs
            go_region
            all_goals
              go_wp2_with fail
              go_meet
              rw [HYY.out, HP.out, HS.out]
              exact ⟨rfl, HN8⟩
      case rest =>
        obtain ⟨rfl, hN7c⟩ := hcut
        have hN7 := hN7c.out.pop
        clear hN6 hN7c
        go_upto_region 9 with fail
        generalize hy1 : ackN1 a.p S1 n = y1 at hN7
        have HY1 := Lib.hid hy1
        have HY1U : Hid (IsU y1.D) := Lib.hid (by rw [← hy1]; exact ackN1_isU hN7.ok n)
        clear hy1
        have HN7 := Lib.hid hN7
        clear hN7 HY0
        go_cut [11, 12, 13] from 66 to 77 (fun s11 s12 s13 wx => ∃ (g11 : Nat), s11 = ptr g11 ∧ s12 = .bool (bkL S1.zs n.blk) ∧ s13 = .bool (bkI S1.zs n.blk) ∧ Hid (NIs w0 wx a S1 (boxO g11 (bkD S1.zs n.blk) BT :: boxO y8 y1.cells NT :: boxO W.heap.size n.cells NT :: L)))
        case first =>
          have hd := HN7.out.upd0 (Upd.drew NoF wc)
          have hlN := isU_N (bkD_isU HN7.out.ok.allU n.blk)
          have HLN := Lib.hid hlN
          have HSF : Hid (∀ (X : World) (P : List Obj), NIs w0 X a S1 (boxO y8 y1.cells NT :: boxO W.heap.size n.cells NT :: L) → (fun X => X.cell? ⟨a.nb, 10, none⟩ = some (ptr a.bb) ∧ X.cell? ⟨W.heap.size, 3, none⟩ = some (.int .i64 n.blk)) X) := Lib.hid (fun X P hx => ⟨(hx.hd (i := 10) (by decide)).trans (by rw [EH.out]; rfl), (hx.lb2.cell 3).trans n.get3⟩)
          have HSG : Hid (∀ (X : World) (g : Nat) (cs : Array Value), NIs w0 X a S1 (boxO g cs BT :: boxO y8 y1.cells NT :: boxO W.heap.size n.cells NT :: L) → (fun X => X.cell? ⟨a.nb, 10, none⟩ = some (ptr a.bb) ∧ X.cell? ⟨W.heap.size, 3, none⟩ = some (.int .i64 n.blk)) X) := Lib.hid (fun X g cs hx => HSF.out X [] hx.pop)
          have HS0 := Lib.hid (HSF.out _ [] hd)
          have HD := Lib.hid hd
          clear hd hlN
          refine wp_region_held_drew (S := (fun X => X.cell? ⟨a.nb, 10, none⟩ = some (ptr a.bb) ∧ X.cell? ⟨W.heap.size, 3, none⟩ = some (.int .i64 n.blk))) (by kernel_rfl) (HS0.out) (fun hHeld => ?_)
          refine rgn 0 (v := ?vq15) hHeld ?yq15 ?_
          case yq15 => (intro w hSw; obtain ⟨k0, k1⟩ := hSw; go_simp; try with_reducible rfl)
          simp only [Act.put, rns]
          refine rgn 1 (v := ?vq16) hHeld ?yq16 ?_
          case yq16 => (intro w hSw; obtain ⟨k0, k1⟩ := hSw; go_simp; try with_reducible rfl)
          simp only [Act.put, rns]
          refine rgn 2 (v := ?vq17) hHeld ?yq17 ?_
          case yq17 => (intro w hSw; obtain ⟨k0, k1⟩ := hSw; go_simp; try with_reducible rfl)
          simp only [Act.put, rns]
          refine rgn 3 (v := ?vq18) hHeld ?yq18 ?_
          case yq18 => (intro w hSw; obtain ⟨k0, k1⟩ := hSw; go_simp; try with_reducible rfl)
          simp only [Act.put, rns]
          refine rgn 4 (v := ?vq19) hHeld ?yq19 ?_
          case yq19 => (intro w hSw; obtain ⟨k0, k1⟩ := hSw; go_simp; try with_reducible rfl)
          simp only [Act.put, rns]
          refine rgn 5 (v := ?vq20) hHeld ?yq20 ?_
          case yq20 => (intro w hSw; obtain ⟨k0, k1⟩ := hSw; go_simp; try with_reducible rfl)
          simp only [Act.put, rns]
          refine reg_two (i := 6) (j := 11) (by kernel_rfl) rfl rfl (by kernel_rfl) (by kernel_rfl) (fun K hK => ?_) (fun K hK => ?_)
          · go_simp
            refine (s_findN HD.out n.blk).mono ?_
            rintro e W2 ⟨rfl, hu⟩
            have HA2 := Lib.hid (HD.out.upd0 hu)
            have HS : (fun X => X.cell? ⟨a.nb, 10, none⟩ = some (ptr a.bb) ∧ X.cell? ⟨W.heap.size, 3, none⟩ = some (.int .i64 n.blk)) W2 := HSF.out _ [] HA2.out
            clear hu
            go_wp2_with fail
            refine hK.out _ _ HS (fun hHeld2 => ?_)
            clear hK hHeld2 hHeld; have hHeld := HS; clear HS
            try simp only [Act.put, rns]
            refine rgn 7 (v := ?vq21) hHeld ?yq21 ?_
            case yq21 => (intro w hSw; obtain ⟨k0, k1⟩ := hSw; go_simp; try with_reducible rfl)
            simp only [Act.put, rns]
            refine rgn 8 (v := ?vq22) hHeld ?yq22 ?_
            case yq22 => (intro w hSw; obtain ⟨k0, k1⟩ := hSw; go_simp; try with_reducible rfl)
            simp only [Act.put, rns]
            refine rgn 9 (v := ?vq23) hHeld ?yq23 ?_
            case yq23 => (intro w hSw; obtain ⟨k0, k1⟩ := hSw; go_simp; try with_reducible rfl)
            simp only [Act.put, rns]
            refine rgn 10 (v := ?vq24) hHeld ?yq24 ?_
            case yq24 => (intro w hSw; obtain ⟨k0, k1⟩ := hSw; go_simp; try with_reducible rfl)
            simp only [Act.put, rns]
            refine reg_step (i := 11) (by kernel_rfl) rfl (by kernel_rfl) (fun K hK => ?_)
            go_simp
            have s1 := TBlk.st_new HLN.out W2
            have HA3 := Lib.hid (HA2.out.alloc TBlk.Z BT)
            have HA4 := Lib.hid (HA2.out.alloc (bkD S1.zs n.blk) BT)
            have HS : (fun X => X.cell? ⟨a.nb, 10, none⟩ = some (ptr a.bb) ∧ X.cell? ⟨W.heap.size, 3, none⟩ = some (.int .i64 n.blk)) (W2.alloc (.cells TBlk.Z BT)) := HSG.out _ _ _ HA3.out
            refine hK.out _ _ HS (fun hHeld2 => ?_)
            clear hK hHeld2 hHeld; have hHeld := HS; clear HS
            try simp only [Act.put, rns]
            refine reg_step (i := 12) (by kernel_rfl) rfl (by kernel_rfl) (fun K hK => ?_)
            go_simp
            have HS : (fun X => X.cell? ⟨a.nb, 10, none⟩ = some (ptr a.bb) ∧ X.cell? ⟨W.heap.size, 3, none⟩ = some (.int .i64 n.blk)) (W2.alloc (.cells (bkD S1.zs n.blk) BT)) := HSG.out _ _ _ HA4.out
            clear s1
            refine hK.out _ _ HS (fun hHeld2 => ?_)
            clear hK hHeld2 hHeld; have hHeld := HS; clear HS
            try simp only [Act.put, rns]
            refine rgn 13 (v := ?vq25) hHeld ?yq25 ?_
            case yq25 => (intro w hSw; obtain ⟨k0, k1⟩ := hSw; go_simp; try with_reducible rfl)
            simp only [Act.put, rns]
            refine rgn 14 (v := ?vq26) hHeld ?yq26 ?_
            case yq26 => (intro w hSw; obtain ⟨k0, k1⟩ := hSw; go_simp; try with_reducible rfl)
            simp only [Act.put, rns]
            refine wpAnyH_done (by kernel_rfl) ?_ _
            go_wp2_with fail
            go_meet
            exact ⟨_, rfl, rfl, rfl, HA4⟩
          · go_simp
            have HB1 : Hid (NIs w0 (wc.alloc (.cells TBlk.Z BT)).drew a S1 (boxO wc.heap.size TBlk.Z BT :: boxO y8 y1.cells NT :: boxO W.heap.size n.cells NT :: L)) := Lib.hid (HD.out.alloc TBlk.Z BT)
            have HS : (fun X => X.cell? ⟨a.nb, 10, none⟩ = some (ptr a.bb) ∧ X.cell? ⟨W.heap.size, 3, none⟩ = some (.int .i64 n.blk)) (wc.alloc (.cells TBlk.Z BT)).drew := HSG.out _ _ _ HB1.out
            refine hK.out _ _ HS (fun hHeld2 => ?_)
            clear hK hHeld2 hHeld; have hHeld := HS; clear HS
            try simp only [Act.put, rns]
            refine reg_step (i := 6) (by kernel_rfl) rfl (by kernel_rfl) (fun K hK => ?_)
            go_simp
            refine (s_findN HB1.out n.blk).mono ?_
            rintro e W2 ⟨rfl, hu⟩
            have HB2 := Lib.hid (HB1.out.upd0 hu)
            have HS : (fun X => X.cell? ⟨a.nb, 10, none⟩ = some (ptr a.bb) ∧ X.cell? ⟨W.heap.size, 3, none⟩ = some (.int .i64 n.blk)) W2 := HSG.out _ _ _ HB2.out
            have s1 := (TBlk.st_at TBlk.isZ HLN.out HB2.out.lb).1
            have HB3 := Lib.hid (HB2.out.setA (vs := bkD S1.zs n.blk) (HLN.out.1.trans TBlk.size_Z.symm))
            clear hu
            go_wp2_with fail
            refine hK.out _ _ HS (fun hHeld2 => ?_)
            clear hK hHeld2 hHeld; have hHeld := HS; clear HS
            try simp only [Act.put, rns]
            refine rgn 7 (v := ?vq27) hHeld ?yq27 ?_
            case yq27 => (intro w hSw; obtain ⟨k0, k1⟩ := hSw; go_simp; try with_reducible rfl)
            simp only [Act.put, rns]
            refine rgn 8 (v := ?vq28) hHeld ?yq28 ?_
            case yq28 => (intro w hSw; obtain ⟨k0, k1⟩ := hSw; go_simp; try with_reducible rfl)
            simp only [Act.put, rns]
            refine rgn 9 (v := ?vq29) hHeld ?yq29 ?_
            case yq29 => (intro w hSw; obtain ⟨k0, k1⟩ := hSw; go_simp; try with_reducible rfl)
            simp only [Act.put, rns]
            refine rgn 10 (v := ?vq30) hHeld ?yq30 ?_
            case yq30 => (intro w hSw; obtain ⟨k0, k1⟩ := hSw; go_simp; try with_reducible rfl)
            simp only [Act.put, rns]
            refine reg_step (i := 12) (by kernel_rfl) rfl (by kernel_rfl) (fun K hK => ?_)
            go_simp
            have HS : (fun X => X.cell? ⟨a.nb, 10, none⟩ = some (ptr a.bb) ∧ X.cell? ⟨W.heap.size, 3, none⟩ = some (.int .i64 n.blk)) (W2.setCells wc.heap.size 0 (bkD S1.zs n.blk).toList) := HSG.out _ _ _ HB3.out
            clear s1
            refine hK.out _ _ HS (fun hHeld2 => ?_)
            clear hK hHeld2 hHeld; have hHeld := HS; clear HS
            try simp only [Act.put, rns]
            refine rgn 13 (v := ?vq31) hHeld ?yq31 ?_
            case yq31 => (intro w hSw; obtain ⟨k0, k1⟩ := hSw; go_simp; try with_reducible rfl)
            simp only [Act.put, rns]
            refine rgn 14 (v := ?vq32) hHeld ?yq32 ?_
            case yq32 => (intro w hSw; obtain ⟨k0, k1⟩ := hSw; go_simp; try with_reducible rfl)
            simp only [Act.put, rns]
            refine wpAnyH_done (by kernel_rfl) ?_ _
            go_wp2_with fail
            go_meet
            exact ⟨_, rfl, rfl, rfl, HB3⟩
        case rest =>
          obtain ⟨g11, rfl, rfl, rfl, hN8⟩ := hcut
          clear HN7
          go_step
          go_cut [12] from 77 to 88 (fun s12 wx => Hid (NIs w0 wx a { S1 with zs := BK.killS S1.zs n.blk } (boxO g11 (bkD S1.zs n.blk) BT :: boxO y8 (ackN2 a.p S1 n).cells NT :: boxO W.heap.size n.cells NT :: L)))
          case first =>
            have HY : ackN2 a.p S1 n = if bkL S1.zs n.blk then { ackN1 a.p S1 n with has := true, D := bkD S1.zs n.blk } else ackN1 a.p S1 n := rfl
            rw [HY1.out] at HY
            have HYY := Lib.hid HY
            clear HY
            have HLU := Lib.hid (bkD_isU hN8.out.ok.allU n.blk)
            cases hp : bkL S1.zs n.blk
            · have hk := Lib.hid (kill_dead hp)
              go_wp2_with fail
              go_meet
              rw [HYY.out, hp, hk.out]
              exact hN8
            · have HKL := Lib.hid (fun X (y : Nt) (hx : NIs w0 X a S1 (boxO g11 (bkD S1.zs n.blk) BT :: boxO y8 y.cells NT :: boxO W.heap.size n.cells NT :: L)) => bkill_is hx n.blk)
              have HP := Lib.hid hp
              clear hp
              generalize bkD S1.zs n.blk = D at *
              go_wp2_with fail
              have hd := hN8.out.upd0 (Upd.drew NoF wc)
              have l0 := TBlk.ld_at (isU_N HLU.out) hd.lb.whole
              have c6 := (hd.lb2.cell 6).trans y1.get6
              have f6 : _ = false := hd.lb2.frozen 6
              have hN7 := hd.setL2 6 (.bool true)
              have l1 : (TBlk.ld (.pointer (some ⟨g11, 0, none⟩))).run Tryz.prog (wc.setCell ⟨y8, 6, none⟩ (.bool true)).drew = .ok (.agg D) (wc.setCell ⟨y8, 6, none⟩ (.bool true)).drew := TBlk.ld_at (isU_N HLU.out) hN7.lb.whole
              have s8 : (TBlk.st (.pointer (some ⟨y8, 8, none⟩)) (.agg D)).run Tryz.prog (wc.setCell ⟨y8, 6, none⟩ (.bool true)).drew = .ok () ((wc.setCell ⟨y8, 6, none⟩ (.bool true)).drew.setCells y8 8 D.toList) := bst_mid (isU_N HLU.out) hN7.lb2 (o := 8) (by rw [Array.size_setIfInBounds, (Nt.Ok.isN HY1U.out).1]; decide)
              have hN9 := hN7.setM2 8 D.toList
              rw [set_has, set_data { y1 with has := true } HY1U.out.1 HLU.out.1] at hN9
              have HN9 := Lib.hid hN9
              clear hN9 hN7 hN8 hd
              go_region
              all_goals
                clear l0 l1 s8 c6 f6
                obtain ⟨X7, hX7⟩ : ∃ X7, (wc.setCell ⟨y8, 6, none⟩ (.bool true)).drew.setCells y8 8 D.toList = X7 := ⟨_, rfl⟩
                have HN9X : Hid (NIs w0 X7 a S1 (boxO g11 D BT :: boxO y8 ({ y1 with has := true, D := D } : Nt).cells NT :: boxO W.heap.size n.cells NT :: L)) := Lib.hid (hX7 ▸ HN9.out)
                have HX7 := Lib.hid hX7
                clear hX7 HN9
                go_upto_region 12 with fail
                rw [HX7.out]
                have hd2 := HN9X.out.upd0 (Upd.drew NoF X7)
                have hS0 : (fun X => X.cell? ⟨a.nb, 10, none⟩ = some (ptr a.bb) ∧ X.cell? ⟨W.heap.size, 3, none⟩ = some (.int .i64 n.blk)) X7.drew := ⟨(hd2.hd (i := 10) (by decide)).trans (by rw [EH.out]; rfl), (hd2.pop.lb2.cell 3).trans n.get3⟩
                have HKC := Lib.hid (HKL.out _ _ hd2)
                clear hd2
                go_region_held3 (fun X => X.cell? ⟨a.nb, 10, none⟩ = some (ptr a.bb) ∧ X.cell? ⟨W.heap.size, 3, none⟩ = some (.int .i64 n.blk)) (first | assumption | exact hS0) (first | (go_at_call 98; refine HKC.out.mono ?_; rintro e wk ⟨rfl, hNk⟩; have hS' : (fun X => X.cell? ⟨a.nb, 10, none⟩ = some (ptr a.bb) ∧ X.cell? ⟨W.heap.size, 3, none⟩ = some (.int .i64 n.blk)) wk := ⟨(hNk.hd (i := 10) (by decide)).trans (EH.out ▸ rfl), (hNk.pop.lb2.cell 3).trans n.get3⟩; have HNk := Lib.hid hNk; clear hNk))
                all_goals
                  clear hS0 hS'
                  go_wp2_with fail
                  go_meet
                  rw [HYY.out, HP.out]
                  exact HNk
          case rest =>
            have hN9 := hcut.out.pop
            have hok := hN9.ok
            generalize hy2 : ackN2 a.p S1 n = y2 at hN9 ⊢
            have HY2U : Hid (IsU y2.D) := Lib.hid (by rw [← hy2]; exact ackN2_isU hN8.out.ok n)
            have HN9 := Lib.hid hN9
            have HY2 := Lib.hid hy2
            clear hN9 hcut hN8 hy2 hok HY1 HY1U
            go_step
            go_step
            go_cut [10] from 88 to 106 (fun s10 wx => Hid (NIs w0 wx a (askedS2 a.p S1 n) (boxO y8 y2.cells NT :: boxO W.heap.size n.cells NT :: L)))
            case first =>
              have k0 := (HN9.out.lb2.cell 0).trans n.get0
              have HA2 : askedS2 a.p S1 n = { S1 with zs := BK.killS S1.zs n.blk, A := if n.kind = 5 then a.p.drpA S1.A n.blk else if (a.p.place S1.A n.blk).isSome then a.p.trnA S1.A n.blk 1 else S1.A } := rfl
              have HAA := Lib.hid HA2
              clear HA2
              have hd2 := HN9.out.upd0 (Upd.drew NoF wc)
              have hS0 : (fun X => X.cell? ⟨a.nb, 9, none⟩ = some (ptr a.p.kb) ∧ X.cell? ⟨W.heap.size, 3, none⟩ = some (.int .i64 n.blk)) wc.drew := ⟨(hd2.hd (i := 9) (by decide)).trans (show (S1.head a)[9]? = some (ptr a.p.kb) by rw [EH.out]; rfl), (hd2.lb2.cell 3).trans n.get3⟩
              have HDC := Lib.hid (cdrop_is hd2 n.blk)
              have HTC := Lib.hid (cturn_is hd2 n.blk 1 (by decide))
              clear hd2
              by_cases hk : n.kind = 5
              · have hk5 : (n.kind == 5) = true := by simp [hk]
                have HK := Lib.hid hk
                clear hk
                go_wp2_with fail
                go_region_held3 (fun X => X.cell? ⟨a.nb, 9, none⟩ = some (ptr a.p.kb) ∧ X.cell? ⟨W.heap.size, 3, none⟩ = some (.int .i64 n.blk)) (first | assumption | exact hS0) (first | (go_at_call 50; refine HDC.out.mono ?_; rintro e wk ⟨rfl, hNk⟩; have hS' : (fun X => X.cell? ⟨a.nb, 9, none⟩ = some (ptr a.p.kb) ∧ X.cell? ⟨W.heap.size, 3, none⟩ = some (.int .i64 n.blk)) wk := ⟨(hNk.hd (i := 9) (by decide)).trans (EH.out ▸ rfl), (hNk.lb2.cell 3).trans n.get3⟩; have HNk := Lib.hid hNk; clear hNk))
                all_goals
                  clear hS0 hS'
                  go_wp2_with fail
                  go_meet
                  rw [HAA.out, if_pos HK.out]
                  exact HNk
              · have hk5 : (n.kind == 5) = false := by simp [hk]
                have HK := Lib.hid hk
                clear hk
                cases hp : (a.p.place S1.A n.blk).isSome
                · have HP := Lib.hid hp
                  clear hp
                  go_wp2_with fail
                  go_meet
                  rw [HAA.out, if_neg HK.out, HP.out]
                  exact HN9
                · have HP := Lib.hid hp
                  clear hp
                  go_wp2_with fail
                  go_region_held3 (fun X => X.cell? ⟨a.nb, 9, none⟩ = some (ptr a.p.kb) ∧ X.cell? ⟨W.heap.size, 3, none⟩ = some (.int .i64 n.blk)) (first | assumption | exact hS0) (first | (go_at_call 99; refine HTC.out.mono ?_; rintro e wk ⟨rfl, hNk⟩; have hS' : (fun X => X.cell? ⟨a.nb, 9, none⟩ = some (ptr a.p.kb) ∧ X.cell? ⟨W.heap.size, 3, none⟩ = some (.int .i64 n.blk)) wk := ⟨(hNk.hd (i := 9) (by decide)).trans (EH.out ▸ rfl), (hNk.lb2.cell 3).trans n.get3⟩; have HNk := Lib.hid hNk; clear hNk))
                  all_goals
                    clear hS0 hS'
                    go_wp2_with fail
                    go_meet
                    rw [HAA.out, if_neg HK.out, HP.out]
                    exact HNk
            case rest =>
              have l2 := TNot.ld_at (Nt.Ok.isN HY2U.out) hcut.out.lb.whole
              have y3 := fun w => bsN_run (Nt.Ok.isN HY2U.out).1 w
              have hfin := ((hcut.out.alloc y2.cells NT).toOut HY2U.out).pop2.pop2
              have HF9 := Lib.hid hfin
              clear hfin hcut HN9
              go_wp2
              go_ret3
              refine ⟨sl wc.heap.size 1 1, rfl, ?_⟩
              rw [HY2.out]
              exact HF9.out
end
end Go.Proofs.YtjgeflbhmhmjdaaGreat.NR
