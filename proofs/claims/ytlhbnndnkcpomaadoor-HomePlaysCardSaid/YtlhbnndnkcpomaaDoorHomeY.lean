/- The contracts of package home: an ask for a block begins. -/
import Derived.Test.YtlhbnndnkcpomaaDoorHomeX
set_option linter.unusedSimpArgs false
set_option linter.unusedVariables false
namespace Go.Proofs.YtlhbnndnkcpomaaDoor.HO
open Go.RowKit
open BU (IsU words)
open PL (Cfg CC CV May)
open ME (memO sl)
attribute [local go_sem] Oper.semAt_some
attribute [local go_sem ↓] TNot.ld_eq TNot.st_eq TNot.al_eq TNot.bx_eq TJob.ld_eq TJob.st_eq TJob.al_eq TJob.bx_eq TBlk.ld_eq TBlk.st_eq TBlk.al_eq TBlk.bx_eq TEnt.ld_eq TEnt.st_eq TEnt.al_eq TEnt.bx_eq bdN_eq bdJ_eq bsN_eq
attribute [local go_sem] TNot.al_run TNot.bx_run TJob.al_run TJob.bx_run TBlk.al_run TBlk.bx_run TEnt.al_run TEnt.bx_run
/-- The notes that ask somebody. -/
def asksL (who : Mk) (by_ b stamp : Int) (k : Nat) : List Nt := ((bitsL who).take k).map fun x : Nat => ntAsk by_ (x : Int) b stamp
theorem asksL_succ {who : Mk} {by_ b stamp : Int} {k x : Nat} (h : (bitsL who)[k]? = some x) : (rowsOf ((asksL who by_ b stamp (k + 1)).map Nt.cells)).flatten = (rowsOf ((asksL who by_ b stamp k).map Nt.cells)).flatten ++ (ntAsk by_ x b stamp).cells.toList := by
  obtain ⟨h1, h2⟩ := List.getElem?_eq_some_iff.1 h
  unfold asksL
  rw [List.take_succ_eq_append_getElem h1, h2]
  simp [rowsOf]
theorem good_ask {S : Hs} (h : Good S) {n : Nt} (hn : n.Ok) (h0 : 0 ≤ n.blk) (h1 : n.blk < S.data) (who : Mk) : Good { S with J := updI S.J n.blk (some ⟨n, who, false, false, 0⟩) } := by
  refine ⟨h.may, h.isU, fun b k hk => ?_, h.que, h.few⟩
  by_cases e : b = n.blk
  · subst e
    have : some (Jb.mk n who false false 0) = some k := by rw [← hk]; exact (updI_same _ _ _).symm
    cases this
    exact ⟨h0, h1, rfl, hn, by simp⟩
  · have : S.J b = some k := by rw [← hk]; exact (updI_other _ _ e).symm
    exact h.key b k this
section
variable {w0 W W' : World} {hb mb : Nat} {S : Hs} {L : List Obj}
set_option maxRecDepth 100000 in
set_option maxHeartbeats 8000000 in
theorem begin_ask (h : Sep NoF w0 W (homeO hb mb S :: L)) (hT : Tab w0) (n : Nt) (hn : n.Ok) (h0 : 0 ≤ n.blk) (h1 : n.blk < S.data) (hk3 : ¬ n.kind = 3) : Calls Tryd.prog 46 #[ptr hb, .agg n.cells] W fun e W' =>
    ∃ v, e = .returned v ∧ Sep NoF w0 W' (outO v (beginP S n).2 :: homeO hb mb (beginP S n).1 :: L) := by
  obtain ⟨p, hf, hs⟩ := home_open h
  have hdat := hf.good.data
  obtain ⟨b, hbk⟩ : ∃ b : Nat, n.blk = b := ⟨n.blk.toNat, by omega⟩
  have hbn : b < S.n := by omega
  have hnN := Nt.Ok.isN hn.isU
  have hs1 := hs.alloc n.cells NT
  obtain ⟨V, hV⟩ : ∃ V, W.alloc (.cells n.cells NT) = V := ⟨_, rfl⟩
  rw [hV] at hs1
  have HV := Lib.hid hV; have HSV := Lib.hid hs1; have HFI := Lib.hid hf
  have hA := HAt.of (hs1.drop 0 (by simp))
  have qn := hs1.box 0 rfl
  have HF := Lib.hid (fun X (hX : Upd NoF V X) => (show X.cell? ⟨W.heap.size, 0, none⟩ = some (.int .u8 n.kind) ∧ X.cell? ⟨W.heap.size, 1, none⟩ = some (.int .i64 n.frm) ∧ X.cell? ⟨W.heap.size, 3, none⟩ = some (.int .i64 b) ∧ X.cell? ⟨hb, 9, none⟩ = some (sl p.eb S.n p.cap) ∧ (TEnt.ld (.pointer (some ⟨p.eb, b * 2, none⟩))).run Tryd.prog X = .ok (.agg (S.E b).cells) X from
    ⟨((qn.upd hX (fun h => h)).cell 0).trans n.get0, ((qn.upd hX (fun h => h)).cell 1).trans n.get1, ((qn.upd hX (fun h => h)).cell 3).trans (by rw [← hbk]; exact n.get3), (hA.upd hX).box.cell 9, (hA.upd hX).ld hbn⟩))
  have v0 : V.cell? ⟨W.heap.size, 0, none⟩ = some (.int .u8 n.kind) := (qn.cell 0).trans n.get0
  have hkb : (n.kind == 3) = false := by simp [hk3]
  have HG := Lib.hid (fun X (hX : Upd NoF V X) => (show Calls Tryd.prog 75 #[.agg (S.E b).cells, .int .u8 n.kind, .int .i64 n.frm] X _ from askedV_eq (S.E b) n.kind n.frm ▸ ET.asked_e (S.E b).own (S.E b).shr n.kind n.frm X ((hT.upd hs1.upd (fun h => h)).upd hX (fun h => h))))
  have hbeg : beginP S n = if (askedP (S.E b) n.kind n.frm).1 = 0#32 then ((answerP S ⟨n, (askedP (S.E b) n.kind n.frm).1, false, false, 0⟩).1, [(answerP S ⟨n, (askedP (S.E b) n.kind n.frm).1, false, false, 0⟩).2])
      else ({ S with J := updI S.J n.blk (some ⟨n, (askedP (S.E b) n.kind n.frm).1, false, false, 0⟩) }, asksL (askedP (S.E b) n.kind n.frm).1 (askedP (S.E b) n.kind n.frm).2 b n.stamp (bitsL (askedP (S.E b) n.kind n.frm).1).length) := by
    unfold beginP asksL; rw [if_neg hk3, hbk, List.take_of_length_le (Nat.le_refl _)]; rfl
  have hcap := hf.cap
  have hbc : b < p.cap := by omega
  have hcm := hcap.2
  unfold maxLen at hcm
  have hlt : (b : Int) < (S.n : Int) := by omega
  have HGD : Hid (∀ who, Good { S with J := updI S.J n.blk (some ⟨n, who, false, false, 0⟩) }) := Lib.hid (fun who => good_ask hf.good hn h0 h1 who)
  have HBN := Lib.hid (And.intro h0 h1)
  have HDR := Lib.hid (Upd.drew NoF V)
  have HN := Lib.hid hn
  have HNN := Lib.hid hnN
  have HTD := Lib.hid hT
  generalize beginP S n = bg at *
  have HBG := Lib.hid hbeg
  clear h hs hs1 hV hf hA qn hT hbeg hcap h0 h1 hk3
  generalize (askedP (S.E b) n.kind n.frm).1 = who at *
  generalize (askedP (S.E b) n.kind n.frm).2 = by_ at *
  generalize hgr : (if ET.askE (S.E b).own (S.E b).shr n.kind n.frm then (0 : Int) else 2) = gr at *
  refine calls_of_wp_marks Tryd.func46 rfl ?_
  simp only [Tryd.ntmps46, List.size_toArray, List.length_cons, List.length_nil, Nat.reduceAdd, Nat.reduceSub, Array.replicate_succ, Array.replicate_zero, List.push_toArray, List.append_toArray, List.nil_append, List.cons_append]
  go_upto_region 1 with fail
  rw [HV.out]
  go_wp2_with fail
  refine ET.wp_noPanic ?_
  refine wp_region_held_drew (S := (fun X => Upd NoF V X)) (by kernel_rfl) (HDR.out) (fun hHeld => ?_)
  refine rgn 0 (v := ?vq1) hHeld ?yq1 ?_
  case yq1 => (intro w hSw; obtain ⟨k0, k1, k2, k3, k4⟩ := HF.out _ hSw; go_simp; try with_reducible rfl)
  simp only [Act.put, rn1, rn2, rn3, rn4, rn5, rn6]
  refine rgn 1 (v := ?vq2) hHeld ?yq2 ?_
  case yq2 => (intro w hSw; obtain ⟨k0, k1, k2, k3, k4⟩ := HF.out _ hSw; go_simp; try with_reducible rfl)
  simp only [Act.put, rn1, rn2, rn3, rn4, rn5, rn6]
  refine rgn 2 (v := ?vq3) hHeld ?yq3 ?_
  case yq3 => (intro w hSw; obtain ⟨k0, k1, k2, k3, k4⟩ := HF.out _ hSw; go_simp; try with_reducible rfl)
  simp only [Act.put, rn1, rn2, rn3, rn4, rn5, rn6]
  refine rgn 3 (v := ?vq4) hHeld ?yq4 ?_
  case yq4 => (intro w hSw; obtain ⟨k0, k1, k2, k3, k4⟩ := HF.out _ hSw; go_simp; try with_reducible rfl)
  simp only [Act.put, rn1, rn2, rn3, rn4, rn5, rn6]
  refine rgn 4 (v := ?vq5) hHeld ?yq5 ?_
  case yq5 => (intro w hSw; obtain ⟨k0, k1, k2, k3, k4⟩ := HF.out _ hSw; go_simp; try with_reducible rfl)
  simp only [Act.put, rn1, rn2, rn3, rn4, rn5, rn6]
  refine rgn 5 (v := ?vq6) hHeld ?yq6 ?_
  case yq6 => (intro w hSw; obtain ⟨k0, k1, k2, k3, k4⟩ := HF.out _ hSw; go_simp; try with_reducible rfl)
  simp only [Act.put, rn1, rn2, rn3, rn4, rn5, rn6]
  refine rgn 6 (v := ?vq7) hHeld ?yq7 ?_
  case yq7 => (intro w hSw; obtain ⟨k0, k1, k2, k3, k4⟩ := HF.out _ hSw; go_simp; try with_reducible rfl)
  simp only [Act.put, rn1, rn2, rn3, rn4, rn5, rn6]
  refine rgn 7 (v := ?vq8) hHeld ?yq8 ?_
  case yq8 => (intro w hSw; obtain ⟨k0, k1, k2, k3, k4⟩ := HF.out _ hSw; go_simp; try with_reducible rfl)
  simp only [Act.put, rn1, rn2, rn3, rn4, rn5, rn6]
  refine rgn 8 (v := ?vq9) hHeld ?yq9 ?_
  case yq9 => (intro w hSw; obtain ⟨k0, k1, k2, k3, k4⟩ := HF.out _ hSw; go_simp; try with_reducible rfl)
  simp only [Act.put, rn1, rn2, rn3, rn4, rn5, rn6]
  refine rgn 9 (v := ?vq10) hHeld ?yq10 ?_
  case yq10 => (intro w hSw; obtain ⟨k0, k1, k2, k3, k4⟩ := HF.out _ hSw; go_simp; try with_reducible rfl)
  simp only [Act.put, rn1, rn2, rn3, rn4, rn5, rn6]
  refine rgn 10 (v := ?vq11) hHeld ?yq11 ?_
  case yq11 => (intro w hSw; obtain ⟨k0, k1, k2, k3, k4⟩ := HF.out _ hSw; go_simp; try with_reducible rfl)
  simp only [Act.put, rn1, rn2, rn3, rn4, rn5, rn6]
  refine rgn 11 (v := ?vq12) hHeld ?yq12 ?_
  case yq12 => (intro w hSw; obtain ⟨k0, k1, k2, k3, k4⟩ := HF.out _ hSw; go_simp; try with_reducible rfl)
  simp only [Act.put, rn1, rn2, rn3, rn4, rn5, rn6]
  refine reg_two (i := 12) (j := 17) (by kernel_rfl) rfl rfl (by kernel_rfl) (by kernel_rfl) (fun K hK => ?_) (fun K hK => ?_)
  · go_simp
    refine (HG.out _ hHeld).mono ?_
    rintro e W2 ⟨rfl, hu⟩
    have HS : (fun X => Upd NoF V X) W2 := hHeld.trans hu (fun _ _ h => h)
    have HU2 := Lib.hid HS; clear hu
    go_wp2_with fail
    refine hK.out _ _ HS (fun hHeld2 => ?_)
    clear hK hHeld2 hHeld; have hHeld := HS; clear HS
    try simp only [Act.put, rn1, rn2, rn3, rn4, rn5, rn6]
    refine rgn 13 (v := ?vq13) hHeld ?yq13 ?_
    case yq13 => (intro w hSw; go_simp; try with_reducible rfl)
    simp only [Act.put, rn1, rn2, rn3, rn4, rn5, rn6]
    refine rgn 14 (v := ?vq14) hHeld ?yq14 ?_
    case yq14 => (intro w hSw; go_simp; try with_reducible rfl)
    simp only [Act.put, rn1, rn2, rn3, rn4, rn5, rn6]
    refine rgn 15 (v := ?vq15) hHeld ?yq15 ?_
    case yq15 => (intro w hSw; go_simp; try with_reducible rfl)
    simp only [Act.put, rn1, rn2, rn3, rn4, rn5, rn6]
    refine rgn 16 (v := ?vq16) hHeld ?yq16 ?_
    case yq16 => (intro w hSw; go_simp; try with_reducible rfl)
    simp only [Act.put, rn1, rn2, rn3, rn4, rn5, rn6]
    refine reg_step (i := 17) (by kernel_rfl) rfl (by kernel_rfl) (fun K hK => ?_)
    go_simp
    have hs9 := (HSV.out.upd0 HU2.out).alloc #[.int .u8 0] 5
    obtain ⟨X1, hX1⟩ : ∃ X1, W2.alloc (.cells #[.int .u8 0] 5) = X1 := ⟨_, rfl⟩
    have HS : (fun X => Upd NoF V X) X1 := by rw [← hX1]; exact hHeld.trans (Upd.alloc NoF _ _) (fun _ _ h => h)
    rw [hX1] at hs9 ⊢
    clear hX1
    have c0 : X1.cell? ⟨W2.heap.size, 0, none⟩ = some (.int .u8 0) := (hs9.box 0 rfl).cell 0
    have f0 := (hs9.box 0 rfl).frozen 0
    have HS9 := Lib.hid (hs9.set 0 rfl 0 (.int .u8 by_))
    clear hs9
    refine hK.out _ _ HS (fun hHeld2 => ?_)
    clear hK hHeld2 hHeld; have hHeld := HS; clear HS
    try simp only [Act.put, rn1, rn2, rn3, rn4, rn5, rn6]
    refine rgn 18 (v := ?vq17) hHeld ?yq17 ?_
    case yq17 => (intro w hSw; go_simp; try with_reducible rfl)
    simp only [Act.put, rn1, rn2, rn3, rn4, rn5, rn6]
    refine reg_step (i := 19) (by kernel_rfl) rfl (by kernel_rfl) (fun K hK => ?_)
    go_simp
    have HS : (fun X => Upd NoF V X) (X1.setCell ⟨W2.heap.size, 0, none⟩ (.int .u8 by_)) := hHeld.trans (Upd.setCell (F := fun k => V.heap.size ≤ k) _ (p := ⟨W2.heap.size, 0, none⟩) (show V.heap.size ≤ W2.heap.size by first | exact Nat.le_refl _ | exact HU2.out.size) _) (fun i hi h => by have h : V.heap.size ≤ i := h; omega)
    clear c0 f0
    refine hK.out _ _ HS (fun hHeld2 => ?_)
    clear hK hHeld2 hHeld; have hHeld := HS; clear HS
    try simp only [Act.put, rn1, rn2, rn3, rn4, rn5, rn6]
    refine rgn 20 (v := ?vq18) hHeld ?yq18 ?_
    case yq18 => (intro w hSw; go_simp; try with_reducible rfl)
    simp only [Act.put, rn1, rn2, rn3, rn4, rn5, rn6]
    refine wpAnyH_done (by kernel_rfl) ?_ _
    have hs9 : Sep NoF w0 (X1.setCell ⟨W2.heap.size, 0, none⟩ (.int .u8 by_)) (boxO W2.heap.size #[.int .u8 by_] 5 :: boxO W.heap.size n.cells NT :: S.objs hb mb p L) := HS9.out
    generalize X1.setCell ⟨W2.heap.size, 0, none⟩ (.int .u8 by_) = X9 at *
    have HS9' := Lib.hid hs9
    have l3 := TNot.ld_at HNN.out (hs9.box 1 rfl).whole
    have b3 := fun w => bd_job HNN.out.1 who w
    have hjo : (Jb.mk n who false false 0).Ok := ⟨HN.out, by simp⟩
    have hjN := Jb.isN hjo
    obtain ⟨j, hj⟩ : ∃ j, Jb.mk n who false false 0 = j := ⟨_, rfl⟩
    rw [hj] at hjo hjN b3
    have hs10 := hs9.alloc j.cells JT
    obtain ⟨X10, hX10⟩ : ∃ X10, X9.alloc (.cells j.cells JT) = X10 := ⟨_, rfl⟩
    have s10 := TJob.st_new hjN X9
    have l10 := TJob.ld_new hjN X9
    rw [hX10] at s10 l10 hs10
    have HJE := Lib.hid hj
    have HJO := Lib.hid hjo
    have HS10 := Lib.hid hs10
    clear hX10 hs9 HS9 HS9' hs10 hHeld hj hjo
    dsimp only [ET.NoPanic]
    by_cases hz : who = 0#32
    · have hw0 : (((who.toNat : Nat) : Int) == 0) = true := by simp [hz]
      have hbg := HBG.out
      rw [if_pos hz, HJE.out] at hbg
      have hjb : j.ask.blk = n.blk := by rw [← HJE.out]
      have HANS := Lib.hid (answer_is (home_shut HFI.out (((HS10.out.drop 0 (by simp)).drop 0 (by simp)).drop 0 (by simp))) HTD.out j HJO.out (hjb ▸ HBN.out.1) (hjb ▸ HBN.out.2))
      have HBG2 := Lib.hid hbg
      clear hbg hjb hz HBG
      go_wp2_with fail
      refine HANS.out.mono ?_
      rintro e X11 ⟨g, rfl, hs11⟩
      have hns : (answerP S j).2.cells.size = 24 := (Nt.Ok.isN (show IsU (answerP S j).2.D from HFI.out.good.isU _)).1
      have HS12 := Lib.hid (hs11.head (Φ' := outO (sl g 1 1) [(answerP S j).2]) (fun F hF => out_one hns hF))
      clear hs11
      go_wp2
      refine postM_ret0 (v := .slice (some ⟨g, 0, none⟩) 1 1) (by simp [results, Tryd.f46, go_sem]) ⟨_, rfl, ?_⟩
      rw [HBG2.out]
      exact HS12.out
    · have hw0 : (((who.toNat : Nat) : Int) == 0) = false := by
        have : who.toNat ≠ 0 := fun e => hz (BitVec.eq_of_toNat_eq (by simpa using e))
        simp; omega
      have hbg := HBG.out
      rw [if_neg hz, HJE.out] at hbg
      have hsd := HS10.out.upd0 (Upd.drew NoF X10)
      have hcnt := cntJ_le S.J S.n
      obtain ⟨X12, x5, hs12, -⟩ := GM.mapPut hsd 6 rfl (by unfold maxLen; omega) (a := (b : Int)) (GM.fit_of (by omega)) (.agg j.cells)
      simp only [List.set_cons_zero, List.set_cons_succ, putN_cnt hbn j, put_jobF] at hs12
      change (Instr.mapUpdate 100 (.map (some p.jb)) (.int .i64 b) (.agg j.cells)).run Tryd.prog X10.drew = .ok () X12 at x5
      have HM0 : Hid ((fun X : World => X.cell? ⟨hb, 10, none⟩ = some (.map (some p.jb)) ∧ X.cell? ⟨W.heap.size, 3, none⟩ = some (.int .i64 b) ∧ (TJob.ld (.pointer (some ⟨X9.heap.size, 0, none⟩))).run Tryd.prog X = .ok (.agg j.cells) X) X10.drew) := Lib.hid ⟨(hsd.box 3 rfl).cell 10, ((hsd.box 2 rfl).cell 3).trans (by rw [← hbk]; exact n.get3), TJob.ld_at hjN (hsd.box 0 rfl).whole⟩
      have HM1 : Hid ((fun X : World => X.cell? ⟨hb, 10, none⟩ = some (.map (some p.jb)) ∧ X.cell? ⟨W.heap.size, 3, none⟩ = some (.int .i64 b) ∧ (TJob.ld (.pointer (some ⟨X9.heap.size, 0, none⟩))).run Tryd.prog X = .ok (.agg j.cells) X) X12) := Lib.hid ⟨(hs12.box 3 rfl).cell 10, ((hs12.box 2 rfl).cell 3).trans (by rw [← hbk]; exact n.get3), TJob.ld_at hjN (hs12.box 0 rfl).whole⟩
      have hQ := fun X (hX : Upd NoF X12 X) => (show X.cell? ⟨W2.heap.size, 0, none⟩ = some (.int .u8 by_) ∧ X.cell? ⟨W.heap.size, 3, none⟩ = some (.int .i64 b) ∧ X.cell? ⟨W.heap.size, 4, none⟩ = some (.int .u64 n.stamp) from
        ⟨((hs12.upd0 hX).box 1 rfl).cell 0, (((hs12.upd0 hX).box 2 rfl).cell 3).trans (by rw [← hbk]; exact n.get3), (((hs12.upd0 hX).box 2 rfl).cell 4).trans n.get4⟩)
      have HQ := Lib.hid hQ
      have hSn : Fits { S with J := updI S.J n.blk (some j) } p := ⟨by have := HGD.out who; rw [HJE.out] at this; exact this, HFI.out.cap, HFI.out.tl⟩
      have hs13 := home_shut (S := { S with J := updI S.J n.blk (some j) }) hSn (show Sep NoF w0 X12 (boxO hb (S.cells mb p) HT :: memO mb S.c.blocks.toNat S.B :: boxO p.eb (rowG 2 S.n (fun i => (S.E i).cells) ++ p.tl) ET' :: GM.mapO jobsT p.jb (cntJ (updI S.J n.blk (some j)) S.n) (jobF (updI S.J n.blk (some j))) :: PN.Po (ptr p.pb) (S.Q.map Nt.cells) S.room :: L) by rw [hbk]; exact ((hs12.drop 0 (by simp)).drop 0 (by simp)).drop 0 (by simp))
      have HS13 := Lib.hid hs13
      have HBG2 := Lib.hid hbg
      have HTX := Lib.hid ((HTD.out.upd hs13.upd (fun h => h)))
      have hL := bitsL_length who
      clear hbg hz HBG hsd hs12 hs13 hSn hQ
      go_wp2_with fail
      refine ET.wp_noPanic ?_
      clear l10 s10 l3 b3
      refine wp_region_held_drew (S := (fun X : World => X.cell? ⟨hb, 10, none⟩ = some (.map (some p.jb)) ∧ X.cell? ⟨W.heap.size, 3, none⟩ = some (.int .i64 b) ∧ (TJob.ld (.pointer (some ⟨X9.heap.size, 0, none⟩))).run Tryd.prog X = .ok (.agg j.cells) X)) (by kernel_rfl) (HM0.out) (fun hHeld => ?_)
      refine rgn 0 (v := ?vq19) hHeld ?yq19 ?_
      case yq19 => (intro w hSw; obtain ⟨k0, k1, k2⟩ := hSw; go_simp; try with_reducible rfl)
      simp only [Act.put, rn1, rn2, rn3, rn4, rn5, rn6]
      refine rgn 1 (v := ?vq20) hHeld ?yq20 ?_
      case yq20 => (intro w hSw; obtain ⟨k0, k1, k2⟩ := hSw; go_simp; try with_reducible rfl)
      simp only [Act.put, rn1, rn2, rn3, rn4, rn5, rn6]
      refine rgn 2 (v := ?vq21) hHeld ?yq21 ?_
      case yq21 => (intro w hSw; obtain ⟨k0, k1, k2⟩ := hSw; go_simp; try with_reducible rfl)
      simp only [Act.put, rn1, rn2, rn3, rn4, rn5, rn6]
      refine rgn 3 (v := ?vq22) hHeld ?yq22 ?_
      case yq22 => (intro w hSw; obtain ⟨k0, k1, k2⟩ := hSw; go_simp; try with_reducible rfl)
      simp only [Act.put, rn1, rn2, rn3, rn4, rn5, rn6]
      refine rgn 4 (v := ?vq23) hHeld ?yq23 ?_
      case yq23 => (intro w hSw; obtain ⟨k0, k1, k2⟩ := hSw; go_simp; try with_reducible rfl)
      simp only [Act.put, rn1, rn2, rn3, rn4, rn5, rn6]
      refine rgn 5 (v := ?vq24) hHeld ?yq24 ?_
      case yq24 => (intro w hSw; obtain ⟨k0, k1, k2⟩ := hSw; go_simp; try with_reducible rfl)
      simp only [Act.put, rn1, rn2, rn3, rn4, rn5, rn6]
      refine rgn 6 (v := ?vq25) hHeld ?yq25 ?_
      case yq25 => (intro w hSw; obtain ⟨k0, k1, k2⟩ := hSw; go_simp; try with_reducible rfl)
      simp only [Act.put, rn1, rn2, rn3, rn4, rn5, rn6]
      refine reg_step (i := 7) (by kernel_rfl) rfl (by kernel_rfl) (fun K hK => ?_)
      go_simp
      have HS := HM1.out
      refine hK.out _ _ HS (fun hHeld2 => ?_)
      clear hK hHeld2 hHeld; have hHeld := HS; clear HS
      try simp only [Act.put, rn1, rn2, rn3, rn4, rn5, rn6]
      refine wpAnyH_done (by kernel_rfl) ?_ _
      dsimp only [ET.NoPanic]
      clear hHeld HM0 HM1 x5
      have hlt9 := HTX.out.lt
      go_wp2_with (go_at_call 76; refine (mall_any _ _).mono ?_; rintro e w' ⟨rfl, rfl⟩)
      obtain ⟨Y0, hY0⟩ : ∃ Y0, (X12.alloc (.cells #[.slice none 0 0] 36)).alloc (.cells #[VM who] 57) = Y0 := ⟨_, rfl⟩
      have hU0 : Upd NoF X12 Y0 := by rw [← hY0]; exact (Upd.alloc NoF X12 _).trans (Upd.alloc NoF _ _) (fun _ _ h => h)
      have b1 : Blk Y0 X12.heap.size #[.slice none 0 0] 36 := by rw [← hY0]; exact (Blk.new X12 _ _).alloc _
      have b2 : Blk Y0 (X12.heap.size + 1) #[VM who] 57 := by
        rw [← hY0]; have := Blk.new (X12.alloc (.cells #[.slice none 0 0] 36)) #[VM who] 57
        rwa [World.size_alloc] at this
      have hs0 : Y0.heap.size = X12.heap.size + 2 := by rw [← hY0]; simp
      rw [hY0]
      clear hY0
      have hT0 := HTX.out.upd hU0 (fun h => h)
      refine wp_range (gf := 97) (lb := #[.pointer (some ⟨X12.heap.size + 1, 0, none⟩)]) rfl (enters_of Tryd.func97 (by kernel_rfl) rfl)
        (mall_seq (X12.heap.size + 1) who (fun k => k = X12.heap.size ∨ X12.heap.size + 2 ≤ k) (by omega) (by omega) (by omega) Y0 b2 hT0) (fun _ => rfl) (fun k hk => by omega) (fun k hk => .inr (by omega))
        (fun k X => ∃ v, Blk X X12.heap.size #[v] 36 ∧ Row X NT 24 v k (rowsOf ((asksL who by_ b n.stamp k).map Nt.cells)).flatten ∧ (∀ b, v.ownBlock = some b → X12.heap.size + 2 ≤ b) ∧ Upd NoF X12 X ∧ X12.heap.size + 2 ≤ X.heap.size)
        (fun _ _ _ => False)
        (fun k A B hs hb => by
          obtain ⟨v, h1, h2, h3, h4, h5⟩ := hs
          exact ⟨v, h1.bk hb (by omega), h2.bk hb (fun b hb' => by have := h3 b hb'; omega), h3, h4.bk hb (by omega) (fun b hb' => by omega), Nat.le_trans h5 hb.size⟩)
        (fun _ _ _ _ h _ => h)
        ⟨_, b1, Row.nil _ _ _, fun k hk => by simp [Value.ownBlock] at hk, hU0, by omega⟩
        ?rnd ?dn ?stp
      case rnd =>
        intro l k x hx W9 K' hK'
        gi_wp2
        rintro X ⟨v, q1, q2, q3, q4, q5⟩
        obtain ⟨a, cap, rfl, _⟩ := q2.slice
        obtain ⟨i0, hi, hz0, hz1, hz2⟩ := info_parts PN.infoE
        have hk : k < (bitsL who).length := (List.getElem?_eq_some_iff.1 hx).1
        have hzN := Nt.Ok.isN (n := ntAsk by_ x b n.stamp) BU.isU_Z
        have qx := (Blk.new X (ntAsk by_ x b n.stamp).cells NT).whole
        obtain ⟨v', W1, hrun, hrow, hg, hf⟩ := run_append_row (P := Tryd.prog) (X.alloc (.cells (ntAsk by_ x b n.stamp).cells NT)) 36 36 NT i0 (.agg TNot.Z) 24 112 Tryd.underlying36 hi hz0 hz1 hz2 PN.zsize (by decide) (.slice a k cap) k (rowsOf ((asksL who by_ b n.stamp k).map Nt.cells)).flatten
          (q2.alloc _) ⟨X.heap.size, 0, none⟩ 1 1 (ntAsk by_ x b n.stamp).cells.toList (by simp [hzN.1]) (fun j u hu => by rw [Addr.add_lit]; simpa using qx j u hu) (fun u hu => hzN.2 u (by simpa using hu)) (by unfold maxLen; omega) (by omega)
        obtain ⟨c1, f1, hb', hr', hv', hu'⟩ := note_append (lo := X12.heap.size + 2) q1 (by omega) q5 q3 q2 hg hrow hf
        have c0 : X.cell? ⟨X12.heap.size, 0, none⟩ = some (.slice a k cap) := q1.cell 0
        obtain ⟨g0, g3, g4⟩ := HQ.out X q4
        obtain ⟨a', cap', rfl, _⟩ := hrow.slice
        have bs := fun w => bd_stamp by_ (x : Int) b n.stamp w
        have bl := fun w => bsN_run hzN.1 w
        have HR := Lib.hid hrun
        have HX := Lib.hid hx
        have HU := Lib.hid (And.intro hb' (And.intro hr' (And.intro hv' (And.intro hu' (q4.trans hu' (fun i hi h => by omega))))))
        have hsz := hu'.size
        clear hrun hrow hg hf hb' hr' hv' hu' q1 q2 q3 q4 hx qx hzN
        gi_wp2_with (gi_at_builtin; refine wpListIn_append_run (w := X.alloc (.cells (ntAsk by_ x b n.stamp).cells NT)) rfl _ _ 36 rfl rfl rfl HR.out ?_)
        refine ⟨HU.out.2.2.2.1, _, HU.out.1, ?_, HU.out.2.2.1, HU.out.2.2.2.2, by omega⟩
        rw [asksL_succ HX.out]
        exact HU.out.2.1
      case dn =>
        rintro D X hD ⟨v, q1, q2, q3, q4, q5⟩ hK
        obtain ⟨a, cap, rfl, _⟩ := q2.slice
        have c0 : X.cell? ⟨X12.heap.size, 0, none⟩ = some (.slice a (bitsL who).length cap) := q1.cell 0
        have HQ2 := Lib.hid (And.intro q2 (And.intro q3 q4))
        clear q1 q2 q3 q4
        go_wp2
        refine postM_ret1 hK (v := .slice a (bitsL who).length cap) (by simp [results, Tryd.f46, go_sem]) ⟨_, rfl, ?_⟩
        have hbk2 := Bk.putObj (n := X12.heap.size) (G := NoF) hK rfl (by omega) (.deferred none)
        have hu2 := HQ2.out.2.2.bk hbk2 (Nat.le_refl _) (fun _ h => h.elim)
        have hr2 := HQ2.out.1.bk hbk2 (fun _ _ h => h)
        rw [HBG2.out]
        refine HS13.out.push hu2 ⟨?_, fun k hk => by have := HQ2.out.2.1 k hk; omega⟩
        have e : (asksL who by_ b n.stamp (bitsL who).length).length = (bitsL who).length := by unfold asksL; simp
        rw [e]
        exact hr2
      case stp =>
        rintro D c k X hD hkl h hK
        exact h.elim
  · go_simp
    have HS : (fun X => Upd NoF V X) (V.alloc (.cells #[.int .u8 0] 5)).drew := HDR.out.trans (Upd.alloc NoF V.drew (.cells #[.int .u8 0] 5)) (fun _ _ h => h)
    have HSB0 : Hid (Sep NoF w0 (V.alloc (.cells #[.int .u8 0] 5)).drew (boxO V.heap.size #[.int .u8 0] 5 :: boxO W.heap.size n.cells NT :: S.objs hb mb p L)) := Lib.hid ((HSV.out.upd0 HDR.out).alloc #[.int .u8 0] 5)
    refine hK.out _ _ HS (fun hHeld2 => ?_)
    clear hK hHeld2 hHeld; have hHeld := HS; clear HS
    try simp only [Act.put, rn1, rn2, rn3, rn4, rn5, rn6]
    refine reg_step (i := 12) (by kernel_rfl) rfl (by kernel_rfl) (fun K hK => ?_)
    go_simp
    refine (HG.out _ hHeld).mono ?_
    rintro e W2 ⟨rfl, hu⟩
    have HS : (fun X => Upd NoF V X) W2 := hHeld.trans hu (fun _ _ h => h)
    have hsB := HSB0.out.upd0 hu; have c0 : W2.cell? ⟨V.heap.size, 0, none⟩ = some (.int .u8 0) := (hsB.box 0 rfl).cell 0; have f0 := (hsB.box 0 rfl).frozen 0; have HS9 := Lib.hid (hsB.set 0 rfl 0 (.int .u8 by_)); clear hu HSB0 hsB
    go_wp2_with fail
    refine hK.out _ _ HS (fun hHeld2 => ?_)
    clear hK hHeld2 hHeld; have hHeld := HS; clear HS
    try simp only [Act.put, rn1, rn2, rn3, rn4, rn5, rn6]
    refine rgn 13 (v := ?vq26) hHeld ?yq26 ?_
    case yq26 => (intro w hSw; go_simp; try with_reducible rfl)
    simp only [Act.put, rn1, rn2, rn3, rn4, rn5, rn6]
    refine rgn 14 (v := ?vq27) hHeld ?yq27 ?_
    case yq27 => (intro w hSw; go_simp; try with_reducible rfl)
    simp only [Act.put, rn1, rn2, rn3, rn4, rn5, rn6]
    refine rgn 15 (v := ?vq28) hHeld ?yq28 ?_
    case yq28 => (intro w hSw; go_simp; try with_reducible rfl)
    simp only [Act.put, rn1, rn2, rn3, rn4, rn5, rn6]
    refine rgn 16 (v := ?vq29) hHeld ?yq29 ?_
    case yq29 => (intro w hSw; go_simp; try with_reducible rfl)
    simp only [Act.put, rn1, rn2, rn3, rn4, rn5, rn6]
    refine rgn 18 (v := ?vq30) hHeld ?yq30 ?_
    case yq30 => (intro w hSw; go_simp; try with_reducible rfl)
    simp only [Act.put, rn1, rn2, rn3, rn4, rn5, rn6]
    refine reg_step (i := 19) (by kernel_rfl) rfl (by kernel_rfl) (fun K hK => ?_)
    go_simp
    have HS : (fun X => Upd NoF V X) (W2.setCell ⟨V.heap.size, 0, none⟩ (.int .u8 by_)) := hHeld.trans (Upd.setCell (F := fun k => V.heap.size ≤ k) _ (p := ⟨V.heap.size, 0, none⟩) (show V.heap.size ≤ V.heap.size by first | exact Nat.le_refl _ | exact HU2.out.size) _) (fun i hi h => by have h : V.heap.size ≤ i := h; omega)
    clear c0 f0
    refine hK.out _ _ HS (fun hHeld2 => ?_)
    clear hK hHeld2 hHeld; have hHeld := HS; clear HS
    try simp only [Act.put, rn1, rn2, rn3, rn4, rn5, rn6]
    refine rgn 20 (v := ?vq31) hHeld ?yq31 ?_
    case yq31 => (intro w hSw; go_simp; try with_reducible rfl)
    simp only [Act.put, rn1, rn2, rn3, rn4, rn5, rn6]
    refine wpAnyH_done (by kernel_rfl) ?_ _
    have hs9 : Sep NoF w0 (W2.setCell ⟨V.heap.size, 0, none⟩ (.int .u8 by_)) (boxO V.heap.size #[.int .u8 by_] 5 :: boxO W.heap.size n.cells NT :: S.objs hb mb p L) := HS9.out
    generalize W2.setCell ⟨V.heap.size, 0, none⟩ (.int .u8 by_) = X9 at *
    have HS9' := Lib.hid hs9
    have l3 := TNot.ld_at HNN.out (hs9.box 1 rfl).whole
    have b3 := fun w => bd_job HNN.out.1 who w
    have hjo : (Jb.mk n who false false 0).Ok := ⟨HN.out, by simp⟩
    have hjN := Jb.isN hjo
    obtain ⟨j, hj⟩ : ∃ j, Jb.mk n who false false 0 = j := ⟨_, rfl⟩
    rw [hj] at hjo hjN b3
    have hs10 := hs9.alloc j.cells JT
    obtain ⟨X10, hX10⟩ : ∃ X10, X9.alloc (.cells j.cells JT) = X10 := ⟨_, rfl⟩
    have s10 := TJob.st_new hjN X9
    have l10 := TJob.ld_new hjN X9
    rw [hX10] at s10 l10 hs10
    have HJE := Lib.hid hj
    have HJO := Lib.hid hjo
    have HS10 := Lib.hid hs10
    clear hX10 hs9 HS9 HS9' hs10 hHeld hj hjo
    dsimp only [ET.NoPanic]
    by_cases hz : who = 0#32
    · have hw0 : (((who.toNat : Nat) : Int) == 0) = true := by simp [hz]
      have hbg := HBG.out
      rw [if_pos hz, HJE.out] at hbg
      have hjb : j.ask.blk = n.blk := by rw [← HJE.out]
      have HANS := Lib.hid (answer_is (home_shut HFI.out (((HS10.out.drop 0 (by simp)).drop 0 (by simp)).drop 0 (by simp))) HTD.out j HJO.out (hjb ▸ HBN.out.1) (hjb ▸ HBN.out.2))
      have HBG2 := Lib.hid hbg
      clear hbg hjb hz HBG
      go_wp2_with fail
      refine HANS.out.mono ?_
      rintro e X11 ⟨g, rfl, hs11⟩
      have hns : (answerP S j).2.cells.size = 24 := (Nt.Ok.isN (show IsU (answerP S j).2.D from HFI.out.good.isU _)).1
      have HS12 := Lib.hid (hs11.head (Φ' := outO (sl g 1 1) [(answerP S j).2]) (fun F hF => out_one hns hF))
      clear hs11
      go_wp2
      refine postM_ret0 (v := .slice (some ⟨g, 0, none⟩) 1 1) (by simp [results, Tryd.f46, go_sem]) ⟨_, rfl, ?_⟩
      rw [HBG2.out]
      exact HS12.out
    · have hw0 : (((who.toNat : Nat) : Int) == 0) = false := by
        have : who.toNat ≠ 0 := fun e => hz (BitVec.eq_of_toNat_eq (by simpa using e))
        simp; omega
      have hbg := HBG.out
      rw [if_neg hz, HJE.out] at hbg
      have hsd := HS10.out.upd0 (Upd.drew NoF X10)
      have hcnt := cntJ_le S.J S.n
      obtain ⟨X12, x5, hs12, -⟩ := GM.mapPut hsd 6 rfl (by unfold maxLen; omega) (a := (b : Int)) (GM.fit_of (by omega)) (.agg j.cells)
      simp only [List.set_cons_zero, List.set_cons_succ, putN_cnt hbn j, put_jobF] at hs12
      change (Instr.mapUpdate 100 (.map (some p.jb)) (.int .i64 b) (.agg j.cells)).run Tryd.prog X10.drew = .ok () X12 at x5
      have HM0 : Hid ((fun X : World => X.cell? ⟨hb, 10, none⟩ = some (.map (some p.jb)) ∧ X.cell? ⟨W.heap.size, 3, none⟩ = some (.int .i64 b) ∧ (TJob.ld (.pointer (some ⟨X9.heap.size, 0, none⟩))).run Tryd.prog X = .ok (.agg j.cells) X) X10.drew) := Lib.hid ⟨(hsd.box 3 rfl).cell 10, ((hsd.box 2 rfl).cell 3).trans (by rw [← hbk]; exact n.get3), TJob.ld_at hjN (hsd.box 0 rfl).whole⟩
      have HM1 : Hid ((fun X : World => X.cell? ⟨hb, 10, none⟩ = some (.map (some p.jb)) ∧ X.cell? ⟨W.heap.size, 3, none⟩ = some (.int .i64 b) ∧ (TJob.ld (.pointer (some ⟨X9.heap.size, 0, none⟩))).run Tryd.prog X = .ok (.agg j.cells) X) X12) := Lib.hid ⟨(hs12.box 3 rfl).cell 10, ((hs12.box 2 rfl).cell 3).trans (by rw [← hbk]; exact n.get3), TJob.ld_at hjN (hs12.box 0 rfl).whole⟩
      have hQ := fun X (hX : Upd NoF X12 X) => (show X.cell? ⟨V.heap.size, 0, none⟩ = some (.int .u8 by_) ∧ X.cell? ⟨W.heap.size, 3, none⟩ = some (.int .i64 b) ∧ X.cell? ⟨W.heap.size, 4, none⟩ = some (.int .u64 n.stamp) from
        ⟨((hs12.upd0 hX).box 1 rfl).cell 0, (((hs12.upd0 hX).box 2 rfl).cell 3).trans (by rw [← hbk]; exact n.get3), (((hs12.upd0 hX).box 2 rfl).cell 4).trans n.get4⟩)
      have HQ := Lib.hid hQ
      have hSn : Fits { S with J := updI S.J n.blk (some j) } p := ⟨by have := HGD.out who; rw [HJE.out] at this; exact this, HFI.out.cap, HFI.out.tl⟩
      have hs13 := home_shut (S := { S with J := updI S.J n.blk (some j) }) hSn (show Sep NoF w0 X12 (boxO hb (S.cells mb p) HT :: memO mb S.c.blocks.toNat S.B :: boxO p.eb (rowG 2 S.n (fun i => (S.E i).cells) ++ p.tl) ET' :: GM.mapO jobsT p.jb (cntJ (updI S.J n.blk (some j)) S.n) (jobF (updI S.J n.blk (some j))) :: PN.Po (ptr p.pb) (S.Q.map Nt.cells) S.room :: L) by rw [hbk]; exact ((hs12.drop 0 (by simp)).drop 0 (by simp)).drop 0 (by simp))
      have HS13 := Lib.hid hs13
      have HBG2 := Lib.hid hbg
      have HTX := Lib.hid ((HTD.out.upd hs13.upd (fun h => h)))
      have hL := bitsL_length who
      clear hbg hz HBG hsd hs12 hs13 hSn hQ
      go_wp2_with fail
      refine ET.wp_noPanic ?_
      clear l10 s10 l3 b3
      refine wp_region_held_drew (S := (fun X : World => X.cell? ⟨hb, 10, none⟩ = some (.map (some p.jb)) ∧ X.cell? ⟨W.heap.size, 3, none⟩ = some (.int .i64 b) ∧ (TJob.ld (.pointer (some ⟨X9.heap.size, 0, none⟩))).run Tryd.prog X = .ok (.agg j.cells) X)) (by kernel_rfl) (HM0.out) (fun hHeld => ?_)
      refine rgn 0 (v := ?vq32) hHeld ?yq32 ?_
      case yq32 => (intro w hSw; obtain ⟨k0, k1, k2⟩ := hSw; go_simp; try with_reducible rfl)
      simp only [Act.put, rn1, rn2, rn3, rn4, rn5, rn6]
      refine rgn 1 (v := ?vq33) hHeld ?yq33 ?_
      case yq33 => (intro w hSw; obtain ⟨k0, k1, k2⟩ := hSw; go_simp; try with_reducible rfl)
      simp only [Act.put, rn1, rn2, rn3, rn4, rn5, rn6]
      refine rgn 2 (v := ?vq34) hHeld ?yq34 ?_
      case yq34 => (intro w hSw; obtain ⟨k0, k1, k2⟩ := hSw; go_simp; try with_reducible rfl)
      simp only [Act.put, rn1, rn2, rn3, rn4, rn5, rn6]
      refine rgn 3 (v := ?vq35) hHeld ?yq35 ?_
      case yq35 => (intro w hSw; obtain ⟨k0, k1, k2⟩ := hSw; go_simp; try with_reducible rfl)
      simp only [Act.put, rn1, rn2, rn3, rn4, rn5, rn6]
      refine rgn 4 (v := ?vq36) hHeld ?yq36 ?_
      case yq36 => (intro w hSw; obtain ⟨k0, k1, k2⟩ := hSw; go_simp; try with_reducible rfl)
      simp only [Act.put, rn1, rn2, rn3, rn4, rn5, rn6]
      refine rgn 5 (v := ?vq37) hHeld ?yq37 ?_
      case yq37 => (intro w hSw; obtain ⟨k0, k1, k2⟩ := hSw; go_simp; try with_reducible rfl)
      simp only [Act.put, rn1, rn2, rn3, rn4, rn5, rn6]
      refine rgn 6 (v := ?vq38) hHeld ?yq38 ?_
      case yq38 => (intro w hSw; obtain ⟨k0, k1, k2⟩ := hSw; go_simp; try with_reducible rfl)
      simp only [Act.put, rn1, rn2, rn3, rn4, rn5, rn6]
      refine reg_step (i := 7) (by kernel_rfl) rfl (by kernel_rfl) (fun K hK => ?_)
      go_simp
      have HS := HM1.out
      refine hK.out _ _ HS (fun hHeld2 => ?_)
      clear hK hHeld2 hHeld; have hHeld := HS; clear HS
      try simp only [Act.put, rn1, rn2, rn3, rn4, rn5, rn6]
      refine wpAnyH_done (by kernel_rfl) ?_ _
      dsimp only [ET.NoPanic]
      clear hHeld HM0 HM1 x5
      have hlt9 := HTX.out.lt
      go_wp2_with (go_at_call 76; refine (mall_any _ _).mono ?_; rintro e w' ⟨rfl, rfl⟩)
      obtain ⟨Y0, hY0⟩ : ∃ Y0, (X12.alloc (.cells #[.slice none 0 0] 36)).alloc (.cells #[VM who] 57) = Y0 := ⟨_, rfl⟩
      have hU0 : Upd NoF X12 Y0 := by rw [← hY0]; exact (Upd.alloc NoF X12 _).trans (Upd.alloc NoF _ _) (fun _ _ h => h)
      have b1 : Blk Y0 X12.heap.size #[.slice none 0 0] 36 := by rw [← hY0]; exact (Blk.new X12 _ _).alloc _
      have b2 : Blk Y0 (X12.heap.size + 1) #[VM who] 57 := by
        rw [← hY0]; have := Blk.new (X12.alloc (.cells #[.slice none 0 0] 36)) #[VM who] 57
        rwa [World.size_alloc] at this
      have hs0 : Y0.heap.size = X12.heap.size + 2 := by rw [← hY0]; simp
      rw [hY0]
      clear hY0
      have hT0 := HTX.out.upd hU0 (fun h => h)
      refine wp_range (gf := 97) (lb := #[.pointer (some ⟨X12.heap.size + 1, 0, none⟩)]) rfl (enters_of Tryd.func97 (by kernel_rfl) rfl)
        (mall_seq (X12.heap.size + 1) who (fun k => k = X12.heap.size ∨ X12.heap.size + 2 ≤ k) (by omega) (by omega) (by omega) Y0 b2 hT0) (fun _ => rfl) (fun k hk => by omega) (fun k hk => .inr (by omega))
        (fun k X => ∃ v, Blk X X12.heap.size #[v] 36 ∧ Row X NT 24 v k (rowsOf ((asksL who by_ b n.stamp k).map Nt.cells)).flatten ∧ (∀ b, v.ownBlock = some b → X12.heap.size + 2 ≤ b) ∧ Upd NoF X12 X ∧ X12.heap.size + 2 ≤ X.heap.size)
        (fun _ _ _ => False)
        (fun k A B hs hb => by
          obtain ⟨v, h1, h2, h3, h4, h5⟩ := hs
          exact ⟨v, h1.bk hb (by omega), h2.bk hb (fun b hb' => by have := h3 b hb'; omega), h3, h4.bk hb (by omega) (fun b hb' => by omega), Nat.le_trans h5 hb.size⟩)
        (fun _ _ _ _ h _ => h)
        ⟨_, b1, Row.nil _ _ _, fun k hk => by simp [Value.ownBlock] at hk, hU0, by omega⟩
        ?rnd ?dn ?stp
      case rnd =>
        intro l k x hx W9 K' hK'
        gi_wp2
        rintro X ⟨v, q1, q2, q3, q4, q5⟩
        obtain ⟨a, cap, rfl, _⟩ := q2.slice
        obtain ⟨i0, hi, hz0, hz1, hz2⟩ := info_parts PN.infoE
        have hk : k < (bitsL who).length := (List.getElem?_eq_some_iff.1 hx).1
        have hzN := Nt.Ok.isN (n := ntAsk by_ x b n.stamp) BU.isU_Z
        have qx := (Blk.new X (ntAsk by_ x b n.stamp).cells NT).whole
        obtain ⟨v', W1, hrun, hrow, hg, hf⟩ := run_append_row (P := Tryd.prog) (X.alloc (.cells (ntAsk by_ x b n.stamp).cells NT)) 36 36 NT i0 (.agg TNot.Z) 24 112 Tryd.underlying36 hi hz0 hz1 hz2 PN.zsize (by decide) (.slice a k cap) k (rowsOf ((asksL who by_ b n.stamp k).map Nt.cells)).flatten
          (q2.alloc _) ⟨X.heap.size, 0, none⟩ 1 1 (ntAsk by_ x b n.stamp).cells.toList (by simp [hzN.1]) (fun j u hu => by rw [Addr.add_lit]; simpa using qx j u hu) (fun u hu => hzN.2 u (by simpa using hu)) (by unfold maxLen; omega) (by omega)
        obtain ⟨c1, f1, hb', hr', hv', hu'⟩ := note_append (lo := X12.heap.size + 2) q1 (by omega) q5 q3 q2 hg hrow hf
        have c0 : X.cell? ⟨X12.heap.size, 0, none⟩ = some (.slice a k cap) := q1.cell 0
        obtain ⟨g0, g3, g4⟩ := HQ.out X q4
        obtain ⟨a', cap', rfl, _⟩ := hrow.slice
        have bs := fun w => bd_stamp by_ (x : Int) b n.stamp w
        have bl := fun w => bsN_run hzN.1 w
        have HR := Lib.hid hrun
        have HX := Lib.hid hx
        have HU := Lib.hid (And.intro hb' (And.intro hr' (And.intro hv' (And.intro hu' (q4.trans hu' (fun i hi h => by omega))))))
        have hsz := hu'.size
        clear hrun hrow hg hf hb' hr' hv' hu' q1 q2 q3 q4 hx qx hzN
        gi_wp2_with (gi_at_builtin; refine wpListIn_append_run (w := X.alloc (.cells (ntAsk by_ x b n.stamp).cells NT)) rfl _ _ 36 rfl rfl rfl HR.out ?_)
        refine ⟨HU.out.2.2.2.1, _, HU.out.1, ?_, HU.out.2.2.1, HU.out.2.2.2.2, by omega⟩
        rw [asksL_succ HX.out]
        exact HU.out.2.1
      case dn =>
        rintro D X hD ⟨v, q1, q2, q3, q4, q5⟩ hK
        obtain ⟨a, cap, rfl, _⟩ := q2.slice
        have c0 : X.cell? ⟨X12.heap.size, 0, none⟩ = some (.slice a (bitsL who).length cap) := q1.cell 0
        have HQ2 := Lib.hid (And.intro q2 (And.intro q3 q4))
        clear q1 q2 q3 q4
        go_wp2
        refine postM_ret1 hK (v := .slice a (bitsL who).length cap) (by simp [results, Tryd.f46, go_sem]) ⟨_, rfl, ?_⟩
        have hbk2 := Bk.putObj (n := X12.heap.size) (G := NoF) hK rfl (by omega) (.deferred none)
        have hu2 := HQ2.out.2.2.bk hbk2 (Nat.le_refl _) (fun _ h => h.elim)
        have hr2 := HQ2.out.1.bk hbk2 (fun _ _ h => h)
        rw [HBG2.out]
        refine HS13.out.push hu2 ⟨?_, fun k hk => by have := HQ2.out.2.1 k hk; omega⟩
        have e : (asksL who by_ b n.stamp (bitsL who).length).length = (bitsL who).length := by unfold asksL; simp
        rw [e]
        exact hr2
      case stp =>
        rintro D c k X hD hkl h hK
        exact h.elim
end
end Go.Proofs.YtlhbnndnkcpomaaDoor.HO
