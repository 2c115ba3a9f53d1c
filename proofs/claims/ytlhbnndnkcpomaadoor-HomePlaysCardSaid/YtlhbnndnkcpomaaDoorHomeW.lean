/- The contracts of package home: an ask is answered. -/
import Derived.Test.YtlhbnndnkcpomaaDoorHomeR
import Derived.Test.YtlhbnndnkcpomaaDoorHomeB
import Derived.Test.YtlhbnndnkcpomaaDoorAggEntry
set_option linter.unusedSimpArgs false
set_option linter.unusedVariables false
namespace Go.Proofs.YtlhbnndnkcpomaaDoor.HO
open Go.RowKit
open BU (IsU words)
open PL (Cfg CC CV May)
open ME (memO sl)
attribute [local go_sem] Oper.semAt_some
attribute [local go_sem ↓] TNot.ld_eq TNot.st_eq TNot.al_eq TNot.bx_eq TJob.ld_eq TJob.st_eq TJob.al_eq TJob.bx_eq TBlk.ld_eq TBlk.st_eq TBlk.al_eq TBlk.bx_eq TEnt.ld_eq TEnt.st_eq TEnt.al_eq TEnt.bx_eq bdN_eq bdJ_eq bsN_eq
attribute [local go_sem] TNot.al_run TNot.bx_run TJob.al_run TJob.bx_run TBlk.al_run TBlk.bx_run TEnt.al_run TEnt.bx_run
theorem getsV_eq (e : En) (k x : Int) : ET.getsV e.own e.shr k x = .tuple #[.agg (getsP e k x).1.cells, .int .u8 (getsP e k x).2, .int .i64 (if ET.askE e.own e.shr k x then 0 else 2)] := by
  unfold ET.getsV getsP
  cases h : ET.askE e.own e.shr k x
  · rfl
  · simp only [if_true]
    split
    · rfl
    · split <;> rfl
theorem ent_set {n i : Nat} {E : Nat → En} {tl : Array Value} (hi : i < n) (e : En) : setMany (rowG 2 n (fun i => (E i).cells) ++ tl) (i * 2) e.cells.toList = rowG 2 n (fun k => (updG E i e k).cells) ++ tl := by
  have := rowX_setG (k := 2) (n := n) (i := i) (f := fun i => (E i).cells) (x := e.cells) (tl := tl) (fun _ => rfl) rfl hi
  have e2 : (fun k => (updG E i e k).cells) = updG (fun i => (E i).cells) i e.cells := by
    funext k
    unfold updG
    split <;> rfl
  rw [e2, ← this]
theorem est_mid {x X : Array Value} (hx : IsN 2 x) {w : World} {b o : Nat} {T : TypeId} (h : Blk w b X T) (ho : o + 2 ≤ X.size) : (TEnt.st (.pointer (some ⟨b, o, none⟩)) (.agg x)).run Tryd.prog w = .ok () (w.setCells b o x.toList) :=
  run_storeAt_mid w b o ET' x (there_of h (by rw [hx.1]; exact ho)) (by rw [TEnt.infoS, hx.1]) hx.all
theorem HAt.ld {X : World} {S : Hs} {hb mb : Nat} {p : Hp} (h : HAt S hb mb p X) {i : Nat} (hi : i < S.n) : (TEnt.ld (.pointer (some ⟨p.eb, i * 2, none⟩))).run Tryd.prog X = .ok (.agg (S.E i).cells) X :=
  TEnt.ld_at (En.isN _) (rowG_range (f := fun i => (S.E i).cells) h.ent rfl hi)
/-- Notes that go out. -/
def outO (v : Value) (ns : List Nt) : Obj := rowO NT 24 v ns.length (rowsOf (ns.map Nt.cells)).flatten
theorem out_one {W : World} {F : Nat → Prop} {g : Nat} {n : Nt} (hn : n.cells.size = 24) (h : (boxO g n.cells NT).is W F) : (outO (sl g 1 1) [n]).is W F := by
  refine ⟨⟨by simp [rowsOf, hn], .inr ⟨g, 1, n.cells, rfl, h.1, Nat.le_refl _, by unfold maxLen; omega, by omega, by simp [rowsOf]; rw [List.take_of_length_le (by simp [hn])]⟩⟩, fun k hk => ?_⟩
  simp [Value.ownBlock] at hk
  subst hk; exact h.2
theorem Hs.n_eq {S S' : Hs} (h : S'.c = S.c) : S'.n = S.n ∧ S'.data = S.data ∧ S'.room = S.room := by unfold Hs.n Hs.data Hs.room; rw [h]; exact ⟨rfl, rfl, rfl⟩
theorem good_answer {S : Hs} (h : Good S) {j : Jb} (hj : j.Ok) (h0 : 0 ≤ j.ask.blk) (h1 : j.ask.blk < S.data) : Good (answerP S j).1 := by
  refine ⟨h.may, h.isU, fun b k hk => ?_, h.que, h.few⟩
  by_cases e : b = j.ask.blk
  · subst e
    have : some { j with ans := true } = some k := by rw [← hk]; exact (updI_same _ _ _).symm
    cases this
    exact ⟨h0, h1, rfl, hj.ask, hj.least⟩
  · have : S.J b = some k := by rw [← hk]; exact (updI_other _ _ e).symm
    exact h.key b k this
section
variable {w0 W W' : World} {hb mb : Nat} {S : Hs} {L : List Obj}
set_option maxRecDepth 100000 in
set_option maxHeartbeats 4000000 in
theorem answer_is (h : Sep NoF w0 W (homeO hb mb S :: L)) (hT : Tab w0) (j : Jb) (hj : j.Ok) (h0 : 0 ≤ j.ask.blk) (h1 : j.ask.blk < S.data) : Calls Tryd.prog 50 #[ptr hb, .agg j.cells] W fun e W' =>
    ∃ g, e = .returned (sl g 1 1) ∧ Sep NoF w0 W' (boxO g (answerP S j).2.cells NT :: homeO hb mb (answerP S j).1 :: L) := by
  have hgood' : ∀ p, Fits S p → Fits (answerP S j).1 p := fun p hf => ⟨good_answer hf.good hj h0 h1, hf.cap, hf.tl⟩
  obtain ⟨p, hf, hs⟩ := home_open h
  have hdat := hf.good.data
  obtain ⟨b, hbk⟩ : ∃ b : Nat, j.ask.blk = b := ⟨j.ask.blk.toNat, by omega⟩
  have hbn : b < S.n := by omega
  have hjN := Jb.isN hj
  have hs1 := hs.alloc j.cells JT
  obtain ⟨V, hV⟩ : ∃ V, W.alloc (.cells j.cells JT) = V := ⟨_, rfl⟩
  rw [hV] at hs1
  have HV := Lib.hid hV; have HSV := Lib.hid hs1; have HFF := Lib.hid hgood'; have HFI := Lib.hid hf
  have hA := HAt.of (hs1.drop 0 (by simp))
  have qj := hs1.box 0 rfl
  have HF := Lib.hid (fun X (hX : Upd NoF V X) => (show X.cell? ⟨W.heap.size, 0, none⟩ = some (.int .u8 j.ask.kind) ∧ X.cell? ⟨W.heap.size, 1, none⟩ = some (.int .i64 j.ask.frm) ∧ X.cell? ⟨hb, 9, none⟩ = some (sl p.eb S.n p.cap) ∧ (TEnt.ld (.pointer (some ⟨p.eb, b * 2, none⟩))).run Tryd.prog X = .ok (.agg (S.E b).cells) X from
    ⟨((qj.upd hX (fun h => h)).cell 0).trans (by rw [Jb.get_ask (by omega) hjN.1]; exact j.ask.get0), ((qj.upd hX (fun h => h)).cell 1).trans (by rw [Jb.get_ask (by omega) hjN.1]; exact j.ask.get1), (hA.upd hX).box.cell 9, (hA.upd hX).ld hbn⟩))
  have v3 : V.cell? ⟨W.heap.size, 3, none⟩ = some (.int .i64 b) := (qj.cell 3).trans (by rw [Jb.get_ask (by omega) hjN.1, ← hbk]; exact j.ask.get3)
  have HG := Lib.hid (fun X (hX : Upd NoF V X) => (show Calls Tryd.prog 81 #[.agg (S.E b).cells, .int .u8 j.ask.kind, .int .i64 j.ask.frm] X _ from getsV_eq (S.E b) j.ask.kind j.ask.frm ▸ ET.gets_e (S.E b).own (S.E b).shr j.ask.kind j.ask.frm X ((hT.upd hs1.upd (fun h => h)).upd hX (fun h => h))))
  have hans : answerP S j = ({ S with E := updG S.E b (getsP (S.E b) j.ask.kind j.ask.frm).1, J := updI S.J b (some { j with ans := true }) }, ntData j.ask.frm b (getsP (S.E b) j.ask.kind j.ask.frm).2 (S.B b)) := by
    unfold answerP; rw [hbk]; rfl
  have hcap := hf.cap
  have hbc : b < p.cap := by omega
  have hcm := hcap.2
  unfold maxLen at hcm
  have hlt : (b : Int) < (S.n : Int) := by omega
  rw [hans] at HFF ⊢
  have HTd := Lib.hid hT
  have HDR := Lib.hid (Upd.drew NoF V)
  have HJ := Lib.hid hj
  clear h hs hs1 hV hgood' hf hA qj hT hans hcap
  generalize hgp : getsP (S.E b) j.ask.kind j.ask.frm = gp at *
  generalize hgr : (if ET.askE (S.E b).own (S.E b).shr j.ask.kind j.ask.frm then (0 : Int) else 2) = gr at *
  go_enter Tryd.func50, Tryd.ntmps50
  go_upto_region 1 with fail
  rw [HV.out]
  go_wp2_with fail
  refine wp_region_held_drew (S := (fun X => Upd NoF V X)) (by kernel_rfl) (HDR.out) (fun hHeld => ?_)
  refine rgn 0 (v := ?vq1) hHeld ?yq1 ?_
  case yq1 => (intro w hSw; obtain ⟨k0, k1, k2, k3⟩ := HF.out _ hSw; go_simp; try with_reducible rfl)
  simp only [Act.put, rn1, rn2, rn3, rn4, rn5, rn6]
  refine rgn 1 (v := ?vq2) hHeld ?yq2 ?_
  case yq2 => (intro w hSw; obtain ⟨k0, k1, k2, k3⟩ := HF.out _ hSw; go_simp; try with_reducible rfl)
  simp only [Act.put, rn1, rn2, rn3, rn4, rn5, rn6]
  refine rgn 2 (v := ?vq3) hHeld ?yq3 ?_
  case yq3 => (intro w hSw; obtain ⟨k0, k1, k2, k3⟩ := HF.out _ hSw; go_simp; try with_reducible rfl)
  simp only [Act.put, rn1, rn2, rn3, rn4, rn5, rn6]
  refine rgn 3 (v := ?vq4) hHeld ?yq4 ?_
  case yq4 => (intro w hSw; obtain ⟨k0, k1, k2, k3⟩ := HF.out _ hSw; go_simp; try with_reducible rfl)
  simp only [Act.put, rn1, rn2, rn3, rn4, rn5, rn6]
  refine rgn 4 (v := ?vq5) hHeld ?yq5 ?_
  case yq5 => (intro w hSw; obtain ⟨k0, k1, k2, k3⟩ := HF.out _ hSw; go_simp; try with_reducible rfl)
  simp only [Act.put, rn1, rn2, rn3, rn4, rn5, rn6]
  refine rgn 5 (v := ?vq6) hHeld ?yq6 ?_
  case yq6 => (intro w hSw; obtain ⟨k0, k1, k2, k3⟩ := HF.out _ hSw; go_simp; try with_reducible rfl)
  simp only [Act.put, rn1, rn2, rn3, rn4, rn5, rn6]
  refine rgn 6 (v := ?vq7) hHeld ?yq7 ?_
  case yq7 => (intro w hSw; obtain ⟨k0, k1, k2, k3⟩ := HF.out _ hSw; go_simp; try with_reducible rfl)
  simp only [Act.put, rn1, rn2, rn3, rn4, rn5, rn6]
  refine rgn 7 (v := ?vq8) hHeld ?yq8 ?_
  case yq8 => (intro w hSw; obtain ⟨k0, k1, k2, k3⟩ := HF.out _ hSw; go_simp; try with_reducible rfl)
  simp only [Act.put, rn1, rn2, rn3, rn4, rn5, rn6]
  refine rgn 8 (v := ?vq9) hHeld ?yq9 ?_
  case yq9 => (intro w hSw; obtain ⟨k0, k1, k2, k3⟩ := HF.out _ hSw; go_simp; try with_reducible rfl)
  simp only [Act.put, rn1, rn2, rn3, rn4, rn5, rn6]
  refine rgn 9 (v := ?vq10) hHeld ?yq10 ?_
  case yq10 => (intro w hSw; obtain ⟨k0, k1, k2, k3⟩ := HF.out _ hSw; go_simp; try with_reducible rfl)
  simp only [Act.put, rn1, rn2, rn3, rn4, rn5, rn6]
  refine rgn 10 (v := ?vq11) hHeld ?yq11 ?_
  case yq11 => (intro w hSw; obtain ⟨k0, k1, k2, k3⟩ := HF.out _ hSw; go_simp; try with_reducible rfl)
  simp only [Act.put, rn1, rn2, rn3, rn4, rn5, rn6]
  refine rgn 11 (v := ?vq12) hHeld ?yq12 ?_
  case yq12 => (intro w hSw; obtain ⟨k0, k1, k2, k3⟩ := HF.out _ hSw; go_simp; try with_reducible rfl)
  simp only [Act.put, rn1, rn2, rn3, rn4, rn5, rn6]
  refine rgn 12 (v := ?vq13) hHeld ?yq13 ?_
  case yq13 => (intro w hSw; obtain ⟨k0, k1, k2, k3⟩ := HF.out _ hSw; go_simp; try with_reducible rfl)
  simp only [Act.put, rn1, rn2, rn3, rn4, rn5, rn6]
  refine reg_two (i := 13) (j := 18) (by kernel_rfl) rfl rfl (by kernel_rfl) (by kernel_rfl) (fun K hK => ?_) (fun K hK => ?_)
  · go_simp
    refine (HG.out _ hHeld).mono ?_
    rintro e W2 ⟨rfl, hu⟩
    have HS : (fun X => Upd NoF V X) W2 := hHeld.trans hu (fun _ _ h => h)
    have HU2 := Lib.hid HS; clear hu
    go_wp2_with fail
    refine hK.out _ _ HS (fun hHeld2 => ?_)
    clear hK hHeld2 hHeld; have hHeld := HS; clear HS
    try simp only [Act.put, rn1, rn2, rn3, rn4, rn5, rn6]
    refine rgn 14 (v := ?vq27) hHeld ?yq27 ?_
    case yq27 => (intro w hSw; go_simp; try with_reducible rfl)
    simp only [Act.put, rn1, rn2, rn3, rn4, rn5, rn6]
    refine rgn 15 (v := ?vq28) hHeld ?yq28 ?_
    case yq28 => (intro w hSw; go_simp; try with_reducible rfl)
    simp only [Act.put, rn1, rn2, rn3, rn4, rn5, rn6]
    refine rgn 16 (v := ?vq29) hHeld ?yq29 ?_
    case yq29 => (intro w hSw; go_simp; try with_reducible rfl)
    simp only [Act.put, rn1, rn2, rn3, rn4, rn5, rn6]
    refine rgn 17 (v := ?vq30) hHeld ?yq30 ?_
    case yq30 => (intro w hSw; go_simp; try with_reducible rfl)
    simp only [Act.put, rn1, rn2, rn3, rn4, rn5, rn6]
    refine reg_step (i := 18) (by kernel_rfl) rfl (by kernel_rfl) (fun K hK => ?_)
    go_simp
    have hx := En.isN gp.1
    have s1 := TEnt.st_new hx W2
    have HS : (fun X => Upd NoF V X) (W2.alloc (.cells TEnt.Z ET')) := hHeld.trans (Upd.alloc NoF _ _) (fun _ _ h => h)
    have hsz : V.heap.size ≤ W2.heap.size := hHeld.size
    refine hK.out _ _ HS (fun hHeld2 => ?_)
    clear hK hHeld2 hHeld; have hHeld := HS; clear HS
    try simp only [Act.put, rn1, rn2, rn3, rn4, rn5, rn6]
    refine reg_step (i := 19) (by kernel_rfl) rfl (by kernel_rfl) (fun K hK => ?_)
    go_simp
    have HS : (fun X => Upd NoF V X) (W2.alloc (.cells gp.1.cells ET')) := HU2.out.trans (Upd.alloc NoF _ _) (fun _ _ h => h)
    have hq9 := Blk.new W2 gp.1.cells ET'
    clear s1
    refine hK.out _ _ HS (fun hHeld2 => ?_)
    clear hK hHeld2 hHeld; have hHeld := HS; clear HS
    try simp only [Act.put, rn1, rn2, rn3, rn4, rn5, rn6]
    refine rgn 20 (v := ?vq31) hHeld ?yq31 ?_
    case yq31 => (intro w hSw; go_simp; try with_reducible rfl)
    simp only [Act.put, rn1, rn2, rn3, rn4, rn5, rn6]
    refine rgn 21 (v := ?vq32) hHeld ?yq32 ?_
    case yq32 => (intro w hSw; go_simp; try with_reducible rfl)
    simp only [Act.put, rn1, rn2, rn3, rn4, rn5, rn6]
    refine wpAnyH_done (by kernel_rfl) ?_ _
    obtain ⟨X9, hX9⟩ : ∃ X9, W2.alloc (.cells gp.1.cells ET') = X9 := ⟨_, rfl⟩
    rw [hX9] at hHeld hq9
    rw [hX9]
    clear hX9
    have hs9 := (HSV.out.upd0 hHeld).upd0 (Upd.drew NoF X9)
    have hqd := hq9.upd (Upd.drew NoF X9) (fun h => h)
    have d0 := TEnt.ld_at (En.isN gp.1) hqd.whole
    have d2 : X9.drew.cell? ⟨hb, 9, none⟩ = some (sl p.eb S.n p.cap) := (hs9.box 1 rfl).cell 9
    obtain ⟨X10, hX10⟩ : ∃ X10, X9.drew.setCells p.eb (b * 2) gp.1.cells.toList = X10 := ⟨_, rfl⟩
    have d5 := est_mid (En.isN gp.1) (hs9.box 3 rfl) (o := b * 2) (by rw [Array.size_append, rowG_size]; omega)
    have hs10 := hs9.setMG 3 rfl (b * 2) gp.1.cells.toList
    simp only [List.set_cons_zero, List.set_cons_succ, ent_set hbn gp.1] at hs10
    rw [hX10] at d5 hs10
    have hq10 : Blk X10 W2.heap.size gp.1.cells ET' := by
      have hlte := (HSV.out.box 3 rfl).lt
      rw [← hX10]
      exact hqd.upd (upd_setCells _ _ _) (fun e => by have e : W2.heap.size = p.eb := e; omega)
    have HE0 : Hid ((fun X : World => X.cell? ⟨hb, 9, none⟩ = some (sl p.eb S.n p.cap) ∧ (TEnt.ld (.pointer (some ⟨W2.heap.size, 0, none⟩))).run Tryd.prog X = .ok (.agg gp.1.cells) X) X9.drew) := Lib.hid ⟨d2, d0⟩
    have HE1 : Hid ((fun X : World => X.cell? ⟨hb, 9, none⟩ = some (sl p.eb S.n p.cap) ∧ (TEnt.ld (.pointer (some ⟨W2.heap.size, 0, none⟩))).run Tryd.prog X = .ok (.agg gp.1.cells) X) X10) := Lib.hid ⟨(hs10.box 1 rfl).cell 9, TEnt.ld_at (En.isN gp.1) hq10.whole⟩
    clear hq10 d2 d0
    have HS10 := Lib.hid hs10
    have x1 : X10.cell? ⟨W.heap.size, 25, none⟩ = some (.bool j.ans) := ((hs10.box 0 rfl).cell 25).trans (Jb.get25 hjN.1)
    have x2 := (hs10.box 0 rfl).frozen 25
    have hs11 := hs10.set 0 rfl 25 (.bool true)
    simp only [List.set_cons_zero, List.set_cons_succ, Jb.set25 hjN.1] at hs11
    obtain ⟨X11, hX11⟩ : ∃ X11, X10.setCell ⟨W.heap.size, 25, none⟩ (.bool true) = X11 := ⟨_, rfl⟩
    rw [hX11] at hs11
    have hj'N := Jb.isN (j := { j with ans := true }) ⟨HJ.out.ask, HJ.out.least⟩
    have hsd := hs11.upd0 (Upd.drew NoF X11)
    have x3 : X11.drew.cell? ⟨hb, 10, none⟩ = some (.map (some p.jb)) := (hsd.box 1 rfl).cell 10
    have x4 := TJob.ld_at hj'N (hsd.box 0 rfl).whole
    have hcnt := cntJ_le S.J S.n
    obtain ⟨X12, x5, hs12, -⟩ := GM.mapPut hsd 4 rfl (by unfold maxLen; omega) (a := (b : Int)) (GM.fit_of (by omega)) (.agg ({ j with ans := true } : Jb).cells)
    simp only [List.set_cons_zero, List.set_cons_succ, putN_cnt hbn { j with ans := true }, put_jobF] at hs12
    change (Instr.mapUpdate 100 (.map (some p.jb)) (.int .i64 b) (.agg ({ j with ans := true } : Jb).cells)).run Tryd.prog X11.drew = .ok () X12 at x5
    have x6 : X12.cell? ⟨hb, 8, none⟩ = some (ptr mb) := (hs12.box 1 rfl).cell 8
    obtain ⟨F2, hm⟩ := hs12.has 2 rfl
    have HBL := Lib.hid (ME.block_any hm (by omega) (b : Int))
    have e9 : ME.blkP S.c.blocks.toNat S.B (b : Int) = S.B b := by unfold ME.blkP; rw [if_pos (by omega)]; rfl
    rw [e9] at HBL
    have hD := HFI.out.good.isU b
    have HS12 := Lib.hid hs12
    have HX11 := Lib.hid hX11
    have HD := Lib.hid hD
    have HJG := Lib.hid (hj'N.1)
    have HM0 : Hid ((fun X : World => X.cell? ⟨hb, 10, none⟩ = some (.map (some p.jb)) ∧ (TJob.ld (.pointer (some ⟨W.heap.size, 0, none⟩))).run Tryd.prog X = .ok (.agg ({ j with ans := true } : Jb).cells) X) X11.drew) := Lib.hid ⟨x3, x4⟩
    have HM1 : Hid ((fun X : World => X.cell? ⟨hb, 10, none⟩ = some (.map (some p.jb)) ∧ (TJob.ld (.pointer (some ⟨W.heap.size, 0, none⟩))).run Tryd.prog X = .ok (.agg ({ j with ans := true } : Jb).cells) X) X12) := Lib.hid ⟨(hs12.box 1 rfl).cell 10, TJob.ld_at hj'N (hs12.box 0 rfl).whole⟩
    clear hs9 hqd hq9 hs10 hHeld hX10 hs11 hX11 hsd hs12 hm e9 hj'N hD
    go_wp2_with fail
    refine wp_region_held_drew (S := (fun X : World => X.cell? ⟨hb, 9, none⟩ = some (sl p.eb S.n p.cap) ∧ (TEnt.ld (.pointer (some ⟨W2.heap.size, 0, none⟩))).run Tryd.prog X = .ok (.agg gp.1.cells) X)) (by kernel_rfl) (HE0.out) (fun hHeld => ?_)
    refine rgn 0 (v := ?vq14) hHeld ?yq14 ?_
    case yq14 => (intro w hSw; obtain ⟨k0, k1⟩ := hSw; go_simp; try with_reducible rfl)
    simp only [Act.put, rn1, rn2, rn3, rn4, rn5, rn6]
    refine rgn 1 (v := ?vq15) hHeld ?yq15 ?_
    case yq15 => (intro w hSw; obtain ⟨k0, k1⟩ := hSw; go_simp; try with_reducible rfl)
    simp only [Act.put, rn1, rn2, rn3, rn4, rn5, rn6]
    refine rgn 2 (v := ?vq16) hHeld ?yq16 ?_
    case yq16 => (intro w hSw; obtain ⟨k0, k1⟩ := hSw; go_simp; try with_reducible rfl)
    simp only [Act.put, rn1, rn2, rn3, rn4, rn5, rn6]
    refine rgn 3 (v := ?vq17) hHeld ?yq17 ?_
    case yq17 => (intro w hSw; obtain ⟨k0, k1⟩ := hSw; go_simp; try with_reducible rfl)
    simp only [Act.put, rn1, rn2, rn3, rn4, rn5, rn6]
    refine rgn 4 (v := ?vq18) hHeld ?yq18 ?_
    case yq18 => (intro w hSw; obtain ⟨k0, k1⟩ := hSw; go_simp; try with_reducible rfl)
    simp only [Act.put, rn1, rn2, rn3, rn4, rn5, rn6]
    refine rgn 5 (v := ?vq19) hHeld ?yq19 ?_
    case yq19 => (intro w hSw; obtain ⟨k0, k1⟩ := hSw; go_simp; try with_reducible rfl)
    simp only [Act.put, rn1, rn2, rn3, rn4, rn5, rn6]
    refine rgn 6 (v := ?vq20) hHeld ?yq20 ?_
    case yq20 => (intro w hSw; obtain ⟨k0, k1⟩ := hSw; go_simp; try with_reducible rfl)
    simp only [Act.put, rn1, rn2, rn3, rn4, rn5, rn6]
    refine reg_step (i := 7) (by kernel_rfl) rfl (by kernel_rfl) (fun K hK => ?_)
    go_simp
    have HS := HE1.out
    refine hK.out _ _ HS (fun hHeld2 => ?_)
    clear hK hHeld2 hHeld; have hHeld := HS; clear HS
    try simp only [Act.put, rn1, rn2, rn3, rn4, rn5, rn6]
    refine wpAnyH_done (by kernel_rfl) ?_ _
    go_upto_region 5 with fail
    rw [HX11.out]
    go_wp2_with fail
    clear x3 x4
    refine wp_region_held_drew (S := (fun X : World => X.cell? ⟨hb, 10, none⟩ = some (.map (some p.jb)) ∧ (TJob.ld (.pointer (some ⟨W.heap.size, 0, none⟩))).run Tryd.prog X = .ok (.agg ({ j with ans := true } : Jb).cells) X)) (by kernel_rfl) (HM0.out) (fun hHeld => ?_)
    refine rgn 0 (v := ?vq21) hHeld ?yq21 ?_
    case yq21 => (intro w hSw; obtain ⟨k0, k1⟩ := hSw; go_simp; try with_reducible rfl)
    simp only [Act.put, rn1, rn2, rn3, rn4, rn5, rn6]
    refine rgn 1 (v := ?vq22) hHeld ?yq22 ?_
    case yq22 => (intro w hSw; obtain ⟨k0, k1⟩ := hSw; go_simp; try with_reducible rfl)
    simp only [Act.put, rn1, rn2, rn3, rn4, rn5, rn6]
    refine rgn 2 (v := ?vq23) hHeld ?yq23 ?_
    case yq23 => (intro w hSw; obtain ⟨k0, k1⟩ := hSw; go_simp; try with_reducible rfl)
    simp only [Act.put, rn1, rn2, rn3, rn4, rn5, rn6]
    refine rgn 3 (v := ?vq24) hHeld ?yq24 ?_
    case yq24 => (intro w hSw; obtain ⟨k0, k1⟩ := hSw; go_simp; try with_reducible rfl)
    simp only [Act.put, rn1, rn2, rn3, rn4, rn5, rn6]
    refine rgn 4 (v := ?vq25) hHeld ?yq25 ?_
    case yq25 => (intro w hSw; obtain ⟨k0, k1⟩ := hSw; go_simp; try with_reducible rfl)
    simp only [Act.put, rn1, rn2, rn3, rn4, rn5, rn6]
    refine rgn 5 (v := ?vq26) hHeld ?yq26 ?_
    case yq26 => (intro w hSw; obtain ⟨k0, k1⟩ := hSw; go_simp; try with_reducible rfl)
    simp only [Act.put, rn1, rn2, rn3, rn4, rn5, rn6]
    refine reg_step (i := 6) (by kernel_rfl) rfl (by kernel_rfl) (fun K hK => ?_)
    go_simp
    have HS := HM1.out
    refine hK.out _ _ HS (fun hHeld2 => ?_)
    clear hK hHeld2 hHeld; have hHeld := HS; clear HS
    try simp only [Act.put, rn1, rn2, rn3, rn4, rn5, rn6]
    refine wpAnyH_done (by kernel_rfl) ?_ _
    go_wp2_with fail
    refine HBL.out.mono ?_
    rintro e X13 ⟨rfl, hu⟩
    have hs13 := HS12.out.upd0 hu
    have s13 := TBlk.st_new HD.out.isN X13
    have l13 := TBlk.ld_new HD.out.isN X13
    have hs14 := hs13.upd0 (Upd.alloc NoF X13 (.cells (S.B b) 45))
    obtain ⟨X14, hX14⟩ : ∃ X14, X13.alloc (.cells (S.B b) 45) = X14 := ⟨_, rfl⟩
    rw [hX14] at s13 l13 hs14
    have y1 : X14.cell? ⟨W.heap.size, 1, none⟩ = some (.int .i64 j.ask.frm) := ((hs14.box 0 rfl).cell 1).trans (by rw [Jb.get_ask (by omega) HJG.out]; exact j.ask.get1)
    have y2 := fun w => bd_data HD.out.1 j.ask.frm b gp.2 w
    have hnS : (ntData j.ask.frm b gp.2 (S.B b)).cells.size = 24 := (Nt.Ok.isN (n := ntData j.ask.frm b gp.2 (S.B b)) HD.out).1
    have y3 := fun w => bsN_run hnS w
    have HS15 := Lib.hid (hs14.alloc (ntData j.ask.frm b gp.2 (S.B b)).cells NT)
    clear hs13 hs14 hX14 hu hnS x1 x2 x5 x6
    go_wp2
    go_ret
    refine ⟨_, rfl, home_shut1 (HFF.out p HFI.out) ?_⟩
    exact HS15.out.drop 1 (by simp)
  · go_simp
    have hq : Blk (V.alloc (.cells TEnt.Z ET')).drew V.heap.size TEnt.Z ET' := Blk.new V.drew TEnt.Z ET'
    have HS : (fun X => Upd NoF V X) (V.alloc (.cells TEnt.Z ET')).drew := HDR.out.trans (Upd.alloc NoF V.drew (.cells TEnt.Z ET')) (fun _ _ h => h)
    have HQ0 := Lib.hid hq
    clear hq
    refine hK.out _ _ HS (fun hHeld2 => ?_)
    clear hK hHeld2 hHeld; have hHeld := HS; clear HS
    try simp only [Act.put, rn1, rn2, rn3, rn4, rn5, rn6]
    refine reg_step (i := 13) (by kernel_rfl) rfl (by kernel_rfl) (fun K hK => ?_)
    go_simp
    refine (HG.out _ hHeld).mono ?_
    rintro e W2 ⟨rfl, hu⟩
    have HS : (fun X => Upd NoF V X) W2 := hHeld.trans hu (fun _ _ h => h)
    obtain ⟨s1, q1⟩ := TEnt.st_at TEnt.isZ (En.isN gp.1) (HQ0.out.upd hu (fun h => h)); clear hu HQ0
    go_wp2_with fail
    refine hK.out _ _ HS (fun hHeld2 => ?_)
    clear hK hHeld2 hHeld; have hHeld := HS; clear HS
    try simp only [Act.put, rn1, rn2, rn3, rn4, rn5, rn6]
    refine rgn 14 (v := ?vq33) hHeld ?yq33 ?_
    case yq33 => (intro w hSw; go_simp; try with_reducible rfl)
    simp only [Act.put, rn1, rn2, rn3, rn4, rn5, rn6]
    refine rgn 15 (v := ?vq34) hHeld ?yq34 ?_
    case yq34 => (intro w hSw; go_simp; try with_reducible rfl)
    simp only [Act.put, rn1, rn2, rn3, rn4, rn5, rn6]
    refine rgn 16 (v := ?vq35) hHeld ?yq35 ?_
    case yq35 => (intro w hSw; go_simp; try with_reducible rfl)
    simp only [Act.put, rn1, rn2, rn3, rn4, rn5, rn6]
    refine rgn 17 (v := ?vq36) hHeld ?yq36 ?_
    case yq36 => (intro w hSw; go_simp; try with_reducible rfl)
    simp only [Act.put, rn1, rn2, rn3, rn4, rn5, rn6]
    refine reg_step (i := 19) (by kernel_rfl) rfl (by kernel_rfl) (fun K hK => ?_)
    go_simp
    have HS : (fun X => Upd NoF V X) (W2.setCells V.heap.size 0 gp.1.cells.toList) := hHeld.trans (upd_setCells _ 0 _) (fun i hi e => by have e : i = V.heap.size := e; omega)
    have hq9 := q1
    clear s1 q1
    refine hK.out _ _ HS (fun hHeld2 => ?_)
    clear hK hHeld2 hHeld; have hHeld := HS; clear HS
    try simp only [Act.put, rn1, rn2, rn3, rn4, rn5, rn6]
    refine rgn 20 (v := ?vq37) hHeld ?yq37 ?_
    case yq37 => (intro w hSw; go_simp; try with_reducible rfl)
    simp only [Act.put, rn1, rn2, rn3, rn4, rn5, rn6]
    refine rgn 21 (v := ?vq38) hHeld ?yq38 ?_
    case yq38 => (intro w hSw; go_simp; try with_reducible rfl)
    simp only [Act.put, rn1, rn2, rn3, rn4, rn5, rn6]
    refine wpAnyH_done (by kernel_rfl) ?_ _
    obtain ⟨X9, hX9⟩ : ∃ X9, W2.setCells V.heap.size 0 gp.1.cells.toList = X9 := ⟨_, rfl⟩
    rw [hX9] at hHeld hq9
    rw [hX9]
    clear hX9
    have hs9 := (HSV.out.upd0 hHeld).upd0 (Upd.drew NoF X9)
    have hqd := hq9.upd (Upd.drew NoF X9) (fun h => h)
    have d0 := TEnt.ld_at (En.isN gp.1) hqd.whole
    have d2 : X9.drew.cell? ⟨hb, 9, none⟩ = some (sl p.eb S.n p.cap) := (hs9.box 1 rfl).cell 9
    obtain ⟨X10, hX10⟩ : ∃ X10, X9.drew.setCells p.eb (b * 2) gp.1.cells.toList = X10 := ⟨_, rfl⟩
    have d5 := est_mid (En.isN gp.1) (hs9.box 3 rfl) (o := b * 2) (by rw [Array.size_append, rowG_size]; omega)
    have hs10 := hs9.setMG 3 rfl (b * 2) gp.1.cells.toList
    simp only [List.set_cons_zero, List.set_cons_succ, ent_set hbn gp.1] at hs10
    rw [hX10] at d5 hs10
    have hq10 : Blk X10 V.heap.size gp.1.cells ET' := by
      have hlte := (HSV.out.box 3 rfl).lt
      rw [← hX10]
      exact hqd.upd (upd_setCells _ _ _) (fun e => by have e : V.heap.size = p.eb := e; omega)
    have HE0 : Hid ((fun X : World => X.cell? ⟨hb, 9, none⟩ = some (sl p.eb S.n p.cap) ∧ (TEnt.ld (.pointer (some ⟨V.heap.size, 0, none⟩))).run Tryd.prog X = .ok (.agg gp.1.cells) X) X9.drew) := Lib.hid ⟨d2, d0⟩
    have HE1 : Hid ((fun X : World => X.cell? ⟨hb, 9, none⟩ = some (sl p.eb S.n p.cap) ∧ (TEnt.ld (.pointer (some ⟨V.heap.size, 0, none⟩))).run Tryd.prog X = .ok (.agg gp.1.cells) X) X10) := Lib.hid ⟨(hs10.box 1 rfl).cell 9, TEnt.ld_at (En.isN gp.1) hq10.whole⟩
    clear hq10 d2 d0
    have HS10 := Lib.hid hs10
    have x1 : X10.cell? ⟨W.heap.size, 25, none⟩ = some (.bool j.ans) := ((hs10.box 0 rfl).cell 25).trans (Jb.get25 hjN.1)
    have x2 := (hs10.box 0 rfl).frozen 25
    have hs11 := hs10.set 0 rfl 25 (.bool true)
    simp only [List.set_cons_zero, List.set_cons_succ, Jb.set25 hjN.1] at hs11
    obtain ⟨X11, hX11⟩ : ∃ X11, X10.setCell ⟨W.heap.size, 25, none⟩ (.bool true) = X11 := ⟨_, rfl⟩
    rw [hX11] at hs11
    have hj'N := Jb.isN (j := { j with ans := true }) ⟨HJ.out.ask, HJ.out.least⟩
    have hsd := hs11.upd0 (Upd.drew NoF X11)
    have x3 : X11.drew.cell? ⟨hb, 10, none⟩ = some (.map (some p.jb)) := (hsd.box 1 rfl).cell 10
    have x4 := TJob.ld_at hj'N (hsd.box 0 rfl).whole
    have hcnt := cntJ_le S.J S.n
    obtain ⟨X12, x5, hs12, -⟩ := GM.mapPut hsd 4 rfl (by unfold maxLen; omega) (a := (b : Int)) (GM.fit_of (by omega)) (.agg ({ j with ans := true } : Jb).cells)
    simp only [List.set_cons_zero, List.set_cons_succ, putN_cnt hbn { j with ans := true }, put_jobF] at hs12
    change (Instr.mapUpdate 100 (.map (some p.jb)) (.int .i64 b) (.agg ({ j with ans := true } : Jb).cells)).run Tryd.prog X11.drew = .ok () X12 at x5
    have x6 : X12.cell? ⟨hb, 8, none⟩ = some (ptr mb) := (hs12.box 1 rfl).cell 8
    obtain ⟨F2, hm⟩ := hs12.has 2 rfl
    have HBL := Lib.hid (ME.block_any hm (by omega) (b : Int))
    have e9 : ME.blkP S.c.blocks.toNat S.B (b : Int) = S.B b := by unfold ME.blkP; rw [if_pos (by omega)]; rfl
    rw [e9] at HBL
    have hD := HFI.out.good.isU b
    have HS12 := Lib.hid hs12
    have HX11 := Lib.hid hX11
    have HD := Lib.hid hD
    have HJG := Lib.hid (hj'N.1)
    have HM0 : Hid ((fun X : World => X.cell? ⟨hb, 10, none⟩ = some (.map (some p.jb)) ∧ (TJob.ld (.pointer (some ⟨W.heap.size, 0, none⟩))).run Tryd.prog X = .ok (.agg ({ j with ans := true } : Jb).cells) X) X11.drew) := Lib.hid ⟨x3, x4⟩
    have HM1 : Hid ((fun X : World => X.cell? ⟨hb, 10, none⟩ = some (.map (some p.jb)) ∧ (TJob.ld (.pointer (some ⟨W.heap.size, 0, none⟩))).run Tryd.prog X = .ok (.agg ({ j with ans := true } : Jb).cells) X) X12) := Lib.hid ⟨(hs12.box 1 rfl).cell 10, TJob.ld_at hj'N (hs12.box 0 rfl).whole⟩
    clear hs9 hqd hq9 hs10 hHeld hX10 hs11 hX11 hsd hs12 hm e9 hj'N hD
    go_wp2_with fail
    refine wp_region_held_drew (S := (fun X : World => X.cell? ⟨hb, 9, none⟩ = some (sl p.eb S.n p.cap) ∧ (TEnt.ld (.pointer (some ⟨V.heap.size, 0, none⟩))).run Tryd.prog X = .ok (.agg gp.1.cells) X)) (by kernel_rfl) (HE0.out) (fun hHeld => ?_)
    refine rgn 0 (v := ?vq14) hHeld ?yq14 ?_
    case yq14 => (intro w hSw; obtain ⟨k0, k1⟩ := hSw; go_simp; try with_reducible rfl)
    simp only [Act.put, rn1, rn2, rn3, rn4, rn5, rn6]
    refine rgn 1 (v := ?vq15) hHeld ?yq15 ?_
    case yq15 => (intro w hSw; obtain ⟨k0, k1⟩ := hSw; go_simp; try with_reducible rfl)
    simp only [Act.put, rn1, rn2, rn3, rn4, rn5, rn6]
    refine rgn 2 (v := ?vq16) hHeld ?yq16 ?_
    case yq16 => (intro w hSw; obtain ⟨k0, k1⟩ := hSw; go_simp; try with_reducible rfl)
    simp only [Act.put, rn1, rn2, rn3, rn4, rn5, rn6]
    refine rgn 3 (v := ?vq17) hHeld ?yq17 ?_
    case yq17 => (intro w hSw; obtain ⟨k0, k1⟩ := hSw; go_simp; try with_reducible rfl)
    simp only [Act.put, rn1, rn2, rn3, rn4, rn5, rn6]
    refine rgn 4 (v := ?vq18) hHeld ?yq18 ?_
    case yq18 => (intro w hSw; obtain ⟨k0, k1⟩ := hSw; go_simp; try with_reducible rfl)
    simp only [Act.put, rn1, rn2, rn3, rn4, rn5, rn6]
    refine rgn 5 (v := ?vq19) hHeld ?yq19 ?_
    case yq19 => (intro w hSw; obtain ⟨k0, k1⟩ := hSw; go_simp; try with_reducible rfl)
    simp only [Act.put, rn1, rn2, rn3, rn4, rn5, rn6]
    refine rgn 6 (v := ?vq20) hHeld ?yq20 ?_
    case yq20 => (intro w hSw; obtain ⟨k0, k1⟩ := hSw; go_simp; try with_reducible rfl)
    simp only [Act.put, rn1, rn2, rn3, rn4, rn5, rn6]
    refine reg_step (i := 7) (by kernel_rfl) rfl (by kernel_rfl) (fun K hK => ?_)
    go_simp
    have HS := HE1.out
    refine hK.out _ _ HS (fun hHeld2 => ?_)
    clear hK hHeld2 hHeld; have hHeld := HS; clear HS
    try simp only [Act.put, rn1, rn2, rn3, rn4, rn5, rn6]
    refine wpAnyH_done (by kernel_rfl) ?_ _
    go_upto_region 5 with fail
    rw [HX11.out]
    go_wp2_with fail
    clear x3 x4
    refine wp_region_held_drew (S := (fun X : World => X.cell? ⟨hb, 10, none⟩ = some (.map (some p.jb)) ∧ (TJob.ld (.pointer (some ⟨W.heap.size, 0, none⟩))).run Tryd.prog X = .ok (.agg ({ j with ans := true } : Jb).cells) X)) (by kernel_rfl) (HM0.out) (fun hHeld => ?_)
    refine rgn 0 (v := ?vq21) hHeld ?yq21 ?_
    case yq21 => (intro w hSw; obtain ⟨k0, k1⟩ := hSw; go_simp; try with_reducible rfl)
    simp only [Act.put, rn1, rn2, rn3, rn4, rn5, rn6]
    refine rgn 1 (v := ?vq22) hHeld ?yq22 ?_
    case yq22 => (intro w hSw; obtain ⟨k0, k1⟩ := hSw; go_simp; try with_reducible rfl)
    simp only [Act.put, rn1, rn2, rn3, rn4, rn5, rn6]
    refine rgn 2 (v := ?vq23) hHeld ?yq23 ?_
    case yq23 => (intro w hSw; obtain ⟨k0, k1⟩ := hSw; go_simp; try with_reducible rfl)
    simp only [Act.put, rn1, rn2, rn3, rn4, rn5, rn6]
    refine rgn 3 (v := ?vq24) hHeld ?yq24 ?_
    case yq24 => (intro w hSw; obtain ⟨k0, k1⟩ := hSw; go_simp; try with_reducible rfl)
    simp only [Act.put, rn1, rn2, rn3, rn4, rn5, rn6]
    refine rgn 4 (v := ?vq25) hHeld ?yq25 ?_
    case yq25 => (intro w hSw; obtain ⟨k0, k1⟩ := hSw; go_simp; try with_reducible rfl)
    simp only [Act.put, rn1, rn2, rn3, rn4, rn5, rn6]
    refine rgn 5 (v := ?vq26) hHeld ?yq26 ?_
    case yq26 => (intro w hSw; obtain ⟨k0, k1⟩ := hSw; go_simp; try with_reducible rfl)
    simp only [Act.put, rn1, rn2, rn3, rn4, rn5, rn6]
    refine reg_step (i := 6) (by kernel_rfl) rfl (by kernel_rfl) (fun K hK => ?_)
    go_simp
    have HS := HM1.out
    refine hK.out _ _ HS (fun hHeld2 => ?_)
    clear hK hHeld2 hHeld; have hHeld := HS; clear HS
    try simp only [Act.put, rn1, rn2, rn3, rn4, rn5, rn6]
    refine wpAnyH_done (by kernel_rfl) ?_ _
    go_wp2_with fail
    refine HBL.out.mono ?_
    rintro e X13 ⟨rfl, hu⟩
    have hs13 := HS12.out.upd0 hu
    have s13 := TBlk.st_new HD.out.isN X13
    have l13 := TBlk.ld_new HD.out.isN X13
    have hs14 := hs13.upd0 (Upd.alloc NoF X13 (.cells (S.B b) 45))
    obtain ⟨X14, hX14⟩ : ∃ X14, X13.alloc (.cells (S.B b) 45) = X14 := ⟨_, rfl⟩
    rw [hX14] at s13 l13 hs14
    have y1 : X14.cell? ⟨W.heap.size, 1, none⟩ = some (.int .i64 j.ask.frm) := ((hs14.box 0 rfl).cell 1).trans (by rw [Jb.get_ask (by omega) HJG.out]; exact j.ask.get1)
    have y2 := fun w => bd_data HD.out.1 j.ask.frm b gp.2 w
    have hnS : (ntData j.ask.frm b gp.2 (S.B b)).cells.size = 24 := (Nt.Ok.isN (n := ntData j.ask.frm b gp.2 (S.B b)) HD.out).1
    have y3 := fun w => bsN_run hnS w
    have HS15 := Lib.hid (hs14.alloc (ntData j.ask.frm b gp.2 (S.B b)).cells NT)
    clear hs13 hs14 hX14 hu hnS x1 x2 x5 x6
    go_wp2
    go_ret
    refine ⟨_, rfl, home_shut1 (HFF.out p HFI.out) ?_⟩
    exact HS15.out.drop 1 (by simp)
end
end Go.Proofs.YtlhbnndnkcpomaaDoor.HO
