/- The contracts of package home: an ask begins. -/
import Derived.Test.YtlhbnndnkcpomaaDoorHomeW
import Derived.Test.YtlhbnndnkcpomaaDoorRangeA
set_option linter.unusedSimpArgs false
set_option linter.unusedVariables false
namespace Go.Proofs.YtlhbnndnkcpomaaDoor.HO
open Go.RowKit
open BU (IsU words)
open PL (Cfg CC CV May)
open ME (memO sl)
attribute [local go_sem] Oper.semAt_some
attribute [local go_sem ↓] TNot.ld_eq TNot.st_eq TNot.al_eq TNot.bx_eq TJob.ld_eq TJob.st_eq TJob.al_eq TJob.bx_eq TBlk.ld_eq TBlk.st_eq TBlk.al_eq TBlk.bx_eq TEnt.ld_eq TEnt.st_eq TEnt.al_eq TEnt.bx_eq bdN_eq bdJ_eq bsN_eq
attribute [local go_sem] TNot.al_run TNot.bx_run TJob.al_run TJob.bx_run TBlk.al_run TBlk.bx_run TEnt.al_run TEnt.bx_run
theorem backV_eq (e : En) (x : Int) (st : Bool) : ET.backV e.own e.shr x st = .tuple #[.agg (backP e x st).1.cells, .bool (backP e x st).2, .int .i64 (if ET.mayE e.own e.shr && ET.coreB x then 0 else 2)] := by
  unfold ET.backV backP
  cases h : (ET.mayE e.own e.shr && ET.coreB x)
  · rfl
  · simp only [if_true]
    by_cases h1 : e.own = x
    · rw [if_pos h1, if_pos h1]
      cases st <;> rfl
    · rw [if_neg h1, if_neg h1]; rfl
theorem askedV_eq (e : En) (k x : Int) : ET.askedV e.own e.shr k x = .tuple #[VM (askedP e k x).1, .int .u8 (askedP e k x).2, .int .i64 (if ET.askE e.own e.shr k x then 0 else 2)] := by
  unfold ET.askedV askedP
  cases h : ET.askE e.own e.shr k x
  · rfl
  · have hk : k = 1 ∨ k = 2 := by
      unfold ET.askE at h
      simp at h
      exact h.1.2
    simp only [if_true]
    rcases hk with rfl | rfl <;> rfl
theorem good_put {S : Hs} (h : Good S) {n : Nt} (hn : n.Ok) (hk : n.kind = 3) : Good (beginP S n).1 := by
  have e : (beginP S n).1 = { S with E := updG S.E n.blk.toNat (backP (S.E n.blk.toNat) n.frm n.stick).1, B := if (backP (S.E n.blk.toNat) n.frm n.stick).2 then updG S.B n.blk.toNat n.D else S.B } := by
    unfold beginP; rw [if_pos hk]
  rw [e]
  refine ⟨h.may, fun i => ?_, h.key, h.que, h.few⟩
  show IsU ((if (backP (S.E n.blk.toNat) n.frm n.stick).2 then updG S.B n.blk.toNat n.D else S.B) i)
  split
  · unfold updG; split
    · exact hn.isU
    · exact h.isU i
  · exact h.isU i
theorem note_append {W W1 : World} {bo n : Nat} {v v' : Value} {z : Array Value} {xs ys : List Value} {lo : Nat} (hb : Blk W bo #[v] 36) (hbo : bo < lo) (hlo : lo ≤ W.heap.size) (hv : ∀ k, v.ownBlock = some k → lo ≤ k) (hr0 : Row W NT 24 v n xs)
    (hg : (W.alloc (.cells z NT)).grownBy W1 v.ownBlock) (hr : Row W1 NT 24 v' (n + 1) ys) (hf : v'.ownBlock = v.ownBlock ∨ ∃ g, v'.ownBlock = some g ∧ (W.alloc (.cells z NT)).heap.size ≤ g) :
    W1.cell? ⟨bo, 0, none⟩ = some v ∧ W1.frozen? ⟨bo, 0, none⟩ = false ∧ Blk (W1.setCell ⟨bo, 0, none⟩ v') bo #[v'] 36 ∧ Row (W1.setCell ⟨bo, 0, none⟩ v') NT 24 v' (n + 1) ys ∧
      (∀ k, v'.ownBlock = some k → lo ≤ k) ∧ Upd (fun k => k = bo ∨ lo ≤ k) W (W1.setCell ⟨bo, 0, none⟩ v') := by
  have hu0 : Upd (fun k => lo ≤ k) W (W.alloc (.cells z NT)) := Upd.alloc _ _ _
  have hu1 : Upd (fun k => lo ≤ k) (W.alloc (.cells z NT)) W1 := Upd.grown hg (fun k hk _ => ⟨hv k hk, (hr0.alloc _).isCells k hk⟩)
  have hu := hu0.trans hu1 (fun _ _ h => h)
  have hb1 := hb.upd hu (by omega)
  have hv' : ∀ k, v'.ownBlock = some k → lo ≤ k := by
    intro k hk
    rcases hf with h | ⟨g, h, h'⟩
    · exact hv k (h ▸ hk)
    · rw [h] at hk; cases hk; simp at h'; omega
  refine ⟨hb1.cell 0, hb1.frozen 0, hb1.set 0 v', hr.upd (Upd.setCell (F := fun k => k = bo) W1 (p := ⟨bo, 0, none⟩) rfl v') (fun k hk h => by have := hv' k hk; omega), hv', ?_⟩
  exact (hu.mono (fun _ _ h => .inr h)).trans (Upd.setCell (F := fun k => k = bo ∨ lo ≤ k) W1 (p := ⟨bo, 0, none⟩) (.inl rfl) v') (fun _ _ h => h)
section
variable {w0 W W' : World} {hb mb : Nat} {S : Hs} {L : List Obj}
set_option maxRecDepth 100000 in
set_option maxHeartbeats 4000000 in
theorem begin_put (h : Sep NoF w0 W (homeO hb mb S :: L)) (hT : Tab w0) (n : Nt) (hn : n.Ok) (h0 : 0 ≤ n.blk) (h1 : n.blk < S.data) (hk3 : n.kind = 3) : Calls Tryd.prog 46 #[ptr hb, .agg n.cells] W fun e W' =>
    ∃ v, e = .returned v ∧ Sep NoF w0 W' (outO v (beginP S n).2 :: homeO hb mb (beginP S n).1 :: L) := by
  have hgood' : ∀ p, Fits S p → Fits (beginP S n).1 p := fun p hf => by
    have hg := good_put hf.good hn hk3
    have e : (beginP S n).1.n = S.n := by unfold beginP; rw [if_pos hk3]; rfl
    exact ⟨hg, e ▸ hf.cap, e ▸ hf.tl⟩
  obtain ⟨p, hf, hs⟩ := home_open h
  have hdat := hf.good.data
  obtain ⟨b, hbk⟩ : ∃ b : Nat, n.blk = b := ⟨n.blk.toNat, by omega⟩
  have hbn : b < S.n := by omega
  have hnN := Nt.Ok.isN hn.isU
  have hs1 := hs.alloc n.cells NT
  obtain ⟨V, hV⟩ : ∃ V, W.alloc (.cells n.cells NT) = V := ⟨_, rfl⟩
  rw [hV] at hs1
  have HV := Lib.hid hV; have HSV := Lib.hid hs1; have HFI := Lib.hid hf
  have hA := HAt.of (hs1.drop 0 (by simp))
  have qn := hs1.box 0 rfl
  have HF := Lib.hid (fun X (hX : Upd NoF V X) => (show X.cell? ⟨W.heap.size, 1, none⟩ = some (.int .i64 n.frm) ∧ X.cell? ⟨W.heap.size, 3, none⟩ = some (.int .i64 b) ∧ X.cell? ⟨W.heap.size, 7, none⟩ = some (.bool n.stick) ∧ X.cell? ⟨hb, 9, none⟩ = some (sl p.eb S.n p.cap) ∧ (TEnt.ld (.pointer (some ⟨p.eb, b * 2, none⟩))).run Tryd.prog X = .ok (.agg (S.E b).cells) X from
    ⟨((qn.upd hX (fun h => h)).cell 1).trans n.get1, ((qn.upd hX (fun h => h)).cell 3).trans (by rw [← hbk]; exact n.get3), ((qn.upd hX (fun h => h)).cell 7).trans n.get7, (hA.upd hX).box.cell 9, (hA.upd hX).ld hbn⟩))
  have v0 : V.cell? ⟨W.heap.size, 0, none⟩ = some (.int .u8 3) := (qn.cell 0).trans (by rw [← hk3]; exact n.get0)
  have HG := Lib.hid (fun X (hX : Upd NoF V X) => (show Calls Tryd.prog 74 #[.agg (S.E b).cells, .int .i64 n.frm, .bool n.stick] X _ from backV_eq (S.E b) n.frm n.stick ▸ ET.back_e (S.E b).own (S.E b).shr n.frm n.stick X ((hT.upd hs1.upd (fun h => h)).upd hX (fun h => h))))
  have hbeg : beginP S n = ({ S with E := updG S.E b (backP (S.E b) n.frm n.stick).1, B := if (backP (S.E b) n.frm n.stick).2 then updG S.B b n.D else S.B }, [ntAck n.frm b]) := by
    unfold beginP; rw [if_pos hk3, hbk]; rfl
  have hcap := hf.cap
  have hbc : b < p.cap := by omega
  have hcm := hcap.2
  unfold maxLen at hcm
  have hlt : (b : Int) < (S.n : Int) := by omega
  have HFF := Lib.hid hgood'
  rw [hbeg] at HFF ⊢
  have HDR := Lib.hid (Upd.drew NoF V)
  have HN := Lib.hid hn
  have HNN := Lib.hid hnN
  clear h hs hs1 hV hgood' hf hA qn hT hbeg hcap
  generalize (backP (S.E b) n.frm n.stick).1 = ge at *
  generalize (backP (S.E b) n.frm n.stick).2 = gt at *
  generalize hgr : (if ET.mayE (S.E b).own (S.E b).shr && ET.coreB n.frm then (0 : Int) else 2) = gr at *
  refine calls_of_wp_marks Tryd.func46 rfl ?_
  simp only [Tryd.ntmps46, List.size_toArray, List.length_cons, List.length_nil, Nat.reduceAdd, Nat.reduceSub, Array.replicate_succ, Array.replicate_zero, List.push_toArray, List.append_toArray, List.nil_append, List.cons_append]
  go_upto_region 1 with fail
  rw [HV.out]
  go_wp2_with fail
  refine ET.wp_noPanic ?_
  refine wp_region_held_drew (S := (fun X => Upd NoF V X)) (by kernel_rfl) (HDR.out) (fun hHeld => ?_)
  refine rgn 0 (v := ?vq1) hHeld ?yq1 ?_
  case yq1 => (intro w hSw; obtain ⟨k0, k1, k2, k3, k4⟩ := HF.out _ hSw; go_simp; try with_reducible rfl)
  simp only [Act.put, rn1, rn2, rn3, rn4, rn5, rn6]
  refine rgn 1 (v := ?vq2) hHeld ?yq2 ?_
  case yq2 => (intro w hSw; obtain ⟨k0, k1, k2, k3, k4⟩ := HF.out _ hSw; go_simp; try with_reducible rfl)
  simp only [Act.put, rn1, rn2, rn3, rn4, rn5, rn6]
  refine rgn 2 (v := ?vq3) hHeld ?yq3 ?_
  case yq3 => (intro w hSw; obtain ⟨k0, k1, k2, k3, k4⟩ := HF.out _ hSw; go_simp; try with_reducible rfl)
  simp only [Act.put, rn1, rn2, rn3, rn4, rn5, rn6]
  refine rgn 3 (v := ?vq4) hHeld ?yq4 ?_
  case yq4 => (intro w hSw; obtain ⟨k0, k1, k2, k3, k4⟩ := HF.out _ hSw; go_simp; try with_reducible rfl)
  simp only [Act.put, rn1, rn2, rn3, rn4, rn5, rn6]
  refine rgn 4 (v := ?vq5) hHeld ?yq5 ?_
  case yq5 => (intro w hSw; obtain ⟨k0, k1, k2, k3, k4⟩ := HF.out _ hSw; go_simp; try with_reducible rfl)
  simp only [Act.put, rn1, rn2, rn3, rn4, rn5, rn6]
  refine rgn 5 (v := ?vq6) hHeld ?yq6 ?_
  case yq6 => (intro w hSw; obtain ⟨k0, k1, k2, k3, k4⟩ := HF.out _ hSw; go_simp; try with_reducible rfl)
  simp only [Act.put, rn1, rn2, rn3, rn4, rn5, rn6]
  refine rgn 6 (v := ?vq7) hHeld ?yq7 ?_
  case yq7 => (intro w hSw; obtain ⟨k0, k1, k2, k3, k4⟩ := HF.out _ hSw; go_simp; try with_reducible rfl)
  simp only [Act.put, rn1, rn2, rn3, rn4, rn5, rn6]
  refine rgn 7 (v := ?vq8) hHeld ?yq8 ?_
  case yq8 => (intro w hSw; obtain ⟨k0, k1, k2, k3, k4⟩ := HF.out _ hSw; go_simp; try with_reducible rfl)
  simp only [Act.put, rn1, rn2, rn3, rn4, rn5, rn6]
  refine rgn 8 (v := ?vq9) hHeld ?yq9 ?_
  case yq9 => (intro w hSw; obtain ⟨k0, k1, k2, k3, k4⟩ := HF.out _ hSw; go_simp; try with_reducible rfl)
  simp only [Act.put, rn1, rn2, rn3, rn4, rn5, rn6]
  refine rgn 9 (v := ?vq10) hHeld ?yq10 ?_
  case yq10 => (intro w hSw; obtain ⟨k0, k1, k2, k3, k4⟩ := HF.out _ hSw; go_simp; try with_reducible rfl)
  simp only [Act.put, rn1, rn2, rn3, rn4, rn5, rn6]
  refine rgn 10 (v := ?vq11) hHeld ?yq11 ?_
  case yq11 => (intro w hSw; obtain ⟨k0, k1, k2, k3, k4⟩ := HF.out _ hSw; go_simp; try with_reducible rfl)
  simp only [Act.put, rn1, rn2, rn3, rn4, rn5, rn6]
  refine rgn 11 (v := ?vq12) hHeld ?yq12 ?_
  case yq12 => (intro w hSw; obtain ⟨k0, k1, k2, k3, k4⟩ := HF.out _ hSw; go_simp; try with_reducible rfl)
  simp only [Act.put, rn1, rn2, rn3, rn4, rn5, rn6]
  refine reg_two (i := 12) (j := 17) (by kernel_rfl) rfl rfl (by kernel_rfl) (by kernel_rfl) (fun K hK => ?_) (fun K hK => ?_)
  · go_simp
    refine (HG.out _ hHeld).mono ?_
    rintro e W2 ⟨rfl, hu⟩
    have HS : (fun X => Upd NoF V X) W2 := hHeld.trans hu (fun _ _ h => h)
    have HU2 := Lib.hid HS; clear hu
    go_wp2_with fail
    refine hK.out _ _ HS (fun hHeld2 => ?_)
    clear hK hHeld2 hHeld; have hHeld := HS; clear HS
    try simp only [Act.put, rn1, rn2, rn3, rn4, rn5, rn6]
    refine rgn 13 (v := ?vq13) hHeld ?yq13 ?_
    case yq13 => (intro w hSw; go_simp; try with_reducible rfl)
    simp only [Act.put, rn1, rn2, rn3, rn4, rn5, rn6]
    refine rgn 14 (v := ?vq14) hHeld ?yq14 ?_
    case yq14 => (intro w hSw; go_simp; try with_reducible rfl)
    simp only [Act.put, rn1, rn2, rn3, rn4, rn5, rn6]
    refine rgn 15 (v := ?vq15) hHeld ?yq15 ?_
    case yq15 => (intro w hSw; go_simp; try with_reducible rfl)
    simp only [Act.put, rn1, rn2, rn3, rn4, rn5, rn6]
    refine rgn 16 (v := ?vq16) hHeld ?yq16 ?_
    case yq16 => (intro w hSw; go_simp; try with_reducible rfl)
    simp only [Act.put, rn1, rn2, rn3, rn4, rn5, rn6]
    refine reg_step (i := 17) (by kernel_rfl) rfl (by kernel_rfl) (fun K hK => ?_)
    go_simp
    have s1 := TEnt.st_new (En.isN ge) W2
    have hs9 := (HSV.out.upd0 HU2.out).alloc ge.cells ET'
    have HS9 := Lib.hid hs9
    clear hs9
    have HS : (fun X => Upd NoF V X) (W2.alloc (.cells TEnt.Z ET')) := hHeld.trans (Upd.alloc NoF _ _) (fun _ _ h => h)
    refine hK.out _ _ HS (fun hHeld2 => ?_)
    clear hK hHeld2 hHeld; have hHeld := HS; clear HS
    try simp only [Act.put, rn1, rn2, rn3, rn4, rn5, rn6]
    refine reg_step (i := 18) (by kernel_rfl) rfl (by kernel_rfl) (fun K hK => ?_)
    go_simp
    have HS : (fun X => Upd NoF V X) (W2.alloc (.cells ge.cells ET')) := HU2.out.trans (Upd.alloc NoF _ _) (fun _ _ h => h)
    clear s1
    refine hK.out _ _ HS (fun hHeld2 => ?_)
    clear hK hHeld2 hHeld; have hHeld := HS; clear HS
    try simp only [Act.put, rn1, rn2, rn3, rn4, rn5, rn6]
    refine rgn 19 (v := ?vq17) hHeld ?yq17 ?_
    case yq17 => (intro w hSw; go_simp; try with_reducible rfl)
    simp only [Act.put, rn1, rn2, rn3, rn4, rn5, rn6]
    refine rgn 20 (v := ?vq18) hHeld ?yq18 ?_
    case yq18 => (intro w hSw; go_simp; try with_reducible rfl)
    simp only [Act.put, rn1, rn2, rn3, rn4, rn5, rn6]
    refine wpAnyH_done (by kernel_rfl) ?_ _
    generalize hX9 : W2.alloc (.cells ge.cells ET') = X9 at *
    clear hX9
    dsimp only [ET.NoPanic]
    cases gt
    · simp only [Bool.false_eq_true, if_false] at HFF
      have HS5 := HS9
      clear HS9 hHeld
      go_wp2_with fail
      have hs5 := HS5.out
      have e3 : X9.drew.cell? ⟨W.heap.size, 3, none⟩ = some (.int .i64 b) := (((hs5.upd0 (Upd.drew NoF X9)).box 1 rfl).cell 3).trans (by rw [← hbk]; exact n.get3)
      have e9 : X9.drew.cell? ⟨hb, 9, none⟩ = some (sl p.eb S.n p.cap) := ((hs5.upd0 (Upd.drew NoF X9)).box 2 rfl).cell 9
      have eL := TEnt.ld_at (En.isN ge) ((hs5.upd0 (Upd.drew NoF X9)).box 0 rfl).whole
      have hs5d := hs5.upd0 (Upd.drew NoF X9)
      obtain ⟨X6, hX6⟩ : ∃ X6, X9.drew.setCells p.eb (b * 2) ge.cells.toList = X6 := ⟨_, rfl⟩
      have d5 := est_mid (En.isN ge) (hs5d.box 4 rfl) (o := b * 2) (by rw [Array.size_append, rowG_size]; omega)
      have hs6 := hs5d.setMG 4 rfl (b * 2) ge.cells.toList
      simp only [List.set_cons_zero, List.set_cons_succ, ent_set hbn ge] at hs6
      rw [hX6] at d5 hs6
      have f1 : X6.cell? ⟨W.heap.size, 1, none⟩ = some (.int .i64 n.frm) := ((hs6.box 1 rfl).cell 1).trans n.get1
      have f3 : X6.cell? ⟨W.heap.size, 3, none⟩ = some (.int .i64 b) := ((hs6.box 1 rfl).cell 3).trans (by rw [← hbk]; exact n.get3)
      have HE0 : Hid ((fun X : World => X.cell? ⟨hb, 9, none⟩ = some (sl p.eb S.n p.cap) ∧ X.cell? ⟨W.heap.size, 3, none⟩ = some (.int .i64 b) ∧ (TEnt.ld (.pointer (some ⟨W2.heap.size, 0, none⟩))).run Tryd.prog X = .ok (.agg ge.cells) X) X9.drew) := Lib.hid ⟨e9, e3, eL⟩
      have HE1 : Hid ((fun X : World => X.cell? ⟨hb, 9, none⟩ = some (sl p.eb S.n p.cap) ∧ X.cell? ⟨W.heap.size, 3, none⟩ = some (.int .i64 b) ∧ (TEnt.ld (.pointer (some ⟨W2.heap.size, 0, none⟩))).run Tryd.prog X = .ok (.agg ge.cells) X) X6) := Lib.hid ⟨(hs6.box 2 rfl).cell 9, f3, TEnt.ld_at (En.isN ge) (hs6.box 0 rfl).whole⟩
      have y2 := fun w => bd_ack n.frm b w
      have hnS : (ntAck n.frm b).cells.size = 24 := (Nt.Ok.isN (n := ntAck n.frm b) BU.isU_Z).1
      have y3 := fun w => bsN_run hnS w
      have hs7 := (hs6.drop 0 (by simp)).drop 0 (by simp)
      have HS7 := Lib.hid ((hs7.alloc (ntAck n.frm b).cells NT).head (Φ' := outO (sl X6.heap.size 1 1) [ntAck n.frm b]) (fun F hF => out_one hnS hF))
      clear hs5 hs5d hs6 hs7 hX6 e3 e9 eL HS5 hnS
      go_wp2_with fail
      refine ET.wp_noPanic ?_
      refine wp_region_held_drew (S := (fun X : World => X.cell? ⟨hb, 9, none⟩ = some (sl p.eb S.n p.cap) ∧ X.cell? ⟨W.heap.size, 3, none⟩ = some (.int .i64 b) ∧ (TEnt.ld (.pointer (some ⟨W2.heap.size, 0, none⟩))).run Tryd.prog X = .ok (.agg ge.cells) X)) (by kernel_rfl) (HE0.out) (fun hHeld => ?_)
      refine rgn 0 (v := ?vq19) hHeld ?yq19 ?_
      case yq19 => (intro w hSw; obtain ⟨k0, k1, k2⟩ := hSw; go_simp; try with_reducible rfl)
      simp only [Act.put, rn1, rn2, rn3, rn4, rn5, rn6]
      refine rgn 1 (v := ?vq20) hHeld ?yq20 ?_
      case yq20 => (intro w hSw; obtain ⟨k0, k1, k2⟩ := hSw; go_simp; try with_reducible rfl)
      simp only [Act.put, rn1, rn2, rn3, rn4, rn5, rn6]
      refine rgn 2 (v := ?vq21) hHeld ?yq21 ?_
      case yq21 => (intro w hSw; obtain ⟨k0, k1, k2⟩ := hSw; go_simp; try with_reducible rfl)
      simp only [Act.put, rn1, rn2, rn3, rn4, rn5, rn6]
      refine rgn 3 (v := ?vq22) hHeld ?yq22 ?_
      case yq22 => (intro w hSw; obtain ⟨k0, k1, k2⟩ := hSw; go_simp; try with_reducible rfl)
      simp only [Act.put, rn1, rn2, rn3, rn4, rn5, rn6]
      refine rgn 4 (v := ?vq23) hHeld ?yq23 ?_
      case yq23 => (intro w hSw; obtain ⟨k0, k1, k2⟩ := hSw; go_simp; try with_reducible rfl)
      simp only [Act.put, rn1, rn2, rn3, rn4, rn5, rn6]
      refine rgn 5 (v := ?vq24) hHeld ?yq24 ?_
      case yq24 => (intro w hSw; obtain ⟨k0, k1, k2⟩ := hSw; go_simp; try with_reducible rfl)
      simp only [Act.put, rn1, rn2, rn3, rn4, rn5, rn6]
      refine rgn 6 (v := ?vq25) hHeld ?yq25 ?_
      case yq25 => (intro w hSw; obtain ⟨k0, k1, k2⟩ := hSw; go_simp; try with_reducible rfl)
      simp only [Act.put, rn1, rn2, rn3, rn4, rn5, rn6]
      refine rgn 7 (v := ?vq26) hHeld ?yq26 ?_
      case yq26 => (intro w hSw; obtain ⟨k0, k1, k2⟩ := hSw; go_simp; try with_reducible rfl)
      simp only [Act.put, rn1, rn2, rn3, rn4, rn5, rn6]
      refine reg_step (i := 8) (by kernel_rfl) rfl (by kernel_rfl) (fun K hK => ?_)
      go_simp
      have HS := HE1.out
      refine hK.out _ _ HS (fun hHeld2 => ?_)
      clear hK hHeld2 hHeld; have hHeld := HS; clear HS
      try simp only [Act.put, rn1, rn2, rn3, rn4, rn5, rn6]
      refine wpAnyH_done (by kernel_rfl) ?_ _
      dsimp only [ET.NoPanic]
      go_wp2
      refine postM_ret0 (v := .slice (some ⟨X6.heap.size, 0, none⟩) 1 1) (by simp [results, Tryd.f46, go_sem]) ⟨_, rfl, home_shut1 (HFF.out p HFI.out) ?_⟩
      exact HS7.out
    · simp only [if_true] at HFF
      have hs9d := HS9.out.upd0 (Upd.drew NoF X9)
      have hnn := HNN.out
      have hD := HN.out.isU
      have HB4 := Lib.hid (hs9d.call 3 rfl (fun F hF => ME.setBlock_ok hF (by omega) b (by omega) n.D hD))
      have HM0 : Hid ((fun X : World => X.cell? ⟨hb, 8, none⟩ = some (ptr mb) ∧ X.cell? ⟨W.heap.size, 3, none⟩ = some (.int .i64 b) ∧ (TBlk.ld (.pointer (some ⟨W.heap.size, 8, none⟩))).run Tryd.prog X = .ok (.agg n.D) X) X9.drew) := Lib.hid ⟨(hs9d.box 2 rfl).cell 8, ((hs9d.box 1 rfl).cell 3).trans (by rw [← hbk]; exact n.get3), TBlk.ld_at hD.isN ((hs9d.box 1 rfl).range 8 _ (fun j v hv => by rw [Nt.getD]; simpa using hv))⟩
      have HK0 : Hid (∀ X, Sep NoF w0 X (boxO W2.heap.size ge.cells ET' :: boxO W.heap.size n.cells NT :: boxO hb (S.cells mb p) HT :: memO mb S.c.blocks.toNat (updG S.B b n.D) :: boxO p.eb (rowG 2 S.n (fun i => (S.E i).cells) ++ p.tl) ET' :: GM.mapO jobsT p.jb (cntJ S.J S.n) (jobF S.J) :: PN.Po (ptr p.pb) (S.Q.map Nt.cells) S.room :: L) → (fun X : World => X.cell? ⟨hb, 8, none⟩ = some (ptr mb) ∧ X.cell? ⟨W.heap.size, 3, none⟩ = some (.int .i64 b) ∧ (TBlk.ld (.pointer (some ⟨W.heap.size, 8, none⟩))).run Tryd.prog X = .ok (.agg n.D) X) X) := Lib.hid (fun X hx => ⟨(hx.box 2 rfl).cell 8, ((hx.box 1 rfl).cell 3).trans (by rw [← hbk]; exact n.get3), TBlk.ld_at hD.isN ((hx.box 1 rfl).range 8 _ (fun j v hv => by rw [Nt.getD]; simpa using hv))⟩)
      clear hs9d hD HS9 hHeld
      go_wp2_with fail
      refine ET.wp_noPanic ?_
      refine wp_region_held_drew (S := (fun X : World => X.cell? ⟨hb, 8, none⟩ = some (ptr mb) ∧ X.cell? ⟨W.heap.size, 3, none⟩ = some (.int .i64 b) ∧ (TBlk.ld (.pointer (some ⟨W.heap.size, 8, none⟩))).run Tryd.prog X = .ok (.agg n.D) X)) (by kernel_rfl) (HM0.out) (fun hHeld => ?_)
      refine rgn 0 (v := ?vq27) hHeld ?yq27 ?_
      case yq27 => (intro w hSw; obtain ⟨k0, k1, k2⟩ := hSw; go_simp; try with_reducible rfl)
      simp only [Act.put, rn1, rn2, rn3, rn4, rn5, rn6]
      refine rgn 1 (v := ?vq28) hHeld ?yq28 ?_
      case yq28 => (intro w hSw; obtain ⟨k0, k1, k2⟩ := hSw; go_simp; try with_reducible rfl)
      simp only [Act.put, rn1, rn2, rn3, rn4, rn5, rn6]
      refine rgn 2 (v := ?vq29) hHeld ?yq29 ?_
      case yq29 => (intro w hSw; obtain ⟨k0, k1, k2⟩ := hSw; go_simp; try with_reducible rfl)
      simp only [Act.put, rn1, rn2, rn3, rn4, rn5, rn6]
      refine rgn 3 (v := ?vq30) hHeld ?yq30 ?_
      case yq30 => (intro w hSw; obtain ⟨k0, k1, k2⟩ := hSw; go_simp; try with_reducible rfl)
      simp only [Act.put, rn1, rn2, rn3, rn4, rn5, rn6]
      refine rgn 4 (v := ?vq31) hHeld ?yq31 ?_
      case yq31 => (intro w hSw; obtain ⟨k0, k1, k2⟩ := hSw; go_simp; try with_reducible rfl)
      simp only [Act.put, rn1, rn2, rn3, rn4, rn5, rn6]
      refine rgn 5 (v := ?vq32) hHeld ?yq32 ?_
      case yq32 => (intro w hSw; obtain ⟨k0, k1, k2⟩ := hSw; go_simp; try with_reducible rfl)
      simp only [Act.put, rn1, rn2, rn3, rn4, rn5, rn6]
      refine rgn 6 (v := ?vq33) hHeld ?yq33 ?_
      case yq33 => (intro w hSw; obtain ⟨k0, k1, k2⟩ := hSw; go_simp; try with_reducible rfl)
      simp only [Act.put, rn1, rn2, rn3, rn4, rn5, rn6]
      refine rgn 7 (v := ?vq34) hHeld ?yq34 ?_
      case yq34 => (intro w hSw; obtain ⟨k0, k1, k2⟩ := hSw; go_simp; try with_reducible rfl)
      simp only [Act.put, rn1, rn2, rn3, rn4, rn5, rn6]
      refine reg_step (i := 8) (by kernel_rfl) rfl (by kernel_rfl) (fun K hK => ?_)
      go_simp
      refine HB4.out.mono ?_
      rintro e X5 ⟨rfl, hs5⟩
      have hs5 : Sep NoF w0 X5 (boxO W2.heap.size ge.cells ET' :: boxO W.heap.size n.cells NT :: boxO hb (S.cells mb p) HT :: memO mb S.c.blocks.toNat (updG S.B b n.D) :: boxO p.eb (rowG 2 S.n (fun i => (S.E i).cells) ++ p.tl) ET' :: GM.mapO jobsT p.jb (cntJ S.J S.n) (jobF S.J) :: PN.Po (ptr p.pb) (S.Q.map Nt.cells) S.room :: L) := hs5
      have HS := HK0.out _ hs5
      have HS5 := Lib.hid hs5
      clear hs5
      go_wp2_with fail
      refine hK.out _ _ HS (fun hHeld2 => ?_)
      clear hK hHeld2 hHeld; have hHeld := HS; clear HS
      try simp only [Act.put, rn1, rn2, rn3, rn4, rn5, rn6]
      refine wpAnyH_done (by kernel_rfl) ?_ _
      dsimp only [ET.NoPanic]
      clear hHeld HB4 HM0 HK0
      have hs5 := HS5.out
      have e3 : X5.drew.cell? ⟨W.heap.size, 3, none⟩ = some (.int .i64 b) := (((hs5.upd0 (Upd.drew NoF X5)).box 1 rfl).cell 3).trans (by rw [← hbk]; exact n.get3)
      have e9 : X5.drew.cell? ⟨hb, 9, none⟩ = some (sl p.eb S.n p.cap) := ((hs5.upd0 (Upd.drew NoF X5)).box 2 rfl).cell 9
      have eL := TEnt.ld_at (En.isN ge) ((hs5.upd0 (Upd.drew NoF X5)).box 0 rfl).whole
      have hs5d := hs5.upd0 (Upd.drew NoF X5)
      obtain ⟨X6, hX6⟩ : ∃ X6, X5.drew.setCells p.eb (b * 2) ge.cells.toList = X6 := ⟨_, rfl⟩
      have d5 := est_mid (En.isN ge) (hs5d.box 4 rfl) (o := b * 2) (by rw [Array.size_append, rowG_size]; omega)
      have hs6 := hs5d.setMG 4 rfl (b * 2) ge.cells.toList
      simp only [List.set_cons_zero, List.set_cons_succ, ent_set hbn ge] at hs6
      rw [hX6] at d5 hs6
      have f1 : X6.cell? ⟨W.heap.size, 1, none⟩ = some (.int .i64 n.frm) := ((hs6.box 1 rfl).cell 1).trans n.get1
      have f3 : X6.cell? ⟨W.heap.size, 3, none⟩ = some (.int .i64 b) := ((hs6.box 1 rfl).cell 3).trans (by rw [← hbk]; exact n.get3)
      have HE0 : Hid ((fun X : World => X.cell? ⟨hb, 9, none⟩ = some (sl p.eb S.n p.cap) ∧ X.cell? ⟨W.heap.size, 3, none⟩ = some (.int .i64 b) ∧ (TEnt.ld (.pointer (some ⟨W2.heap.size, 0, none⟩))).run Tryd.prog X = .ok (.agg ge.cells) X) X5.drew) := Lib.hid ⟨e9, e3, eL⟩
      have HE1 : Hid ((fun X : World => X.cell? ⟨hb, 9, none⟩ = some (sl p.eb S.n p.cap) ∧ X.cell? ⟨W.heap.size, 3, none⟩ = some (.int .i64 b) ∧ (TEnt.ld (.pointer (some ⟨W2.heap.size, 0, none⟩))).run Tryd.prog X = .ok (.agg ge.cells) X) X6) := Lib.hid ⟨(hs6.box 2 rfl).cell 9, f3, TEnt.ld_at (En.isN ge) (hs6.box 0 rfl).whole⟩
      have y2 := fun w => bd_ack n.frm b w
      have hnS : (ntAck n.frm b).cells.size = 24 := (Nt.Ok.isN (n := ntAck n.frm b) BU.isU_Z).1
      have y3 := fun w => bsN_run hnS w
      have hs7 := (hs6.drop 0 (by simp)).drop 0 (by simp)
      have HS7 := Lib.hid ((hs7.alloc (ntAck n.frm b).cells NT).head (Φ' := outO (sl X6.heap.size 1 1) [ntAck n.frm b]) (fun F hF => out_one hnS hF))
      clear hs5 hs5d hs6 hs7 hX6 e3 e9 eL HS5 hnS
      go_wp2_with fail
      refine ET.wp_noPanic ?_
      refine wp_region_held_drew (S := (fun X : World => X.cell? ⟨hb, 9, none⟩ = some (sl p.eb S.n p.cap) ∧ X.cell? ⟨W.heap.size, 3, none⟩ = some (.int .i64 b) ∧ (TEnt.ld (.pointer (some ⟨W2.heap.size, 0, none⟩))).run Tryd.prog X = .ok (.agg ge.cells) X)) (by kernel_rfl) (HE0.out) (fun hHeld => ?_)
      refine rgn 0 (v := ?vq35) hHeld ?yq35 ?_
      case yq35 => (intro w hSw; obtain ⟨k0, k1, k2⟩ := hSw; go_simp; try with_reducible rfl)
      simp only [Act.put, rn1, rn2, rn3, rn4, rn5, rn6]
      refine rgn 1 (v := ?vq36) hHeld ?yq36 ?_
      case yq36 => (intro w hSw; obtain ⟨k0, k1, k2⟩ := hSw; go_simp; try with_reducible rfl)
      simp only [Act.put, rn1, rn2, rn3, rn4, rn5, rn6]
      refine rgn 2 (v := ?vq37) hHeld ?yq37 ?_
      case yq37 => (intro w hSw; obtain ⟨k0, k1, k2⟩ := hSw; go_simp; try with_reducible rfl)
      simp only [Act.put, rn1, rn2, rn3, rn4, rn5, rn6]
      refine rgn 3 (v := ?vq38) hHeld ?yq38 ?_
      case yq38 => (intro w hSw; obtain ⟨k0, k1, k2⟩ := hSw; go_simp; try with_reducible rfl)
      simp only [Act.put, rn1, rn2, rn3, rn4, rn5, rn6]
      refine rgn 4 (v := ?vq39) hHeld ?yq39 ?_
      case yq39 => (intro w hSw; obtain ⟨k0, k1, k2⟩ := hSw; go_simp; try with_reducible rfl)
      simp only [Act.put, rn1, rn2, rn3, rn4, rn5, rn6]
      refine rgn 5 (v := ?vq40) hHeld ?yq40 ?_
      case yq40 => (intro w hSw; obtain ⟨k0, k1, k2⟩ := hSw; go_simp; try with_reducible rfl)
      simp only [Act.put, rn1, rn2, rn3, rn4, rn5, rn6]
      refine rgn 6 (v := ?vq41) hHeld ?yq41 ?_
      case yq41 => (intro w hSw; obtain ⟨k0, k1, k2⟩ := hSw; go_simp; try with_reducible rfl)
      simp only [Act.put, rn1, rn2, rn3, rn4, rn5, rn6]
      refine rgn 7 (v := ?vq42) hHeld ?yq42 ?_
      case yq42 => (intro w hSw; obtain ⟨k0, k1, k2⟩ := hSw; go_simp; try with_reducible rfl)
      simp only [Act.put, rn1, rn2, rn3, rn4, rn5, rn6]
      refine reg_step (i := 8) (by kernel_rfl) rfl (by kernel_rfl) (fun K hK => ?_)
      go_simp
      have HS := HE1.out
      refine hK.out _ _ HS (fun hHeld2 => ?_)
      clear hK hHeld2 hHeld; have hHeld := HS; clear HS
      try simp only [Act.put, rn1, rn2, rn3, rn4, rn5, rn6]
      refine wpAnyH_done (by kernel_rfl) ?_ _
      dsimp only [ET.NoPanic]
      go_wp2
      refine postM_ret0 (v := .slice (some ⟨X6.heap.size, 0, none⟩) 1 1) (by simp [results, Tryd.f46, go_sem]) ⟨_, rfl, home_shut1 (HFF.out p HFI.out) ?_⟩
      exact HS7.out
  · go_simp
    have HS : (fun X => Upd NoF V X) (V.alloc (.cells TEnt.Z ET')).drew := HDR.out.trans (Upd.alloc NoF V.drew (.cells TEnt.Z ET')) (fun _ _ h => h)
    have HSB0 : Hid (Sep NoF w0 (V.alloc (.cells TEnt.Z ET')).drew (boxO V.heap.size TEnt.Z ET' :: boxO W.heap.size n.cells NT :: S.objs hb mb p L)) := Lib.hid ((HSV.out.upd0 HDR.out).alloc TEnt.Z ET')
    refine hK.out _ _ HS (fun hHeld2 => ?_)
    clear hK hHeld2 hHeld; have hHeld := HS; clear HS
    try simp only [Act.put, rn1, rn2, rn3, rn4, rn5, rn6]
    refine reg_step (i := 12) (by kernel_rfl) rfl (by kernel_rfl) (fun K hK => ?_)
    go_simp
    refine (HG.out _ hHeld).mono ?_
    rintro e W2 ⟨rfl, hu⟩
    have HS : (fun X => Upd NoF V X) W2 := hHeld.trans hu (fun _ _ h => h)
    have hsB := HSB0.out.upd0 hu; obtain ⟨s1, q1⟩ := TEnt.st_at TEnt.isZ (En.isN ge) (hsB.box 0 rfl); have hs9 := hsB.setMG 0 rfl 0 ge.cells.toList; have HS9 := Lib.hid hs9; have HU2 := Lib.hid HS; clear hs9 hu HSB0 hsB q1
    go_wp2_with fail
    refine hK.out _ _ HS (fun hHeld2 => ?_)
    clear hK hHeld2 hHeld; have hHeld := HS; clear HS
    try simp only [Act.put, rn1, rn2, rn3, rn4, rn5, rn6]
    refine rgn 13 (v := ?vq43) hHeld ?yq43 ?_
    case yq43 => (intro w hSw; go_simp; try with_reducible rfl)
    simp only [Act.put, rn1, rn2, rn3, rn4, rn5, rn6]
    refine rgn 14 (v := ?vq44) hHeld ?yq44 ?_
    case yq44 => (intro w hSw; go_simp; try with_reducible rfl)
    simp only [Act.put, rn1, rn2, rn3, rn4, rn5, rn6]
    refine rgn 15 (v := ?vq45) hHeld ?yq45 ?_
    case yq45 => (intro w hSw; go_simp; try with_reducible rfl)
    simp only [Act.put, rn1, rn2, rn3, rn4, rn5, rn6]
    refine rgn 16 (v := ?vq46) hHeld ?yq46 ?_
    case yq46 => (intro w hSw; go_simp; try with_reducible rfl)
    simp only [Act.put, rn1, rn2, rn3, rn4, rn5, rn6]
    refine reg_step (i := 18) (by kernel_rfl) rfl (by kernel_rfl) (fun K hK => ?_)
    go_simp
    have HS : (fun X => Upd NoF V X) (W2.setCells V.heap.size 0 ge.cells.toList) := hHeld.trans (upd_setCells _ 0 _) (fun i hi e => by have e : i = V.heap.size := e; omega)
    clear s1
    refine hK.out _ _ HS (fun hHeld2 => ?_)
    clear hK hHeld2 hHeld; have hHeld := HS; clear HS
    try simp only [Act.put, rn1, rn2, rn3, rn4, rn5, rn6]
    refine rgn 19 (v := ?vq47) hHeld ?yq47 ?_
    case yq47 => (intro w hSw; go_simp; try with_reducible rfl)
    simp only [Act.put, rn1, rn2, rn3, rn4, rn5, rn6]
    refine rgn 20 (v := ?vq48) hHeld ?yq48 ?_
    case yq48 => (intro w hSw; go_simp; try with_reducible rfl)
    simp only [Act.put, rn1, rn2, rn3, rn4, rn5, rn6]
    refine wpAnyH_done (by kernel_rfl) ?_ _
    have e0 : setMany TEnt.Z 0 ge.cells.toList = ge.cells := setMany_all _ _ rfl
    rw [show (boxO V.heap.size TEnt.Z ET' :: boxO W.heap.size n.cells NT :: S.objs hb mb p L).set 0 (boxO V.heap.size (setMany TEnt.Z 0 ge.cells.toList) ET') = boxO V.heap.size ge.cells ET' :: boxO W.heap.size n.cells NT :: S.objs hb mb p L by rw [e0]; rfl] at HS9
    clear e0
    generalize hX9 : W2.setCells V.heap.size 0 ge.cells.toList = X9 at *
    clear hX9
    dsimp only [ET.NoPanic]
    cases gt
    · simp only [Bool.false_eq_true, if_false] at HFF
      have HS5 := HS9
      clear HS9 hHeld
      go_wp2_with fail
      have hs5 := HS5.out
      have e3 : X9.drew.cell? ⟨W.heap.size, 3, none⟩ = some (.int .i64 b) := (((hs5.upd0 (Upd.drew NoF X9)).box 1 rfl).cell 3).trans (by rw [← hbk]; exact n.get3)
      have e9 : X9.drew.cell? ⟨hb, 9, none⟩ = some (sl p.eb S.n p.cap) := ((hs5.upd0 (Upd.drew NoF X9)).box 2 rfl).cell 9
      have eL := TEnt.ld_at (En.isN ge) ((hs5.upd0 (Upd.drew NoF X9)).box 0 rfl).whole
      have hs5d := hs5.upd0 (Upd.drew NoF X9)
      obtain ⟨X6, hX6⟩ : ∃ X6, X9.drew.setCells p.eb (b * 2) ge.cells.toList = X6 := ⟨_, rfl⟩
      have d5 := est_mid (En.isN ge) (hs5d.box 4 rfl) (o := b * 2) (by rw [Array.size_append, rowG_size]; omega)
      have hs6 := hs5d.setMG 4 rfl (b * 2) ge.cells.toList
      simp only [List.set_cons_zero, List.set_cons_succ, ent_set hbn ge] at hs6
      rw [hX6] at d5 hs6
      have f1 : X6.cell? ⟨W.heap.size, 1, none⟩ = some (.int .i64 n.frm) := ((hs6.box 1 rfl).cell 1).trans n.get1
      have f3 : X6.cell? ⟨W.heap.size, 3, none⟩ = some (.int .i64 b) := ((hs6.box 1 rfl).cell 3).trans (by rw [← hbk]; exact n.get3)
      have HE0 : Hid ((fun X : World => X.cell? ⟨hb, 9, none⟩ = some (sl p.eb S.n p.cap) ∧ X.cell? ⟨W.heap.size, 3, none⟩ = some (.int .i64 b) ∧ (TEnt.ld (.pointer (some ⟨V.heap.size, 0, none⟩))).run Tryd.prog X = .ok (.agg ge.cells) X) X9.drew) := Lib.hid ⟨e9, e3, eL⟩
      have HE1 : Hid ((fun X : World => X.cell? ⟨hb, 9, none⟩ = some (sl p.eb S.n p.cap) ∧ X.cell? ⟨W.heap.size, 3, none⟩ = some (.int .i64 b) ∧ (TEnt.ld (.pointer (some ⟨V.heap.size, 0, none⟩))).run Tryd.prog X = .ok (.agg ge.cells) X) X6) := Lib.hid ⟨(hs6.box 2 rfl).cell 9, f3, TEnt.ld_at (En.isN ge) (hs6.box 0 rfl).whole⟩
      have y2 := fun w => bd_ack n.frm b w
      have hnS : (ntAck n.frm b).cells.size = 24 := (Nt.Ok.isN (n := ntAck n.frm b) BU.isU_Z).1
      have y3 := fun w => bsN_run hnS w
      have hs7 := (hs6.drop 0 (by simp)).drop 0 (by simp)
      have HS7 := Lib.hid ((hs7.alloc (ntAck n.frm b).cells NT).head (Φ' := outO (sl X6.heap.size 1 1) [ntAck n.frm b]) (fun F hF => out_one hnS hF))
      clear hs5 hs5d hs6 hs7 hX6 e3 e9 eL HS5 hnS
      go_wp2_with fail
      refine ET.wp_noPanic ?_
      refine wp_region_held_drew (S := (fun X : World => X.cell? ⟨hb, 9, none⟩ = some (sl p.eb S.n p.cap) ∧ X.cell? ⟨W.heap.size, 3, none⟩ = some (.int .i64 b) ∧ (TEnt.ld (.pointer (some ⟨V.heap.size, 0, none⟩))).run Tryd.prog X = .ok (.agg ge.cells) X)) (by kernel_rfl) (HE0.out) (fun hHeld => ?_)
      refine rgn 0 (v := ?vq49) hHeld ?yq49 ?_
      case yq49 => (intro w hSw; obtain ⟨k0, k1, k2⟩ := hSw; go_simp; try with_reducible rfl)
      simp only [Act.put, rn1, rn2, rn3, rn4, rn5, rn6]
      refine rgn 1 (v := ?vq50) hHeld ?yq50 ?_
      case yq50 => (intro w hSw; obtain ⟨k0, k1, k2⟩ := hSw; go_simp; try with_reducible rfl)
      simp only [Act.put, rn1, rn2, rn3, rn4, rn5, rn6]
      refine rgn 2 (v := ?vq51) hHeld ?yq51 ?_
      case yq51 => (intro w hSw; obtain ⟨k0, k1, k2⟩ := hSw; go_simp; try with_reducible rfl)
      simp only [Act.put, rn1, rn2, rn3, rn4, rn5, rn6]
      refine rgn 3 (v := ?vq52) hHeld ?yq52 ?_
      case yq52 => (intro w hSw; obtain ⟨k0, k1, k2⟩ := hSw; go_simp; try with_reducible rfl)
      simp only [Act.put, rn1, rn2, rn3, rn4, rn5, rn6]
      refine rgn 4 (v := ?vq53) hHeld ?yq53 ?_
      case yq53 => (intro w hSw; obtain ⟨k0, k1, k2⟩ := hSw; go_simp; try with_reducible rfl)
      simp only [Act.put, rn1, rn2, rn3, rn4, rn5, rn6]
      refine rgn 5 (v := ?vq54) hHeld ?yq54 ?_
      case yq54 => (intro w hSw; obtain ⟨k0, k1, k2⟩ := hSw; go_simp; try with_reducible rfl)
      simp only [Act.put, rn1, rn2, rn3, rn4, rn5, rn6]
      refine rgn 6 (v := ?vq55) hHeld ?yq55 ?_
      case yq55 => (intro w hSw; obtain ⟨k0, k1, k2⟩ := hSw; go_simp; try with_reducible rfl)
      simp only [Act.put, rn1, rn2, rn3, rn4, rn5, rn6]
      refine rgn 7 (v := ?vq56) hHeld ?yq56 ?_
      case yq56 => (intro w hSw; obtain ⟨k0, k1, k2⟩ := hSw; go_simp; try with_reducible rfl)
      simp only [Act.put, rn1, rn2, rn3, rn4, rn5, rn6]
      refine reg_step (i := 8) (by kernel_rfl) rfl (by kernel_rfl) (fun K hK => ?_)
      go_simp
      have HS := HE1.out
      refine hK.out _ _ HS (fun hHeld2 => ?_)
      clear hK hHeld2 hHeld; have hHeld := HS; clear HS
      try simp only [Act.put, rn1, rn2, rn3, rn4, rn5, rn6]
      refine wpAnyH_done (by kernel_rfl) ?_ _
      dsimp only [ET.NoPanic]
      go_wp2
      refine postM_ret0 (v := .slice (some ⟨X6.heap.size, 0, none⟩) 1 1) (by simp [results, Tryd.f46, go_sem]) ⟨_, rfl, home_shut1 (HFF.out p HFI.out) ?_⟩
      exact HS7.out
    · simp only [if_true] at HFF
      have hs9d := HS9.out.upd0 (Upd.drew NoF X9)
      have hnn := HNN.out
      have hD := HN.out.isU
      have HB4 := Lib.hid (hs9d.call 3 rfl (fun F hF => ME.setBlock_ok hF (by omega) b (by omega) n.D hD))
      have HM0 : Hid ((fun X : World => X.cell? ⟨hb, 8, none⟩ = some (ptr mb) ∧ X.cell? ⟨W.heap.size, 3, none⟩ = some (.int .i64 b) ∧ (TBlk.ld (.pointer (some ⟨W.heap.size, 8, none⟩))).run Tryd.prog X = .ok (.agg n.D) X) X9.drew) := Lib.hid ⟨(hs9d.box 2 rfl).cell 8, ((hs9d.box 1 rfl).cell 3).trans (by rw [← hbk]; exact n.get3), TBlk.ld_at hD.isN ((hs9d.box 1 rfl).range 8 _ (fun j v hv => by rw [Nt.getD]; simpa using hv))⟩
      have HK0 : Hid (∀ X, Sep NoF w0 X (boxO V.heap.size ge.cells ET' :: boxO W.heap.size n.cells NT :: boxO hb (S.cells mb p) HT :: memO mb S.c.blocks.toNat (updG S.B b n.D) :: boxO p.eb (rowG 2 S.n (fun i => (S.E i).cells) ++ p.tl) ET' :: GM.mapO jobsT p.jb (cntJ S.J S.n) (jobF S.J) :: PN.Po (ptr p.pb) (S.Q.map Nt.cells) S.room :: L) → (fun X : World => X.cell? ⟨hb, 8, none⟩ = some (ptr mb) ∧ X.cell? ⟨W.heap.size, 3, none⟩ = some (.int .i64 b) ∧ (TBlk.ld (.pointer (some ⟨W.heap.size, 8, none⟩))).run Tryd.prog X = .ok (.agg n.D) X) X) := Lib.hid (fun X hx => ⟨(hx.box 2 rfl).cell 8, ((hx.box 1 rfl).cell 3).trans (by rw [← hbk]; exact n.get3), TBlk.ld_at hD.isN ((hx.box 1 rfl).range 8 _ (fun j v hv => by rw [Nt.getD]; simpa using hv))⟩)
      clear hs9d hD HS9 hHeld
      go_wp2_with fail
      refine ET.wp_noPanic ?_
      refine wp_region_held_drew (S := (fun X : World => X.cell? ⟨hb, 8, none⟩ = some (ptr mb) ∧ X.cell? ⟨W.heap.size, 3, none⟩ = some (.int .i64 b) ∧ (TBlk.ld (.pointer (some ⟨W.heap.size, 8, none⟩))).run Tryd.prog X = .ok (.agg n.D) X)) (by kernel_rfl) (HM0.out) (fun hHeld => ?_)
      refine rgn 0 (v := ?vq57) hHeld ?yq57 ?_
      case yq57 => (intro w hSw; obtain ⟨k0, k1, k2⟩ := hSw; go_simp; try with_reducible rfl)
      simp only [Act.put, rn1, rn2, rn3, rn4, rn5, rn6]
      refine rgn 1 (v := ?vq58) hHeld ?yq58 ?_
      case yq58 => (intro w hSw; obtain ⟨k0, k1, k2⟩ := hSw; go_simp; try with_reducible rfl)
      simp only [Act.put, rn1, rn2, rn3, rn4, rn5, rn6]
      refine rgn 2 (v := ?vq59) hHeld ?yq59 ?_
      case yq59 => (intro w hSw; obtain ⟨k0, k1, k2⟩ := hSw; go_simp; try with_reducible rfl)
      simp only [Act.put, rn1, rn2, rn3, rn4, rn5, rn6]
      refine rgn 3 (v := ?vq60) hHeld ?yq60 ?_
      case yq60 => (intro w hSw; obtain ⟨k0, k1, k2⟩ := hSw; go_simp; try with_reducible rfl)
      simp only [Act.put, rn1, rn2, rn3, rn4, rn5, rn6]
      refine rgn 4 (v := ?vq61) hHeld ?yq61 ?_
      case yq61 => (intro w hSw; obtain ⟨k0, k1, k2⟩ := hSw; go_simp; try with_reducible rfl)
      simp only [Act.put, rn1, rn2, rn3, rn4, rn5, rn6]
      refine rgn 5 (v := ?vq62) hHeld ?yq62 ?_
      case yq62 => (intro w hSw; obtain ⟨k0, k1, k2⟩ := hSw; go_simp; try with_reducible rfl)
      simp only [Act.put, rn1, rn2, rn3, rn4, rn5, rn6]
      refine rgn 6 (v := ?vq63) hHeld ?yq63 ?_
      case yq63 => (intro w hSw; obtain ⟨k0, k1, k2⟩ := hSw; go_simp; try with_reducible rfl)
      simp only [Act.put, rn1, rn2, rn3, rn4, rn5, rn6]
      refine rgn 7 (v := ?vq64) hHeld ?yq64 ?_
      case yq64 => (intro w hSw; obtain ⟨k0, k1, k2⟩ := hSw; go_simp; try with_reducible rfl)
      simp only [Act.put, rn1, rn2, rn3, rn4, rn5, rn6]
      refine reg_step (i := 8) (by kernel_rfl) rfl (by kernel_rfl) (fun K hK => ?_)
      go_simp
      refine HB4.out.mono ?_
      rintro e X5 ⟨rfl, hs5⟩
      have hs5 : Sep NoF w0 X5 (boxO V.heap.size ge.cells ET' :: boxO W.heap.size n.cells NT :: boxO hb (S.cells mb p) HT :: memO mb S.c.blocks.toNat (updG S.B b n.D) :: boxO p.eb (rowG 2 S.n (fun i => (S.E i).cells) ++ p.tl) ET' :: GM.mapO jobsT p.jb (cntJ S.J S.n) (jobF S.J) :: PN.Po (ptr p.pb) (S.Q.map Nt.cells) S.room :: L) := hs5
      have HS := HK0.out _ hs5
      have HS5 := Lib.hid hs5
      clear hs5
      go_wp2_with fail
      refine hK.out _ _ HS (fun hHeld2 => ?_)
      clear hK hHeld2 hHeld; have hHeld := HS; clear HS
      try simp only [Act.put, rn1, rn2, rn3, rn4, rn5, rn6]
      refine wpAnyH_done (by kernel_rfl) ?_ _
      dsimp only [ET.NoPanic]
      clear hHeld HB4 HM0 HK0
      have hs5 := HS5.out
      have e3 : X5.drew.cell? ⟨W.heap.size, 3, none⟩ = some (.int .i64 b) := (((hs5.upd0 (Upd.drew NoF X5)).box 1 rfl).cell 3).trans (by rw [← hbk]; exact n.get3)
      have e9 : X5.drew.cell? ⟨hb, 9, none⟩ = some (sl p.eb S.n p.cap) := ((hs5.upd0 (Upd.drew NoF X5)).box 2 rfl).cell 9
      have eL := TEnt.ld_at (En.isN ge) ((hs5.upd0 (Upd.drew NoF X5)).box 0 rfl).whole
      have hs5d := hs5.upd0 (Upd.drew NoF X5)
      obtain ⟨X6, hX6⟩ : ∃ X6, X5.drew.setCells p.eb (b * 2) ge.cells.toList = X6 := ⟨_, rfl⟩
      have d5 := est_mid (En.isN ge) (hs5d.box 4 rfl) (o := b * 2) (by rw [Array.size_append, rowG_size]; omega)
      have hs6 := hs5d.setMG 4 rfl (b * 2) ge.cells.toList
      simp only [List.set_cons_zero, List.set_cons_succ, ent_set hbn ge] at hs6
      rw [hX6] at d5 hs6
      have f1 : X6.cell? ⟨W.heap.size, 1, none⟩ = some (.int .i64 n.frm) := ((hs6.box 1 rfl).cell 1).trans n.get1
      have f3 : X6.cell? ⟨W.heap.size, 3, none⟩ = some (.int .i64 b) := ((hs6.box 1 rfl).cell 3).trans (by rw [← hbk]; exact n.get3)
      have HE0 : Hid ((fun X : World => X.cell? ⟨hb, 9, none⟩ = some (sl p.eb S.n p.cap) ∧ X.cell? ⟨W.heap.size, 3, none⟩ = some (.int .i64 b) ∧ (TEnt.ld (.pointer (some ⟨V.heap.size, 0, none⟩))).run Tryd.prog X = .ok (.agg ge.cells) X) X5.drew) := Lib.hid ⟨e9, e3, eL⟩
      have HE1 : Hid ((fun X : World => X.cell? ⟨hb, 9, none⟩ = some (sl p.eb S.n p.cap) ∧ X.cell? ⟨W.heap.size, 3, none⟩ = some (.int .i64 b) ∧ (TEnt.ld (.pointer (some ⟨V.heap.size, 0, none⟩))).run Tryd.prog X = .ok (.agg ge.cells) X) X6) := Lib.hid ⟨(hs6.box 2 rfl).cell 9, f3, TEnt.ld_at (En.isN ge) (hs6.box 0 rfl).whole⟩
      have y2 := fun w => bd_ack n.frm b w
      have hnS : (ntAck n.frm b).cells.size = 24 := (Nt.Ok.isN (n := ntAck n.frm b) BU.isU_Z).1
      have y3 := fun w => bsN_run hnS w
      have hs7 := (hs6.drop 0 (by simp)).drop 0 (by simp)
      have HS7 := Lib.hid ((hs7.alloc (ntAck n.frm b).cells NT).head (Φ' := outO (sl X6.heap.size 1 1) [ntAck n.frm b]) (fun F hF => out_one hnS hF))
      clear hs5 hs5d hs6 hs7 hX6 e3 e9 eL HS5 hnS
      go_wp2_with fail
      refine ET.wp_noPanic ?_
      refine wp_region_held_drew (S := (fun X : World => X.cell? ⟨hb, 9, none⟩ = some (sl p.eb S.n p.cap) ∧ X.cell? ⟨W.heap.size, 3, none⟩ = some (.int .i64 b) ∧ (TEnt.ld (.pointer (some ⟨V.heap.size, 0, none⟩))).run Tryd.prog X = .ok (.agg ge.cells) X)) (by kernel_rfl) (HE0.out) (fun hHeld => ?_)
      refine rgn 0 (v := ?vq65) hHeld ?yq65 ?_
      case yq65 => (intro w hSw; obtain ⟨k0, k1, k2⟩ := hSw; go_simp; try with_reducible rfl)
      simp only [Act.put, rn1, rn2, rn3, rn4, rn5, rn6]
      refine rgn 1 (v := ?vq66) hHeld ?yq66 ?_
      case yq66 => (intro w hSw; obtain ⟨k0, k1, k2⟩ := hSw; go_simp; try with_reducible rfl)
      simp only [Act.put, rn1, rn2, rn3, rn4, rn5, rn6]
      refine rgn 2 (v := ?vq67) hHeld ?yq67 ?_
      case yq67 => (intro w hSw; obtain ⟨k0, k1, k2⟩ := hSw; go_simp; try with_reducible rfl)
      simp only [Act.put, rn1, rn2, rn3, rn4, rn5, rn6]
      refine rgn 3 (v := ?vq68) hHeld ?yq68 ?_
      case yq68 => (intro w hSw; obtain ⟨k0, k1, k2⟩ := hSw; go_simp; try with_reducible rfl)
      simp only [Act.put, rn1, rn2, rn3, rn4, rn5, rn6]
      refine rgn 4 (v := ?vq69) hHeld ?yq69 ?_
      case yq69 => (intro w hSw; obtain ⟨k0, k1, k2⟩ := hSw; go_simp; try with_reducible rfl)
      simp only [Act.put, rn1, rn2, rn3, rn4, rn5, rn6]
      refine rgn 5 (v := ?vq70) hHeld ?yq70 ?_
      case yq70 => (intro w hSw; obtain ⟨k0, k1, k2⟩ := hSw; go_simp; try with_reducible rfl)
      simp only [Act.put, rn1, rn2, rn3, rn4, rn5, rn6]
      refine rgn 6 (v := ?vq71) hHeld ?yq71 ?_
      case yq71 => (intro w hSw; obtain ⟨k0, k1, k2⟩ := hSw; go_simp; try with_reducible rfl)
      simp only [Act.put, rn1, rn2, rn3, rn4, rn5, rn6]
      refine rgn 7 (v := ?vq72) hHeld ?yq72 ?_
      case yq72 => (intro w hSw; obtain ⟨k0, k1, k2⟩ := hSw; go_simp; try with_reducible rfl)
      simp only [Act.put, rn1, rn2, rn3, rn4, rn5, rn6]
      refine reg_step (i := 8) (by kernel_rfl) rfl (by kernel_rfl) (fun K hK => ?_)
      go_simp
      have HS := HE1.out
      refine hK.out _ _ HS (fun hHeld2 => ?_)
      clear hK hHeld2 hHeld; have hHeld := HS; clear HS
      try simp only [Act.put, rn1, rn2, rn3, rn4, rn5, rn6]
      refine wpAnyH_done (by kernel_rfl) ?_ _
      dsimp only [ET.NoPanic]
      go_wp2
      refine postM_ret0 (v := .slice (some ⟨X6.heap.size, 0, none⟩) 1 1) (by simp [results, Tryd.f46, go_sem]) ⟨_, rfl, home_shut1 (HFF.out p HFI.out) ?_⟩
      exact HS7.out
end
end Go.Proofs.YtlhbnndnkcpomaaDoor.HO
