/- The contracts of package home: what only reads. -/
import Derived.Test.YtlhbnndnkcpomaaDoorHomeO
import Derived.Test.YtlhbnndnkcpomaaDoorNoteD
import Derived.Test.YtlhbnndnkcpomaaDoorReg
import Derived.Deep.CutBlock
set_option linter.unusedSimpArgs false
set_option linter.unusedVariables false
namespace Go.Proofs.YtlhbnndnkcpomaaDoor.HO
open Go.RowKit
open BU (IsU words)
open PL (Cfg CC CV May)
open ME (memO sl)
attribute [local go_sem] Oper.semAt_some
attribute [local go_sem ↓] TNot.ld_eq TNot.st_eq TNot.al_eq TNot.bx_eq TJob.ld_eq TJob.st_eq TJob.al_eq TJob.bx_eq
attribute [local go_sem] TNot.al_run TNot.bx_run TJob.al_run TJob.bx_run
/-- What is read of a home. -/
structure HAt (S : Hs) (hb mb : Nat) (p : Hp) (X : World) : Prop where
  box : Blk X hb (S.cells mb p) HT
  ent : Blk X p.eb (rowG 2 S.n (fun i => (S.E i).cells) ++ p.tl) ET'
  job : GM.Is jobsT X p.jb (cntJ S.J S.n) (jobF S.J)
  mem : ∃ F, (memO mb S.c.blocks.toNat S.B).is X F
  que : ∃ F, (PN.Po (ptr p.pb) (S.Q.map Nt.cells) S.room).is X F
def jobAt (J : Int → Option Jb) (b : Int) : Jb := (J b).getD Jb.nil
section
variable {G : Nat → Prop} {w0 W X Y : World} {hb mb : Nat} {S : Hs} {L : List Obj} {F : Nat → Prop} {p : Hp}
theorem HAt.of (h : Sep G w0 X (S.objs hb mb p L)) : HAt S hb mb p X :=
  ⟨h.box 0 rfl, h.box 2 rfl, GM.mapIs h 3 rfl, h.has 1 rfl, h.has 4 rfl⟩
theorem HAt.upd (h : HAt S hb mb p X) (hu : Upd NoF X Y) : HAt S hb mb p Y := by
  obtain ⟨F1, m⟩ := h.mem
  obtain ⟨F2, q⟩ := h.que
  exact ⟨h.box.upd hu (fun h => h), h.ent.upd hu (fun h => h), h.job.upd hu (fun h => h), ⟨F1, Obj.keep _ m (hu.kept (fun _ _ _ h => h))⟩, ⟨F2, Obj.keep _ q (hu.kept (fun _ _ _ h => h))⟩⟩
theorem HAt.open (h : (homeO hb mb S).is W F) : ∃ p, Fits S p ∧ HAt S hb mb p W := by
  obtain ⟨p, hf, hs⟩ := home_open (Sep.start h)
  exact ⟨p, hf, .of hs⟩
theorem jobAt_ok (h : Good S) (b : Int) : (jobAt S.J b).Ok := by
  unfold jobAt
  cases hj : S.J b with
  | none => exact Jb.nil_ok
  | some j => exact (h.key b j hj).2.2.2
theorem HAt.look (h : HAt S hb mb p X) {b : Int} (hb' : -9223372036854775808 ≤ b ∧ b ≤ 9223372036854775807) :
    (Instr.lookup 100 (.map (some p.jb)) (.int .i64 b) true).run Tryd.prog X = .ok (.tuple #[.agg (jobAt S.J b).cells, .bool (S.J b).isSome]) X := by
  have h1 := h.job.look2 (a := b) (GM.fit_of hb')
  have e1 : jobsT.at (jobF S.J) b = .agg (jobAt S.J b).cells := by
    unfold GM.Ty.at jobF jobAt
    cases S.J b with
    | none => show Value.agg TJob.Z = _; rw [← Jb.nil_cells]; rfl
    | some j => rfl
  have e2 : (jobF S.J b).isSome = (S.J b).isSome := by unfold jobF; simp
  rw [e1, e2] at h1
  exact h1
theorem HAt.entry (h : HAt S hb mb p X) {i : Nat} (hi : i < S.n) : X.cell? ⟨p.eb, i * 2, none⟩ = some (.int .i64 (S.E i).own) ∧ X.cell? ⟨p.eb, i * 2 + 1, none⟩ = some (VM (S.E i).shr) := by
  have h0 := h.ent.cell (i * 2 + 0)
  have h1 := h.ent.cell (i * 2 + 1)
  rw [rowX_getG (k := 2) (f := fun i => (S.E i).cells) rfl hi (by omega)] at h0 h1
  exact ⟨h0, h1⟩
theorem Good.data (h : Good S) : S.data = S.n ∧ 1 ≤ S.n ∧ S.n ≤ 255 ∧ S.n ≤ S.c.blocks.toNat ∧ S.c.blocks.toNat ≤ 256 ∧ 2 ≤ S.room ∧ S.room ≤ 80 := by
  have := mul_data h.may
  unfold Hs.n Hs.data Hs.room
  omega
theorem asks_any (n : Nt) (w : World) : Calls Tryd.prog 44 #[.agg n.cells] w fun e w' => e = .returned (.bool (isAsk n)) ∧ Upd NoF w w' := by
  have c0 : (w.alloc (.cells n.cells NT)).cell? ⟨w.heap.size, 0, none⟩ = some (.int .u8 n.kind) := ((Blk.new w n.cells NT).cell 0).trans n.get0
  have HU := Lib.hid (Upd.alloc NoF w (.cells n.cells NT))
  obtain ⟨V, hV⟩ : ∃ V, w.alloc (.cells n.cells NT) = V := ⟨_, rfl⟩
  rw [hV] at c0 HU
  have HN := Lib.hid (NC.net_any n.kind V)
  have HV := Lib.hid hV
  clear hV
  unfold isAsk
  generalize netN n.kind = z at *
  go_enter Tryd.func44, Tryd.ntmps44
  go_upto_region 1 with fail
  rw [HV.out]
  go_wp2_with (go_at_call 13; refine HN.out.mono ?_; rintro e w2 ⟨rfl, rfl⟩)
  go_ret
  exact ⟨rfl, HU.out⟩
set_option maxRecDepth 100000 in
theorem busy_is (h : (homeO hb mb S).is W F) (b : Int) (hb' : -9223372036854775808 ≤ b ∧ b ≤ 9223372036854775807) : Calls Tryd.prog 17 #[ptr hb, .int .i64 b] W fun e w' => e = .returned (.bool (S.J b).isSome) ∧ Upd NoF W w' := by
  obtain ⟨p, hf, hA⟩ := HAt.open h
  have c10 : W.cell? ⟨hb, 10, none⟩ = some (.map (some p.jb)) := hA.box.cell 10
  have l1 := hA.look hb'
  have s1 := TJob.st_new (Jb.isN (jobAt_ok hf.good b)) W
  have HU := Lib.hid (Upd.alloc NoF W (.cells (jobAt S.J b).cells JT))
  generalize (jobAt S.J b).cells = x at *
  generalize (S.J b).isSome = y at *
  clear h hA hf
  go_enter Tryd.func17, Tryd.ntmps17
  go_wp2
  go_ret
  exact ⟨rfl, HU.out⟩
theorem waits_is (h : (homeO hb mb S).is W F) : Calls Tryd.prog 18 #[ptr hb] W fun e w' => e = .returned (.int .i64 S.Q.length) ∧ W = w' := by
  obtain ⟨p, hf, hA⟩ := HAt.open h
  obtain ⟨F2, hq⟩ := hA.que
  have c11 : W.cell? ⟨hb, 11, none⟩ = some (ptr p.pb) := hA.box.cell 11
  have HL := Lib.hid (PN.len_any W F2 p.pb _ _ hq)
  rw [List.length_map] at HL
  clear h hA hf hq
  go_enter Tryd.func18, Tryd.ntmps18
  go_wp2_with (go_at_call 51; refine HL.out.mono ?_; rintro e w2 ⟨rfl, rfl⟩)
  go_ret
  exact ⟨rfl, rfl⟩
def entP (S : Hs) (b : Int) : En := if 0 ≤ b ∧ b < S.n then S.E b.toNat else ⟨0, 0#32⟩
set_option maxRecDepth 100000 in
theorem entry_is (h : (homeO hb mb S).is W F) (b : Int) : Calls Tryd.prog 20 #[ptr hb, .int .i64 b] W fun e w' => e = .returned (.tuple #[.agg (entP S b).cells, .int .i64 (ME.errP S.n b)]) ∧ Upd NoF W w' := by
  obtain ⟨p, hf, hA⟩ := HAt.open h
  have hu := Upd.alloc NoF W (.cells #[.int .i64 0, .int .u32 0] ET')
  have hA1 := hA.upd hu
  have q0 := Blk.new W #[.int .i64 0, .int .u32 0] ET'
  obtain ⟨V, hV⟩ : ∃ V, W.alloc (.cells #[.int .i64 0, .int .u32 0] ET') = V := ⟨_, rfl⟩
  rw [hV] at hA1 q0 hu
  have HV := Lib.hid hV
  have HU := Lib.hid hu
  have HQ := Lib.hid q0
  have c9 : V.cell? ⟨hb, 9, none⟩ = some (sl p.eb S.n p.cap) := hA1.box.cell 9
  have d0 : V.cell? ⟨W.heap.size, 0, none⟩ = some (.int .i64 0) := q0.cell 0
  have d1 : V.cell? ⟨W.heap.size, 1, none⟩ = some (.int .u32 0) := q0.cell 1
  have f0 := q0.frozen 0
  have f1 := q0.frozen 1
  have hcap := hf.cap
  by_cases hbb : 0 ≤ b ∧ b < S.n
  · obtain ⟨k, rfl⟩ : ∃ k : Nat, b = k := ⟨b.toNat, by omega⟩
    have hk : k < S.n := by omega
    obtain ⟨e0, e1⟩ := hA1.entry hk
    have q1 : entP S k = S.E k := by unfold entP; rw [if_pos hbb]; rfl
    have q2 : ME.errP S.n k = 0 := by unfold ME.errP; rw [if_pos hbb]
    rw [q1, q2]
    have hlt : (k : Int) < (S.n : Int) := by omega
    have hkc : k < p.cap := by omega
    unfold maxLen at hcap
    clear h hA hA1 hf q0 q1 q2 hV hu hbb
    generalize S.E k = x at *
    have hfin := (Blk.set HQ.out 0 (.int .i64 x.own)).set 1 (VM x.shr)
    have g0 : _ = some (Value.int .i64 x.own) := hfin.cell 0
    have g1 : _ = some (VM x.shr) := hfin.cell 1
    have HG := Lib.hid (And.intro g0 g1)
    have HF : Hid (Upd NoF W ((V.setCell ⟨W.heap.size, 0, none⟩ (.int .i64 x.own)).setCell ⟨W.heap.size, 1, none⟩ (VM x.shr))) := Lib.hid ((HU.out.trans (Upd.setCell (F := fun k => k = W.heap.size) V (p := ⟨W.heap.size, 0, none⟩) rfl _) (fun i hi h => by omega)).trans (Upd.setCell (F := fun k => k = W.heap.size) _ (p := ⟨W.heap.size, 1, none⟩) rfl _) (fun i hi h => by omega))
    clear hfin g0 g1
    unfold En.cells
    go_enter Tryd.func20, Tryd.ntmps20
    go_upto_region 1 with fail
    rw [HV.out]
    go_wp2
    obtain ⟨g0, g1⟩ := HG.out
    exact bodyPost_ret (v := .tuple #[.agg #[.int .i64 x.own, VM x.shr], .int .i64 0]) (by simp [results, Tryd.f20, go_sem, g0, g1]) rfl ⟨rfl, HF.out⟩
  · have q1 : entP S b = ⟨0, 0#32⟩ := by unfold entP; rw [if_neg hbb]
    have q2 : ME.errP S.n b = 5 := by unfold ME.errP; rw [if_neg hbb]
    rw [q1, q2]
    have hx : (decide (b < 0) || decide ((S.n : Int) ≤ b)) = true := by simp; omega
    have hfin := (Blk.set HQ.out 0 (.int .i64 0)).set 1 (.int .u32 0)
    have g0 : _ = some (Value.int .i64 0) := hfin.cell 0
    have g1 : _ = some (Value.int .u32 0) := hfin.cell 1
    have HG := Lib.hid (And.intro g0 g1)
    have HF : Hid (Upd NoF W ((V.setCell ⟨W.heap.size, 0, none⟩ (.int .i64 0)).setCell ⟨W.heap.size, 1, none⟩ (.int .u32 0))) := Lib.hid ((HU.out.trans (Upd.setCell (F := fun k => k = W.heap.size) V (p := ⟨W.heap.size, 0, none⟩) rfl _) (fun i hi h => by omega)).trans (Upd.setCell (F := fun k => k = W.heap.size) _ (p := ⟨W.heap.size, 1, none⟩) rfl _) (fun i hi h => by omega))
    clear h hA hA1 hf q0 q1 q2 hV hu hfin g0 g1
    show Calls _ _ _ _ fun e w' => e = .returned (.tuple #[.agg #[.int .i64 0, .int .u32 0], .int .i64 5]) ∧ Upd NoF W w'
    by_cases h0 : b < 0
    · clear hbb hx hcap
      go_enter Tryd.func20, Tryd.ntmps20
      go_upto_region 1 with fail
      rw [HV.out]
      go_wp2
      obtain ⟨g0, g1⟩ := HG.out
      exact bodyPost_ret (v := .tuple #[.agg #[.int .i64 0, .int .u32 0], .int .i64 5]) (by simp [results, Tryd.f20, go_sem, g0, g1]) rfl ⟨rfl, HF.out⟩
    · have h1 : (S.n : Int) ≤ b := by omega
      clear hbb hx hcap
      go_enter Tryd.func20, Tryd.ntmps20
      go_upto_region 1 with fail
      rw [HV.out]
      go_wp2
      obtain ⟨g0, g1⟩ := HG.out
      exact bodyPost_ret (v := .tuple #[.agg #[.int .i64 0, .int .u32 0], .int .i64 5]) (by simp [results, Tryd.f20, go_sem, g0, g1]) rfl ⟨rfl, HF.out⟩
theorem readyP_eq (S : Hs) (n : Nt) (h : ¬ (MayN n = false ∨ n.too ≠ -1 ∨ S.c.cores ≤ n.frm ∨ S.data ≤ n.blk)) : readyP S n =
    if isAsk n then (if (S.J n.blk).isSome && decide (S.room ≤ S.Q.length) then 110 else 0)
    else if n.kind = 11 then (if !(S.J n.blk).isSome || !(jobAt S.J n.blk).ans || (jobAt S.J n.blk).ask.frm != n.frm then 8 else 0)
    else (if !(S.J n.blk).isSome || (jobAt S.J n.blk).ans || !inM (jobAt S.J n.blk).wait n.frm then 8 else 0) := by
  unfold readyP jobAt
  rw [if_neg h]
  cases hj : S.J n.blk with
  | none => simp
  | some j => simp
theorem may_blk {n : Nt} (h : MayN n = true) : 0 ≤ n.blk ∧ n.blk ≤ 255 := by
  unfold MayN at h
  simp only [Bool.and_eq_true, decide_eq_true_eq] at h
  exact h.1.1.1.1.1.1.1.1.2
set_option maxRecDepth 100000 in
set_option maxHeartbeats 4000000 in
theorem ready_is (h : (homeO hb mb S).is W F) (n : Nt) (hn : n.Ok) : Calls Tryd.prog 31 #[ptr hb, .agg n.cells] W fun e w' => e = .returned (.int .i64 (readyP S n)) ∧ Upd NoF W w' := by
  obtain ⟨p, hf, hA⟩ := HAt.open h
  have hnN := Nt.Ok.isN hn.isU
  have hu := Upd.alloc NoF W (.cells n.cells NT)
  have q0 := Blk.new W n.cells NT
  obtain ⟨V, hV⟩ : ∃ V, W.alloc (.cells n.cells NT) = V := ⟨_, rfl⟩
  rw [hV] at hu q0
  have hA1 := hA.upd hu
  have HV := Lib.hid hV
  have HU := Lib.hid hu
  have HM := Lib.hid (fun w => NC.May_any n hn w)
  have hdat := hf.good.data
  have hcap := hf.cap
  have HF := Lib.hid (fun X (hX : Upd NoF V X) => (show (TNot.ld (.pointer (some ⟨W.heap.size, 0, none⟩))).run Tryd.prog X = .ok (.agg n.cells) X ∧ X.cell? ⟨W.heap.size, 0, none⟩ = some (.int .u8 n.kind) ∧ X.cell? ⟨W.heap.size, 1, none⟩ = some (.int .i64 n.frm) ∧ X.cell? ⟨W.heap.size, 2, none⟩ = some (.int .i64 n.too) ∧ X.cell? ⟨W.heap.size, 3, none⟩ = some (.int .i64 n.blk) ∧ X.cell? ⟨hb, 0, none⟩ = some (.int .i64 S.c.cores) ∧ X.cell? ⟨hb, 9, none⟩ = some (sl p.eb S.n p.cap) ∧ X.cell? ⟨hb, 10, none⟩ = some (.map (some p.jb)) ∧ X.cell? ⟨hb, 11, none⟩ = some (ptr p.pb) from
    ⟨TNot.ld_at hnN (q0.upd hX (fun h => h)).whole, ((q0.upd hX (fun h => h)).cell 0).trans n.get0, ((q0.upd hX (fun h => h)).cell 1).trans n.get1, ((q0.upd hX (fun h => h)).cell 2).trans n.get2, ((q0.upd hX (fun h => h)).cell 3).trans n.get3, (hA1.upd hX).box.cell 0, (hA1.upd hX).box.cell 9, (hA1.upd hX).box.cell 10, (hA1.upd hX).box.cell 11⟩))
  have HSK := Lib.hid (fun (A B : World) (h1 : Upd NoF V A) (h2 : Upd NoF A B) => h1.trans h2 (fun _ _ h => h))
  have HD := Lib.hid (Upd.drew NoF V)
  have HA := Lib.hid hA1
  have HFI := Lib.hid hf
  have hnl : S.data = (S.n : Int) := hdat.1
  have hmb := @may_blk n
  have HN := Lib.hid hn
  have hc2 := hcap.2
  unfold maxLen at hc2
  clear h hA hu q0 hV hA1 hf hnN hdat
  cases hm : MayN n
  · rw [hm] at HM
    have hr : readyP S n = 2 := by unfold readyP; rw [if_pos (.inl hm)]
    rw [hr]
    clear hm hr hmb hcap hc2 hnl
    go_enter Tryd.func31, Tryd.ntmps31
    go_upto_region 1 with fail
    rw [HV.out]
    go_wp2_with fail
    refine wp_region_held_drew (S := (fun X => Upd NoF V X)) (by kernel_rfl) (HD.out) (fun hHeld => ?_)
    refine rgn 0 (v := ?vr1_0) hHeld ?yr1_0 ?_
    case yr1_0 => (intro w hSw; obtain ⟨k0, k1, k2, k3, k4, k5, k6, k7, k8⟩ := HF.out _ hSw; go_simp; try with_reducible rfl)
    simp only [Act.put, rn1, rn2, rn3, rn4, rn5, rn6]
    refine reg_step (i := 1) (by kernel_rfl) rfl (by kernel_rfl) (fun K hK => ?_)
    go_simp
    refine (HM.out _).mono ?_
    rintro e w2 ⟨rfl, hu⟩
    have HS := HSK.out _ _ hHeld hu
    clear hu
    go_wp2_with fail
    refine hK.out _ _ HS (fun hHeld2 => ?_)
    clear hK hHeld2 hHeld; have hHeld := HS; clear HS
    try simp only [Act.put, rn1, rn2, rn3, rn4, rn5, rn6]
    refine rgn 2 (v := .bool true) hHeld ?yr1_2 ?_
    case yr1_2 => (intro w hSw; obtain ⟨k0, k1, k2, k3, k4, k5, k6, k7, k8⟩ := HF.out _ hSw; go_simp; try with_reducible rfl)
    simp only [Act.put, rn1, rn2, rn3, rn4, rn5, rn6]
    refine rgn 3 (v := .bool true) hHeld ?yr1_3 ?_
    case yr1_3 => (intro w hSw; obtain ⟨k0, k1, k2, k3, k4, k5, k6, k7, k8⟩ := HF.out _ hSw; go_simp; try with_reducible rfl)
    simp only [Act.put, rn1, rn2, rn3, rn4, rn5, rn6]
    refine reg_off (i := 4) rfl (by kernel_rfl) (by kernel_rfl) (by kernel_rfl) (fun _ _ _ h => h) (by kernel_rfl) hHeld ?_
    simp only [Act.put, rn1, rn2, rn3, rn4, rn5, rn6]
    refine reg_off (i := 5) rfl (by kernel_rfl) (by kernel_rfl) (by kernel_rfl) (fun _ _ _ h => h) (by kernel_rfl) hHeld ?_
    simp only [Act.put, rn1, rn2, rn3, rn4, rn5, rn6]
    refine reg_off (i := 6) rfl (by kernel_rfl) (by kernel_rfl) (by kernel_rfl) (fun _ _ _ h => h) (by kernel_rfl) hHeld ?_
    simp only [Act.put, rn1, rn2, rn3, rn4, rn5, rn6]
    refine rgn 7 (v := .bool true) hHeld ?yr1_7 ?_
    case yr1_7 => (intro w hSw; obtain ⟨k0, k1, k2, k3, k4, k5, k6, k7, k8⟩ := HF.out _ hSw; go_simp; try with_reducible rfl)
    simp only [Act.put, rn1, rn2, rn3, rn4, rn5, rn6]
    refine rgn 8 (v := .bool true) hHeld ?yr1_8 ?_
    case yr1_8 => (intro w hSw; obtain ⟨k0, k1, k2, k3, k4, k5, k6, k7, k8⟩ := HF.out _ hSw; go_simp; try with_reducible rfl)
    simp only [Act.put, rn1, rn2, rn3, rn4, rn5, rn6]
    refine reg_off (i := 9) rfl (by kernel_rfl) (by kernel_rfl) (by kernel_rfl) (fun _ _ _ h => h) (by kernel_rfl) hHeld ?_
    simp only [Act.put, rn1, rn2, rn3, rn4, rn5, rn6]
    refine reg_off (i := 10) rfl (by kernel_rfl) (by kernel_rfl) (by kernel_rfl) (fun _ _ _ h => h) (by kernel_rfl) hHeld ?_
    simp only [Act.put, rn1, rn2, rn3, rn4, rn5, rn6]
    refine reg_off (i := 11) rfl (by kernel_rfl) (by kernel_rfl) (by kernel_rfl) (fun _ _ _ h => h) (by kernel_rfl) hHeld ?_
    simp only [Act.put, rn1, rn2, rn3, rn4, rn5, rn6]
    refine reg_off (i := 12) rfl (by kernel_rfl) (by kernel_rfl) (by kernel_rfl) (fun _ _ _ h => h) (by kernel_rfl) hHeld ?_
    simp only [Act.put, rn1, rn2, rn3, rn4, rn5, rn6]
    refine reg_off (i := 13) rfl (by kernel_rfl) (by kernel_rfl) (by kernel_rfl) (fun _ _ _ h => h) (by kernel_rfl) hHeld ?_
    simp only [Act.put, rn1, rn2, rn3, rn4, rn5, rn6]
    refine reg_off (i := 14) rfl (by kernel_rfl) (by kernel_rfl) (by kernel_rfl) (fun _ _ _ h => h) (by kernel_rfl) hHeld ?_
    simp only [Act.put, rn1, rn2, rn3, rn4, rn5, rn6]
    refine reg_off (i := 15) rfl (by kernel_rfl) (by kernel_rfl) (by kernel_rfl) (fun _ _ _ h => h) (by kernel_rfl) hHeld ?_
    simp only [Act.put, rn1, rn2, rn3, rn4, rn5, rn6]
    refine reg_off (i := 16) rfl (by kernel_rfl) (by kernel_rfl) (by kernel_rfl) (fun _ _ _ h => h) (by kernel_rfl) hHeld ?_
    simp only [Act.put, rn1, rn2, rn3, rn4, rn5, rn6]
    refine rgn 17 (v := .bool true) hHeld ?yr1_17 ?_
    case yr1_17 => (intro w hSw; obtain ⟨k0, k1, k2, k3, k4, k5, k6, k7, k8⟩ := HF.out _ hSw; go_simp; try with_reducible rfl)
    simp only [Act.put, rn1, rn2, rn3, rn4, rn5, rn6]
    refine rgn 18 (v := .bool true) hHeld ?yr1_18 ?_
    case yr1_18 => (intro w hSw; obtain ⟨k0, k1, k2, k3, k4, k5, k6, k7, k8⟩ := HF.out _ hSw; go_simp; try with_reducible rfl)
    simp only [Act.put, rn1, rn2, rn3, rn4, rn5, rn6]
    refine reg_off (i := 19) rfl (by kernel_rfl) (by kernel_rfl) (by kernel_rfl) (fun _ _ _ h => h) (by kernel_rfl) hHeld ?_
    simp only [Act.put, rn1, rn2, rn3, rn4, rn5, rn6]
    refine reg_off (i := 20) rfl (by kernel_rfl) (by kernel_rfl) (by kernel_rfl) (fun _ _ _ h => h) (by kernel_rfl) hHeld ?_
    simp only [Act.put, rn1, rn2, rn3, rn4, rn5, rn6]
    refine reg_off (i := 21) rfl (by kernel_rfl) (by kernel_rfl) (by kernel_rfl) (fun _ _ _ h => h) (by kernel_rfl) hHeld ?_
    simp only [Act.put, rn1, rn2, rn3, rn4, rn5, rn6]
    refine reg_off (i := 22) rfl (by kernel_rfl) (by kernel_rfl) (by kernel_rfl) (fun _ _ _ h => h) (by kernel_rfl) hHeld ?_
    simp only [Act.put, rn1, rn2, rn3, rn4, rn5, rn6]
    refine reg_off (i := 23) rfl (by kernel_rfl) (by kernel_rfl) (by kernel_rfl) (fun _ _ _ h => h) (by kernel_rfl) hHeld ?_
    simp only [Act.put, rn1, rn2, rn3, rn4, rn5, rn6]
    refine reg_off (i := 24) rfl (by kernel_rfl) (by kernel_rfl) (by kernel_rfl) (fun _ _ _ h => h) (by kernel_rfl) hHeld ?_
    simp only [Act.put, rn1, rn2, rn3, rn4, rn5, rn6]
    refine reg_off (i := 25) rfl (by kernel_rfl) (by kernel_rfl) (by kernel_rfl) (fun _ _ _ h => h) (by kernel_rfl) hHeld ?_
    simp only [Act.put, rn1, rn2, rn3, rn4, rn5, rn6]
    refine reg_off (i := 26) rfl (by kernel_rfl) (by kernel_rfl) (by kernel_rfl) (fun _ _ _ h => h) (by kernel_rfl) hHeld ?_
    simp only [Act.put, rn1, rn2, rn3, rn4, rn5, rn6]
    refine rgn 27 (v := .bool true) hHeld ?yr1_27 ?_
    case yr1_27 => (intro w hSw; obtain ⟨k0, k1, k2, k3, k4, k5, k6, k7, k8⟩ := HF.out _ hSw; go_simp; try with_reducible rfl)
    simp only [Act.put, rn1, rn2, rn3, rn4, rn5, rn6]
    refine wpAnyH_done (by kernel_rfl) ?_ _
    go_wp2
    go_ret
    exact ⟨rfl, HU.out.trans hHeld (fun _ _ h => h)⟩
  · rw [hm] at HM
    have hbl := hmb hm
    clear hmb
    cases ht : (n.too != -1)
    · have ht1 : n.too = -1 := by simpa using ht
      cases hc : decide (S.c.cores ≤ n.frm)
      · cases hd : decide ((S.n : Int) ≤ n.blk)
        · have hg : ¬ (MayN n = false ∨ n.too ≠ -1 ∨ S.c.cores ≤ n.frm ∨ S.data ≤ n.blk) := by
            simp at hc hd
            rw [hm, hnl]
            rintro (h | h | h | h)
            · cases h
            · exact h ht1
            · omega
            · omega
          have hE := readyP_eq S n hg
          generalize readyP S n = r at *
          have hjo := jobAt_ok HFI.out.good n.blk
          have HL := Lib.hid (fun X (hX : Upd NoF V X) => (HA.out.upd hX).look (b := n.blk) (by omega))
          have hjN := Jb.isN hjo
          have hq1 : ((S.Q.map Nt.cells).length : Int) ≤ S.room := by rw [List.length_map]; exact HFI.out.good.few
          have hdd := HFI.out.good.data
          have HR := Lib.hid (fun X (hX : Upd NoF V X) => (HA.out.upd hX).que.elim (fun F2 hq => PN.room_any X F2 p.pb _ _ hq (by omega) (by omega) hq1))
          rw [List.length_map] at HR
          have jc1 : (jobAt S.J n.blk).cells[1]? = some (.int .i64 (jobAt S.J n.blk).ask.frm) := by rw [Jb.get_ask (by omega) hjN.1]; exact (jobAt S.J n.blk).ask.get1
          have jc24 := Jb.get24 hjN.1
          have jc25 := Jb.get25 hjN.1
          have HJC := Lib.hid (And.intro jc1 (And.intro jc24 jc25))
          clear jc1 jc24 jc25 hjo
          have HH := Lib.hid (fun w => has_any (jobAt S.J n.blk).wait n.frm w)
          generalize (jobAt S.J n.blk).cells = jc at *
          generalize (jobAt S.J n.blk).ask.frm = jf at *
          generalize (jobAt S.J n.blk).ans = ja at *
          generalize inM (jobAt S.J n.blk).wait n.frm = jw at *
          generalize (jobAt S.J n.blk).wait = jm at *
          generalize (S.J n.blk).isSome = busy at *
          have hw9 : IntKind.i64.wrap (S.room - (S.Q.length : Int)) = S.room - (S.Q.length : Int) := IntWalk.i64_in _ (by have := HFI.out.good.few; omega)
          have HE := Lib.hid hE
          clear hg hm ht1 hnl hq1 hdd hbl hE
          go_enter Tryd.func31, Tryd.ntmps31
          go_upto_region 1 with fail
          rw [HV.out]
          go_wp2_with fail
          refine wp_region_held_drew (S := (fun X => Upd NoF V X)) (by kernel_rfl) (HD.out) (fun hHeld => ?_)
          refine rgn 0 (v := ?vr2_0) hHeld ?yr2_0 ?_
          case yr2_0 => (intro w hSw; obtain ⟨k0, k1, k2, k3, k4, k5, k6, k7, k8⟩ := HF.out _ hSw; go_simp; try with_reducible rfl)
          simp only [Act.put, rn1, rn2, rn3, rn4, rn5, rn6]
          refine reg_step (i := 1) (by kernel_rfl) rfl (by kernel_rfl) (fun K hK => ?_)
          go_simp
          refine (HM.out _).mono ?_
          rintro e w2 ⟨rfl, hu⟩
          have HS := HSK.out _ _ hHeld hu
          clear hu
          go_wp2_with fail
          refine hK.out _ _ HS (fun hHeld2 => ?_)
          clear hK hHeld2 hHeld; have hHeld := HS; clear HS
          try simp only [Act.put, rn1, rn2, rn3, rn4, rn5, rn6]
          refine rgn 2 (v := .bool false) hHeld ?yr2_2 ?_
          case yr2_2 => (intro w hSw; obtain ⟨k0, k1, k2, k3, k4, k5, k6, k7, k8⟩ := HF.out _ hSw; go_simp; try with_reducible rfl)
          simp only [Act.put, rn1, rn2, rn3, rn4, rn5, rn6]
          refine rgn 3 (v := .bool false) hHeld ?yr2_3 ?_
          case yr2_3 => (intro w hSw; obtain ⟨k0, k1, k2, k3, k4, k5, k6, k7, k8⟩ := HF.out _ hSw; go_simp; try with_reducible rfl)
          simp only [Act.put, rn1, rn2, rn3, rn4, rn5, rn6]
          refine rgn 4 (v := ?vr2_4) hHeld ?yr2_4 ?_
          case yr2_4 => (intro w hSw; obtain ⟨k0, k1, k2, k3, k4, k5, k6, k7, k8⟩ := HF.out _ hSw; go_simp; try with_reducible rfl)
          simp only [Act.put, rn1, rn2, rn3, rn4, rn5, rn6]
          refine rgn 5 (v := ?vr2_5) hHeld ?yr2_5 ?_
          case yr2_5 => (intro w hSw; obtain ⟨k0, k1, k2, k3, k4, k5, k6, k7, k8⟩ := HF.out _ hSw; go_simp; try with_reducible rfl)
          simp only [Act.put, rn1, rn2, rn3, rn4, rn5, rn6]
          refine rgn 6 (v := .bool false) hHeld ?yr2_6 ?_
          case yr2_6 => (intro w hSw; obtain ⟨k0, k1, k2, k3, k4, k5, k6, k7, k8⟩ := HF.out _ hSw; go_simp; try with_reducible rfl)
          simp only [Act.put, rn1, rn2, rn3, rn4, rn5, rn6]
          refine rgn 7 (v := .bool false) hHeld ?yr2_7 ?_
          case yr2_7 => (intro w hSw; obtain ⟨k0, k1, k2, k3, k4, k5, k6, k7, k8⟩ := HF.out _ hSw; go_simp; try with_reducible rfl)
          simp only [Act.put, rn1, rn2, rn3, rn4, rn5, rn6]
          refine rgn 8 (v := .bool false) hHeld ?yr2_8 ?_
          case yr2_8 => (intro w hSw; obtain ⟨k0, k1, k2, k3, k4, k5, k6, k7, k8⟩ := HF.out _ hSw; go_simp; try with_reducible rfl)
          simp only [Act.put, rn1, rn2, rn3, rn4, rn5, rn6]
          refine rgn 9 (v := ?vr2_9) hHeld ?yr2_9 ?_
          case yr2_9 => (intro w hSw; obtain ⟨k0, k1, k2, k3, k4, k5, k6, k7, k8⟩ := HF.out _ hSw; go_simp; try with_reducible rfl)
          simp only [Act.put, rn1, rn2, rn3, rn4, rn5, rn6]
          refine rgn 10 (v := ?vr2_10) hHeld ?yr2_10 ?_
          case yr2_10 => (intro w hSw; obtain ⟨k0, k1, k2, k3, k4, k5, k6, k7, k8⟩ := HF.out _ hSw; go_simp; try with_reducible rfl)
          simp only [Act.put, rn1, rn2, rn3, rn4, rn5, rn6]
          refine rgn 11 (v := ?vr2_11) hHeld ?yr2_11 ?_
          case yr2_11 => (intro w hSw; obtain ⟨k0, k1, k2, k3, k4, k5, k6, k7, k8⟩ := HF.out _ hSw; go_simp; try with_reducible rfl)
          simp only [Act.put, rn1, rn2, rn3, rn4, rn5, rn6]
          refine rgn 12 (v := ?vr2_12) hHeld ?yr2_12 ?_
          case yr2_12 => (intro w hSw; obtain ⟨k0, k1, k2, k3, k4, k5, k6, k7, k8⟩ := HF.out _ hSw; go_simp; try with_reducible rfl)
          simp only [Act.put, rn1, rn2, rn3, rn4, rn5, rn6]
          refine rgn 13 (v := ?vr2_13) hHeld ?yr2_13 ?_
          case yr2_13 => (intro w hSw; obtain ⟨k0, k1, k2, k3, k4, k5, k6, k7, k8⟩ := HF.out _ hSw; go_simp; try with_reducible rfl)
          simp only [Act.put, rn1, rn2, rn3, rn4, rn5, rn6]
          refine rgn 14 (v := ?vr2_14) hHeld ?yr2_14 ?_
          case yr2_14 => (intro w hSw; obtain ⟨k0, k1, k2, k3, k4, k5, k6, k7, k8⟩ := HF.out _ hSw; go_simp; try with_reducible rfl)
          simp only [Act.put, rn1, rn2, rn3, rn4, rn5, rn6]
          refine rgn 15 (v := ?vr2_15) hHeld ?yr2_15 ?_
          case yr2_15 => (intro w hSw; obtain ⟨k0, k1, k2, k3, k4, k5, k6, k7, k8⟩ := HF.out _ hSw; go_simp; try with_reducible rfl)
          simp only [Act.put, rn1, rn2, rn3, rn4, rn5, rn6]
          refine rgn 16 (v := .bool false) hHeld ?yr2_16 ?_
          case yr2_16 => (intro w hSw; obtain ⟨k0, k1, k2, k3, k4, k5, k6, k7, k8⟩ := HF.out _ hSw; go_simp; try with_reducible rfl)
          simp only [Act.put, rn1, rn2, rn3, rn4, rn5, rn6]
          refine rgn 17 (v := .bool false) hHeld ?yr2_17 ?_
          case yr2_17 => (intro w hSw; obtain ⟨k0, k1, k2, k3, k4, k5, k6, k7, k8⟩ := HF.out _ hSw; go_simp; try with_reducible rfl)
          simp only [Act.put, rn1, rn2, rn3, rn4, rn5, rn6]
          refine rgn 18 (v := .bool false) hHeld ?yr2_18 ?_
          case yr2_18 => (intro w hSw; obtain ⟨k0, k1, k2, k3, k4, k5, k6, k7, k8⟩ := HF.out _ hSw; go_simp; try with_reducible rfl)
          simp only [Act.put, rn1, rn2, rn3, rn4, rn5, rn6]
          refine rgn 19 (v := ?vr2_19) hHeld ?yr2_19 ?_
          case yr2_19 => (intro w hSw; obtain ⟨k0, k1, k2, k3, k4, k5, k6, k7, k8⟩ := HF.out _ hSw; go_simp; try with_reducible rfl)
          simp only [Act.put, rn1, rn2, rn3, rn4, rn5, rn6]
          refine rgn 20 (v := ?vr2_20) hHeld ?yr2_20 ?_
          case yr2_20 => (intro w hSw; obtain ⟨k0, k1, k2, k3, k4, k5, k6, k7, k8⟩ := HF.out _ hSw; go_simp; try with_reducible rfl)
          simp only [Act.put, rn1, rn2, rn3, rn4, rn5, rn6]
          refine rgn 21 (v := ?vr2_21) hHeld ?yr2_21 ?_
          case yr2_21 => (intro w hSw; obtain ⟨k0, k1, k2, k3, k4, k5, k6, k7, k8⟩ := HF.out _ hSw; go_simp; try with_reducible rfl)
          simp only [Act.put, rn1, rn2, rn3, rn4, rn5, rn6]
          refine rgn 22 (v := ?vr2_22) hHeld ?yr2_22 ?_
          case yr2_22 => (intro w hSw; obtain ⟨k0, k1, k2, k3, k4, k5, k6, k7, k8⟩ := HF.out _ hSw; go_simp; try with_reducible rfl)
          simp only [Act.put, rn1, rn2, rn3, rn4, rn5, rn6]
          refine rgn 23 (v := ?vr2_23) hHeld ?yr2_23 ?_
          case yr2_23 => (intro w hSw; obtain ⟨k0, k1, k2, k3, k4, k5, k6, k7, k8⟩ := HF.out _ hSw; go_simp; try with_reducible rfl)
          simp only [Act.put, rn1, rn2, rn3, rn4, rn5, rn6]
          refine rgn 24 (v := ?vr2_24) hHeld ?yr2_24 ?_
          case yr2_24 => (intro w hSw; obtain ⟨k0, k1, k2, k3, k4, k5, k6, k7, k8⟩ := HF.out _ hSw; go_simp; try with_reducible rfl)
          simp only [Act.put, rn1, rn2, rn3, rn4, rn5, rn6]
          refine rgn 25 (v := ?vr2_25) hHeld ?yr2_25 ?_
          case yr2_25 => (intro w hSw; obtain ⟨k0, k1, k2, k3, k4, k5, k6, k7, k8⟩ := HF.out _ hSw; go_simp; try with_reducible rfl)
          simp only [Act.put, rn1, rn2, rn3, rn4, rn5, rn6]
          refine rgn 26 (v := .bool false) hHeld ?yr2_26 ?_
          case yr2_26 => (intro w hSw; obtain ⟨k0, k1, k2, k3, k4, k5, k6, k7, k8⟩ := HF.out _ hSw; go_simp; try with_reducible rfl)
          simp only [Act.put, rn1, rn2, rn3, rn4, rn5, rn6]
          refine rgn 27 (v := .bool false) hHeld ?yr2_27 ?_
          case yr2_27 => (intro w hSw; obtain ⟨k0, k1, k2, k3, k4, k5, k6, k7, k8⟩ := HF.out _ hSw; go_simp; try with_reducible rfl)
          simp only [Act.put, rn1, rn2, rn3, rn4, rn5, rn6]
          refine wpAnyH_done (by kernel_rfl) ?_ _
          go_wp2_with fail
          have hd1 := hHeld.trans (Upd.drew NoF w2) (fun _ _ h => h)
          have s1 : (TJob.st (.pointer (some ⟨w2.heap.size, 0, none⟩)) (.agg jc)).run Tryd.prog (w2.alloc (.cells TJob.Z JT)).drew = .ok () (w2.alloc (.cells jc JT)).drew := TJob.st_new hjN w2.drew
          have HA1 := Lib.hid (hd1.trans (Upd.alloc NoF w2.drew (.cells TJob.Z JT)) (fun _ _ h => h))
          have HA2 := Lib.hid (hd1.trans (Upd.alloc NoF w2.drew (.cells jc JT)) (fun _ _ h => h))
          clear hHeld
          refine wp_region_held_drew (S := (fun X => Upd NoF V X)) (by kernel_rfl) (hd1) (fun hHeld => ?_)
          refine rgn 0 (v := ?vr3_0) hHeld ?yr3_0 ?_
          case yr3_0 => (intro w hSw; obtain ⟨k0, k1, k2, k3, k4, k5, k6, k7, k8⟩ := HF.out _ hSw; have k9 := HL.out _ hSw; go_simp; try with_reducible rfl)
          simp only [Act.put, rn1, rn2, rn3, rn4, rn5, rn6]
          refine rgn 1 (v := ?vr3_1) hHeld ?yr3_1 ?_
          case yr3_1 => (intro w hSw; obtain ⟨k0, k1, k2, k3, k4, k5, k6, k7, k8⟩ := HF.out _ hSw; have k9 := HL.out _ hSw; go_simp; try with_reducible rfl)
          simp only [Act.put, rn1, rn2, rn3, rn4, rn5, rn6]
          refine rgn 2 (v := ?vr3_2) hHeld ?yr3_2 ?_
          case yr3_2 => (intro w hSw; obtain ⟨k0, k1, k2, k3, k4, k5, k6, k7, k8⟩ := HF.out _ hSw; have k9 := HL.out _ hSw; go_simp; try with_reducible rfl)
          simp only [Act.put, rn1, rn2, rn3, rn4, rn5, rn6]
          refine rgn 3 (v := ?vr3_3) hHeld ?yr3_3 ?_
          case yr3_3 => (intro w hSw; obtain ⟨k0, k1, k2, k3, k4, k5, k6, k7, k8⟩ := HF.out _ hSw; have k9 := HL.out _ hSw; go_simp; try with_reducible rfl)
          simp only [Act.put, rn1, rn2, rn3, rn4, rn5, rn6]
          refine rgn 4 (v := ?vr3_4) hHeld ?yr3_4 ?_
          case yr3_4 => (intro w hSw; obtain ⟨k0, k1, k2, k3, k4, k5, k6, k7, k8⟩ := HF.out _ hSw; have k9 := HL.out _ hSw; go_simp; try with_reducible rfl)
          simp only [Act.put, rn1, rn2, rn3, rn4, rn5, rn6]
          refine rgn 5 (v := ?vr3_5) hHeld ?yr3_5 ?_
          case yr3_5 => (intro w hSw; obtain ⟨k0, k1, k2, k3, k4, k5, k6, k7, k8⟩ := HF.out _ hSw; have k9 := HL.out _ hSw; go_simp; try with_reducible rfl)
          simp only [Act.put, rn1, rn2, rn3, rn4, rn5, rn6]
          refine rgn 6 (v := ?vr3_6) hHeld ?yr3_6 ?_
          case yr3_6 => (intro w hSw; obtain ⟨k0, k1, k2, k3, k4, k5, k6, k7, k8⟩ := HF.out _ hSw; have k9 := HL.out _ hSw; go_simp; try with_reducible rfl)
          simp only [Act.put, rn1, rn2, rn3, rn4, rn5, rn6]
          refine rgn 7 (v := ?vr3_7) hHeld ?yr3_7 ?_
          case yr3_7 => (intro w hSw; obtain ⟨k0, k1, k2, k3, k4, k5, k6, k7, k8⟩ := HF.out _ hSw; have k9 := HL.out _ hSw; go_simp; try with_reducible rfl)
          simp only [Act.put, rn1, rn2, rn3, rn4, rn5, rn6]
          refine rgn 8 (v := ?vr3_8) hHeld ?yr3_8 ?_
          case yr3_8 => (intro w hSw; obtain ⟨k0, k1, k2, k3, k4, k5, k6, k7, k8⟩ := HF.out _ hSw; have k9 := HL.out _ hSw; go_simp; try with_reducible rfl)
          simp only [Act.put, rn1, rn2, rn3, rn4, rn5, rn6]
          refine rgn 9 (v := ?vr3_9) hHeld ?yr3_9 ?_
          case yr3_9 => (intro w hSw; obtain ⟨k0, k1, k2, k3, k4, k5, k6, k7, k8⟩ := HF.out _ hSw; have k9 := HL.out _ hSw; go_simp; try with_reducible rfl)
          simp only [Act.put, rn1, rn2, rn3, rn4, rn5, rn6]
          refine reg_step (i := 10) (by kernel_rfl) rfl (by kernel_rfl) (fun K hK => ?_)
          go_simp
          have HS : (fun X => Upd NoF V X) (w2.alloc (.cells TJob.Z JT)).drew := HA1.out
          refine hK.out _ _ HS (fun hHeld2 => ?_)
          clear hK hHeld2 hHeld; have hHeld := HS; clear HS
          try simp only [Act.put, rn1, rn2, rn3, rn4, rn5, rn6]
          refine reg_step (i := 11) (by kernel_rfl) rfl (by kernel_rfl) (fun K hK => ?_)
          go_simp
          have HS : (fun X => Upd NoF V X) (w2.alloc (.cells jc JT)).drew := HA2.out
          refine hK.out _ _ HS (fun hHeld2 => ?_)
          clear hK hHeld2 hHeld; have hHeld := HS; clear HS
          try simp only [Act.put, rn1, rn2, rn3, rn4, rn5, rn6]
          refine rgn 12 (v := ?vr3_12) hHeld ?yr3_12 ?_
          case yr3_12 => (intro w hSw; obtain ⟨k0, k1, k2, k3, k4, k5, k6, k7, k8⟩ := HF.out _ hSw; have k9 := HL.out _ hSw; go_simp; try with_reducible rfl)
          simp only [Act.put, rn1, rn2, rn3, rn4, rn5, rn6]
          refine wpAnyH_done (by kernel_rfl) ?_ _
          have hd3 : Upd NoF V (w2.alloc (.cells jc JT)).drew := HA2.out
          have qj : Blk (w2.alloc (.cells jc JT)).drew w2.heap.size jc JT := Blk.new w2.drew jc JT
          clear HA HM HD HSK s1 hHeld HA1 HA2 hd1
          obtain ⟨U, hU⟩ : ∃ U, (w2.alloc (.cells jc JT)).drew = U := ⟨_, rfl⟩
          rw [hU] at hd3 qj
          rw [hU]
          clear hU
          obtain ⟨l0, z0, z1, -, z3, -, -, z10, z11⟩ := HF.out _ hd3
          have HQ := Lib.hid qj
          clear qj
          cases hask : isAsk n
          · have HAS := Lib.hid (hask ▸ asks_any n U)
            have HASK := Lib.hid hask
            clear hask
            by_cases hk : n.kind = 11
            · have hkb : (n.kind == 11) = true := by simp [hk]
              have HK := Lib.hid hk
              clear hk
              go_wp2_with fail
              refine HAS.out.mono ?_
              rintro e w5 ⟨rfl, hu5⟩
              obtain ⟨-, y0, y1, -, -, -, -, -, -⟩ := HF.out _ (hd3.trans hu5 (fun _ _ h => h))
              have qj5 := HQ.out.upd hu5 (fun h => h)
              have j1 : w5.cell? ⟨w2.heap.size, 1, none⟩ = some (.int .i64 jf) := (qj5.cell 1).trans HJC.out.1
              have j25 : w5.cell? ⟨w2.heap.size, 25, none⟩ = some (.bool ja) := (qj5.cell 25).trans HJC.out.2.2
              have HX := Lib.hid (HU.out.trans (hd3.trans hu5 (fun _ _ h => h)) (fun _ _ h => h))
              clear qj5 hd3 hu5 l0 z0 z1 z3 z10 z11 HQ HF HR HL
              cases busy
              · go_wp2
                go_ret
                exact ⟨by rw [HE.out]; simp [HASK.out, HK.out], HX.out⟩
              · cases ja
                · go_wp2
                  go_ret
                  exact ⟨by rw [HE.out]; simp [HASK.out, HK.out], HX.out⟩
                · cases hne : (jf != n.frm)
                  · go_wp2
                    go_ret
                    exact ⟨by rw [HE.out]; simp [HASK.out, HK.out, hne], HX.out⟩
                  · go_wp2
                    go_ret
                    exact ⟨by rw [HE.out]; simp [HASK.out, HK.out, hne], HX.out⟩
            · have hkb : (n.kind == 11) = false := by simp [hk]
              have HK := Lib.hid hk
              clear hk
              go_wp2_with fail
              refine HAS.out.mono ?_
              rintro e w5 ⟨rfl, hu5⟩
              obtain ⟨-, y0, y1, -, -, -, -, -, -⟩ := HF.out _ (hd3.trans hu5 (fun _ _ h => h))
              have qj5 := HQ.out.upd hu5 (fun h => h)
              have j24 : w5.cell? ⟨w2.heap.size, 24, none⟩ = some (VM jm) := (qj5.cell 24).trans HJC.out.2.1
              have j25 : w5.cell? ⟨w2.heap.size, 25, none⟩ = some (.bool ja) := (qj5.cell 25).trans HJC.out.2.2
              have HX := Lib.hid (HU.out.trans (hd3.trans hu5 (fun _ _ h => h)) (fun _ _ h => h))
              clear qj5 hd3 hu5 l0 z0 z1 z3 z10 z11 HQ HF HR HL
              cases busy
              · go_wp2
                go_ret
                exact ⟨by rw [HE.out]; simp [HASK.out, HK.out], HX.out⟩
              · cases ja
                · cases jw
                  · go_wp2_with (go_at_call 61; refine (HH.out _).mono ?_; rintro e w6 ⟨rfl, rfl⟩)
                    go_ret
                    exact ⟨by rw [HE.out]; simp [HASK.out, HK.out], HX.out⟩
                  · go_wp2_with (go_at_call 61; refine (HH.out _).mono ?_; rintro e w6 ⟨rfl, rfl⟩)
                    go_ret
                    exact ⟨by rw [HE.out]; simp [HASK.out, HK.out], HX.out⟩
                · go_wp2
                  go_ret
                  exact ⟨by rw [HE.out]; simp [HASK.out, HK.out], HX.out⟩
          · have HAS := Lib.hid (hask ▸ asks_any n U)
            have HASK := Lib.hid hask
            clear hask
            go_wp2_with fail
            refine HAS.out.mono ?_
            rintro e w5 ⟨rfl, hu5⟩
            have hd5 := hd3.trans hu5 (fun _ _ h => h)
            obtain ⟨-, y0, y1, -, -, -, -, -, y11⟩ := HF.out _ hd5
            have HX := Lib.hid (HU.out.trans hd5 (fun _ _ h => h))
            have HR5 := Lib.hid (HR.out _ hd5)
            have hfew := HFI.out.good.few
            clear hd3 hu5 l0 z0 z1 z3 z10 z11 HQ HF HR HL hd5
            cases busy
            · go_wp2
              go_ret
              exact ⟨by rw [HE.out]; simp [HASK.out], HX.out⟩
            · cases hfl : (S.room - (S.Q.length : Int) == 0)
              · have hz : decide (S.room ≤ (S.Q.length : Int)) = false := by simp at hfl; simp; omega
                go_wp2_with (go_at_call 60; refine HR5.out.mono ?_; rintro e w6 ⟨rfl, hu6⟩; have HX6 := Lib.hid (HX.out.trans hu6 (fun _ _ h => h)); clear hu6)
                go_ret
                exact ⟨by rw [HE.out]; simp [HASK.out, hz], HX6.out⟩
              · have hz : decide (S.room ≤ (S.Q.length : Int)) = true := by simp at hfl; simp; omega
                go_wp2_with (go_at_call 60; refine HR5.out.mono ?_; rintro e w6 ⟨rfl, hu6⟩; have HX6 := Lib.hid (HX.out.trans hu6 (fun _ _ h => h)); clear hu6)
                go_ret
                exact ⟨by rw [HE.out]; simp [HASK.out, hz], HX6.out⟩
        · rw [show readyP S n = 2 by unfold readyP; rw [if_pos (.inr (.inr (.inr (by rw [hnl]; simpa using hd))))]]
          clear ht1 hnl
          go_enter Tryd.func31, Tryd.ntmps31
          go_upto_region 1 with fail
          rw [HV.out]
          go_wp2_with fail
          refine wp_region_held_drew (S := (fun X => Upd NoF V X)) (by kernel_rfl) (HD.out) (fun hHeld => ?_)
          refine rgn 0 (v := ?vr4_0) hHeld ?yr4_0 ?_
          case yr4_0 => (intro w hSw; obtain ⟨k0, k1, k2, k3, k4, k5, k6, k7, k8⟩ := HF.out _ hSw; go_simp; try with_reducible rfl)
          simp only [Act.put, rn1, rn2, rn3, rn4, rn5, rn6]
          refine reg_step (i := 1) (by kernel_rfl) rfl (by kernel_rfl) (fun K hK => ?_)
          go_simp
          refine (HM.out _).mono ?_
          rintro e w2 ⟨rfl, hu⟩
          have HS := HSK.out _ _ hHeld hu
          clear hu
          go_wp2_with fail
          refine hK.out _ _ HS (fun hHeld2 => ?_)
          clear hK hHeld2 hHeld; have hHeld := HS; clear HS
          try simp only [Act.put, rn1, rn2, rn3, rn4, rn5, rn6]
          refine rgn 2 (v := .bool false) hHeld ?yr4_2 ?_
          case yr4_2 => (intro w hSw; obtain ⟨k0, k1, k2, k3, k4, k5, k6, k7, k8⟩ := HF.out _ hSw; go_simp; try with_reducible rfl)
          simp only [Act.put, rn1, rn2, rn3, rn4, rn5, rn6]
          refine rgn 3 (v := .bool false) hHeld ?yr4_3 ?_
          case yr4_3 => (intro w hSw; obtain ⟨k0, k1, k2, k3, k4, k5, k6, k7, k8⟩ := HF.out _ hSw; go_simp; try with_reducible rfl)
          simp only [Act.put, rn1, rn2, rn3, rn4, rn5, rn6]
          refine rgn 4 (v := ?vr4_4) hHeld ?yr4_4 ?_
          case yr4_4 => (intro w hSw; obtain ⟨k0, k1, k2, k3, k4, k5, k6, k7, k8⟩ := HF.out _ hSw; go_simp; try with_reducible rfl)
          simp only [Act.put, rn1, rn2, rn3, rn4, rn5, rn6]
          refine rgn 5 (v := ?vr4_5) hHeld ?yr4_5 ?_
          case yr4_5 => (intro w hSw; obtain ⟨k0, k1, k2, k3, k4, k5, k6, k7, k8⟩ := HF.out _ hSw; go_simp; try with_reducible rfl)
          simp only [Act.put, rn1, rn2, rn3, rn4, rn5, rn6]
          refine rgn 6 (v := .bool false) hHeld ?yr4_6 ?_
          case yr4_6 => (intro w hSw; obtain ⟨k0, k1, k2, k3, k4, k5, k6, k7, k8⟩ := HF.out _ hSw; go_simp; try with_reducible rfl)
          simp only [Act.put, rn1, rn2, rn3, rn4, rn5, rn6]
          refine rgn 7 (v := .bool false) hHeld ?yr4_7 ?_
          case yr4_7 => (intro w hSw; obtain ⟨k0, k1, k2, k3, k4, k5, k6, k7, k8⟩ := HF.out _ hSw; go_simp; try with_reducible rfl)
          simp only [Act.put, rn1, rn2, rn3, rn4, rn5, rn6]
          refine rgn 8 (v := .bool false) hHeld ?yr4_8 ?_
          case yr4_8 => (intro w hSw; obtain ⟨k0, k1, k2, k3, k4, k5, k6, k7, k8⟩ := HF.out _ hSw; go_simp; try with_reducible rfl)
          simp only [Act.put, rn1, rn2, rn3, rn4, rn5, rn6]
          refine rgn 9 (v := ?vr4_9) hHeld ?yr4_9 ?_
          case yr4_9 => (intro w hSw; obtain ⟨k0, k1, k2, k3, k4, k5, k6, k7, k8⟩ := HF.out _ hSw; go_simp; try with_reducible rfl)
          simp only [Act.put, rn1, rn2, rn3, rn4, rn5, rn6]
          refine rgn 10 (v := ?vr4_10) hHeld ?yr4_10 ?_
          case yr4_10 => (intro w hSw; obtain ⟨k0, k1, k2, k3, k4, k5, k6, k7, k8⟩ := HF.out _ hSw; go_simp; try with_reducible rfl)
          simp only [Act.put, rn1, rn2, rn3, rn4, rn5, rn6]
          refine rgn 11 (v := ?vr4_11) hHeld ?yr4_11 ?_
          case yr4_11 => (intro w hSw; obtain ⟨k0, k1, k2, k3, k4, k5, k6, k7, k8⟩ := HF.out _ hSw; go_simp; try with_reducible rfl)
          simp only [Act.put, rn1, rn2, rn3, rn4, rn5, rn6]
          refine rgn 12 (v := ?vr4_12) hHeld ?yr4_12 ?_
          case yr4_12 => (intro w hSw; obtain ⟨k0, k1, k2, k3, k4, k5, k6, k7, k8⟩ := HF.out _ hSw; go_simp; try with_reducible rfl)
          simp only [Act.put, rn1, rn2, rn3, rn4, rn5, rn6]
          refine rgn 13 (v := ?vr4_13) hHeld ?yr4_13 ?_
          case yr4_13 => (intro w hSw; obtain ⟨k0, k1, k2, k3, k4, k5, k6, k7, k8⟩ := HF.out _ hSw; go_simp; try with_reducible rfl)
          simp only [Act.put, rn1, rn2, rn3, rn4, rn5, rn6]
          refine rgn 14 (v := ?vr4_14) hHeld ?yr4_14 ?_
          case yr4_14 => (intro w hSw; obtain ⟨k0, k1, k2, k3, k4, k5, k6, k7, k8⟩ := HF.out _ hSw; go_simp; try with_reducible rfl)
          simp only [Act.put, rn1, rn2, rn3, rn4, rn5, rn6]
          refine rgn 15 (v := ?vr4_15) hHeld ?yr4_15 ?_
          case yr4_15 => (intro w hSw; obtain ⟨k0, k1, k2, k3, k4, k5, k6, k7, k8⟩ := HF.out _ hSw; go_simp; try with_reducible rfl)
          simp only [Act.put, rn1, rn2, rn3, rn4, rn5, rn6]
          refine rgn 16 (v := .bool false) hHeld ?yr4_16 ?_
          case yr4_16 => (intro w hSw; obtain ⟨k0, k1, k2, k3, k4, k5, k6, k7, k8⟩ := HF.out _ hSw; go_simp; try with_reducible rfl)
          simp only [Act.put, rn1, rn2, rn3, rn4, rn5, rn6]
          refine rgn 17 (v := .bool false) hHeld ?yr4_17 ?_
          case yr4_17 => (intro w hSw; obtain ⟨k0, k1, k2, k3, k4, k5, k6, k7, k8⟩ := HF.out _ hSw; go_simp; try with_reducible rfl)
          simp only [Act.put, rn1, rn2, rn3, rn4, rn5, rn6]
          refine rgn 18 (v := .bool false) hHeld ?yr4_18 ?_
          case yr4_18 => (intro w hSw; obtain ⟨k0, k1, k2, k3, k4, k5, k6, k7, k8⟩ := HF.out _ hSw; go_simp; try with_reducible rfl)
          simp only [Act.put, rn1, rn2, rn3, rn4, rn5, rn6]
          refine rgn 19 (v := ?vr4_19) hHeld ?yr4_19 ?_
          case yr4_19 => (intro w hSw; obtain ⟨k0, k1, k2, k3, k4, k5, k6, k7, k8⟩ := HF.out _ hSw; go_simp; try with_reducible rfl)
          simp only [Act.put, rn1, rn2, rn3, rn4, rn5, rn6]
          refine rgn 20 (v := ?vr4_20) hHeld ?yr4_20 ?_
          case yr4_20 => (intro w hSw; obtain ⟨k0, k1, k2, k3, k4, k5, k6, k7, k8⟩ := HF.out _ hSw; go_simp; try with_reducible rfl)
          simp only [Act.put, rn1, rn2, rn3, rn4, rn5, rn6]
          refine rgn 21 (v := ?vr4_21) hHeld ?yr4_21 ?_
          case yr4_21 => (intro w hSw; obtain ⟨k0, k1, k2, k3, k4, k5, k6, k7, k8⟩ := HF.out _ hSw; go_simp; try with_reducible rfl)
          simp only [Act.put, rn1, rn2, rn3, rn4, rn5, rn6]
          refine rgn 22 (v := ?vr4_22) hHeld ?yr4_22 ?_
          case yr4_22 => (intro w hSw; obtain ⟨k0, k1, k2, k3, k4, k5, k6, k7, k8⟩ := HF.out _ hSw; go_simp; try with_reducible rfl)
          simp only [Act.put, rn1, rn2, rn3, rn4, rn5, rn6]
          refine rgn 23 (v := ?vr4_23) hHeld ?yr4_23 ?_
          case yr4_23 => (intro w hSw; obtain ⟨k0, k1, k2, k3, k4, k5, k6, k7, k8⟩ := HF.out _ hSw; go_simp; try with_reducible rfl)
          simp only [Act.put, rn1, rn2, rn3, rn4, rn5, rn6]
          refine rgn 24 (v := ?vr4_24) hHeld ?yr4_24 ?_
          case yr4_24 => (intro w hSw; obtain ⟨k0, k1, k2, k3, k4, k5, k6, k7, k8⟩ := HF.out _ hSw; go_simp; try with_reducible rfl)
          simp only [Act.put, rn1, rn2, rn3, rn4, rn5, rn6]
          refine rgn 25 (v := ?vr4_25) hHeld ?yr4_25 ?_
          case yr4_25 => (intro w hSw; obtain ⟨k0, k1, k2, k3, k4, k5, k6, k7, k8⟩ := HF.out _ hSw; go_simp; try with_reducible rfl)
          simp only [Act.put, rn1, rn2, rn3, rn4, rn5, rn6]
          refine rgn 26 (v := .bool true) hHeld ?yr4_26 ?_
          case yr4_26 => (intro w hSw; obtain ⟨k0, k1, k2, k3, k4, k5, k6, k7, k8⟩ := HF.out _ hSw; go_simp; try with_reducible rfl)
          simp only [Act.put, rn1, rn2, rn3, rn4, rn5, rn6]
          refine rgn 27 (v := .bool true) hHeld ?yr4_27 ?_
          case yr4_27 => (intro w hSw; obtain ⟨k0, k1, k2, k3, k4, k5, k6, k7, k8⟩ := HF.out _ hSw; go_simp; try with_reducible rfl)
          simp only [Act.put, rn1, rn2, rn3, rn4, rn5, rn6]
          refine wpAnyH_done (by kernel_rfl) ?_ _
          go_wp2
          go_ret
          exact ⟨rfl, HU.out.trans hHeld (fun _ _ h => h)⟩
      · rw [show readyP S n = 2 by unfold readyP; rw [if_pos (.inr (.inr (.inl (by simpa using hc))))]]
        clear ht1 hnl
        go_enter Tryd.func31, Tryd.ntmps31
        go_upto_region 1 with fail
        rw [HV.out]
        go_wp2_with fail
        refine wp_region_held_drew (S := (fun X => Upd NoF V X)) (by kernel_rfl) (HD.out) (fun hHeld => ?_)
        refine rgn 0 (v := ?vr5_0) hHeld ?yr5_0 ?_
        case yr5_0 => (intro w hSw; obtain ⟨k0, k1, k2, k3, k4, k5, k6, k7, k8⟩ := HF.out _ hSw; go_simp; try with_reducible rfl)
        simp only [Act.put, rn1, rn2, rn3, rn4, rn5, rn6]
        refine reg_step (i := 1) (by kernel_rfl) rfl (by kernel_rfl) (fun K hK => ?_)
        go_simp
        refine (HM.out _).mono ?_
        rintro e w2 ⟨rfl, hu⟩
        have HS := HSK.out _ _ hHeld hu
        clear hu
        go_wp2_with fail
        refine hK.out _ _ HS (fun hHeld2 => ?_)
        clear hK hHeld2 hHeld; have hHeld := HS; clear HS
        try simp only [Act.put, rn1, rn2, rn3, rn4, rn5, rn6]
        refine rgn 2 (v := .bool false) hHeld ?yr5_2 ?_
        case yr5_2 => (intro w hSw; obtain ⟨k0, k1, k2, k3, k4, k5, k6, k7, k8⟩ := HF.out _ hSw; go_simp; try with_reducible rfl)
        simp only [Act.put, rn1, rn2, rn3, rn4, rn5, rn6]
        refine rgn 3 (v := .bool false) hHeld ?yr5_3 ?_
        case yr5_3 => (intro w hSw; obtain ⟨k0, k1, k2, k3, k4, k5, k6, k7, k8⟩ := HF.out _ hSw; go_simp; try with_reducible rfl)
        simp only [Act.put, rn1, rn2, rn3, rn4, rn5, rn6]
        refine rgn 4 (v := ?vr5_4) hHeld ?yr5_4 ?_
        case yr5_4 => (intro w hSw; obtain ⟨k0, k1, k2, k3, k4, k5, k6, k7, k8⟩ := HF.out _ hSw; go_simp; try with_reducible rfl)
        simp only [Act.put, rn1, rn2, rn3, rn4, rn5, rn6]
        refine rgn 5 (v := ?vr5_5) hHeld ?yr5_5 ?_
        case yr5_5 => (intro w hSw; obtain ⟨k0, k1, k2, k3, k4, k5, k6, k7, k8⟩ := HF.out _ hSw; go_simp; try with_reducible rfl)
        simp only [Act.put, rn1, rn2, rn3, rn4, rn5, rn6]
        refine rgn 6 (v := .bool false) hHeld ?yr5_6 ?_
        case yr5_6 => (intro w hSw; obtain ⟨k0, k1, k2, k3, k4, k5, k6, k7, k8⟩ := HF.out _ hSw; go_simp; try with_reducible rfl)
        simp only [Act.put, rn1, rn2, rn3, rn4, rn5, rn6]
        refine rgn 7 (v := .bool false) hHeld ?yr5_7 ?_
        case yr5_7 => (intro w hSw; obtain ⟨k0, k1, k2, k3, k4, k5, k6, k7, k8⟩ := HF.out _ hSw; go_simp; try with_reducible rfl)
        simp only [Act.put, rn1, rn2, rn3, rn4, rn5, rn6]
        refine rgn 8 (v := .bool false) hHeld ?yr5_8 ?_
        case yr5_8 => (intro w hSw; obtain ⟨k0, k1, k2, k3, k4, k5, k6, k7, k8⟩ := HF.out _ hSw; go_simp; try with_reducible rfl)
        simp only [Act.put, rn1, rn2, rn3, rn4, rn5, rn6]
        refine rgn 9 (v := ?vr5_9) hHeld ?yr5_9 ?_
        case yr5_9 => (intro w hSw; obtain ⟨k0, k1, k2, k3, k4, k5, k6, k7, k8⟩ := HF.out _ hSw; go_simp; try with_reducible rfl)
        simp only [Act.put, rn1, rn2, rn3, rn4, rn5, rn6]
        refine rgn 10 (v := ?vr5_10) hHeld ?yr5_10 ?_
        case yr5_10 => (intro w hSw; obtain ⟨k0, k1, k2, k3, k4, k5, k6, k7, k8⟩ := HF.out _ hSw; go_simp; try with_reducible rfl)
        simp only [Act.put, rn1, rn2, rn3, rn4, rn5, rn6]
        refine rgn 11 (v := ?vr5_11) hHeld ?yr5_11 ?_
        case yr5_11 => (intro w hSw; obtain ⟨k0, k1, k2, k3, k4, k5, k6, k7, k8⟩ := HF.out _ hSw; go_simp; try with_reducible rfl)
        simp only [Act.put, rn1, rn2, rn3, rn4, rn5, rn6]
        refine rgn 12 (v := ?vr5_12) hHeld ?yr5_12 ?_
        case yr5_12 => (intro w hSw; obtain ⟨k0, k1, k2, k3, k4, k5, k6, k7, k8⟩ := HF.out _ hSw; go_simp; try with_reducible rfl)
        simp only [Act.put, rn1, rn2, rn3, rn4, rn5, rn6]
        refine rgn 13 (v := ?vr5_13) hHeld ?yr5_13 ?_
        case yr5_13 => (intro w hSw; obtain ⟨k0, k1, k2, k3, k4, k5, k6, k7, k8⟩ := HF.out _ hSw; go_simp; try with_reducible rfl)
        simp only [Act.put, rn1, rn2, rn3, rn4, rn5, rn6]
        refine rgn 14 (v := ?vr5_14) hHeld ?yr5_14 ?_
        case yr5_14 => (intro w hSw; obtain ⟨k0, k1, k2, k3, k4, k5, k6, k7, k8⟩ := HF.out _ hSw; go_simp; try with_reducible rfl)
        simp only [Act.put, rn1, rn2, rn3, rn4, rn5, rn6]
        refine rgn 15 (v := ?vr5_15) hHeld ?yr5_15 ?_
        case yr5_15 => (intro w hSw; obtain ⟨k0, k1, k2, k3, k4, k5, k6, k7, k8⟩ := HF.out _ hSw; go_simp; try with_reducible rfl)
        simp only [Act.put, rn1, rn2, rn3, rn4, rn5, rn6]
        refine rgn 16 (v := .bool true) hHeld ?yr5_16 ?_
        case yr5_16 => (intro w hSw; obtain ⟨k0, k1, k2, k3, k4, k5, k6, k7, k8⟩ := HF.out _ hSw; go_simp; try with_reducible rfl)
        simp only [Act.put, rn1, rn2, rn3, rn4, rn5, rn6]
        refine rgn 17 (v := .bool true) hHeld ?yr5_17 ?_
        case yr5_17 => (intro w hSw; obtain ⟨k0, k1, k2, k3, k4, k5, k6, k7, k8⟩ := HF.out _ hSw; go_simp; try with_reducible rfl)
        simp only [Act.put, rn1, rn2, rn3, rn4, rn5, rn6]
        refine rgn 18 (v := .bool true) hHeld ?yr5_18 ?_
        case yr5_18 => (intro w hSw; obtain ⟨k0, k1, k2, k3, k4, k5, k6, k7, k8⟩ := HF.out _ hSw; go_simp; try with_reducible rfl)
        simp only [Act.put, rn1, rn2, rn3, rn4, rn5, rn6]
        refine reg_off (i := 19) rfl (by kernel_rfl) (by kernel_rfl) (by kernel_rfl) (fun _ _ _ h => h) (by kernel_rfl) hHeld ?_
        simp only [Act.put, rn1, rn2, rn3, rn4, rn5, rn6]
        refine reg_off (i := 20) rfl (by kernel_rfl) (by kernel_rfl) (by kernel_rfl) (fun _ _ _ h => h) (by kernel_rfl) hHeld ?_
        simp only [Act.put, rn1, rn2, rn3, rn4, rn5, rn6]
        refine reg_off (i := 21) rfl (by kernel_rfl) (by kernel_rfl) (by kernel_rfl) (fun _ _ _ h => h) (by kernel_rfl) hHeld ?_
        simp only [Act.put, rn1, rn2, rn3, rn4, rn5, rn6]
        refine reg_off (i := 22) rfl (by kernel_rfl) (by kernel_rfl) (by kernel_rfl) (fun _ _ _ h => h) (by kernel_rfl) hHeld ?_
        simp only [Act.put, rn1, rn2, rn3, rn4, rn5, rn6]
        refine reg_off (i := 23) rfl (by kernel_rfl) (by kernel_rfl) (by kernel_rfl) (fun _ _ _ h => h) (by kernel_rfl) hHeld ?_
        simp only [Act.put, rn1, rn2, rn3, rn4, rn5, rn6]
        refine reg_off (i := 24) rfl (by kernel_rfl) (by kernel_rfl) (by kernel_rfl) (fun _ _ _ h => h) (by kernel_rfl) hHeld ?_
        simp only [Act.put, rn1, rn2, rn3, rn4, rn5, rn6]
        refine reg_off (i := 25) rfl (by kernel_rfl) (by kernel_rfl) (by kernel_rfl) (fun _ _ _ h => h) (by kernel_rfl) hHeld ?_
        simp only [Act.put, rn1, rn2, rn3, rn4, rn5, rn6]
        refine reg_off (i := 26) rfl (by kernel_rfl) (by kernel_rfl) (by kernel_rfl) (fun _ _ _ h => h) (by kernel_rfl) hHeld ?_
        simp only [Act.put, rn1, rn2, rn3, rn4, rn5, rn6]
        refine rgn 27 (v := .bool true) hHeld ?yr5_27 ?_
        case yr5_27 => (intro w hSw; obtain ⟨k0, k1, k2, k3, k4, k5, k6, k7, k8⟩ := HF.out _ hSw; go_simp; try with_reducible rfl)
        simp only [Act.put, rn1, rn2, rn3, rn4, rn5, rn6]
        refine wpAnyH_done (by kernel_rfl) ?_ _
        go_wp2
        go_ret
        exact ⟨rfl, HU.out.trans hHeld (fun _ _ h => h)⟩
    · rw [show readyP S n = 2 by unfold readyP; rw [if_pos (.inr (.inl (by simpa using ht)))]]
      clear hnl
      go_enter Tryd.func31, Tryd.ntmps31
      go_upto_region 1 with fail
      rw [HV.out]
      go_wp2_with fail
      refine wp_region_held_drew (S := (fun X => Upd NoF V X)) (by kernel_rfl) (HD.out) (fun hHeld => ?_)
      refine rgn 0 (v := ?vr6_0) hHeld ?yr6_0 ?_
      case yr6_0 => (intro w hSw; obtain ⟨k0, k1, k2, k3, k4, k5, k6, k7, k8⟩ := HF.out _ hSw; go_simp; try with_reducible rfl)
      simp only [Act.put, rn1, rn2, rn3, rn4, rn5, rn6]
      refine reg_step (i := 1) (by kernel_rfl) rfl (by kernel_rfl) (fun K hK => ?_)
      go_simp
      refine (HM.out _).mono ?_
      rintro e w2 ⟨rfl, hu⟩
      have HS := HSK.out _ _ hHeld hu
      clear hu
      go_wp2_with fail
      refine hK.out _ _ HS (fun hHeld2 => ?_)
      clear hK hHeld2 hHeld; have hHeld := HS; clear HS
      try simp only [Act.put, rn1, rn2, rn3, rn4, rn5, rn6]
      refine rgn 2 (v := .bool false) hHeld ?yr6_2 ?_
      case yr6_2 => (intro w hSw; obtain ⟨k0, k1, k2, k3, k4, k5, k6, k7, k8⟩ := HF.out _ hSw; go_simp; try with_reducible rfl)
      simp only [Act.put, rn1, rn2, rn3, rn4, rn5, rn6]
      refine rgn 3 (v := .bool false) hHeld ?yr6_3 ?_
      case yr6_3 => (intro w hSw; obtain ⟨k0, k1, k2, k3, k4, k5, k6, k7, k8⟩ := HF.out _ hSw; go_simp; try with_reducible rfl)
      simp only [Act.put, rn1, rn2, rn3, rn4, rn5, rn6]
      refine rgn 4 (v := ?vr6_4) hHeld ?yr6_4 ?_
      case yr6_4 => (intro w hSw; obtain ⟨k0, k1, k2, k3, k4, k5, k6, k7, k8⟩ := HF.out _ hSw; go_simp; try with_reducible rfl)
      simp only [Act.put, rn1, rn2, rn3, rn4, rn5, rn6]
      refine rgn 5 (v := ?vr6_5) hHeld ?yr6_5 ?_
      case yr6_5 => (intro w hSw; obtain ⟨k0, k1, k2, k3, k4, k5, k6, k7, k8⟩ := HF.out _ hSw; go_simp; try with_reducible rfl)
      simp only [Act.put, rn1, rn2, rn3, rn4, rn5, rn6]
      refine rgn 6 (v := .bool true) hHeld ?yr6_6 ?_
      case yr6_6 => (intro w hSw; obtain ⟨k0, k1, k2, k3, k4, k5, k6, k7, k8⟩ := HF.out _ hSw; go_simp; try with_reducible rfl)
      simp only [Act.put, rn1, rn2, rn3, rn4, rn5, rn6]
      refine rgn 7 (v := .bool true) hHeld ?yr6_7 ?_
      case yr6_7 => (intro w hSw; obtain ⟨k0, k1, k2, k3, k4, k5, k6, k7, k8⟩ := HF.out _ hSw; go_simp; try with_reducible rfl)
      simp only [Act.put, rn1, rn2, rn3, rn4, rn5, rn6]
      refine rgn 8 (v := .bool true) hHeld ?yr6_8 ?_
      case yr6_8 => (intro w hSw; obtain ⟨k0, k1, k2, k3, k4, k5, k6, k7, k8⟩ := HF.out _ hSw; go_simp; try with_reducible rfl)
      simp only [Act.put, rn1, rn2, rn3, rn4, rn5, rn6]
      refine reg_off (i := 9) rfl (by kernel_rfl) (by kernel_rfl) (by kernel_rfl) (fun _ _ _ h => h) (by kernel_rfl) hHeld ?_
      simp only [Act.put, rn1, rn2, rn3, rn4, rn5, rn6]
      refine reg_off (i := 10) rfl (by kernel_rfl) (by kernel_rfl) (by kernel_rfl) (fun _ _ _ h => h) (by kernel_rfl) hHeld ?_
      simp only [Act.put, rn1, rn2, rn3, rn4, rn5, rn6]
      refine reg_off (i := 11) rfl (by kernel_rfl) (by kernel_rfl) (by kernel_rfl) (fun _ _ _ h => h) (by kernel_rfl) hHeld ?_
      simp only [Act.put, rn1, rn2, rn3, rn4, rn5, rn6]
      refine reg_off (i := 12) rfl (by kernel_rfl) (by kernel_rfl) (by kernel_rfl) (fun _ _ _ h => h) (by kernel_rfl) hHeld ?_
      simp only [Act.put, rn1, rn2, rn3, rn4, rn5, rn6]
      refine reg_off (i := 13) rfl (by kernel_rfl) (by kernel_rfl) (by kernel_rfl) (fun _ _ _ h => h) (by kernel_rfl) hHeld ?_
      simp only [Act.put, rn1, rn2, rn3, rn4, rn5, rn6]
      refine reg_off (i := 14) rfl (by kernel_rfl) (by kernel_rfl) (by kernel_rfl) (fun _ _ _ h => h) (by kernel_rfl) hHeld ?_
      simp only [Act.put, rn1, rn2, rn3, rn4, rn5, rn6]
      refine reg_off (i := 15) rfl (by kernel_rfl) (by kernel_rfl) (by kernel_rfl) (fun _ _ _ h => h) (by kernel_rfl) hHeld ?_
      simp only [Act.put, rn1, rn2, rn3, rn4, rn5, rn6]
      refine reg_off (i := 16) rfl (by kernel_rfl) (by kernel_rfl) (by kernel_rfl) (fun _ _ _ h => h) (by kernel_rfl) hHeld ?_
      simp only [Act.put, rn1, rn2, rn3, rn4, rn5, rn6]
      refine rgn 17 (v := .bool true) hHeld ?yr6_17 ?_
      case yr6_17 => (intro w hSw; obtain ⟨k0, k1, k2, k3, k4, k5, k6, k7, k8⟩ := HF.out _ hSw; go_simp; try with_reducible rfl)
      simp only [Act.put, rn1, rn2, rn3, rn4, rn5, rn6]
      refine rgn 18 (v := .bool true) hHeld ?yr6_18 ?_
      case yr6_18 => (intro w hSw; obtain ⟨k0, k1, k2, k3, k4, k5, k6, k7, k8⟩ := HF.out _ hSw; go_simp; try with_reducible rfl)
      simp only [Act.put, rn1, rn2, rn3, rn4, rn5, rn6]
      refine reg_off (i := 19) rfl (by kernel_rfl) (by kernel_rfl) (by kernel_rfl) (fun _ _ _ h => h) (by kernel_rfl) hHeld ?_
      simp only [Act.put, rn1, rn2, rn3, rn4, rn5, rn6]
      refine reg_off (i := 20) rfl (by kernel_rfl) (by kernel_rfl) (by kernel_rfl) (fun _ _ _ h => h) (by kernel_rfl) hHeld ?_
      simp only [Act.put, rn1, rn2, rn3, rn4, rn5, rn6]
      refine reg_off (i := 21) rfl (by kernel_rfl) (by kernel_rfl) (by kernel_rfl) (fun _ _ _ h => h) (by kernel_rfl) hHeld ?_
      simp only [Act.put, rn1, rn2, rn3, rn4, rn5, rn6]
      refine reg_off (i := 22) rfl (by kernel_rfl) (by kernel_rfl) (by kernel_rfl) (fun _ _ _ h => h) (by kernel_rfl) hHeld ?_
      simp only [Act.put, rn1, rn2, rn3, rn4, rn5, rn6]
      refine reg_off (i := 23) rfl (by kernel_rfl) (by kernel_rfl) (by kernel_rfl) (fun _ _ _ h => h) (by kernel_rfl) hHeld ?_
      simp only [Act.put, rn1, rn2, rn3, rn4, rn5, rn6]
      refine reg_off (i := 24) rfl (by kernel_rfl) (by kernel_rfl) (by kernel_rfl) (fun _ _ _ h => h) (by kernel_rfl) hHeld ?_
      simp only [Act.put, rn1, rn2, rn3, rn4, rn5, rn6]
      refine reg_off (i := 25) rfl (by kernel_rfl) (by kernel_rfl) (by kernel_rfl) (fun _ _ _ h => h) (by kernel_rfl) hHeld ?_
      simp only [Act.put, rn1, rn2, rn3, rn4, rn5, rn6]
      refine reg_off (i := 26) rfl (by kernel_rfl) (by kernel_rfl) (by kernel_rfl) (fun _ _ _ h => h) (by kernel_rfl) hHeld ?_
      simp only [Act.put, rn1, rn2, rn3, rn4, rn5, rn6]
      refine rgn 27 (v := .bool true) hHeld ?yr6_27 ?_
      case yr6_27 => (intro w hSw; obtain ⟨k0, k1, k2, k3, k4, k5, k6, k7, k8⟩ := HF.out _ hSw; go_simp; try with_reducible rfl)
      simp only [Act.put, rn1, rn2, rn3, rn4, rn5, rn6]
      refine wpAnyH_done (by kernel_rfl) ?_ _
      go_wp2
      go_ret
      exact ⟨rfl, HU.out.trans hHeld (fun _ _ h => h)⟩
end
end Go.Proofs.YtlhbnndnkcpomaaDoor.HO
