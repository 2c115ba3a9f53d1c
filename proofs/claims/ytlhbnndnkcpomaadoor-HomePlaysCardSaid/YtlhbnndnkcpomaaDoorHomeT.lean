/- The contracts of package home: a note is taken. -/
import Derived.Test.YtlhbnndnkcpomaaDoorHomeE
set_option linter.unusedSimpArgs false
set_option linter.unusedVariables false
namespace Go.Proofs.YtlhbnndnkcpomaaDoor.HO
open Go.RowKit
open BU (IsU words)
open PL (Cfg CC CV May)
open ME (memO sl)
attribute [local go_sem] Oper.semAt_some
attribute [local go_sem ↓] TNot.ld_eq TNot.st_eq TNot.al_eq TNot.bx_eq TJob.ld_eq TJob.st_eq TJob.al_eq TJob.bx_eq TBlk.ld_eq TBlk.st_eq TBlk.al_eq TBlk.bx_eq bdN_eq bdJ_eq bsN_eq
attribute [local go_sem] TNot.al_run TNot.bx_run TJob.al_run TJob.bx_run TBlk.al_run TBlk.bx_run
/-- What may be taken is so. -/
theorem ready_zero {S : Hs} {n : Nt} (h : readyP S n = 0) : MayN n = true ∧ n.too = -1 ∧ 0 ≤ n.blk ∧ n.blk < S.data ∧ n.frm < S.c.cores ∧ (isAsk n = true → (S.J n.blk).isSome = true → (S.Q.length : Int) < S.room) ∧
    (isAsk n = false → ∃ j, S.J n.blk = some j ∧ (n.kind = 11 → j.ans = true ∧ j.ask.frm = n.frm) ∧ (n.kind ≠ 11 → j.ans = false ∧ inM j.wait n.frm = true)) := by
  unfold readyP at h
  by_cases h1 : MayN n = false ∨ n.too ≠ -1 ∨ S.c.cores ≤ n.frm ∨ S.data ≤ n.blk
  · rw [if_pos h1] at h; cases h
  · rw [if_neg h1] at h
    have hm : MayN n = true := by
      cases hm : MayN n
      · exact (h1 (.inl hm)).elim
      · rfl
    have hb := may_blk hm
    have ht : n.too = -1 := by
      by_cases e : n.too = -1
      · exact e
      · exact (h1 (.inr (.inl e))).elim
    refine ⟨hm, ht, hb.1, ?_, ?_, fun ha hj => ?_, fun ha => ?_⟩
    · have : ¬ S.data ≤ n.blk := fun e => h1 (.inr (.inr (.inr e)))
      omega
    · have : ¬ S.c.cores ≤ n.frm := fun e => h1 (.inr (.inr (.inl e)))
      omega
    · rw [if_pos ha, hj] at h
      by_cases hq : S.room ≤ (S.Q.length : Int)
      · simp [hq] at h
      · omega
    · rw [ha] at h
      simp only [Bool.false_eq_true, if_false] at h
      cases hj : S.J n.blk with
      | none => rw [hj] at h; cases h
      | some j =>
        rw [hj] at h
        refine ⟨j, rfl, fun hk => ?_, fun hk => ?_⟩
        · simp only [if_pos hk] at h
          cases hx : (!j.ans || j.ask.frm != n.frm)
          · simpa using hx
          · rw [hx] at h; cases h
        · simp only [if_neg hk] at h
          cases hx : (j.ans || !inM j.wait n.frm)
          · simpa using hx
          · rw [hx] at h; cases h
theorem may_has {n : Nt} (h : MayN n = true) (hk : n.kind = 10) : n.has = false := by
  unfold MayN at h
  simp only [Bool.and_eq_true] at h
  have := h.1.2
  cases hh : n.has
  · rfl
  · rw [hh] at this; simp [hk] at this
theorem take_err {S : Hs} {n : Nt} (h : ¬ readyP S n = 0) : takeP S n = (S, [], readyP S n) := by unfold takeP; simp only; rw [if_pos h]
theorem take_wait {S : Hs} {n : Nt} (h : readyP S n = 0) (ha : isAsk n = true) (hj : (S.J n.blk).isSome = true) : takeP S n = ({ S with Q := S.Q ++ [n] }, [], 0) := by
  unfold takeP; simp only; rw [if_neg (by simp [h])]
  cases hx : S.J n.blk with
  | none => rw [hx] at hj; cases hj
  | some j => simp [ha]
theorem take_begin {S : Hs} {n : Nt} (h : readyP S n = 0) (hj : S.J n.blk = none) : takeP S n = ((beginP S n).1, (beginP S n).2, 0) := by
  unfold takeP; simp only; rw [if_neg (by simp [h]), hj]
theorem take_done {S : Hs} {n : Nt} (h : readyP S n = 0) (ha : isAsk n = false) {j : Jb} (hj : S.J n.blk = some j) (hk : n.kind = 11) : takeP S n = ((endP S n.blk).1, (endP S n.blk).2, 0) := by
  unfold takeP; simp only; rw [if_neg (by simp [h]), hj]; simp [ha, hk]
theorem take_took {S : Hs} {n : Nt} (h : readyP S n = 0) (ha : isAsk n = false) {j : Jb} (hj : S.J n.blk = some j) (hk : n.kind ≠ 11) : takeP S n = ((tookP S n j).1, (tookP S n j).2, 0) := by
  unfold takeP; simp only; rw [if_neg (by simp [h]), hj]; simp [ha, hk]
theorem good_wait {S : Hs} (h : Good S) {n : Nt} (hn : n.Ok) (hq : (S.Q.length : Int) < S.room) : Good { S with Q := S.Q ++ [n] } :=
  ⟨h.may, h.isU, h.key, fun m hm => by
    rcases List.mem_append.1 hm with hm | hm
    · exact h.que m hm
    · simp at hm; subst hm; exact hn, by show ((S.Q ++ [n]).length : Int) ≤ S.room; rw [List.length_append]; simp; omega⟩
theorem good_heard {S : Hs} (h : Good S) {n : Nt} {j : Jb} (hj : j.Ok) (hb : j.ask.blk = n.blk) (h0 : 0 ≤ n.blk) (h1 : n.blk < S.data) {B : Nat → Array Value} (hB : ∀ i, IsU (B i)) : Good { S with B := B, J := updI S.J n.blk (some j) } := by
  refine ⟨h.may, hB, fun b k hk => ?_, h.que, h.few⟩
  by_cases e : b = n.blk
  · subst e
    have : some j = some k := by rw [← hk]; exact (updI_same _ _ _).symm
    cases this
    exact ⟨h0, h1, hb, hj⟩
  · have : S.J b = some k := by rw [← hk]; exact (updI_other _ _ e).symm
    exact h.key b k this
theorem out_nil {G : Nat → Prop} {w0 W : World} {L : List Obj} (h : Sep G w0 W L) : Sep G w0 W (outO (.slice none 0 0) [] :: L) :=
  h.push (Upd.refl NoF W) ⟨Row.nil _ _ _, fun k hk => by simp [Value.ownBlock] at hk⟩
theorem Jb.set24 {j : Jb} (h : j.cells.size = 28) (m : Mk) : j.cells.setIfInBounds 24 (VM m) = ({ j with wait := m } : Jb).cells := (Jb.set_tail h 0 _).trans rfl
theorem Jb.set26 {j : Jb} (h : j.cells.size = 28) (r : Bool) : j.cells.setIfInBounds 26 (.bool r) = ({ j with ref := r } : Jb).cells := (Jb.set_tail h 2 _).trans rfl
theorem Jb.set27 {j : Jb} (h : j.cells.size = 28) (s : Int) : j.cells.setIfInBounds 27 (.int .u64 s) = ({ j with least := s } : Jb).cells := (Jb.set_tail h 3 _).trans rfl
theorem begin_good {S : Hs} (h : Good S) {n : Nt} (hn : n.Ok) (h0 : 0 ≤ n.blk) (h1 : n.blk < S.data) : Good (beginP S n).1 := by
  by_cases h3 : n.kind = 3
  · exact good_put h hn h3
  · unfold beginP
    rw [if_neg h3]
    by_cases hz : (askedP (S.E n.blk.toNat) n.kind n.frm).1 = 0#32
    · rw [if_pos hz]
      exact good_answer h (j := ⟨n, _, false, false, 0⟩) ⟨hn, by simp⟩ h0 h1
    · rw [if_neg hz]
      exact good_ask h hn h0 h1 _
theorem loop_facts : ∀ (k : Nat) {S : Hs} {b : Int}, (∀ i, IsU (S.B i)) → (∀ n ∈ S.Q, n.Ok) → (loopP k S b).2.length ≤ 32 * k ∧ ∀ m ∈ (loopP k S b).2, IsU m.D
  | 0, S, b, _, _ => ⟨Nat.le_refl _, fun m hm => by cases hm⟩
  | k + 1, S, b, hB, hQ => by
    cases hf : firstQ S.Q b with
    | none => rw [loopP_none hf]; exact ⟨Nat.zero_le _, fun m hm => by cases hm⟩
    | some i =>
      rw [loopP_some hf]
      obtain ⟨n, hn, -, hnm⟩ := firstQ_blk hf
      have hgd : S.Q.getD i Nt.nil = n := by simp [List.getD, hn]
      rw [hgd]
      have hbf := begin_facts (S := { S with Q := S.Q.eraseIdx i }) hB n
      split
      · exact ⟨by have := hbf.2.2.1; omega, hbf.2.2.2⟩
      · have hB' : ∀ i', IsU ((beginP { S with Q := S.Q.eraseIdx i } n).1.B i') := by
          intro q
          unfold beginP
          by_cases h3 : n.kind = 3
          · rw [if_pos h3]
            show IsU ((if (backP (S.E n.blk.toNat) n.frm n.stick).2 then updG S.B n.blk.toNat n.D else S.B) q)
            split
            · unfold updG; split
              · exact (hQ n hnm).isU
              · exact hB q
            · exact hB q
          · rw [if_neg h3]
            by_cases hz : (askedP (S.E n.blk.toNat) n.kind n.frm).1 = 0#32
            · rw [if_pos hz]; exact hB q
            · rw [if_neg hz]; exact hB q
        have ih := loop_facts k (S := (beginP { S with Q := S.Q.eraseIdx i } n).1) (b := b) hB' (fun m hm => by rw [hbf.2.1] at hm; exact hQ m (List.mem_of_mem_eraseIdx hm))
        refine ⟨by rw [List.length_append]; have := hbf.2.2.1; omega, fun m hm => ?_⟩
        rcases List.mem_append.1 hm with hm | hm
        · exact hbf.2.2.2 m hm
        · exact ih.2 m hm
theorem end_facts {S : Hs} {b : Int} (h : Good S) : (endP S b).2.length ≤ 2600 ∧ ∀ m ∈ (endP S b).2, IsU m.D := by
  have h1 := loop_facts (S.Q.length + 1) (S := { S with J := updI S.J b none }) (b := b) h.isU h.que
  have h2 := h.few
  have h3 := h.data
  exact ⟨by unfold endP; omega, h1.2⟩
section
variable {w0 W W' : World} {hb mb : Nat} {S : Hs} {L : List Obj}
set_option maxRecDepth 100000 in
set_option maxHeartbeats 8000000 in
theorem take_is (h : Sep NoF w0 W (homeO hb mb S :: L)) (hT : Tab w0) (n : Nt) (hn : n.Ok) : Calls Tryd.prog 14 #[ptr hb, .agg n.cells] W fun e W' =>
    ∃ v, e = .returned (.tuple #[v, .int .i64 (takeP S n).2.2]) ∧ Sep NoF w0 W' (outO v (takeP S n).2.1 :: homeO hb mb (takeP S n).1 :: L) := by
  obtain ⟨p, hf, hs⟩ := home_open h
  have hdat := hf.good.data
  have hnN := Nt.Ok.isN hn.isU
  have hs1 := hs.alloc n.cells NT
  have h1 := h.upd0 (Upd.alloc NoF W (.cells n.cells NT))
  obtain ⟨V, hV⟩ : ∃ V, W.alloc (.cells n.cells NT) = V := ⟨_, rfl⟩
  obtain ⟨nx, hnx⟩ : ∃ nx, W.heap.size = nx := ⟨_, rfl⟩
  rw [hV] at hs1 h1
  rw [hnx] at hs1
  obtain ⟨F0, hF0⟩ := h1.has 0 rfl
  have HR := Lib.hid (ready_is hF0 n hn)
  have HV := Lib.hid hV; have HNX := Lib.hid hnx
  have HSV := Lib.hid hs1; have HFI := Lib.hid hf; have HN := Lib.hid hn; have HNN := Lib.hid hnN; have HTB := Lib.hid hT
  have H1 := Lib.hid h1
  have l0 := TNot.ld_at hnN (hs1.box 0 rfl).whole
  have hA := HAt.of (hs1.drop 0 (by simp))
  have qn := hs1.box 0 rfl
  have HF := Lib.hid (fun X (hX : Upd NoF V X) => (show (TNot.ld (.pointer (some ⟨nx, 0, none⟩))).run Tryd.prog X = .ok (.agg n.cells) X ∧ X.cell? ⟨nx, 0, none⟩ = some (.int .u8 n.kind) ∧ X.cell? ⟨nx, 3, none⟩ = some (.int .i64 n.blk) ∧ X.cell? ⟨hb, 10, none⟩ = some (.map (some p.jb)) ∧ X.cell? ⟨hb, 11, none⟩ = some (ptr p.pb) from
    ⟨TNot.ld_at hnN (qn.upd hX (fun h => h)).whole, ((qn.upd hX (fun h => h)).cell 0).trans n.get0, ((qn.upd hX (fun h => h)).cell 3).trans n.get3, (hA.upd hX).box.cell 10, (hA.upd hX).box.cell 11⟩))
  by_cases hr : readyP S n = 0
  · rw [hr] at HR
    obtain ⟨hmay, htoo, hb0, hb1, hfc, hroom, hjob⟩ := ready_zero hr
    have hjo := jobAt_ok hf.good n.blk
    have hbl := may_blk hmay
    have HL := Lib.hid (fun X (hX : Upd NoF V X) => (hA.upd hX).look (b := n.blk) (by omega))
    have hjN := Jb.isN hjo
    have HJO := Lib.hid hjo; have HBB := Lib.hid (And.intro hb0 hb1); have HROOM := Lib.hid hroom; have HJOB := Lib.hid hjob; have HMAY := Lib.hid hmay; have HRZ := Lib.hid hr
    have HASK := Lib.hid (fun w => asks_any n w)
    clear h hs hs1 h1 hF0 hV hnx hf hT hA qn hr hmay htoo hfc hroom hjob hbl hb0 hb1 hjo
    obtain ⟨busy, hbusy⟩ : ∃ x, (S.J n.blk).isSome = x := ⟨_, rfl⟩
    rw [hbusy] at HL
    have HBUSY := Lib.hid hbusy
    obtain ⟨jc, hjc⟩ : ∃ x, (jobAt S.J n.blk).cells = x := ⟨_, rfl⟩
    rw [hjc] at HL hjN
    have HJC := Lib.hid hjc
    obtain ⟨tk, htk⟩ : ∃ x, takeP S n = x := ⟨_, rfl⟩
    rw [htk]
    have HTK := Lib.hid htk
    clear hbusy hjc htk
    go_enter Tryd.func14, Tryd.ntmps14
    go_upto_region 1 with fail
    rw [HV.out, HNX.out]
    go_wp2_with fail
    refine HR.out.mono ?_
    rintro e w2 ⟨rfl, hu2⟩
    have hd1 := hu2.trans (Upd.drew NoF w2) (fun _ _ h => h)
    have s1 : (TJob.st (.pointer (some ⟨w2.heap.size, 0, none⟩)) (.agg jc)).run Tryd.prog (w2.alloc (.cells TJob.Z JT)).drew = .ok () (w2.alloc (.cells jc JT)).drew := TJob.st_new hjN w2.drew
    have HA1 := Lib.hid (hd1.trans (Upd.alloc NoF w2.drew (.cells TJob.Z JT)) (fun _ _ h => h))
    have HA2 : Hid (Upd NoF V (w2.alloc (.cells jc JT)).drew) := Lib.hid (hd1.trans (Upd.alloc NoF w2.drew (.cells jc JT)) (fun _ _ h => h))
    have HS4 : Hid (Sep NoF w0 (w2.alloc (.cells jc JT)).drew (boxO w2.heap.size jc JT :: boxO nx n.cells NT :: S.objs hb mb p L)) := Lib.hid ((HSV.out.upd0 hd1).alloc jc JT)
    have H4 : Hid (Sep NoF w0 (w2.alloc (.cells jc JT)).drew (homeO hb mb S :: L)) := Lib.hid (H1.out.upd0 HA2.out)
    clear hu2 l0
    go_wp2_with fail
    refine wp_region_held_drew (S := (fun X => Upd NoF V X)) (by kernel_rfl) (hd1) (fun hHeld => ?_)
    refine rgn 0 (v := ?vq1) hHeld ?yq1 ?_
    case yq1 => (intro w hSw; obtain ⟨k0, k1, k2, k3, k4⟩ := HF.out _ hSw; have k9 := HL.out _ hSw; go_simp; try with_reducible rfl)
    simp only [Act.put, rn1, rn2, rn3, rn4, rn5, rn6]
    refine rgn 1 (v := ?vq2) hHeld ?yq2 ?_
    case yq2 => (intro w hSw; obtain ⟨k0, k1, k2, k3, k4⟩ := HF.out _ hSw; have k9 := HL.out _ hSw; go_simp; try with_reducible rfl)
    simp only [Act.put, rn1, rn2, rn3, rn4, rn5, rn6]
    refine rgn 2 (v := ?vq3) hHeld ?yq3 ?_
    case yq3 => (intro w hSw; obtain ⟨k0, k1, k2, k3, k4⟩ := HF.out _ hSw; have k9 := HL.out _ hSw; go_simp; try with_reducible rfl)
    simp only [Act.put, rn1, rn2, rn3, rn4, rn5, rn6]
    refine rgn 3 (v := ?vq4) hHeld ?yq4 ?_
    case yq4 => (intro w hSw; obtain ⟨k0, k1, k2, k3, k4⟩ := HF.out _ hSw; have k9 := HL.out _ hSw; go_simp; try with_reducible rfl)
    simp only [Act.put, rn1, rn2, rn3, rn4, rn5, rn6]
    refine rgn 4 (v := ?vq5) hHeld ?yq5 ?_
    case yq5 => (intro w hSw; obtain ⟨k0, k1, k2, k3, k4⟩ := HF.out _ hSw; have k9 := HL.out _ hSw; go_simp; try with_reducible rfl)
    simp only [Act.put, rn1, rn2, rn3, rn4, rn5, rn6]
    refine rgn 5 (v := ?vq6) hHeld ?yq6 ?_
    case yq6 => (intro w hSw; obtain ⟨k0, k1, k2, k3, k4⟩ := HF.out _ hSw; have k9 := HL.out _ hSw; go_simp; try with_reducible rfl)
    simp only [Act.put, rn1, rn2, rn3, rn4, rn5, rn6]
    refine rgn 6 (v := ?vq7) hHeld ?yq7 ?_
    case yq7 => (intro w hSw; obtain ⟨k0, k1, k2, k3, k4⟩ := HF.out _ hSw; have k9 := HL.out _ hSw; go_simp; try with_reducible rfl)
    simp only [Act.put, rn1, rn2, rn3, rn4, rn5, rn6]
    refine rgn 7 (v := ?vq8) hHeld ?yq8 ?_
    case yq8 => (intro w hSw; obtain ⟨k0, k1, k2, k3, k4⟩ := HF.out _ hSw; have k9 := HL.out _ hSw; go_simp; try with_reducible rfl)
    simp only [Act.put, rn1, rn2, rn3, rn4, rn5, rn6]
    refine rgn 8 (v := ?vq9) hHeld ?yq9 ?_
    case yq9 => (intro w hSw; obtain ⟨k0, k1, k2, k3, k4⟩ := HF.out _ hSw; have k9 := HL.out _ hSw; go_simp; try with_reducible rfl)
    simp only [Act.put, rn1, rn2, rn3, rn4, rn5, rn6]
    refine rgn 9 (v := ?vq10) hHeld ?yq10 ?_
    case yq10 => (intro w hSw; obtain ⟨k0, k1, k2, k3, k4⟩ := HF.out _ hSw; have k9 := HL.out _ hSw; go_simp; try with_reducible rfl)
    simp only [Act.put, rn1, rn2, rn3, rn4, rn5, rn6]
    refine reg_step (i := 10) (by kernel_rfl) rfl (by kernel_rfl) (fun K hK => ?_)
    go_simp
    have HS : (fun X => Upd NoF V X) (w2.alloc (.cells TJob.Z JT)).drew := HA1.out
    refine hK.out _ _ HS (fun hHeld2 => ?_)
    clear hK hHeld2 hHeld; have hHeld := HS; clear HS
    try simp only [Act.put, rn1, rn2, rn3, rn4, rn5, rn6]
    refine reg_step (i := 11) (by kernel_rfl) rfl (by kernel_rfl) (fun K hK => ?_)
    go_simp
    have HS : (fun X => Upd NoF V X) (w2.alloc (.cells jc JT)).drew := HA2.out
    refine hK.out _ _ HS (fun hHeld2 => ?_)
    clear hK hHeld2 hHeld; have hHeld := HS; clear HS
    try simp only [Act.put, rn1, rn2, rn3, rn4, rn5, rn6]
    refine rgn 12 (v := ?vq11) hHeld ?yq11 ?_
    case yq11 => (intro w hSw; obtain ⟨k0, k1, k2, k3, k4⟩ := HF.out _ hSw; have k9 := HL.out _ hSw; go_simp; try with_reducible rfl)
    simp only [Act.put, rn1, rn2, rn3, rn4, rn5, rn6]
    refine wpAnyH_done (by kernel_rfl) ?_ _
    clear s1 hHeld HA1 hd1
    have hu4 := HA2.out
    have hs4 := HS4.out
    have h4 := H4.out
    obtain ⟨jx, hjx⟩ : ∃ jx, w2.heap.size = jx := ⟨_, rfl⟩
    obtain ⟨X4, hX4⟩ : ∃ X4, (w2.alloc (.cells jc JT)).drew = X4 := ⟨_, rfl⟩
    rw [hX4] at hu4 hs4 h4
    rw [hjx] at hs4
    rw [hX4, hjx]
    obtain ⟨l4, z0, z3, z10, z11⟩ := HF.out _ hu4
    have HU4 := Lib.hid hu4; have HS := Lib.hid hs4; have HH := Lib.hid h4
    clear HS4 H4 HA2 hX4 hjx hu4 hs4 h4 HL
    have HASKF : Hid (isAsk n = false → ∀ w, Calls Tryd.prog 44 #[.agg n.cells] w fun e w' => e = .returned (.bool false) ∧ Upd NoF w w') := Lib.hid (fun h w => h ▸ asks_any n w)
    have HASKT : Hid (isAsk n = true → ∀ w, Calls Tryd.prog 44 #[.agg n.cells] w fun e w' => e = .returned (.bool true) ∧ Upd NoF w w') := Lib.hid (fun h w => h ▸ asks_any n w)
    cases hask : isAsk n
    · by_cases hk : n.kind = 11
      · obtain ⟨j, hj, -⟩ := HJOB.out hask
        have hkb : (n.kind == 11) = true := by simp [hk]
        have htk := HTK.out
        rw [take_done HRZ.out hask hj hk] at htk
        have HA := Lib.hid (hask ▸ HASK.out X4)
        have HASKX := Lib.hid (hask ▸ asks_any n)
        have HTK2 := Lib.hid htk
        clear hask hj hk htk HTK HASK
        go_wp2_with fail
        refine HA.out.mono ?_
        rintro e w5 ⟨rfl, hu5⟩
        have hu5' := HU4.out.trans hu5 (fun _ _ h => h)
        obtain ⟨l5, y0, y3, -, -⟩ := HF.out _ hu5'
        have HH5 := Lib.hid (HH.out.upd0 hu5)
        have HA5 := Lib.hid (HASKX.out w5)
        clear hu5 l4 z0 z3 z10 z11
        go_wp2_with fail
        refine HA5.out.mono ?_
        rintro e w6 ⟨rfl, hu6⟩
        have hu6' := hu5'.trans hu6 (fun _ _ h => h)
        obtain ⟨l6, x0, x3, -, -⟩ := HF.out _ hu6'
        have HE := Lib.hid (end_is (HH5.out.upd0 hu6) HTB.out n.blk HBB.out.1 HBB.out.2)
        clear hu6 hu6' hu5' l5 y0 y3
        go_wp2_with fail
        refine HE.out.mono ?_
        rintro e w7 ⟨v, rfl, hs7⟩
        have HS7 := Lib.hid hs7
        clear hs7
        go_wp2
        go_ret2
        refine ⟨v, ?_⟩
        rw [← HTK2.out]
        exact ⟨rfl, HS7.out⟩
      · obtain ⟨j, hj, -, hj2⟩ := HJOB.out hask
        have hkb : (n.kind == 11) = false := by simp [hk]
        have htk := HTK.out
        rw [take_took HRZ.out hask hj hk] at htk
        have hja : jobAt S.J n.blk = j := by unfold jobAt; rw [hj]; rfl
        have hjk := HFI.out.good.key n.blk j hj
        have hjcj : j.cells = jc := by rw [← HJC.out, hja]
        have hblk : j.ask.blk = n.blk := hjk.2.2.1
        have hjO := hjk.2.2.2
        obtain ⟨b, hbk⟩ : ∃ b : Nat, n.blk = b := ⟨n.blk.toNat, by have := HBB.out.1; omega⟩
        have hbn : b < S.n := by have := HBB.out.2; omega
        have HA := Lib.hid (hask ▸ HASK.out X4)
        have HASKX := Lib.hid (hask ▸ asks_any n)
        have HTK2 := Lib.hid htk
        have HW0 := (fun w => without_any j.wait n.frm w)
        obtain ⟨mw, hmw⟩ : ∃ x, j.wait &&& ~~~ bitB n.frm = x := ⟨_, rfl⟩
        rw [hmw] at HW0
        have HW := Lib.hid HW0; have HMW := Lib.hid hmw
        clear HW0 hmw
        have HJO2 := Lib.hid hjO
        subst hjcj
        clear hask hj hk htk HTK HASK hja hjk hj2
        go_wp2_with fail
        refine HA.out.mono ?_
        rintro e w5 ⟨rfl, hu5⟩
        have hu5' := HU4.out.trans hu5 (fun _ _ h => h)
        obtain ⟨l5, y0, y3, -, -⟩ := HF.out _ hu5'
        have HS5 := Lib.hid (HS.out.upd0 hu5)
        have HA5 := Lib.hid (HASKX.out w5)
        clear hu5 l4 z0 z3 z10 z11
        go_wp2_with fail
        refine HA5.out.mono ?_
        rintro e w6 ⟨rfl, hu6⟩
        have hs6 := HS5.out.upd0 hu6
        have x0 : w6.cell? ⟨nx, 0, none⟩ = some (.int .u8 n.kind) := ((hs6.box 1 rfl).cell 0).trans n.get0
        have x1 : w6.cell? ⟨nx, 1, none⟩ = some (.int .i64 n.frm) := ((hs6.box 1 rfl).cell 1).trans n.get1
        have x24 : w6.cell? ⟨jx, 24, none⟩ = some (VM j.wait) := ((hs6.box 0 rfl).cell 24).trans (Jb.get24 hjN.1)
        have g24 := (hs6.box 0 rfl).frozen 24
        have hs7 := hs6.set 0 rfl 24 (VM (mw))
        simp only [List.set_cons_zero, Jb.set24 hjN.1] at hs7
        obtain ⟨X7, hX7⟩ : ∃ X7, w6.setCell ⟨jx, 24, none⟩ (VM (mw)) = X7 := ⟨_, rfl⟩
        rw [hX7] at hs7
        have HX7 := Lib.hid hX7; have HS7 := Lib.hid hs7
        clear hs6 hs7 hX7 hu6 hu5' l5 y0 y3
        go_wp2_with fail
        refine (HW.out _).mono ?_
        rintro e w6b ⟨rfl, rfl⟩
        go_upto_region 12 with fail
        rw [HX7.out]
        clear x0 x1 x24 g24 HX7 HW
        obtain ⟨j1, hj1⟩ : ∃ x, ({ j with wait := mw } : Jb) = x := ⟨_, rfl⟩
        have hs7 := HS7.out
        rw [hj1] at hs7
        have hj1O : j1.Ok := by rw [← hj1]; exact ⟨HJO2.out.ask, HJO2.out.least⟩
        have hj1b : j1.ask.blk = n.blk := by rw [← hj1]; exact hblk
        have HJ1 := Lib.hid hj1; have HJ1O := Lib.hid hj1O; have HJ1B := Lib.hid hj1b
        have y6 : X7.cell? ⟨nx, 6, none⟩ = some (.bool n.has) := ((hs7.box 1 rfl).cell 6).trans n.get6
        have HS7 := Lib.hid hs7
        clear hs7 hj1 hj1O hj1b
        by_cases hk10 : n.kind = 10
        · have hhas := may_has HMAY.out hk10
          rw [hhas] at y6
          have hkt : (n.kind == 10) = true := by simp [hk10]
          have w0' : X7.cell? ⟨nx, 0, none⟩ = some (.int .u8 n.kind) := ((HS7.out.box 1 rfl).cell 0).trans n.get0
          have w4 : X7.cell? ⟨nx, 4, none⟩ = some (.int .u64 n.stamp) := ((HS7.out.box 1 rfl).cell 4).trans n.get4
          have hj1N := Jb.isN HJ1O.out
          have v26 : X7.cell? ⟨jx, 26, none⟩ = some (.bool j1.ref) := ((HS7.out.box 0 rfl).cell 26).trans (Jb.get26 hj1N.1)
          have v27 : X7.cell? ⟨jx, 27, none⟩ = some (.int .u64 j1.least) := ((HS7.out.box 0 rfl).cell 27).trans (Jb.get27 hj1N.1)
          have g26 := (HS7.out.box 0 rfl).frozen 26
          have g27 := (HS7.out.box 0 rfl).frozen 27
          have hheard : heardP S n j = { j1 with ref := true, least := if (!j1.ref || decide (n.stamp < j1.least)) = true then n.stamp else j1.least } := by
            unfold heardP; rw [HMW.out, ← HJ1.out]; simp [hk10]
          cases hc : (!j1.ref || decide (n.stamp < j1.least))
          · obtain ⟨j2, hj2⟩ : ∃ x, ({ j1 with ref := true } : Jb) = x := ⟨_, rfl⟩
            have hhd : heardP S n j = j2 := by rw [hheard, hc, ← hj2]; simp
            have hs8 := HS7.out.set 0 rfl 26 (.bool true)
            simp only [List.set_cons_zero, Jb.set26 hj1N.1] at hs8
            have HJK : Hid j2.Ok := Lib.hid (by rw [← hj2]; exact ⟨HJ1O.out.ask, HJ1O.out.least⟩)
            obtain ⟨X8, hX8⟩ : ∃ X8, X7.setCell ⟨jx, 26, none⟩ (.bool true) = X8 := ⟨_, rfl⟩
            rw [hX8] at hs8
            rw [hj2] at hs8
            have HJKB : Hid (j2.ask.blk = n.blk) := Lib.hid (by rw [← hj2]; exact HJ1B.out)
            have HSX : Hid (Sep NoF w0 X8 (boxO jx j2.cells JT :: boxO nx n.cells NT :: boxO hb (S.cells mb p) HT :: memO mb S.c.blocks.toNat S.B :: boxO p.eb (rowG 2 S.n (fun i => (S.E i).cells) ++ p.tl) ET' :: GM.mapO jobsT p.jb (cntJ S.J S.n) (jobF S.J) :: PN.Po (ptr p.pb) (S.Q.map Nt.cells) S.room :: L)) := Lib.hid hs8
            have HBU : Hid (∀ i, IsU (S.B i)) := Lib.hid HFI.out.good.isU
            have HTK3 : Hid ((if j2.wait ≠ 0#32 then (({ S with B := S.B, J := updI S.J n.blk (some j2) } : Hs), ([] : List Nt), (0 : Int)) else if j2.ref then ((endP { S with B := S.B, J := updI S.J n.blk (some j2) } n.blk).1, ntNack j2.ask.frm n.blk j2.least :: (endP { S with B := S.B, J := updI S.J n.blk (some j2) } n.blk).2, 0) else ((answerP { S with B := S.B, J := updI S.J n.blk (some j2) } j2).1, [(answerP { S with B := S.B, J := updI S.J n.blk (some j2) } j2).2], 0)) = tk) := Lib.hid (by
              rw [← HTK2.out, ← show heardP S n j = j2 from hhd]
              unfold tookP
              simp only [hhas, Bool.false_eq_true, if_false]
              split
              · rfl
              · split <;> rfl)
            have HX8 := Lib.hid hX8
            clear hs8 hX8 hj2 hhd hheard hk10 hhas HS7
            have hrr : j1.ref = true := by simp at hc; exact hc.1
            have hls : decide (n.stamp < j1.least) = false := by simp at hc; simp; omega
            rw [hrr] at v26
            clear hc hrr
            go_upto_region 18 with fail
            rw [HX8.out]
            clear y6 w0' w4 v26 v27 g26 g27 HX8 hkt hj1N
            clear hls
            have hjN' := Jb.isN HJK.out
            have hsd := HSX.out.upd0 (Upd.drew NoF X8)
            have hcnt := cntJ_le S.J S.n
            obtain ⟨X12, x5, hs12, -⟩ := GM.mapPut hsd 5 rfl (by unfold maxLen; omega) (a := (b : Int)) (GM.fit_of (by omega)) (.agg j2.cells)
            simp only [List.set_cons_zero, List.set_cons_succ, putN_cnt hbn j2, put_jobF] at hs12
            change (Instr.mapUpdate 100 (.map (some p.jb)) (.int .i64 b) (.agg j2.cells)).run Tryd.prog X8.drew = .ok () X12 at x5
            have HM0 : Hid ((fun X : World => X.cell? ⟨hb, 10, none⟩ = some (.map (some p.jb)) ∧ X.cell? ⟨nx, 3, none⟩ = some (.int .i64 b) ∧ (TJob.ld (.pointer (some ⟨jx, 0, none⟩))).run Tryd.prog X = .ok (.agg j2.cells) X) X8.drew) := Lib.hid ⟨(hsd.box 2 rfl).cell 10, ((hsd.box 1 rfl).cell 3).trans (by rw [← hbk]; exact n.get3), TJob.ld_at hjN' (hsd.box 0 rfl).whole⟩
            have HM1 : Hid ((fun X : World => X.cell? ⟨hb, 10, none⟩ = some (.map (some p.jb)) ∧ X.cell? ⟨nx, 3, none⟩ = some (.int .i64 b) ∧ (TJob.ld (.pointer (some ⟨jx, 0, none⟩))).run Tryd.prog X = .ok (.agg j2.cells) X) X12) := Lib.hid ⟨(hs12.box 2 rfl).cell 10, ((hs12.box 1 rfl).cell 3).trans (by rw [← hbk]; exact n.get3), TJob.ld_at hjN' (hs12.box 0 rfl).whole⟩
            have hSn : Fits { S with B := S.B, J := updI S.J n.blk (some j2) } p := ⟨good_heard HFI.out.good HJK.out HJKB.out HBB.out.1 HBB.out.2 HBU.out, HFI.out.cap, HFI.out.tl⟩
            have HS13 : Hid (Sep NoF w0 X12 (boxO jx j2.cells JT :: boxO nx n.cells NT :: homeO hb mb { S with B := S.B, J := updI S.J n.blk (some j2) } :: L)) := Lib.hid (by
              rw [← hbk] at hs12
              exact ⟨hs12.upd, own_tail (fun _ h => own_tail (fun _ h => own_home_shut hSn h) h) hs12.own⟩)
            have u24 : X12.cell? ⟨jx, 24, none⟩ = some (VM j2.wait) := ((hs12.box 0 rfl).cell 24).trans (Jb.get24 hjN'.1)
            have u26 : X12.cell? ⟨jx, 26, none⟩ = some (.bool j2.ref) := ((hs12.box 0 rfl).cell 26).trans (Jb.get26 hjN'.1)
            have u27 : X12.cell? ⟨jx, 27, none⟩ = some (.int .u64 j2.least) := ((hs12.box 0 rfl).cell 27).trans (Jb.get27 hjN'.1)
            have u1 : X12.cell? ⟨jx, 1, none⟩ = some (.int .i64 j2.ask.frm) := ((hs12.box 0 rfl).cell 1).trans (by rw [Jb.get_ask (by omega) hjN'.1]; exact j2.ask.get1)
            have u3 : X12.cell? ⟨nx, 3, none⟩ = some (.int .i64 b) := ((hs12.box 1 rfl).cell 3).trans (by rw [← hbk]; exact n.get3)
            have uj := TJob.ld_at hjN' (hs12.box 0 rfl).whole
            clear hsd hs12 hSn hjN'
            go_wp2_with fail
            refine wp_region_held_drew (S := (fun X : World => X.cell? ⟨hb, 10, none⟩ = some (.map (some p.jb)) ∧ X.cell? ⟨nx, 3, none⟩ = some (.int .i64 b) ∧ (TJob.ld (.pointer (some ⟨jx, 0, none⟩))).run Tryd.prog X = .ok (.agg j2.cells) X)) (by kernel_rfl) (HM0.out) (fun hHeld => ?_)
            refine rgn 0 (v := ?vq12) hHeld ?yq12 ?_
            case yq12 => (intro w hSw; obtain ⟨k0, k1, k2⟩ := hSw; go_simp; try with_reducible rfl)
            simp only [Act.put, rn1, rn2, rn3, rn4, rn5, rn6]
            refine rgn 1 (v := ?vq13) hHeld ?yq13 ?_
            case yq13 => (intro w hSw; obtain ⟨k0, k1, k2⟩ := hSw; go_simp; try with_reducible rfl)
            simp only [Act.put, rn1, rn2, rn3, rn4, rn5, rn6]
            refine rgn 2 (v := ?vq14) hHeld ?yq14 ?_
            case yq14 => (intro w hSw; obtain ⟨k0, k1, k2⟩ := hSw; go_simp; try with_reducible rfl)
            simp only [Act.put, rn1, rn2, rn3, rn4, rn5, rn6]
            refine rgn 3 (v := ?vq15) hHeld ?yq15 ?_
            case yq15 => (intro w hSw; obtain ⟨k0, k1, k2⟩ := hSw; go_simp; try with_reducible rfl)
            simp only [Act.put, rn1, rn2, rn3, rn4, rn5, rn6]
            refine rgn 4 (v := ?vq16) hHeld ?yq16 ?_
            case yq16 => (intro w hSw; obtain ⟨k0, k1, k2⟩ := hSw; go_simp; try with_reducible rfl)
            simp only [Act.put, rn1, rn2, rn3, rn4, rn5, rn6]
            refine rgn 5 (v := ?vq17) hHeld ?yq17 ?_
            case yq17 => (intro w hSw; obtain ⟨k0, k1, k2⟩ := hSw; go_simp; try with_reducible rfl)
            simp only [Act.put, rn1, rn2, rn3, rn4, rn5, rn6]
            refine rgn 6 (v := ?vq18) hHeld ?yq18 ?_
            case yq18 => (intro w hSw; obtain ⟨k0, k1, k2⟩ := hSw; go_simp; try with_reducible rfl)
            simp only [Act.put, rn1, rn2, rn3, rn4, rn5, rn6]
            refine reg_step (i := 7) (by kernel_rfl) rfl (by kernel_rfl) (fun K hK => ?_)
            go_simp
            have HS := HM1.out
            refine hK.out _ _ HS (fun hHeld2 => ?_)
            clear hK hHeld2 hHeld; have hHeld := HS; clear HS
            try simp only [Act.put, rn1, rn2, rn3, rn4, rn5, rn6]
            refine wpAnyH_done (by kernel_rfl) ?_ _
            clear hHeld HM0 HM1 x5
            by_cases hwz : j2.wait = 0#32
            · have hw0 : (((j2.wait.toNat : Nat) : Int) != 0) = false := by simp [hwz]
              cases hrf : j2.ref
              · rw [hrf] at u26
                have htk3 := HTK3.out
                simp only [hwz, hrf, ne_eq, not_true_eq_false, if_false, Bool.false_eq_true] at htk3
                have HTK4 := Lib.hid htk3
                have HANS := Lib.hid (answer_is ((HS13.out.drop 0 (by simp)).drop 0 (by simp)) HTB.out j2 HJK.out (by rw [HJKB.out]; exact HBB.out.1) (by rw [HJKB.out]; exact HBB.out.2))
                clear htk3 hwz HTK3 hrf
                go_wp2_with fail
                refine HANS.out.mono ?_
                rintro e X14 ⟨g, rfl, hs14⟩
                have hns : (answerP { S with B := S.B, J := updI S.J n.blk (some j2) } j2).2.cells.size = 24 := (Nt.Ok.isN (show IsU (answerP { S with B := S.B, J := updI S.J n.blk (some j2) } j2).2.D from HBU.out _)).1
                have HS15 := Lib.hid (hs14.head (Φ' := outO (sl g 1 1) [(answerP { S with B := S.B, J := updI S.J n.blk (some j2) } j2).2]) (fun F hF => out_one hns hF))
                clear hs14 hns
                go_wp2
                go_ret2
                refine ⟨sl g 1 1, ?_⟩
                rw [← HTK4.out]
                exact ⟨rfl, HS15.out⟩
              · rw [hrf] at u26
                have htk3 := HTK3.out
                simp only [hwz, hrf, ne_eq, not_true_eq_false, if_false, if_true] at htk3
                have y2 := fun w => bd_stamp 7 j2.ask.frm b j2.least w
                have hnS : (ntAsk 7 j2.ask.frm b j2.least).cells.size = 24 := (Nt.Ok.isN (n := ntAsk 7 j2.ask.frm b j2.least) BU.isU_Z).1
                have y3 := fun w => bsN_run hnS w
                have hs14 := ((HS13.out.alloc (ntAsk 7 j2.ask.frm b j2.least).cells NT).head (Φ' := outO (sl X12.heap.size 1 1) [ntAsk 7 j2.ask.frm b j2.least]) (fun F hF => out_one hnS hF))
                have hu14 := Upd.alloc NoF X12 (.cells (ntAsk 7 j2.ask.frm b j2.least).cells NT)
                obtain ⟨X14, hX14⟩ : ∃ X14, X12.alloc (.cells (ntAsk 7 j2.ask.frm b j2.least).cells NT) = X14 := ⟨_, rfl⟩
                obtain ⟨gx, hgx⟩ : ∃ gx, X12.heap.size = gx := ⟨_, rfl⟩
                rw [hX14] at hs14 hu14
                rw [hgx] at hs14
                have u3' : X14.cell? ⟨nx, 3, none⟩ = some (.int .i64 b) := hu14.cell u3 (fun h => h)
                have hs15 := (hs14.drop 1 (by simp)).drop 1 (by simp)
                have hE0 := end_is (hb := hb) (mb := mb) hs15.swap HTB.out n.blk HBB.out.1 HBB.out.2
                have hEU := end_facts (S := { S with B := S.B, J := updI S.J n.blk (some j2) }) (b := n.blk) (good_heard HFI.out.good HJK.out HJKB.out HBB.out.1 HBB.out.2 HBU.out)
                obtain ⟨t, ht⟩ : ∃ t, endP { S with B := S.B, J := updI S.J n.blk (some j2) } n.blk = t := ⟨_, rfl⟩
                rw [ht] at hE0 htk3 hEU
                rw [hbk] at hE0
                have HEND := Lib.hid hE0
                have HTK4 := Lib.hid htk3
                have HEU := Lib.hid hEU
                clear hE0 hEU ht
                have HX14 := Lib.hid hX14; have HGX := Lib.hid hgx
                clear htk3 hwz HTK3 hrf hs14 hs15 hu14 hX14 hgx uj
                go_upto_region 23 with fail
                rw [HX14.out, HGX.out]
                clear y2 y3 u1 u24 u26 u27 u3 hnS
                go_wp2_with fail
                refine HEND.out.mono ?_
                rintro e X16 ⟨v2, rfl, hs16⟩
                obtain ⟨v', X17, hrun, hs17⟩ := s_cat hs16 2 0 rfl rfl HEU.out.2 (by have := HEU.out.1; simp; omega)
                obtain ⟨v9, hv9⟩ : ∃ v9, v9 = v' := ⟨_, rfl⟩
                rw [← hv9] at hrun hs17
                clear hv9
                have HR2 := Lib.hid hrun
                have HS17 := Lib.hid ((hs17.drop 0 (by simp)).swap)
                clear hrun hs17 hs16
                go_wp2_with (at_builtin; refine wpList_append_run (w := X16) rfl _ _ NS rfl rfl rfl HR2.out ?_)
                go_ret2
                rw [hbk] at HTK4
                rw [← HTK4.out]
                exact ⟨v9, rfl, HS17.out⟩
            · have hw0 : (((j2.wait.toNat : Nat) : Int) != 0) = true := by
                have : j2.wait.toNat ≠ 0 := fun e => hwz (BitVec.eq_of_toNat_eq (by simpa using e))
                simp; omega
              have htk3 := HTK3.out
              simp only [ne_eq, hwz, not_false_eq_true, if_true] at htk3
              have HTK4 := Lib.hid htk3
              clear htk3 hwz HTK3 uj
              go_wp2
              go_ret2
              refine ⟨.slice none 0 0, ?_⟩
              rw [← HTK4.out]
              exact ⟨rfl, out_nil ((HS13.out.drop 0 (by simp)).drop 0 (by simp))⟩
          · obtain ⟨j2, hj2⟩ : ∃ x, ({ j1 with least := n.stamp, ref := true } : Jb) = x := ⟨_, rfl⟩
            have hhd : heardP S n j = j2 := by rw [hheard, hc, ← hj2]; simp
            have hs8 := (HS7.out.set 0 rfl 27 (.int .u64 n.stamp)).set 0 rfl 26 (.bool true)
            simp only [List.set_cons_zero, Jb.set27 hj1N.1] at hs8
            rw [Jb.set26 (j := { j1 with least := n.stamp }) (Jb.isN (j := { j1 with least := n.stamp }) ⟨HJ1O.out.ask, HN.out.stamp⟩).1] at hs8
            have HJK : Hid j2.Ok := Lib.hid (by rw [← hj2]; exact ⟨HJ1O.out.ask, HN.out.stamp⟩)
            obtain ⟨X8, hX8⟩ : ∃ X8, (X7.setCell ⟨jx, 27, none⟩ (.int .u64 n.stamp)).setCell ⟨jx, 26, none⟩ (.bool true) = X8 := ⟨_, rfl⟩
            rw [hX8] at hs8
            rw [hj2] at hs8
            have HJKB : Hid (j2.ask.blk = n.blk) := Lib.hid (by rw [← hj2]; exact HJ1B.out)
            have HSX : Hid (Sep NoF w0 X8 (boxO jx j2.cells JT :: boxO nx n.cells NT :: boxO hb (S.cells mb p) HT :: memO mb S.c.blocks.toNat S.B :: boxO p.eb (rowG 2 S.n (fun i => (S.E i).cells) ++ p.tl) ET' :: GM.mapO jobsT p.jb (cntJ S.J S.n) (jobF S.J) :: PN.Po (ptr p.pb) (S.Q.map Nt.cells) S.room :: L)) := Lib.hid hs8
            have HBU : Hid (∀ i, IsU (S.B i)) := Lib.hid HFI.out.good.isU
            have HTK3 : Hid ((if j2.wait ≠ 0#32 then (({ S with B := S.B, J := updI S.J n.blk (some j2) } : Hs), ([] : List Nt), (0 : Int)) else if j2.ref then ((endP { S with B := S.B, J := updI S.J n.blk (some j2) } n.blk).1, ntNack j2.ask.frm n.blk j2.least :: (endP { S with B := S.B, J := updI S.J n.blk (some j2) } n.blk).2, 0) else ((answerP { S with B := S.B, J := updI S.J n.blk (some j2) } j2).1, [(answerP { S with B := S.B, J := updI S.J n.blk (some j2) } j2).2], 0)) = tk) := Lib.hid (by
              rw [← HTK2.out, ← show heardP S n j = j2 from hhd]
              unfold tookP
              simp only [hhas, Bool.false_eq_true, if_false]
              split
              · rfl
              · split <;> rfl)
            have HX8 := Lib.hid hX8
            clear hs8 hX8 hj2 hhd hheard hk10 hhas HS7
            cases hrr : j1.ref
            · rw [hrr] at v26
              clear hc hrr
              go_upto_region 18 with fail
              rw [HX8.out]
              clear y6 w0' w4 v26 v27 g26 g27 HX8 hkt hj1N
              have hjN' := Jb.isN HJK.out
              have hsd := HSX.out.upd0 (Upd.drew NoF X8)
              have hcnt := cntJ_le S.J S.n
              obtain ⟨X12, x5, hs12, -⟩ := GM.mapPut hsd 5 rfl (by unfold maxLen; omega) (a := (b : Int)) (GM.fit_of (by omega)) (.agg j2.cells)
              simp only [List.set_cons_zero, List.set_cons_succ, putN_cnt hbn j2, put_jobF] at hs12
              change (Instr.mapUpdate 100 (.map (some p.jb)) (.int .i64 b) (.agg j2.cells)).run Tryd.prog X8.drew = .ok () X12 at x5
              have HM0 : Hid ((fun X : World => X.cell? ⟨hb, 10, none⟩ = some (.map (some p.jb)) ∧ X.cell? ⟨nx, 3, none⟩ = some (.int .i64 b) ∧ (TJob.ld (.pointer (some ⟨jx, 0, none⟩))).run Tryd.prog X = .ok (.agg j2.cells) X) X8.drew) := Lib.hid ⟨(hsd.box 2 rfl).cell 10, ((hsd.box 1 rfl).cell 3).trans (by rw [← hbk]; exact n.get3), TJob.ld_at hjN' (hsd.box 0 rfl).whole⟩
              have HM1 : Hid ((fun X : World => X.cell? ⟨hb, 10, none⟩ = some (.map (some p.jb)) ∧ X.cell? ⟨nx, 3, none⟩ = some (.int .i64 b) ∧ (TJob.ld (.pointer (some ⟨jx, 0, none⟩))).run Tryd.prog X = .ok (.agg j2.cells) X) X12) := Lib.hid ⟨(hs12.box 2 rfl).cell 10, ((hs12.box 1 rfl).cell 3).trans (by rw [← hbk]; exact n.get3), TJob.ld_at hjN' (hs12.box 0 rfl).whole⟩
              have hSn : Fits { S with B := S.B, J := updI S.J n.blk (some j2) } p := ⟨good_heard HFI.out.good HJK.out HJKB.out HBB.out.1 HBB.out.2 HBU.out, HFI.out.cap, HFI.out.tl⟩
              have HS13 : Hid (Sep NoF w0 X12 (boxO jx j2.cells JT :: boxO nx n.cells NT :: homeO hb mb { S with B := S.B, J := updI S.J n.blk (some j2) } :: L)) := Lib.hid (by
                rw [← hbk] at hs12
                exact ⟨hs12.upd, own_tail (fun _ h => own_tail (fun _ h => own_home_shut hSn h) h) hs12.own⟩)
              have u24 : X12.cell? ⟨jx, 24, none⟩ = some (VM j2.wait) := ((hs12.box 0 rfl).cell 24).trans (Jb.get24 hjN'.1)
              have u26 : X12.cell? ⟨jx, 26, none⟩ = some (.bool j2.ref) := ((hs12.box 0 rfl).cell 26).trans (Jb.get26 hjN'.1)
              have u27 : X12.cell? ⟨jx, 27, none⟩ = some (.int .u64 j2.least) := ((hs12.box 0 rfl).cell 27).trans (Jb.get27 hjN'.1)
              have u1 : X12.cell? ⟨jx, 1, none⟩ = some (.int .i64 j2.ask.frm) := ((hs12.box 0 rfl).cell 1).trans (by rw [Jb.get_ask (by omega) hjN'.1]; exact j2.ask.get1)
              have u3 : X12.cell? ⟨nx, 3, none⟩ = some (.int .i64 b) := ((hs12.box 1 rfl).cell 3).trans (by rw [← hbk]; exact n.get3)
              have uj := TJob.ld_at hjN' (hs12.box 0 rfl).whole
              clear hsd hs12 hSn hjN'
              go_wp2_with fail
              refine wp_region_held_drew (S := (fun X : World => X.cell? ⟨hb, 10, none⟩ = some (.map (some p.jb)) ∧ X.cell? ⟨nx, 3, none⟩ = some (.int .i64 b) ∧ (TJob.ld (.pointer (some ⟨jx, 0, none⟩))).run Tryd.prog X = .ok (.agg j2.cells) X)) (by kernel_rfl) (HM0.out) (fun hHeld => ?_)
              refine rgn 0 (v := ?vq19) hHeld ?yq19 ?_
              case yq19 => (intro w hSw; obtain ⟨k0, k1, k2⟩ := hSw; go_simp; try with_reducible rfl)
              simp only [Act.put, rn1, rn2, rn3, rn4, rn5, rn6]
              refine rgn 1 (v := ?vq20) hHeld ?yq20 ?_
              case yq20 => (intro w hSw; obtain ⟨k0, k1, k2⟩ := hSw; go_simp; try with_reducible rfl)
              simp only [Act.put, rn1, rn2, rn3, rn4, rn5, rn6]
              refine rgn 2 (v := ?vq21) hHeld ?yq21 ?_
              case yq21 => (intro w hSw; obtain ⟨k0, k1, k2⟩ := hSw; go_simp; try with_reducible rfl)
              simp only [Act.put, rn1, rn2, rn3, rn4, rn5, rn6]
              refine rgn 3 (v := ?vq22) hHeld ?yq22 ?_
              case yq22 => (intro w hSw; obtain ⟨k0, k1, k2⟩ := hSw; go_simp; try with_reducible rfl)
              simp only [Act.put, rn1, rn2, rn3, rn4, rn5, rn6]
              refine rgn 4 (v := ?vq23) hHeld ?yq23 ?_
              case yq23 => (intro w hSw; obtain ⟨k0, k1, k2⟩ := hSw; go_simp; try with_reducible rfl)
              simp only [Act.put, rn1, rn2, rn3, rn4, rn5, rn6]
              refine rgn 5 (v := ?vq24) hHeld ?yq24 ?_
              case yq24 => (intro w hSw; obtain ⟨k0, k1, k2⟩ := hSw; go_simp; try with_reducible rfl)
              simp only [Act.put, rn1, rn2, rn3, rn4, rn5, rn6]
              refine rgn 6 (v := ?vq25) hHeld ?yq25 ?_
              case yq25 => (intro w hSw; obtain ⟨k0, k1, k2⟩ := hSw; go_simp; try with_reducible rfl)
              simp only [Act.put, rn1, rn2, rn3, rn4, rn5, rn6]
              refine reg_step (i := 7) (by kernel_rfl) rfl (by kernel_rfl) (fun K hK => ?_)
              go_simp
              have HS := HM1.out
              refine hK.out _ _ HS (fun hHeld2 => ?_)
              clear hK hHeld2 hHeld; have hHeld := HS; clear HS
              try simp only [Act.put, rn1, rn2, rn3, rn4, rn5, rn6]
              refine wpAnyH_done (by kernel_rfl) ?_ _
              clear hHeld HM0 HM1 x5
              by_cases hwz : j2.wait = 0#32
              · have hw0 : (((j2.wait.toNat : Nat) : Int) != 0) = false := by simp [hwz]
                cases hrf : j2.ref
                · rw [hrf] at u26
                  have htk3 := HTK3.out
                  simp only [hwz, hrf, ne_eq, not_true_eq_false, if_false, Bool.false_eq_true] at htk3
                  have HTK4 := Lib.hid htk3
                  have HANS := Lib.hid (answer_is ((HS13.out.drop 0 (by simp)).drop 0 (by simp)) HTB.out j2 HJK.out (by rw [HJKB.out]; exact HBB.out.1) (by rw [HJKB.out]; exact HBB.out.2))
                  clear htk3 hwz HTK3 hrf
                  go_wp2_with fail
                  refine HANS.out.mono ?_
                  rintro e X14 ⟨g, rfl, hs14⟩
                  have hns : (answerP { S with B := S.B, J := updI S.J n.blk (some j2) } j2).2.cells.size = 24 := (Nt.Ok.isN (show IsU (answerP { S with B := S.B, J := updI S.J n.blk (some j2) } j2).2.D from HBU.out _)).1
                  have HS15 := Lib.hid (hs14.head (Φ' := outO (sl g 1 1) [(answerP { S with B := S.B, J := updI S.J n.blk (some j2) } j2).2]) (fun F hF => out_one hns hF))
                  clear hs14 hns
                  go_wp2
                  go_ret2
                  refine ⟨sl g 1 1, ?_⟩
                  rw [← HTK4.out]
                  exact ⟨rfl, HS15.out⟩
                · rw [hrf] at u26
                  have htk3 := HTK3.out
                  simp only [hwz, hrf, ne_eq, not_true_eq_false, if_false, if_true] at htk3
                  have y2 := fun w => bd_stamp 7 j2.ask.frm b j2.least w
                  have hnS : (ntAsk 7 j2.ask.frm b j2.least).cells.size = 24 := (Nt.Ok.isN (n := ntAsk 7 j2.ask.frm b j2.least) BU.isU_Z).1
                  have y3 := fun w => bsN_run hnS w
                  have hs14 := ((HS13.out.alloc (ntAsk 7 j2.ask.frm b j2.least).cells NT).head (Φ' := outO (sl X12.heap.size 1 1) [ntAsk 7 j2.ask.frm b j2.least]) (fun F hF => out_one hnS hF))
                  have hu14 := Upd.alloc NoF X12 (.cells (ntAsk 7 j2.ask.frm b j2.least).cells NT)
                  obtain ⟨X14, hX14⟩ : ∃ X14, X12.alloc (.cells (ntAsk 7 j2.ask.frm b j2.least).cells NT) = X14 := ⟨_, rfl⟩
                  obtain ⟨gx, hgx⟩ : ∃ gx, X12.heap.size = gx := ⟨_, rfl⟩
                  rw [hX14] at hs14 hu14
                  rw [hgx] at hs14
                  have u3' : X14.cell? ⟨nx, 3, none⟩ = some (.int .i64 b) := hu14.cell u3 (fun h => h)
                  have hs15 := (hs14.drop 1 (by simp)).drop 1 (by simp)
                  have hE0 := end_is (hb := hb) (mb := mb) hs15.swap HTB.out n.blk HBB.out.1 HBB.out.2
                  have hEU := end_facts (S := { S with B := S.B, J := updI S.J n.blk (some j2) }) (b := n.blk) (good_heard HFI.out.good HJK.out HJKB.out HBB.out.1 HBB.out.2 HBU.out)
                  obtain ⟨t, ht⟩ : ∃ t, endP { S with B := S.B, J := updI S.J n.blk (some j2) } n.blk = t := ⟨_, rfl⟩
                  rw [ht] at hE0 htk3 hEU
                  rw [hbk] at hE0
                  have HEND := Lib.hid hE0
                  have HTK4 := Lib.hid htk3
                  have HEU := Lib.hid hEU
                  clear hE0 hEU ht
                  have HX14 := Lib.hid hX14; have HGX := Lib.hid hgx
                  clear htk3 hwz HTK3 hrf hs14 hs15 hu14 hX14 hgx uj
                  go_upto_region 23 with fail
                  rw [HX14.out, HGX.out]
                  clear y2 y3 u1 u24 u26 u27 u3 hnS
                  go_wp2_with fail
                  refine HEND.out.mono ?_
                  rintro e X16 ⟨v2, rfl, hs16⟩
                  obtain ⟨v', X17, hrun, hs17⟩ := s_cat hs16 2 0 rfl rfl HEU.out.2 (by have := HEU.out.1; simp; omega)
                  obtain ⟨v9, hv9⟩ : ∃ v9, v9 = v' := ⟨_, rfl⟩
                  rw [← hv9] at hrun hs17
                  clear hv9
                  have HR2 := Lib.hid hrun
                  have HS17 := Lib.hid ((hs17.drop 0 (by simp)).swap)
                  clear hrun hs17 hs16
                  go_wp2_with (at_builtin; refine wpList_append_run (w := X16) rfl _ _ NS rfl rfl rfl HR2.out ?_)
                  go_ret2
                  rw [hbk] at HTK4
                  rw [← HTK4.out]
                  exact ⟨v9, rfl, HS17.out⟩
              · have hw0 : (((j2.wait.toNat : Nat) : Int) != 0) = true := by
                  have : j2.wait.toNat ≠ 0 := fun e => hwz (BitVec.eq_of_toNat_eq (by simpa using e))
                  simp; omega
                have htk3 := HTK3.out
                simp only [ne_eq, hwz, not_false_eq_true, if_true] at htk3
                have HTK4 := Lib.hid htk3
                clear htk3 hwz HTK3 uj
                go_wp2
                go_ret2
                refine ⟨.slice none 0 0, ?_⟩
                rw [← HTK4.out]
                exact ⟨rfl, out_nil ((HS13.out.drop 0 (by simp)).drop 0 (by simp))⟩
            · have hls : decide (n.stamp < j1.least) = true := by rw [hrr] at hc; simpa using hc
              rw [hrr] at v26
              clear hc hrr
              go_upto_region 18 with fail
              rw [HX8.out]
              clear y6 w0' w4 v26 v27 g26 g27 HX8 hkt hj1N
              clear hls
              have hjN' := Jb.isN HJK.out
              have hsd := HSX.out.upd0 (Upd.drew NoF X8)
              have hcnt := cntJ_le S.J S.n
              obtain ⟨X12, x5, hs12, -⟩ := GM.mapPut hsd 5 rfl (by unfold maxLen; omega) (a := (b : Int)) (GM.fit_of (by omega)) (.agg j2.cells)
              simp only [List.set_cons_zero, List.set_cons_succ, putN_cnt hbn j2, put_jobF] at hs12
              change (Instr.mapUpdate 100 (.map (some p.jb)) (.int .i64 b) (.agg j2.cells)).run Tryd.prog X8.drew = .ok () X12 at x5
              have HM0 : Hid ((fun X : World => X.cell? ⟨hb, 10, none⟩ = some (.map (some p.jb)) ∧ X.cell? ⟨nx, 3, none⟩ = some (.int .i64 b) ∧ (TJob.ld (.pointer (some ⟨jx, 0, none⟩))).run Tryd.prog X = .ok (.agg j2.cells) X) X8.drew) := Lib.hid ⟨(hsd.box 2 rfl).cell 10, ((hsd.box 1 rfl).cell 3).trans (by rw [← hbk]; exact n.get3), TJob.ld_at hjN' (hsd.box 0 rfl).whole⟩
              have HM1 : Hid ((fun X : World => X.cell? ⟨hb, 10, none⟩ = some (.map (some p.jb)) ∧ X.cell? ⟨nx, 3, none⟩ = some (.int .i64 b) ∧ (TJob.ld (.pointer (some ⟨jx, 0, none⟩))).run Tryd.prog X = .ok (.agg j2.cells) X) X12) := Lib.hid ⟨(hs12.box 2 rfl).cell 10, ((hs12.box 1 rfl).cell 3).trans (by rw [← hbk]; exact n.get3), TJob.ld_at hjN' (hs12.box 0 rfl).whole⟩
              have hSn : Fits { S with B := S.B, J := updI S.J n.blk (some j2) } p := ⟨good_heard HFI.out.good HJK.out HJKB.out HBB.out.1 HBB.out.2 HBU.out, HFI.out.cap, HFI.out.tl⟩
              have HS13 : Hid (Sep NoF w0 X12 (boxO jx j2.cells JT :: boxO nx n.cells NT :: homeO hb mb { S with B := S.B, J := updI S.J n.blk (some j2) } :: L)) := Lib.hid (by
                rw [← hbk] at hs12
                exact ⟨hs12.upd, own_tail (fun _ h => own_tail (fun _ h => own_home_shut hSn h) h) hs12.own⟩)
              have u24 : X12.cell? ⟨jx, 24, none⟩ = some (VM j2.wait) := ((hs12.box 0 rfl).cell 24).trans (Jb.get24 hjN'.1)
              have u26 : X12.cell? ⟨jx, 26, none⟩ = some (.bool j2.ref) := ((hs12.box 0 rfl).cell 26).trans (Jb.get26 hjN'.1)
              have u27 : X12.cell? ⟨jx, 27, none⟩ = some (.int .u64 j2.least) := ((hs12.box 0 rfl).cell 27).trans (Jb.get27 hjN'.1)
              have u1 : X12.cell? ⟨jx, 1, none⟩ = some (.int .i64 j2.ask.frm) := ((hs12.box 0 rfl).cell 1).trans (by rw [Jb.get_ask (by omega) hjN'.1]; exact j2.ask.get1)
              have u3 : X12.cell? ⟨nx, 3, none⟩ = some (.int .i64 b) := ((hs12.box 1 rfl).cell 3).trans (by rw [← hbk]; exact n.get3)
              have uj := TJob.ld_at hjN' (hs12.box 0 rfl).whole
              clear hsd hs12 hSn hjN'
              go_wp2_with fail
              refine wp_region_held_drew (S := (fun X : World => X.cell? ⟨hb, 10, none⟩ = some (.map (some p.jb)) ∧ X.cell? ⟨nx, 3, none⟩ = some (.int .i64 b) ∧ (TJob.ld (.pointer (some ⟨jx, 0, none⟩))).run Tryd.prog X = .ok (.agg j2.cells) X)) (by kernel_rfl) (HM0.out) (fun hHeld => ?_)
              refine rgn 0 (v := ?vq26) hHeld ?yq26 ?_
              case yq26 => (intro w hSw; obtain ⟨k0, k1, k2⟩ := hSw; go_simp; try with_reducible rfl)
              simp only [Act.put, rn1, rn2, rn3, rn4, rn5, rn6]
              refine rgn 1 (v := ?vq27) hHeld ?yq27 ?_
              case yq27 => (intro w hSw; obtain ⟨k0, k1, k2⟩ := hSw; go_simp; try with_reducible rfl)
              simp only [Act.put, rn1, rn2, rn3, rn4, rn5, rn6]
              refine rgn 2 (v := ?vq28) hHeld ?yq28 ?_
              case yq28 => (intro w hSw; obtain ⟨k0, k1, k2⟩ := hSw; go_simp; try with_reducible rfl)
              simp only [Act.put, rn1, rn2, rn3, rn4, rn5, rn6]
              refine rgn 3 (v := ?vq29) hHeld ?yq29 ?_
              case yq29 => (intro w hSw; obtain ⟨k0, k1, k2⟩ := hSw; go_simp; try with_reducible rfl)
              simp only [Act.put, rn1, rn2, rn3, rn4, rn5, rn6]
              refine rgn 4 (v := ?vq30) hHeld ?yq30 ?_
              case yq30 => (intro w hSw; obtain ⟨k0, k1, k2⟩ := hSw; go_simp; try with_reducible rfl)
              simp only [Act.put, rn1, rn2, rn3, rn4, rn5, rn6]
              refine rgn 5 (v := ?vq31) hHeld ?yq31 ?_
              case yq31 => (intro w hSw; obtain ⟨k0, k1, k2⟩ := hSw; go_simp; try with_reducible rfl)
              simp only [Act.put, rn1, rn2, rn3, rn4, rn5, rn6]
              refine rgn 6 (v := ?vq32) hHeld ?yq32 ?_
              case yq32 => (intro w hSw; obtain ⟨k0, k1, k2⟩ := hSw; go_simp; try with_reducible rfl)
              simp only [Act.put, rn1, rn2, rn3, rn4, rn5, rn6]
              refine reg_step (i := 7) (by kernel_rfl) rfl (by kernel_rfl) (fun K hK => ?_)
              go_simp
              have HS := HM1.out
              refine hK.out _ _ HS (fun hHeld2 => ?_)
              clear hK hHeld2 hHeld; have hHeld := HS; clear HS
              try simp only [Act.put, rn1, rn2, rn3, rn4, rn5, rn6]
              refine wpAnyH_done (by kernel_rfl) ?_ _
              clear hHeld HM0 HM1 x5
              by_cases hwz : j2.wait = 0#32
              · have hw0 : (((j2.wait.toNat : Nat) : Int) != 0) = false := by simp [hwz]
                cases hrf : j2.ref
                · rw [hrf] at u26
                  have htk3 := HTK3.out
                  simp only [hwz, hrf, ne_eq, not_true_eq_false, if_false, Bool.false_eq_true] at htk3
                  have HTK4 := Lib.hid htk3
                  have HANS := Lib.hid (answer_is ((HS13.out.drop 0 (by simp)).drop 0 (by simp)) HTB.out j2 HJK.out (by rw [HJKB.out]; exact HBB.out.1) (by rw [HJKB.out]; exact HBB.out.2))
                  clear htk3 hwz HTK3 hrf
                  go_wp2_with fail
                  refine HANS.out.mono ?_
                  rintro e X14 ⟨g, rfl, hs14⟩
                  have hns : (answerP { S with B := S.B, J := updI S.J n.blk (some j2) } j2).2.cells.size = 24 := (Nt.Ok.isN (show IsU (answerP { S with B := S.B, J := updI S.J n.blk (some j2) } j2).2.D from HBU.out _)).1
                  have HS15 := Lib.hid (hs14.head (Φ' := outO (sl g 1 1) [(answerP { S with B := S.B, J := updI S.J n.blk (some j2) } j2).2]) (fun F hF => out_one hns hF))
                  clear hs14 hns
                  go_wp2
                  go_ret2
                  refine ⟨sl g 1 1, ?_⟩
                  rw [← HTK4.out]
                  exact ⟨rfl, HS15.out⟩
                · rw [hrf] at u26
                  have htk3 := HTK3.out
                  simp only [hwz, hrf, ne_eq, not_true_eq_false, if_false, if_true] at htk3
                  have y2 := fun w => bd_stamp 7 j2.ask.frm b j2.least w
                  have hnS : (ntAsk 7 j2.ask.frm b j2.least).cells.size = 24 := (Nt.Ok.isN (n := ntAsk 7 j2.ask.frm b j2.least) BU.isU_Z).1
                  have y3 := fun w => bsN_run hnS w
                  have hs14 := ((HS13.out.alloc (ntAsk 7 j2.ask.frm b j2.least).cells NT).head (Φ' := outO (sl X12.heap.size 1 1) [ntAsk 7 j2.ask.frm b j2.least]) (fun F hF => out_one hnS hF))
                  have hu14 := Upd.alloc NoF X12 (.cells (ntAsk 7 j2.ask.frm b j2.least).cells NT)
                  obtain ⟨X14, hX14⟩ : ∃ X14, X12.alloc (.cells (ntAsk 7 j2.ask.frm b j2.least).cells NT) = X14 := ⟨_, rfl⟩
                  obtain ⟨gx, hgx⟩ : ∃ gx, X12.heap.size = gx := ⟨_, rfl⟩
                  rw [hX14] at hs14 hu14
                  rw [hgx] at hs14
                  have u3' : X14.cell? ⟨nx, 3, none⟩ = some (.int .i64 b) := hu14.cell u3 (fun h => h)
                  have hs15 := (hs14.drop 1 (by simp)).drop 1 (by simp)
                  have hE0 := end_is (hb := hb) (mb := mb) hs15.swap HTB.out n.blk HBB.out.1 HBB.out.2
                  have hEU := end_facts (S := { S with B := S.B, J := updI S.J n.blk (some j2) }) (b := n.blk) (good_heard HFI.out.good HJK.out HJKB.out HBB.out.1 HBB.out.2 HBU.out)
                  obtain ⟨t, ht⟩ : ∃ t, endP { S with B := S.B, J := updI S.J n.blk (some j2) } n.blk = t := ⟨_, rfl⟩
                  rw [ht] at hE0 htk3 hEU
                  rw [hbk] at hE0
                  have HEND := Lib.hid hE0
                  have HTK4 := Lib.hid htk3
                  have HEU := Lib.hid hEU
                  clear hE0 hEU ht
                  have HX14 := Lib.hid hX14; have HGX := Lib.hid hgx
                  clear htk3 hwz HTK3 hrf hs14 hs15 hu14 hX14 hgx uj
                  go_upto_region 23 with fail
                  rw [HX14.out, HGX.out]
                  clear y2 y3 u1 u24 u26 u27 u3 hnS
                  go_wp2_with fail
                  refine HEND.out.mono ?_
                  rintro e X16 ⟨v2, rfl, hs16⟩
                  obtain ⟨v', X17, hrun, hs17⟩ := s_cat hs16 2 0 rfl rfl HEU.out.2 (by have := HEU.out.1; simp; omega)
                  obtain ⟨v9, hv9⟩ : ∃ v9, v9 = v' := ⟨_, rfl⟩
                  rw [← hv9] at hrun hs17
                  clear hv9
                  have HR2 := Lib.hid hrun
                  have HS17 := Lib.hid ((hs17.drop 0 (by simp)).swap)
                  clear hrun hs17 hs16
                  go_wp2_with (at_builtin; refine wpList_append_run (w := X16) rfl _ _ NS rfl rfl rfl HR2.out ?_)
                  go_ret2
                  rw [hbk] at HTK4
                  rw [← HTK4.out]
                  exact ⟨v9, rfl, HS17.out⟩
              · have hw0 : (((j2.wait.toNat : Nat) : Int) != 0) = true := by
                  have : j2.wait.toNat ≠ 0 := fun e => hwz (BitVec.eq_of_toNat_eq (by simpa using e))
                  simp; omega
                have htk3 := HTK3.out
                simp only [ne_eq, hwz, not_false_eq_true, if_true] at htk3
                have HTK4 := Lib.hid htk3
                clear htk3 hwz HTK3 uj
                go_wp2
                go_ret2
                refine ⟨.slice none 0 0, ?_⟩
                rw [← HTK4.out]
                exact ⟨rfl, out_nil ((HS13.out.drop 0 (by simp)).drop 0 (by simp))⟩
        · have hkt : (n.kind == 10) = false := by simp [hk10]
          have hhd : heardP S n j = j1 := by unfold heardP; rw [HMW.out, ← HJ1.out]; simp [hk10]
          have w0' : X7.cell? ⟨nx, 0, none⟩ = some (.int .u8 n.kind) := ((HS7.out.box 1 rfl).cell 0).trans n.get0
          have HJK := HJ1O
          have HJKB := HJ1B
          cases hhas : n.has
          · rw [hhas] at y6
            have HSX : Hid (Sep NoF w0 X7 (boxO jx j1.cells JT :: boxO nx n.cells NT :: boxO hb (S.cells mb p) HT :: memO mb S.c.blocks.toNat S.B :: boxO p.eb (rowG 2 S.n (fun i => (S.E i).cells) ++ p.tl) ET' :: GM.mapO jobsT p.jb (cntJ S.J S.n) (jobF S.J) :: PN.Po (ptr p.pb) (S.Q.map Nt.cells) S.room :: L)) := HS7
            have HBU : Hid (∀ i, IsU (S.B i)) := Lib.hid HFI.out.good.isU
            have HTK3 : Hid ((if j1.wait ≠ 0#32 then (({ S with B := S.B, J := updI S.J n.blk (some j1) } : Hs), ([] : List Nt), (0 : Int)) else if j1.ref then ((endP { S with B := S.B, J := updI S.J n.blk (some j1) } n.blk).1, ntNack j1.ask.frm n.blk j1.least :: (endP { S with B := S.B, J := updI S.J n.blk (some j1) } n.blk).2, 0) else ((answerP { S with B := S.B, J := updI S.J n.blk (some j1) } j1).1, [(answerP { S with B := S.B, J := updI S.J n.blk (some j1) } j1).2], 0)) = tk) := Lib.hid (by
              rw [← HTK2.out, ← show heardP S n j = j1 from hhd]
              unfold tookP
              simp only [hhas, Bool.false_eq_true, if_false]
              split
              · rfl
              · split <;> rfl)
            clear hhd hhas hk10 HS7
            go_upto_region 18 with fail
            clear y6 w0' hkt
            have hjN' := Jb.isN HJK.out
            have hsd := HSX.out.upd0 (Upd.drew NoF X7)
            have hcnt := cntJ_le S.J S.n
            obtain ⟨X12, x5, hs12, -⟩ := GM.mapPut hsd 5 rfl (by unfold maxLen; omega) (a := (b : Int)) (GM.fit_of (by omega)) (.agg j1.cells)
            simp only [List.set_cons_zero, List.set_cons_succ, putN_cnt hbn j1, put_jobF] at hs12
            change (Instr.mapUpdate 100 (.map (some p.jb)) (.int .i64 b) (.agg j1.cells)).run Tryd.prog X7.drew = .ok () X12 at x5
            have HM0 : Hid ((fun X : World => X.cell? ⟨hb, 10, none⟩ = some (.map (some p.jb)) ∧ X.cell? ⟨nx, 3, none⟩ = some (.int .i64 b) ∧ (TJob.ld (.pointer (some ⟨jx, 0, none⟩))).run Tryd.prog X = .ok (.agg j1.cells) X) X7.drew) := Lib.hid ⟨(hsd.box 2 rfl).cell 10, ((hsd.box 1 rfl).cell 3).trans (by rw [← hbk]; exact n.get3), TJob.ld_at hjN' (hsd.box 0 rfl).whole⟩
            have HM1 : Hid ((fun X : World => X.cell? ⟨hb, 10, none⟩ = some (.map (some p.jb)) ∧ X.cell? ⟨nx, 3, none⟩ = some (.int .i64 b) ∧ (TJob.ld (.pointer (some ⟨jx, 0, none⟩))).run Tryd.prog X = .ok (.agg j1.cells) X) X12) := Lib.hid ⟨(hs12.box 2 rfl).cell 10, ((hs12.box 1 rfl).cell 3).trans (by rw [← hbk]; exact n.get3), TJob.ld_at hjN' (hs12.box 0 rfl).whole⟩
            have hSn : Fits { S with B := S.B, J := updI S.J n.blk (some j1) } p := ⟨good_heard HFI.out.good HJK.out HJKB.out HBB.out.1 HBB.out.2 HBU.out, HFI.out.cap, HFI.out.tl⟩
            have HS13 : Hid (Sep NoF w0 X12 (boxO jx j1.cells JT :: boxO nx n.cells NT :: homeO hb mb { S with B := S.B, J := updI S.J n.blk (some j1) } :: L)) := Lib.hid (by
              rw [← hbk] at hs12
              exact ⟨hs12.upd, own_tail (fun _ h => own_tail (fun _ h => own_home_shut hSn h) h) hs12.own⟩)
            have u24 : X12.cell? ⟨jx, 24, none⟩ = some (VM j1.wait) := ((hs12.box 0 rfl).cell 24).trans (Jb.get24 hjN'.1)
            have u26 : X12.cell? ⟨jx, 26, none⟩ = some (.bool j1.ref) := ((hs12.box 0 rfl).cell 26).trans (Jb.get26 hjN'.1)
            have u27 : X12.cell? ⟨jx, 27, none⟩ = some (.int .u64 j1.least) := ((hs12.box 0 rfl).cell 27).trans (Jb.get27 hjN'.1)
            have u1 : X12.cell? ⟨jx, 1, none⟩ = some (.int .i64 j1.ask.frm) := ((hs12.box 0 rfl).cell 1).trans (by rw [Jb.get_ask (by omega) hjN'.1]; exact j1.ask.get1)
            have u3 : X12.cell? ⟨nx, 3, none⟩ = some (.int .i64 b) := ((hs12.box 1 rfl).cell 3).trans (by rw [← hbk]; exact n.get3)
            have uj := TJob.ld_at hjN' (hs12.box 0 rfl).whole
            clear hsd hs12 hSn hjN'
            go_wp2_with fail
            refine wp_region_held_drew (S := (fun X : World => X.cell? ⟨hb, 10, none⟩ = some (.map (some p.jb)) ∧ X.cell? ⟨nx, 3, none⟩ = some (.int .i64 b) ∧ (TJob.ld (.pointer (some ⟨jx, 0, none⟩))).run Tryd.prog X = .ok (.agg j1.cells) X)) (by kernel_rfl) (HM0.out) (fun hHeld => ?_)
            refine rgn 0 (v := ?vq33) hHeld ?yq33 ?_
            case yq33 => (intro w hSw; obtain ⟨k0, k1, k2⟩ := hSw; go_simp; try with_reducible rfl)
            simp only [Act.put, rn1, rn2, rn3, rn4, rn5, rn6]
            refine rgn 1 (v := ?vq34) hHeld ?yq34 ?_
            case yq34 => (intro w hSw; obtain ⟨k0, k1, k2⟩ := hSw; go_simp; try with_reducible rfl)
            simp only [Act.put, rn1, rn2, rn3, rn4, rn5, rn6]
            refine rgn 2 (v := ?vq35) hHeld ?yq35 ?_
            case yq35 => (intro w hSw; obtain ⟨k0, k1, k2⟩ := hSw; go_simp; try with_reducible rfl)
            simp only [Act.put, rn1, rn2, rn3, rn4, rn5, rn6]
            refine rgn 3 (v := ?vq36) hHeld ?yq36 ?_
            case yq36 => (intro w hSw; obtain ⟨k0, k1, k2⟩ := hSw; go_simp; try with_reducible rfl)
            simp only [Act.put, rn1, rn2, rn3, rn4, rn5, rn6]
            refine rgn 4 (v := ?vq37) hHeld ?yq37 ?_
            case yq37 => (intro w hSw; obtain ⟨k0, k1, k2⟩ := hSw; go_simp; try with_reducible rfl)
            simp only [Act.put, rn1, rn2, rn3, rn4, rn5, rn6]
            refine rgn 5 (v := ?vq38) hHeld ?yq38 ?_
            case yq38 => (intro w hSw; obtain ⟨k0, k1, k2⟩ := hSw; go_simp; try with_reducible rfl)
            simp only [Act.put, rn1, rn2, rn3, rn4, rn5, rn6]
            refine rgn 6 (v := ?vq39) hHeld ?yq39 ?_
            case yq39 => (intro w hSw; obtain ⟨k0, k1, k2⟩ := hSw; go_simp; try with_reducible rfl)
            simp only [Act.put, rn1, rn2, rn3, rn4, rn5, rn6]
            refine reg_step (i := 7) (by kernel_rfl) rfl (by kernel_rfl) (fun K hK => ?_)
            go_simp
            have HS := HM1.out
            refine hK.out _ _ HS (fun hHeld2 => ?_)
            clear hK hHeld2 hHeld; have hHeld := HS; clear HS
            try simp only [Act.put, rn1, rn2, rn3, rn4, rn5, rn6]
            refine wpAnyH_done (by kernel_rfl) ?_ _
            clear hHeld HM0 HM1 x5
            by_cases hwz : j1.wait = 0#32
            · have hw0 : (((j1.wait.toNat : Nat) : Int) != 0) = false := by simp [hwz]
              cases hrf : j1.ref
              · rw [hrf] at u26
                have htk3 := HTK3.out
                simp only [hwz, hrf, ne_eq, not_true_eq_false, if_false, Bool.false_eq_true] at htk3
                have HTK4 := Lib.hid htk3
                have HANS := Lib.hid (answer_is ((HS13.out.drop 0 (by simp)).drop 0 (by simp)) HTB.out j1 HJK.out (by rw [HJKB.out]; exact HBB.out.1) (by rw [HJKB.out]; exact HBB.out.2))
                clear htk3 hwz HTK3 hrf
                go_wp2_with fail
                refine HANS.out.mono ?_
                rintro e X14 ⟨g, rfl, hs14⟩
                have hns : (answerP { S with B := S.B, J := updI S.J n.blk (some j1) } j1).2.cells.size = 24 := (Nt.Ok.isN (show IsU (answerP { S with B := S.B, J := updI S.J n.blk (some j1) } j1).2.D from HBU.out _)).1
                have HS15 := Lib.hid (hs14.head (Φ' := outO (sl g 1 1) [(answerP { S with B := S.B, J := updI S.J n.blk (some j1) } j1).2]) (fun F hF => out_one hns hF))
                clear hs14 hns
                go_wp2
                go_ret2
                refine ⟨sl g 1 1, ?_⟩
                rw [← HTK4.out]
                exact ⟨rfl, HS15.out⟩
              · rw [hrf] at u26
                have htk3 := HTK3.out
                simp only [hwz, hrf, ne_eq, not_true_eq_false, if_false, if_true] at htk3
                have y2 := fun w => bd_stamp 7 j1.ask.frm b j1.least w
                have hnS : (ntAsk 7 j1.ask.frm b j1.least).cells.size = 24 := (Nt.Ok.isN (n := ntAsk 7 j1.ask.frm b j1.least) BU.isU_Z).1
                have y3 := fun w => bsN_run hnS w
                have hs14 := ((HS13.out.alloc (ntAsk 7 j1.ask.frm b j1.least).cells NT).head (Φ' := outO (sl X12.heap.size 1 1) [ntAsk 7 j1.ask.frm b j1.least]) (fun F hF => out_one hnS hF))
                have hu14 := Upd.alloc NoF X12 (.cells (ntAsk 7 j1.ask.frm b j1.least).cells NT)
                obtain ⟨X14, hX14⟩ : ∃ X14, X12.alloc (.cells (ntAsk 7 j1.ask.frm b j1.least).cells NT) = X14 := ⟨_, rfl⟩
                obtain ⟨gx, hgx⟩ : ∃ gx, X12.heap.size = gx := ⟨_, rfl⟩
                rw [hX14] at hs14 hu14
                rw [hgx] at hs14
                have u3' : X14.cell? ⟨nx, 3, none⟩ = some (.int .i64 b) := hu14.cell u3 (fun h => h)
                have hs15 := (hs14.drop 1 (by simp)).drop 1 (by simp)
                have hE0 := end_is (hb := hb) (mb := mb) hs15.swap HTB.out n.blk HBB.out.1 HBB.out.2
                have hEU := end_facts (S := { S with B := S.B, J := updI S.J n.blk (some j1) }) (b := n.blk) (good_heard HFI.out.good HJK.out HJKB.out HBB.out.1 HBB.out.2 HBU.out)
                obtain ⟨t, ht⟩ : ∃ t, endP { S with B := S.B, J := updI S.J n.blk (some j1) } n.blk = t := ⟨_, rfl⟩
                rw [ht] at hE0 htk3 hEU
                rw [hbk] at hE0
                have HEND := Lib.hid hE0
                have HTK4 := Lib.hid htk3
                have HEU := Lib.hid hEU
                clear hE0 hEU ht
                have HX14 := Lib.hid hX14; have HGX := Lib.hid hgx
                clear htk3 hwz HTK3 hrf hs14 hs15 hu14 hX14 hgx uj
                go_upto_region 23 with fail
                rw [HX14.out, HGX.out]
                clear y2 y3 u1 u24 u26 u27 u3 hnS
                go_wp2_with fail
                refine HEND.out.mono ?_
                rintro e X16 ⟨v2, rfl, hs16⟩
                obtain ⟨v', X17, hrun, hs17⟩ := s_cat hs16 2 0 rfl rfl HEU.out.2 (by have := HEU.out.1; simp; omega)
                obtain ⟨v9, hv9⟩ : ∃ v9, v9 = v' := ⟨_, rfl⟩
                rw [← hv9] at hrun hs17
                clear hv9
                have HR2 := Lib.hid hrun
                have HS17 := Lib.hid ((hs17.drop 0 (by simp)).swap)
                clear hrun hs17 hs16
                go_wp2_with (at_builtin; refine wpList_append_run (w := X16) rfl _ _ NS rfl rfl rfl HR2.out ?_)
                go_ret2
                rw [hbk] at HTK4
                rw [← HTK4.out]
                exact ⟨v9, rfl, HS17.out⟩
            · have hw0 : (((j1.wait.toNat : Nat) : Int) != 0) = true := by
                have : j1.wait.toNat ≠ 0 := fun e => hwz (BitVec.eq_of_toNat_eq (by simpa using e))
                simp; omega
              have htk3 := HTK3.out
              simp only [ne_eq, hwz, not_false_eq_true, if_true] at htk3
              have HTK4 := Lib.hid htk3
              clear htk3 hwz HTK3 uj
              go_wp2
              go_ret2
              refine ⟨.slice none 0 0, ?_⟩
              rw [← HTK4.out]
              exact ⟨rfl, out_nil ((HS13.out.drop 0 (by simp)).drop 0 (by simp))⟩
          · rw [hhas] at y6
            have hs7d := HS7.out.upd0 (Upd.drew NoF X7)
            have hD := HN.out.isU
            have HB4 := Lib.hid (hs7d.call 3 rfl (fun F hF => ME.setBlock_ok hF (by omega) b (by omega) n.D hD))
            have HMB0 : Hid ((fun X : World => X.cell? ⟨hb, 8, none⟩ = some (ptr mb) ∧ X.cell? ⟨nx, 3, none⟩ = some (.int .i64 b) ∧ (TBlk.ld (.pointer (some ⟨nx, 8, none⟩))).run Tryd.prog X = .ok (.agg n.D) X) X7.drew) := Lib.hid ⟨(hs7d.box 2 rfl).cell 8, ((hs7d.box 1 rfl).cell 3).trans (by rw [← hbk]; exact n.get3), TBlk.ld_at hD.isN ((hs7d.box 1 rfl).range 8 _ (fun j v hv => by rw [Nt.getD]; simpa using hv))⟩
            have HKB : Hid (∀ X, Sep NoF w0 X (boxO jx j1.cells JT :: boxO nx n.cells NT :: boxO hb (S.cells mb p) HT :: memO mb S.c.blocks.toNat (updG S.B b n.D) :: boxO p.eb (rowG 2 S.n (fun i => (S.E i).cells) ++ p.tl) ET' :: GM.mapO jobsT p.jb (cntJ S.J S.n) (jobF S.J) :: PN.Po (ptr p.pb) (S.Q.map Nt.cells) S.room :: L) → (fun X : World => X.cell? ⟨hb, 8, none⟩ = some (ptr mb) ∧ X.cell? ⟨nx, 3, none⟩ = some (.int .i64 b) ∧ (TBlk.ld (.pointer (some ⟨nx, 8, none⟩))).run Tryd.prog X = .ok (.agg n.D) X) X) := Lib.hid (fun X hx => ⟨(hx.box 2 rfl).cell 8, ((hx.box 1 rfl).cell 3).trans (by rw [← hbk]; exact n.get3), TBlk.ld_at hD.isN ((hx.box 1 rfl).range 8 _ (fun j v hv => by rw [Nt.getD]; simpa using hv))⟩)
            have HBU : Hid (∀ i, IsU ((updG S.B b n.D) i)) := Lib.hid (fun i => by unfold updG; split; exact hD; exact HFI.out.good.isU i)
            have HTK3 : Hid ((if j1.wait ≠ 0#32 then (({ S with B := (updG S.B b n.D), J := updI S.J n.blk (some j1) } : Hs), ([] : List Nt), (0 : Int)) else if j1.ref then ((endP { S with B := (updG S.B b n.D), J := updI S.J n.blk (some j1) } n.blk).1, ntNack j1.ask.frm n.blk j1.least :: (endP { S with B := (updG S.B b n.D), J := updI S.J n.blk (some j1) } n.blk).2, 0) else ((answerP { S with B := (updG S.B b n.D), J := updI S.J n.blk (some j1) } j1).1, [(answerP { S with B := (updG S.B b n.D), J := updI S.J n.blk (some j1) } j1).2], 0)) = tk) := Lib.hid (by
              rw [← HTK2.out, ← show heardP S n j = j1 from hhd]
              unfold tookP
              simp only [hhas, if_true, show n.blk.toNat = b by rw [hbk]; rfl]
              split
              · rfl
              · split <;> rfl)
            clear hs7d hD hhd hhas hk10 HS7
            go_wp2_with fail
            refine wp_region_held_drew (S := (fun X : World => X.cell? ⟨hb, 8, none⟩ = some (ptr mb) ∧ X.cell? ⟨nx, 3, none⟩ = some (.int .i64 b) ∧ (TBlk.ld (.pointer (some ⟨nx, 8, none⟩))).run Tryd.prog X = .ok (.agg n.D) X)) (by kernel_rfl) (HMB0.out) (fun hHeld => ?_)
            refine rgn 0 (v := ?vq40) hHeld ?yq40 ?_
            case yq40 => (intro w hSw; obtain ⟨k0, k1, k2⟩ := hSw; go_simp; try with_reducible rfl)
            simp only [Act.put, rn1, rn2, rn3, rn4, rn5, rn6]
            refine rgn 1 (v := ?vq41) hHeld ?yq41 ?_
            case yq41 => (intro w hSw; obtain ⟨k0, k1, k2⟩ := hSw; go_simp; try with_reducible rfl)
            simp only [Act.put, rn1, rn2, rn3, rn4, rn5, rn6]
            refine rgn 2 (v := ?vq42) hHeld ?yq42 ?_
            case yq42 => (intro w hSw; obtain ⟨k0, k1, k2⟩ := hSw; go_simp; try with_reducible rfl)
            simp only [Act.put, rn1, rn2, rn3, rn4, rn5, rn6]
            refine rgn 3 (v := ?vq43) hHeld ?yq43 ?_
            case yq43 => (intro w hSw; obtain ⟨k0, k1, k2⟩ := hSw; go_simp; try with_reducible rfl)
            simp only [Act.put, rn1, rn2, rn3, rn4, rn5, rn6]
            refine rgn 4 (v := ?vq44) hHeld ?yq44 ?_
            case yq44 => (intro w hSw; obtain ⟨k0, k1, k2⟩ := hSw; go_simp; try with_reducible rfl)
            simp only [Act.put, rn1, rn2, rn3, rn4, rn5, rn6]
            refine rgn 5 (v := ?vq45) hHeld ?yq45 ?_
            case yq45 => (intro w hSw; obtain ⟨k0, k1, k2⟩ := hSw; go_simp; try with_reducible rfl)
            simp only [Act.put, rn1, rn2, rn3, rn4, rn5, rn6]
            refine rgn 6 (v := ?vq46) hHeld ?yq46 ?_
            case yq46 => (intro w hSw; obtain ⟨k0, k1, k2⟩ := hSw; go_simp; try with_reducible rfl)
            simp only [Act.put, rn1, rn2, rn3, rn4, rn5, rn6]
            refine rgn 7 (v := ?vq47) hHeld ?yq47 ?_
            case yq47 => (intro w hSw; obtain ⟨k0, k1, k2⟩ := hSw; go_simp; try with_reducible rfl)
            simp only [Act.put, rn1, rn2, rn3, rn4, rn5, rn6]
            refine reg_step (i := 8) (by kernel_rfl) rfl (by kernel_rfl) (fun K hK => ?_)
            go_simp
            refine HB4.out.mono ?_
            rintro e X8 ⟨rfl, hs8⟩
            have hs8 : Sep NoF w0 X8 (boxO jx j1.cells JT :: boxO nx n.cells NT :: boxO hb (S.cells mb p) HT :: memO mb S.c.blocks.toNat (updG S.B b n.D) :: boxO p.eb (rowG 2 S.n (fun i => (S.E i).cells) ++ p.tl) ET' :: GM.mapO jobsT p.jb (cntJ S.J S.n) (jobF S.J) :: PN.Po (ptr p.pb) (S.Q.map Nt.cells) S.room :: L) := hs8
            have HS := HKB.out _ hs8
            have HSX : Hid (Sep NoF w0 X8 (boxO jx j1.cells JT :: boxO nx n.cells NT :: boxO hb (S.cells mb p) HT :: memO mb S.c.blocks.toNat (updG S.B b n.D) :: boxO p.eb (rowG 2 S.n (fun i => (S.E i).cells) ++ p.tl) ET' :: GM.mapO jobsT p.jb (cntJ S.J S.n) (jobF S.J) :: PN.Po (ptr p.pb) (S.Q.map Nt.cells) S.room :: L)) := Lib.hid hs8
            have w0b : X8.cell? ⟨nx, 0, none⟩ = some (.int .u8 n.kind) := ((hs8.box 1 rfl).cell 0).trans n.get0
            clear hs8
            go_wp2_with fail
            refine hK.out _ _ HS (fun hHeld2 => ?_)
            clear hK hHeld2 hHeld; have hHeld := HS; clear HS
            try simp only [Act.put, rn1, rn2, rn3, rn4, rn5, rn6]
            refine wpAnyH_done (by kernel_rfl) ?_ _
            clear hHeld HB4 HMB0 HKB y6 w0'
            go_upto_region 18 with fail
            clear hkt w0b
            have hjN' := Jb.isN HJK.out
            have hsd := HSX.out.upd0 (Upd.drew NoF X8)
            have hcnt := cntJ_le S.J S.n
            obtain ⟨X12, x5, hs12, -⟩ := GM.mapPut hsd 5 rfl (by unfold maxLen; omega) (a := (b : Int)) (GM.fit_of (by omega)) (.agg j1.cells)
            simp only [List.set_cons_zero, List.set_cons_succ, putN_cnt hbn j1, put_jobF] at hs12
            change (Instr.mapUpdate 100 (.map (some p.jb)) (.int .i64 b) (.agg j1.cells)).run Tryd.prog X8.drew = .ok () X12 at x5
            have HM0 : Hid ((fun X : World => X.cell? ⟨hb, 10, none⟩ = some (.map (some p.jb)) ∧ X.cell? ⟨nx, 3, none⟩ = some (.int .i64 b) ∧ (TJob.ld (.pointer (some ⟨jx, 0, none⟩))).run Tryd.prog X = .ok (.agg j1.cells) X) X8.drew) := Lib.hid ⟨(hsd.box 2 rfl).cell 10, ((hsd.box 1 rfl).cell 3).trans (by rw [← hbk]; exact n.get3), TJob.ld_at hjN' (hsd.box 0 rfl).whole⟩
            have HM1 : Hid ((fun X : World => X.cell? ⟨hb, 10, none⟩ = some (.map (some p.jb)) ∧ X.cell? ⟨nx, 3, none⟩ = some (.int .i64 b) ∧ (TJob.ld (.pointer (some ⟨jx, 0, none⟩))).run Tryd.prog X = .ok (.agg j1.cells) X) X12) := Lib.hid ⟨(hs12.box 2 rfl).cell 10, ((hs12.box 1 rfl).cell 3).trans (by rw [← hbk]; exact n.get3), TJob.ld_at hjN' (hs12.box 0 rfl).whole⟩
            have hSn : Fits { S with B := (updG S.B b n.D), J := updI S.J n.blk (some j1) } p := ⟨good_heard HFI.out.good HJK.out HJKB.out HBB.out.1 HBB.out.2 HBU.out, HFI.out.cap, HFI.out.tl⟩
            have HS13 : Hid (Sep NoF w0 X12 (boxO jx j1.cells JT :: boxO nx n.cells NT :: homeO hb mb { S with B := (updG S.B b n.D), J := updI S.J n.blk (some j1) } :: L)) := Lib.hid (by
              rw [← hbk] at hs12
              exact ⟨hs12.upd, own_tail (fun _ h => own_tail (fun _ h => own_home_shut hSn h) h) hs12.own⟩)
            have u24 : X12.cell? ⟨jx, 24, none⟩ = some (VM j1.wait) := ((hs12.box 0 rfl).cell 24).trans (Jb.get24 hjN'.1)
            have u26 : X12.cell? ⟨jx, 26, none⟩ = some (.bool j1.ref) := ((hs12.box 0 rfl).cell 26).trans (Jb.get26 hjN'.1)
            have u27 : X12.cell? ⟨jx, 27, none⟩ = some (.int .u64 j1.least) := ((hs12.box 0 rfl).cell 27).trans (Jb.get27 hjN'.1)
            have u1 : X12.cell? ⟨jx, 1, none⟩ = some (.int .i64 j1.ask.frm) := ((hs12.box 0 rfl).cell 1).trans (by rw [Jb.get_ask (by omega) hjN'.1]; exact j1.ask.get1)
            have u3 : X12.cell? ⟨nx, 3, none⟩ = some (.int .i64 b) := ((hs12.box 1 rfl).cell 3).trans (by rw [← hbk]; exact n.get3)
            have uj := TJob.ld_at hjN' (hs12.box 0 rfl).whole
            clear hsd hs12 hSn hjN'
            go_wp2_with fail
            refine wp_region_held_drew (S := (fun X : World => X.cell? ⟨hb, 10, none⟩ = some (.map (some p.jb)) ∧ X.cell? ⟨nx, 3, none⟩ = some (.int .i64 b) ∧ (TJob.ld (.pointer (some ⟨jx, 0, none⟩))).run Tryd.prog X = .ok (.agg j1.cells) X)) (by kernel_rfl) (HM0.out) (fun hHeld => ?_)
            refine rgn 0 (v := ?vq48) hHeld ?yq48 ?_
            case yq48 => (intro w hSw; obtain ⟨k0, k1, k2⟩ := hSw; go_simp; try with_reducible rfl)
            simp only [Act.put, rn1, rn2, rn3, rn4, rn5, rn6]
            refine rgn 1 (v := ?vq49) hHeld ?yq49 ?_
            case yq49 => (intro w hSw; obtain ⟨k0, k1, k2⟩ := hSw; go_simp; try with_reducible rfl)
            simp only [Act.put, rn1, rn2, rn3, rn4, rn5, rn6]
            refine rgn 2 (v := ?vq50) hHeld ?yq50 ?_
            case yq50 => (intro w hSw; obtain ⟨k0, k1, k2⟩ := hSw; go_simp; try with_reducible rfl)
            simp only [Act.put, rn1, rn2, rn3, rn4, rn5, rn6]
            refine rgn 3 (v := ?vq51) hHeld ?yq51 ?_
            case yq51 => (intro w hSw; obtain ⟨k0, k1, k2⟩ := hSw; go_simp; try with_reducible rfl)
            simp only [Act.put, rn1, rn2, rn3, rn4, rn5, rn6]
            refine rgn 4 (v := ?vq52) hHeld ?yq52 ?_
            case yq52 => (intro w hSw; obtain ⟨k0, k1, k2⟩ := hSw; go_simp; try with_reducible rfl)
            simp only [Act.put, rn1, rn2, rn3, rn4, rn5, rn6]
            refine rgn 5 (v := ?vq53) hHeld ?yq53 ?_
            case yq53 => (intro w hSw; obtain ⟨k0, k1, k2⟩ := hSw; go_simp; try with_reducible rfl)
            simp only [Act.put, rn1, rn2, rn3, rn4, rn5, rn6]
            refine rgn 6 (v := ?vq54) hHeld ?yq54 ?_
            case yq54 => (intro w hSw; obtain ⟨k0, k1, k2⟩ := hSw; go_simp; try with_reducible rfl)
            simp only [Act.put, rn1, rn2, rn3, rn4, rn5, rn6]
            refine reg_step (i := 7) (by kernel_rfl) rfl (by kernel_rfl) (fun K hK => ?_)
            go_simp
            have HS := HM1.out
            refine hK.out _ _ HS (fun hHeld2 => ?_)
            clear hK hHeld2 hHeld; have hHeld := HS; clear HS
            try simp only [Act.put, rn1, rn2, rn3, rn4, rn5, rn6]
            refine wpAnyH_done (by kernel_rfl) ?_ _
            clear hHeld HM0 HM1 x5
            by_cases hwz : j1.wait = 0#32
            · have hw0 : (((j1.wait.toNat : Nat) : Int) != 0) = false := by simp [hwz]
              cases hrf : j1.ref
              · rw [hrf] at u26
                have htk3 := HTK3.out
                simp only [hwz, hrf, ne_eq, not_true_eq_false, if_false, Bool.false_eq_true] at htk3
                have HTK4 := Lib.hid htk3
                have HANS := Lib.hid (answer_is ((HS13.out.drop 0 (by simp)).drop 0 (by simp)) HTB.out j1 HJK.out (by rw [HJKB.out]; exact HBB.out.1) (by rw [HJKB.out]; exact HBB.out.2))
                clear htk3 hwz HTK3 hrf
                go_wp2_with fail
                refine HANS.out.mono ?_
                rintro e X14 ⟨g, rfl, hs14⟩
                have hns : (answerP { S with B := (updG S.B b n.D), J := updI S.J n.blk (some j1) } j1).2.cells.size = 24 := (Nt.Ok.isN (show IsU (answerP { S with B := (updG S.B b n.D), J := updI S.J n.blk (some j1) } j1).2.D from HBU.out _)).1
                have HS15 := Lib.hid (hs14.head (Φ' := outO (sl g 1 1) [(answerP { S with B := (updG S.B b n.D), J := updI S.J n.blk (some j1) } j1).2]) (fun F hF => out_one hns hF))
                clear hs14 hns
                go_wp2
                go_ret2
                refine ⟨sl g 1 1, ?_⟩
                rw [← HTK4.out]
                exact ⟨rfl, HS15.out⟩
              · rw [hrf] at u26
                have htk3 := HTK3.out
                simp only [hwz, hrf, ne_eq, not_true_eq_false, if_false, if_true] at htk3
                have y2 := fun w => bd_stamp 7 j1.ask.frm b j1.least w
                have hnS : (ntAsk 7 j1.ask.frm b j1.least).cells.size = 24 := (Nt.Ok.isN (n := ntAsk 7 j1.ask.frm b j1.least) BU.isU_Z).1
                have y3 := fun w => bsN_run hnS w
                have hs14 := ((HS13.out.alloc (ntAsk 7 j1.ask.frm b j1.least).cells NT).head (Φ' := outO (sl X12.heap.size 1 1) [ntAsk 7 j1.ask.frm b j1.least]) (fun F hF => out_one hnS hF))
                have hu14 := Upd.alloc NoF X12 (.cells (ntAsk 7 j1.ask.frm b j1.least).cells NT)
                obtain ⟨X14, hX14⟩ : ∃ X14, X12.alloc (.cells (ntAsk 7 j1.ask.frm b j1.least).cells NT) = X14 := ⟨_, rfl⟩
                obtain ⟨gx, hgx⟩ : ∃ gx, X12.heap.size = gx := ⟨_, rfl⟩
                rw [hX14] at hs14 hu14
                rw [hgx] at hs14
                have u3' : X14.cell? ⟨nx, 3, none⟩ = some (.int .i64 b) := hu14.cell u3 (fun h => h)
                have hs15 := (hs14.drop 1 (by simp)).drop 1 (by simp)
                have hE0 := end_is (hb := hb) (mb := mb) hs15.swap HTB.out n.blk HBB.out.1 HBB.out.2
                have hEU := end_facts (S := { S with B := (updG S.B b n.D), J := updI S.J n.blk (some j1) }) (b := n.blk) (good_heard HFI.out.good HJK.out HJKB.out HBB.out.1 HBB.out.2 HBU.out)
                obtain ⟨t, ht⟩ : ∃ t, endP { S with B := (updG S.B b n.D), J := updI S.J n.blk (some j1) } n.blk = t := ⟨_, rfl⟩
                rw [ht] at hE0 htk3 hEU
                rw [hbk] at hE0
                have HEND := Lib.hid hE0
                have HTK4 := Lib.hid htk3
                have HEU := Lib.hid hEU
                clear hE0 hEU ht
                have HX14 := Lib.hid hX14; have HGX := Lib.hid hgx
                clear htk3 hwz HTK3 hrf hs14 hs15 hu14 hX14 hgx uj
                go_upto_region 23 with fail
                rw [HX14.out, HGX.out]
                clear y2 y3 u1 u24 u26 u27 u3 hnS
                go_wp2_with fail
                refine HEND.out.mono ?_
                rintro e X16 ⟨v2, rfl, hs16⟩
                obtain ⟨v', X17, hrun, hs17⟩ := s_cat hs16 2 0 rfl rfl HEU.out.2 (by have := HEU.out.1; simp; omega)
                obtain ⟨v9, hv9⟩ : ∃ v9, v9 = v' := ⟨_, rfl⟩
                rw [← hv9] at hrun hs17
                clear hv9
                have HR2 := Lib.hid hrun
                have HS17 := Lib.hid ((hs17.drop 0 (by simp)).swap)
                clear hrun hs17 hs16
                go_wp2_with (at_builtin; refine wpList_append_run (w := X16) rfl _ _ NS rfl rfl rfl HR2.out ?_)
                go_ret2
                rw [hbk] at HTK4
                rw [← HTK4.out]
                exact ⟨v9, rfl, HS17.out⟩
            · have hw0 : (((j1.wait.toNat : Nat) : Int) != 0) = true := by
                have : j1.wait.toNat ≠ 0 := fun e => hwz (BitVec.eq_of_toNat_eq (by simpa using e))
                simp; omega
              have htk3 := HTK3.out
              simp only [ne_eq, hwz, not_false_eq_true, if_true] at htk3
              have HTK4 := Lib.hid htk3
              clear htk3 hwz HTK3 uj
              go_wp2
              go_ret2
              refine ⟨.slice none 0 0, ?_⟩
              rw [← HTK4.out]
              exact ⟨rfl, out_nil ((HS13.out.drop 0 (by simp)).drop 0 (by simp))⟩
    · have HA := Lib.hid (hask ▸ HASK.out X4)
      have HASKX := Lib.hid (hask ▸ asks_any n)
      cases hbz : busy
      · have hjn : S.J n.blk = none := by
          have := HBUSY.out; rw [hbz] at this; simpa using this
        have htk := HTK.out
        rw [take_begin HRZ.out hjn] at htk
        have HTK2 := Lib.hid htk
        clear hask hjn htk HTK HASK
        subst hbz
        go_wp2_with fail
        refine HA.out.mono ?_
        rintro e w5 ⟨rfl, hu5⟩
        have hu5' := HU4.out.trans hu5 (fun _ _ h => h)
        obtain ⟨l5, y0, y3, -, -⟩ := HF.out _ hu5'
        have HH5 := Lib.hid (HH.out.upd0 hu5)
        have HA5 := Lib.hid (HASKX.out w5)
        clear hu5 l4 z0 z3 z10 z11
        go_wp2_with fail
        refine HA5.out.mono ?_
        rintro e w6 ⟨rfl, hu6⟩
        have hu6' := hu5'.trans hu6 (fun _ _ h => h)
        obtain ⟨l6, x0, x3, -, -⟩ := HF.out _ hu6'
        have HB := Lib.hid (begin_is (HH5.out.upd0 hu6) HTB.out n HN.out HBB.out.1 HBB.out.2)
        clear hu6 hu6' hu5' l5 y0 y3
        go_wp2_with fail
        refine HB.out.mono ?_
        rintro e w7 ⟨v, rfl, hs7⟩
        have HS7 := Lib.hid hs7
        clear hs7
        go_wp2
        go_ret2
        refine ⟨v, ?_⟩
        rw [← HTK2.out]
        exact ⟨rfl, HS7.out⟩
      · have hjs : (S.J n.blk).isSome = true := by rw [HBUSY.out, hbz]
        have htk := HTK.out
        rw [take_wait HRZ.out hask hjs] at htk
        have hrm := HROOM.out hask hjs
        have HTK2 := Lib.hid htk
        have HRM := Lib.hid hrm
        clear hask hjs htk HTK HASK hrm
        subst hbz
        go_wp2_with fail
        refine HA.out.mono ?_
        rintro e w5 ⟨rfl, hu5⟩
        have hs5 := (HS.out.upd0 hu5).upd0 (Upd.drew NoF w5)
        have HP := Lib.hid (hs5.call 6 rfl (fun F hF => PN.put_ok w5.drew F p.pb (S.Q.map Nt.cells) S.room n.cells HNN.out hF (by rw [List.length_map]; exact HRM.out) (by omega)))
        have HM0 : Hid ((fun X : World => X.cell? ⟨hb, 11, none⟩ = some (ptr p.pb) ∧ (TNot.ld (.pointer (some ⟨nx, 0, none⟩))).run Tryd.prog X = .ok (.agg n.cells) X) w5.drew) := Lib.hid ⟨(hs5.box 2 rfl).cell 11, TNot.ld_at HNN.out (hs5.box 1 rfl).whole⟩
        have hSn : Fits { S with Q := S.Q ++ [n] } p := ⟨good_wait HFI.out.good HN.out HRM.out, HFI.out.cap, HFI.out.tl⟩
        have HSN := Lib.hid hSn
        have emap : S.Q.map Nt.cells ++ [n.cells] = (S.Q ++ [n]).map Nt.cells := by simp
        rw [emap] at HP
        clear hs5 hu5 l4 z0 z3 z10 z11 hSn emap
        go_wp2_with fail
        refine wp_region_held_drew (S := (fun X : World => X.cell? ⟨hb, 11, none⟩ = some (ptr p.pb) ∧ (TNot.ld (.pointer (some ⟨nx, 0, none⟩))).run Tryd.prog X = .ok (.agg n.cells) X)) (by kernel_rfl) (HM0.out) (fun hHeld => ?_)
        refine rgn 0 (v := ?vq55) hHeld ?yq55 ?_
        case yq55 => (intro w hSw; obtain ⟨k0, k1⟩ := hSw; go_simp; try with_reducible rfl)
        simp only [Act.put, rn1, rn2, rn3, rn4, rn5, rn6]
        refine rgn 1 (v := ?vq56) hHeld ?yq56 ?_
        case yq56 => (intro w hSw; obtain ⟨k0, k1⟩ := hSw; go_simp; try with_reducible rfl)
        simp only [Act.put, rn1, rn2, rn3, rn4, rn5, rn6]
        refine rgn 2 (v := ?vq57) hHeld ?yq57 ?_
        case yq57 => (intro w hSw; obtain ⟨k0, k1⟩ := hSw; go_simp; try with_reducible rfl)
        simp only [Act.put, rn1, rn2, rn3, rn4, rn5, rn6]
        refine rgn 3 (v := ?vq58) hHeld ?yq58 ?_
        case yq58 => (intro w hSw; obtain ⟨k0, k1⟩ := hSw; go_simp; try with_reducible rfl)
        simp only [Act.put, rn1, rn2, rn3, rn4, rn5, rn6]
        refine rgn 4 (v := ?vq59) hHeld ?yq59 ?_
        case yq59 => (intro w hSw; obtain ⟨k0, k1⟩ := hSw; go_simp; try with_reducible rfl)
        simp only [Act.put, rn1, rn2, rn3, rn4, rn5, rn6]
        refine reg_step (i := 5) (by kernel_rfl) rfl (by kernel_rfl) (fun K hK => ?_)
        go_simp
        refine HP.out.mono ?_
        rintro e w6 ⟨rfl, hs6⟩
        have HS : (fun X : World => X.cell? ⟨hb, 11, none⟩ = some (ptr p.pb) ∧ (TNot.ld (.pointer (some ⟨nx, 0, none⟩))).run Tryd.prog X = .ok (.agg n.cells) X) w6 := ⟨(hs6.box 2 rfl).cell 11, TNot.ld_at HNN.out (hs6.box 1 rfl).whole⟩
        have HS6 := Lib.hid hs6
        clear hs6
        go_wp2_with fail
        refine hK.out _ _ HS (fun hHeld2 => ?_)
        clear hK hHeld2 hHeld; have hHeld := HS; clear HS
        try simp only [Act.put, rn1, rn2, rn3, rn4, rn5, rn6]
        refine rgn 6 (v := ?vq60) hHeld ?yq60 ?_
        case yq60 => (intro w hSw; go_simp; try with_reducible rfl)
        simp only [Act.put, rn1, rn2, rn3, rn4, rn5, rn6]
        refine rgn 7 (v := ?vq61) hHeld ?yq61 ?_
        case yq61 => (intro w hSw; go_simp; try with_reducible rfl)
        simp only [Act.put, rn1, rn2, rn3, rn4, rn5, rn6]
        refine wpAnyH_done (by kernel_rfl) ?_ _
        clear hHeld HM0 HP
        go_wp2
        go_ret2
        refine ⟨.slice none 0 0, ?_⟩
        rw [← HTK2.out]
        exact ⟨rfl, out_nil (home_shut (S := { S with Q := S.Q ++ [n] }) HSN.out ((HS6.out.drop 0 (by simp)).drop 0 (by simp)))⟩
  · have hrb : (readyP S n != 0) = true := by simp [hr]
    have HSE := Lib.hid (take_err hr)
    generalize readyP S n = r at *
    clear hs hs1 hF0 hV hnx hf hT hA qn hr h h1
    go_enter Tryd.func14, Tryd.ntmps14
    go_upto_region 1 with fail
    rw [HV.out, HNX.out]
    go_wp2_with fail
    refine HR.out.mono ?_
    rintro e w2 ⟨rfl, hu2⟩
    have HS2 := Lib.hid (H1.out.upd0 hu2)
    clear hu2 l0
    go_wp2
    go_ret2
    refine ⟨.slice none 0 0, ?_⟩
    rw [HSE.out]
    exact ⟨rfl, out_nil HS2.out⟩
end
end Go.Proofs.YtlhbnndnkcpomaaDoor.HO
