/- The contracts of package home: an ask ends. -/
import Derived.Test.YtlhbnndnkcpomaaDoorHomeY
import Derived.Test.YtlhbnndnkcpomaaDoorPoolFNote
import Derived.Scope
set_option linter.unusedSimpArgs false
set_option linter.unusedVariables false
namespace Go.Proofs.YtlhbnndnkcpomaaDoor.HO
open Go.RowKit
open BU (IsU words)
open PL (Cfg CC CV May)
open ME (memO sl)
attribute [local go_sem] Oper.semAt_some
attribute [local go_sem ↓] TNot.ld_eq TNot.st_eq TNot.al_eq TNot.bx_eq TJob.ld_eq TJob.st_eq TJob.al_eq TJob.bx_eq
attribute [local go_sem] TNot.al_run TNot.bx_run TJob.al_run TJob.bx_run
abbrev NS : TypeId := 36
theorem map_erase {α β : Type} (f : α → β) : ∀ (l : List α) (i : Nat), (l.eraseIdx i).map f = (l.map f).eraseIdx i
  | [], _ => rfl
  | _ :: _, 0 => rfl
  | a :: l, i + 1 => by simp [map_erase f l i]
/-- One row of notes behind another. -/
theorem s_cat {G : Nat → Prop} {w0 W : World} {L : List Obj} (h : Sep G w0 W L) (i k : Nat) {v u : Value} {ns ms : List Nt} (hi : L[i]? = some (outO v ns)) (hk : L[k]? = some (outO u ms)) (hm : ∀ n ∈ ms, IsU n.D) (hl : ns.length + ms.length ≤ 65536) :
    ∃ v' W', (Builtin.append_ #[NS, NS] NS #[v, u]).run Tryd.prog W = .ok v' W' ∧ Sep G w0 W' (L.set i (outO v' (ns ++ ms))) := by
  obtain ⟨F, hF, hS⟩ := h.step i hi
  obtain ⟨F2, hF2, _⟩ := h.get k hk
  obtain ⟨i0, hi0, hz0, hz1, hz2⟩ := info_parts PN.infoE
  obtain ⟨v9, w9, hrun, hrow9, hg, hf⟩ := run_append_all (P := Tryd.prog) W NS NS NT i0 (.agg TNot.Z) 24 112 Tryd.underlying36 hi0 hz0 hz1 hz2 PN.zsize (by decide) v ns.length _ hF.1 u ms.length _ hF2.1
    (flat_one (c := 24) (fun x hx => by obtain ⟨n, hn, rfl⟩ := List.mem_map.1 hx; exact Nt.Ok.isN (hm n hn))) (by unfold maxLen; omega) (by omega)
  refine ⟨v9, w9, hrun, hS _ _ (Upd.grown (F := F) hg (fun k hk hlt => ⟨hF.2 k hk, hF.1.isCells k hk⟩)) ⟨?_, fun k hk => ?_⟩⟩
  · have e : (rowsOf ((ns ++ ms).map Nt.cells)).flatten = (rowsOf (ns.map Nt.cells)).flatten ++ (rowsOf (ms.map Nt.cells)).flatten := by simp [rowsOf]
    rw [e, List.length_append]
    exact hrow9
  · rcases hf with e | ⟨g, e, hge⟩
    · rw [e] at hk; exact .inl (hF.2 k hk)
    · rw [e] at hk; cases hk; exact .inr hge
theorem begin_is {w0 W : World} {hb mb : Nat} {S : Hs} {L : List Obj} (h : Sep NoF w0 W (homeO hb mb S :: L)) (hT : Tab w0) (n : Nt) (hn : n.Ok) (h0 : 0 ≤ n.blk) (h1 : n.blk < S.data) : Calls Tryd.prog 46 #[ptr hb, .agg n.cells] W fun e W' =>
    ∃ v, e = .returned v ∧ Sep NoF w0 W' (outO v (beginP S n).2 :: homeO hb mb (beginP S n).1 :: L) := by
  by_cases h3 : n.kind = 3
  · exact begin_put h hT n hn h0 h1 h3
  · exact begin_ask h hT n hn h0 h1 h3
/-- What a begin leaves alone; how many notes it makes. -/
theorem begin_facts {S : Hs} (h : ∀ i, IsU (S.B i)) (n : Nt) : (beginP S n).1.c = S.c ∧ (beginP S n).1.Q = S.Q ∧ (beginP S n).2.length ≤ 32 ∧ ∀ m ∈ (beginP S n).2, IsU m.D := by
  unfold beginP
  by_cases h3 : n.kind = 3
  · rw [if_pos h3]
    exact ⟨rfl, rfl, by simp, fun m hm => by simp at hm; subst hm; exact BU.isU_Z⟩
  · rw [if_neg h3]
    by_cases hz : (askedP (S.E n.blk.toNat) n.kind n.frm).1 = 0#32
    · rw [if_pos hz]
      exact ⟨rfl, rfl, by simp, fun m hm => by simp at hm; subst hm; exact h _⟩
    · rw [if_neg hz]
      refine ⟨rfl, rfl, by simp; exact bitsL_length _, fun m hm => ?_⟩
      obtain ⟨x, -, rfl⟩ := List.mem_map.1 hm
      exact BU.isU_Z
/-- How many wait, read out of memory. -/
def qlen (hb : Nat) (X : World) : Nat := match X.cell? ⟨hb, 11, none⟩ with
  | some (.pointer (some a)) => (match X.cell? a with | some (.slice _ n _) => n | _ => 0)
  | _ => 0
theorem qlen_is {G : Nat → Prop} {w0 X : World} {hb mb : Nat} {S : Hs} {L : List Obj} (h : Sep G w0 X (homeO hb mb S :: L)) : qlen hb X = S.Q.length := by
  obtain ⟨p, hf, hs⟩ := home_open h
  have c11 : X.cell? ⟨hb, 11, none⟩ = some (ptr p.pb) := (hs.box 0 rfl).cell 11
  obtain ⟨F, hq⟩ := hs.has 4 rfl
  obtain ⟨a, cap, _, c0, _⟩ := PN.reads hq
  rw [List.length_map] at c0
  unfold qlen
  rw [c11]
  show (match X.cell? ⟨p.pb, 0, none⟩ with | some (.slice _ n _) => n | _ => 0) = _
  rw [c0]
section
variable {w0 W W' : World} {hb mb : Nat} {S : Hs} {L : List Obj}
/-- Is a note about a block? -/
def aboutB (b : Int) (x : Array Value) : Bool := match x[3]? with | some (Value.int _ z) => z == b | _ => false
theorem aboutB_is (b : Int) (n : Nt) : aboutB b n.cells = (n.blk == b) := by unfold aboutB; rw [n.get3]
theorem end1_any (b : Int) (bb : Nat) (n : Nt) (w : World) (hc : w.cell? ⟨bb, 0, none⟩ = some (.int .i64 b)) : Calls Tryd.prog 78 #[.agg n.cells, ptr bb] w fun e w' => e = .returned (.bool (n.blk == b)) ∧ Upd NoF w w' := by
  have hu := Upd.alloc NoF w (.cells n.cells NT)
  have c3 : (w.alloc (.cells n.cells NT)).cell? ⟨w.heap.size, 3, none⟩ = some (.int .i64 n.blk) := ((Blk.new w n.cells NT).cell 3).trans n.get3
  have cb := hu.cell hc (fun h => h)
  obtain ⟨V, hV⟩ : ∃ V, w.alloc (.cells n.cells NT) = V := ⟨_, rfl⟩
  rw [hV] at hu c3 cb
  have HU := Lib.hid hu; have HV := Lib.hid hV
  clear hu hV hc
  generalize n.cells = x at *
  go_enter Tryd.func78, Tryd.ntmps78
  go_upto_region 1 with fail
  rw [HV.out]
  go_wp2
  go_ret
  exact ⟨rfl, HU.out⟩
theorem firstAt_is (Q : List Nt) (b : Int) : firstAt (aboutB b) (Q.map Nt.cells) = match firstQ Q b with | some i => (i : Int) | none => -1 := by
  unfold firstAt firstQ
  rw [List.findIdx?_map]
  have : (aboutB b ∘ Nt.cells) = fun n : Nt => n.blk == b := by funext n; exact aboutB_is b n
  rw [this]
  rfl
theorem loopP_none {k : Nat} {S : Hs} {b : Int} (h : firstQ S.Q b = none) : loopP (k + 1) S b = (S, []) := by
  show (match firstQ S.Q b with | none => _ | some i => _) = _
  rw [h]
theorem loopP_some {k i : Nat} {S : Hs} {b : Int} (h : firstQ S.Q b = some i) : loopP (k + 1) S b = if ((beginP { S with Q := S.Q.eraseIdx i } (S.Q.getD i Nt.nil)).1.J b).isSome then beginP { S with Q := S.Q.eraseIdx i } (S.Q.getD i Nt.nil) else
    ((loopP k (beginP { S with Q := S.Q.eraseIdx i } (S.Q.getD i Nt.nil)).1 b).1, (beginP { S with Q := S.Q.eraseIdx i } (S.Q.getD i Nt.nil)).2 ++ (loopP k (beginP { S with Q := S.Q.eraseIdx i } (S.Q.getD i Nt.nil)).1 b).2) := by
  show (match firstQ S.Q b with | none => _ | some i => _) = _
  rw [h]
theorem firstQ_blk {Q : List Nt} {b : Int} {i : Nat} (h : firstQ Q b = some i) : ∃ n, Q[i]? = some n ∧ n.blk = b ∧ n ∈ Q := by
  unfold firstQ at h
  rw [List.findIdx?_eq_some_iff_getElem] at h
  obtain ⟨h1, h2, _⟩ := h
  exact ⟨Q[i], List.getElem?_eq_getElem h1, by simpa using h2, List.getElem_mem h1⟩
theorem good_erase {S : Hs} (h : Good S) (i : Nat) : Good { S with Q := S.Q.eraseIdx i } :=
  ⟨h.may, h.isU, h.key, fun n hn => h.que n (List.mem_of_mem_eraseIdx hn), by
    have := h.few
    have h2 := List.length_eraseIdx_le S.Q i
    show ((S.Q.eraseIdx i).length : Int) ≤ S.room
    omega⟩
theorem good_none {S : Hs} (h : Good S) (b : Int) : Good { S with J := updI S.J b none } := by
  refine ⟨h.may, h.isU, fun c k hk => ?_, h.que, h.few⟩
  by_cases e : c = b
  · subst e
    have : (none : Option Jb) = some k := by rw [← hk]; exact (updI_same _ _ _).symm
    cases this
  · have : S.J c = some k := by rw [← hk]; exact (updI_other _ _ e).symm
    exact h.key c k this
set_option maxRecDepth 100000 in
set_option maxHeartbeats 4000000 in
theorem end_is (h : Sep NoF w0 W (homeO hb mb S :: L)) (hT : Tab w0) (b : Int) (h0 : 0 ≤ b) (h1 : b < S.data) : Calls Tryd.prog 47 #[ptr hb, .int .i64 b] W fun e W' =>
    ∃ v, e = .returned v ∧ Sep NoF w0 W' (outO v (endP S b).2 :: homeO hb mb (endP S b).1 :: L) := by
  obtain ⟨p, hf, hs⟩ := home_open h
  have hdat := hf.good.data
  obtain ⟨c, rfl⟩ : ∃ c : Nat, b = c := ⟨b.toNat, by omega⟩
  have hcn : c < S.n := by omega
  have hs1 := hs.alloc #[.int .i64 c] 3
  obtain ⟨V, hV⟩ : ∃ V, W.alloc (.cells #[.int .i64 c] 3) = V := ⟨_, rfl⟩
  obtain ⟨bb, hbb⟩ : ∃ bb, W.heap.size = bb := ⟨_, rfl⟩
  rw [hV, hbb] at hs1
  have hsd := hs1.upd0 (Upd.drew NoF V)
  obtain ⟨X2, x5, hs2, -⟩ := GM.mapDel hsd 4 rfl (a := (c : Int)) (GM.fit_of (by omega)) 0
  simp only [List.set_cons_zero, List.set_cons_succ, delN_cnt hcn, del_jobF] at hs2
  change (Builtin.delete_ #[100, 3] 0 #[.map (some p.jb), .int .i64 c]).run Tryd.prog V.drew = .ok (.tuple #[]) X2 at x5
  have hSn : Fits { S with J := updI S.J c none } p := ⟨good_none hf.good c, hf.cap, hf.tl⟩
  have HM0 : Hid ((fun X : World => X.cell? ⟨hb, 10, none⟩ = some (.map (some p.jb)) ∧ X.cell? ⟨bb, 0, none⟩ = some (.int .i64 c)) V.drew) := Lib.hid ⟨(hsd.box 1 rfl).cell 10, (hsd.box 0 rfl).cell 0⟩
  have HM1 : Hid ((fun X : World => X.cell? ⟨hb, 10, none⟩ = some (.map (some p.jb)) ∧ X.cell? ⟨bb, 0, none⟩ = some (.int .i64 c)) X2) := Lib.hid ⟨(hs2.box 1 rfl).cell 10, (hs2.box 0 rfl).cell 0⟩
  have HS3 : Hid (Sep NoF w0 X2 (boxO bb #[.int .i64 c] 3 :: homeO hb mb { S with J := updI S.J c none } :: L)) := Lib.hid (home_shut1 hSn hs2)
  have HV := Lib.hid hV; have HBB := Lib.hid hbb; have HT := Lib.hid hT
  have HE := Lib.hid (show endP S (c : Int) = loopP (S.Q.length + 1) { S with J := updI S.J c none } c from rfl)
  have HFEW := Lib.hid hf.good.few
  generalize endP S (c : Int) = EN at *
  clear h hs hs1 hsd hs2 hV hbb hSn hf hT
  go_enter Tryd.func47, Tryd.ntmps47
  go_upto_region 1 with fail
  rw [HV.out, HBB.out]
  refine wp_scope_straight ?_
  go_wp2_with fail
  refine wp_region_held_drew (S := (fun X : World => X.cell? ⟨hb, 10, none⟩ = some (.map (some p.jb)) ∧ X.cell? ⟨bb, 0, none⟩ = some (.int .i64 c))) (by kernel_rfl) (HM0.out) (fun hHeld => ?_)
  refine rgn 0 (v := ?vq1) hHeld ?yq1 ?_
  case yq1 => (intro w hSw; obtain ⟨k0, k1⟩ := hSw; go_simp; try with_reducible rfl)
  simp only [Act.put, rn1, rn2, rn3, rn4, rn5, rn6]
  refine rgn 1 (v := ?vq2) hHeld ?yq2 ?_
  case yq2 => (intro w hSw; obtain ⟨k0, k1⟩ := hSw; go_simp; try with_reducible rfl)
  simp only [Act.put, rn1, rn2, rn3, rn4, rn5, rn6]
  refine rgn 2 (v := ?vq3) hHeld ?yq3 ?_
  case yq3 => (intro w hSw; obtain ⟨k0, k1⟩ := hSw; go_simp; try with_reducible rfl)
  simp only [Act.put, rn1, rn2, rn3, rn4, rn5, rn6]
  refine rgn 3 (v := ?vq4) hHeld ?yq4 ?_
  case yq4 => (intro w hSw; obtain ⟨k0, k1⟩ := hSw; go_simp; try with_reducible rfl)
  simp only [Act.put, rn1, rn2, rn3, rn4, rn5, rn6]
  refine rgn 4 (v := ?vq5) hHeld ?yq5 ?_
  case yq5 => (intro w hSw; obtain ⟨k0, k1⟩ := hSw; go_simp; try with_reducible rfl)
  simp only [Act.put, rn1, rn2, rn3, rn4, rn5, rn6]
  refine reg_step (i := 5) (by kernel_rfl) rfl (by kernel_rfl) (fun K hK => ?_)
  go_simp
  have HS := HM1.out
  refine hK.out _ _ HS (fun hHeld2 => ?_)
  clear hK hHeld2 hHeld; have hHeld := HS; clear HS
  try simp only [Act.put, rn1, rn2, rn3, rn4, rn5, rn6]
  refine wpAnyH_done (by kernel_rfl) ?_ _
  clear hHeld HM0 HM1 x5
  go_wp2_with fail
  apply wp_label
  go_wp2_with fail
  go_loopw [5] (fun ov wr => ∃ (k : Nat) (S1 : Hs) (outs : List Nt) (v : Value), v = ov ∧ Hid (S1.Q.length < k ∧ S1.c = S.c ∧ outs.length + 32 * S1.Q.length ≤ 2560 ∧ (∀ n ∈ outs, IsU n.D) ∧ EN = ((loopP k S1 c).1, outs ++ (loopP k S1 c).2) ∧ Sep NoF w0 wr (homeO hb mb S1 :: outO v outs :: boxO bb #[.int .i64 c] 3 :: L))) (fun _ wr => qlen hb wr)
  case atStart =>
    refine ⟨S.Q.length + 1, { S with J := updI S.J c none }, [], .slice none 0 0, rfl, Nat.lt_succ_self _, rfl, ?_, fun n hn => by simp at hn, ?_, ?_⟩
    · have := HFEW.out
      simp only [List.length_nil]
      omega
    · rw [HE.out]; rfl
    · exact (HS3.out.swap.push (Upd.refl NoF X2) (Φ := outO (.slice none 0 0) []) ⟨Row.nil _ _ _, fun k hk => by simp [Value.ownBlock] at hk⟩).swap |> fun h => ⟨h.upd, own_tail (fun _ h => h) h.own⟩
  case round =>
    obtain ⟨k, S1, outs, v, rfl, HI⟩ := hrel
    obtain ⟨wo, hwo⟩ : ∃ x, x = wr := ⟨_, rfl⟩
    subst hwo
    obtain ⟨hlt, hc1, hlen, hU, hE, hs⟩ := HI.out
    obtain ⟨p1, hf1, hs1⟩ := home_open hs
    have hdat1 := hf1.good.data
    have hn1 := Hs.n_eq hc1
    have hk1 : 1 ≤ k := by omega
    obtain ⟨k, rfl⟩ : ∃ k', k = k' + 1 := ⟨k - 1, by omega⟩
    have hQN : (S1.Q.map Nt.cells).length ≤ 65536 := by rw [List.length_map]; omega
    obtain ⟨F4, hq4⟩ := hs1.has 4 rfl
    have c11 : wo.cell? ⟨hb, 11, none⟩ = some (ptr p1.pb) := (hs1.box 0 rfl).cell 11
    have cbb : wo.cell? ⟨bb, 0, none⟩ = some (.int .i64 c) := (hs1.box 6 rfl).cell 0
    have HFI := Lib.hid (PN.first_any wo F4 p1.pb (S1.Q.map Nt.cells) S1.room hq4 78 #[ptr bb] (aboutB c) (enters_of Tryd.func78 (by kernel_rfl) rfl) (fun x W9 hx hu9 => by
      obtain ⟨n, hn, rfl⟩ := List.mem_map.1 hx
      rw [aboutB_is]
      exact end1_any c bb n W9 (hu9.cell cbb (fun h => h))))
    rw [firstAt_is] at HFI
    have hqm := qlen_is hs
    have HQM := Lib.hid hqm
    have HS1 := Lib.hid hs1; have HF1 := Lib.hid hf1; have HC1 := Lib.hid hc1; have HLEN := Lib.hid hlen; have HUU := Lib.hid hU; have HEN := Lib.hid hE; have HLT := Lib.hid hlt
    clear HI hs hs1 hf1 hc1 hU hE hqm hq4 hlt
    cases hfq : firstQ S1.Q c with
    | none =>
      rw [hfq] at HFI
      have hen := HEN.out
      rw [loopP_none hfq, List.append_nil] at hen
      have HEN2 := Lib.hid hen
      clear hfq hen HEN
      go_wp2_with fail
      refine HFI.out.mono ?_
      rintro e w3 ⟨rfl, hu3⟩
      have hs3 := HS1.out.upd0 hu3
      obtain ⟨F5, hq5⟩ := hs3.has 4 rfl
      have HTK := Lib.hid (PN.take_bad w3 F5 p1.pb _ _ (-1) hq5 (.inl (by omega)))
      have d11 : w3.cell? ⟨hb, 11, none⟩ = some (ptr p1.pb) := (hs3.box 0 rfl).cell 11
      have HS3 := Lib.hid hs3
      clear hs3 hq5 hu3 cbb c11
      go_wp2_with fail
      refine HTK.out.mono ?_
      rintro e w4 ⟨rfl, hu4⟩
      have s4 := TNot.st_new TNot.isZ w4
      have HS5 := Lib.hid ((HS3.out.upd0 hu4).upd0 (Upd.alloc NoF w4 (.cells TNot.Z NT)))
      clear hu4
      go_wp2
      rw [Exit.noGoto_ret]
      try go_wp2
      go_ret
      refine ⟨_, rfl, ?_⟩
      rw [HEN2.out]
      exact (((home_shut HF1.out HS5.out).drop 2 (by simp))).swap
    | some i =>
      rw [hfq] at HFI
      obtain ⟨n, hn, hnb, hnm⟩ := firstQ_blk hfq
      have hno := HF1.out.good.que n hnm
      have hil : i < S1.Q.length := (List.getElem?_eq_some_iff.1 hn).1
      have hen := HEN.out
      have hgd : S1.Q.getD i Nt.nil = n := by simp [List.getD, hn]
      rw [loopP_some hfq, hgd] at hen
      have HEN2 := Lib.hid hen
      have hg2 := good_erase HF1.out.good i
      have hSe : Fits { S1 with Q := S1.Q.eraseIdx i } p1 := ⟨hg2, HF1.out.cap, HF1.out.tl⟩
      have hbf := begin_facts (S := { S1 with Q := S1.Q.eraseIdx i }) HF1.out.good.isU n
      have hnN := Nt.Ok.isN hno.isU
      have hz : (S1.Q.map Nt.cells)[i]? = some n.cells := by rw [List.getElem?_map, hn]; rfl
      have HZ := Lib.hid hz
      have heq : (S1.Q.map Nt.cells).eraseIdx i = (S1.Q.eraseIdx i).map Nt.cells := (map_erase _ _ _).symm
      have HEQ := Lib.hid heq
      have HSE := Lib.hid hSe; have HBF := Lib.hid hbf; have HNO := Lib.hid hno; have HNN := Lib.hid hnN
      have HNB := Lib.hid hnb
      have hel : (S1.Q.eraseIdx i).length = S1.Q.length - 1 := by rw [List.length_eraseIdx, if_pos hil]
      have HEL := Lib.hid hel
      clear hfq hen HEN hgd hg2 hSe hbf hno hnN hz heq hn hnm hnb hel
      go_wp2_with fail
      refine HFI.out.mono ?_
      rintro e w3 ⟨rfl, hu3⟩
      have hs3 := HS1.out.upd0 hu3
      have HTK := Lib.hid (hs3.call 4 rfl (fun F hF => PN.take_ok w3 F p1.pb _ _ i n.cells hF HZ.out hQN))
      have d11 : w3.cell? ⟨hb, 11, none⟩ = some (ptr p1.pb) := (hs3.box 0 rfl).cell 11
      clear hs3 hu3 cbb c11
      go_wp2_with fail
      refine HTK.out.mono ?_
      rintro e w4 ⟨rfl, hs4⟩
      simp only [List.set_cons_zero, List.set_cons_succ, HEQ.out] at hs4
      have s4 := TNot.st_new HNN.out w4
      have hs5 := hs4.upd0 (Upd.alloc NoF w4 (.cells n.cells NT))
      have l5 := TNot.ld_new HNN.out w4
      have hs6 := home_shut (S := { S1 with Q := S1.Q.eraseIdx i }) HSE.out hs5
      have HB := Lib.hid (begin_is hs6 HT.out n HNO.out (by rw [HNB.out]; omega) (by rw [HNB.out]; show (c : Int) < S1.data; rw [hn1.2.1]; omega))
      clear hs4 hs5 hs6
      go_wp2_with fail
      refine HB.out.mono ?_
      rintro e w6 ⟨v2, rfl, hs6⟩
      obtain ⟨v', w7, hrun, hs7⟩ := s_cat hs6 2 0 rfl rfl HBF.out.2.2.2 (by have h1 := HLEN.out; have h2 := HBF.out.2.2.1; omega)
      have HR := Lib.hid hrun
      have hs8 := hs7.drop 0 (by simp)
      have hhd : Sep NoF w0 w7 (homeO hb mb (beginP { S1 with Q := S1.Q.eraseIdx i } n).1 :: outO v' (outs ++ (beginP { S1 with Q := S1.Q.eraseIdx i } n).2) :: boxO bb #[.int .i64 c] 3 :: L) := hs8
      have cbb7 : w7.cell? ⟨bb, 0, none⟩ = some (.int .i64 c) := (hhd.box 2 rfl).cell 0
      obtain ⟨F7, hF7⟩ := hhd.has 0 rfl
      have HBU := Lib.hid (busy_is hF7 (c : Int) (by omega))
      have HS8 := Lib.hid hhd
      have hq7 := qlen_is hhd
      have hnu : ∀ m ∈ outs ++ (beginP { S1 with Q := S1.Q.eraseIdx i } n).2, IsU m.D := fun m hm => by
        rcases List.mem_append.1 hm with h | h
        · exact HUU.out m h
        · exact HBF.out.2.2.2 m h
      have HNU := Lib.hid hnu
      have HQ7 := Lib.hid hq7
      clear hrun hs6 hs7 hs8 hhd hF7 hq7 hnu
      cases hbz : ((beginP { S1 with Q := S1.Q.eraseIdx i } n).1.J c).isSome
      · have hen := HEN2.out
        rw [hbz] at hen HBU
        simp only [Bool.false_eq_true, if_false] at hen
        have HEN3 := Lib.hid hen
        clear hen HEN2 hbz
        go_wp2_with (first | (at_builtin; refine wpList_append_run (w := w6) rfl _ _ NS rfl rfl rfl HR.out ?_) | (go_at_call 17; refine HBU.out.mono ?_; rintro e w8 ⟨rfl, hu8⟩; have HS9 := Lib.hid (HS8.out.upd0 hu8); clear hu8))
        go_roundw
        case rel =>
          refine ⟨k, (beginP { S1 with Q := S1.Q.eraseIdx i } n).1, outs ++ (beginP { S1 with Q := S1.Q.eraseIdx i } n).2, _, rfl, ?_, HBF.out.1.trans HC1.out, ?_, HNU.out, ?_, HS9.out⟩
          · rw [HBF.out.2.1]; show (S1.Q.eraseIdx i).length < k; have := HEL.out; have := HLT.out; omega
          · rw [HBF.out.2.1, List.length_append]; show _ + 32 * (S1.Q.eraseIdx i).length ≤ 2560; have := HEL.out; have := HLEN.out; have := HBF.out.2.2.1; omega
          · rw [HEN3.out, List.append_assoc]
        case measure =>
          rw [qlen_is HS9.out, HQM.out, HBF.out.2.1]
          show (S1.Q.eraseIdx i).length < S1.Q.length
          have := HEL.out; omega
      · have hen := HEN2.out
        rw [hbz] at hen HBU
        simp only [if_true] at hen
        have HEN3 := Lib.hid hen
        clear hen HEN2 hbz
        go_wp2_with (first | (at_builtin; refine wpList_append_run (w := w6) rfl _ _ NS rfl rfl rfl HR.out ?_) | (go_at_call 17; refine HBU.out.mono ?_; rintro e w8 ⟨rfl, hu8⟩; have HS9 := Lib.hid (HS8.out.upd0 hu8); clear hu8))
        rw [Exit.noGoto_ret]
        try go_wp2
        go_ret
        refine ⟨_, rfl, ?_⟩
        rw [HEN3.out]
        exact ((HS9.out.drop 2 (by simp))).swap
end
end Go.Proofs.YtlhbnndnkcpomaaDoor.HO
