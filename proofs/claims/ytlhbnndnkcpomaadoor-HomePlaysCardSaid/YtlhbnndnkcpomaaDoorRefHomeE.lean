/- The reference's home: end. -/
import Derived.Test.YtlhbnndnkcpomaaDoorRefHomeO
import Derived.Test.YtlhbnndnkcpomaaDoorHomeM
import Derived.Test.YtlhbnndnkcpomaaDoorHomeWorks
import Derived.Test.YtlhbnndnkcpomaaDoorMask
import Derived.Test.YtlhbnndnkcpomaaDoorRows
import Derived.ProofKit
import Derived.LaidMore
import Derived.OpenShut
import Derived.MakeChecks
import Derived.Stop.Joined
import Derived.Lib.LaidTab
set_option linter.unusedSimpArgs false
set_option linter.unusedVariables false
namespace Go.Proofs.YtlhbnndnkcpomaaDoor.HO
open Go.RowKit
open BU (IsU words)
open PL (Cfg CC CV May)
open ME (memO sl)
open RM (rmO)
attribute [local go_sem] Oper.semAt_some
attribute [local go_sem ↓] TNot.ld_eq TNot.st_eq TNot.al_eq TNot.bx_eq TRjb.ld_eq TRjb.st_eq TRjb.al_eq TRjb.bx_eq bdN_eq bdR_eq bsN_eq
attribute [local go_sem] TNot.al_run TNot.bx_run TRjb.al_run TRjb.bx_run
set_option maxRecDepth 100000 in
theorem bd_rnil (w : World) : (bdR #[]).run Tryd.prog w = .ok (.agg TRjb.Z) w :=
  build_run (pl := [(0, 1), (1, 24), (25, 1), (26, 1), (27, 1), (28, 1)]) Tryd.underlying90 TRjb.infoZ rjPl _ _ fill_nil w
/-- Some of a row of notes behind another row. -/
theorem s_catr {G : Nat → Prop} {w0 W : World} {L : List Obj} (h : Sep G w0 W L) (i : Nat) {v : Value} {ns ms : List Nt} (hi : L[i]? = some (outO v ns)) (ad : Addr) (m c2 : Nat) (hlen : ms.length = m) (hm : ∀ n ∈ ms, IsU n.D) (hl : ns.length + m ≤ 65536)
    (hc : ∀ (j : Nat) (u : Value), (rowsOf (ms.map Nt.cells)).flatten[j]? = some u → W.cell? (ad.add j) = some u) :
    ∃ v' W', (Builtin.append_ #[NS, NS] NS #[v, .slice (some ad) m c2]).run Tryd.prog W = .ok v' W' ∧ Sep G w0 W' (L.set i (outO v' (ns ++ ms))) := by
  subst hlen
  obtain ⟨F, hF, hS⟩ := h.step i hi
  obtain ⟨i0, hi0, hz0, hz1, hz2⟩ := info_parts PN.infoE
  have hN : ∀ x ∈ ms.map Nt.cells, IsN 24 x := fun x hx => by obtain ⟨n, hn, rfl⟩ := List.mem_map.1 hx; exact Nt.Ok.isN (hm n hn)
  obtain ⟨v9, w9, hrun, hrow9, hg, hf⟩ := run_append_row (P := Tryd.prog) W NS NS NT i0 (.agg TNot.Z) 24 112 Tryd.underlying36 hi0 hz0 hz1 hz2 PN.zsize (by decide) v ns.length _ hF.1
    ad ms.length c2 (rowsOf (ms.map Nt.cells)).flatten (by rw [flat_len hN, List.length_map]) hc (flat_one hN) (by unfold maxLen; omega) (by omega)
  refine ⟨v9, w9, hrun, hS _ _ (Upd.grown (F := F) hg (fun k hk hlt => ⟨hF.2 k hk, hF.1.isCells k hk⟩)) ⟨?_, fun k hk => ?_⟩⟩
  · have e : (rowsOf ((ns ++ ms).map Nt.cells)).flatten = (rowsOf (ns.map Nt.cells)).flatten ++ (rowsOf (ms.map Nt.cells)).flatten := by simp [rowsOf]
    rw [e, List.length_append]
    exact hrow9
  · rcases hf with e | ⟨g, e, hge⟩
    · rw [e] at hk; exact .inl (hF.2 k hk)
    · rw [e] at hk; cases hk; exact .inr hge
theorem flat_two (ns : List Nt) (i : Nat) : (rowsOf (ns.map Nt.cells)).flatten = (rowsOf ((ns.take i).map Nt.cells)).flatten ++ (rowsOf ((ns.drop i).map Nt.cells)).flatten := by
  rw [← List.flatten_append]
  unfold rowsOf
  rw [← List.map_append, ← List.map_append, List.take_append_drop]
/-- The cells of the first ones of a row; of the rest. -/
theorem row_front {W : World} {g n cap : Nat} {ns : List Nt} (h : Row W NT 24 (.slice (some ⟨g, 0, none⟩) n cap) n (rowsOf (ns.map Nt.cells)).flatten) (q : Nat) :
    ∀ (j : Nat) (u : Value), (rowsOf ((ns.take q).map Nt.cells)).flatten[j]? = some u → W.cell? ((⟨g, 0, none⟩ : Addr).add j) = some u := fun j u hu => by
  have := h.cells.2 j u (by rw [flat_two ns q, List.getElem?_append_left (List.getElem?_eq_some_iff.1 hu).1]; exact hu)
  rw [Addr.add_lit]; simpa using this
theorem row_back {W : World} {g n cap : Nat} {ns : List Nt} (h : Row W NT 24 (.slice (some ⟨g, 0, none⟩) n cap) n (rowsOf (ns.map Nt.cells)).flatten) (hN : ∀ m ∈ ns, IsU m.D) {q : Nat} (hq : q ≤ ns.length) {ad : Addr} (had : ad = ⟨g, q * 24, none⟩ ∨ ns.length = q) :
    ∀ (j : Nat) (u : Value), (rowsOf ((ns.drop q).map Nt.cells)).flatten[j]? = some u → W.cell? (ad.add j) = some u := fun j u hu => by
  rcases had with rfl | had
  · have hl : (rowsOf ((ns.take q).map Nt.cells)).flatten.length = q * 24 := by
      rw [flat_len (c := 24) (fun x hx => by obtain ⟨m, hm, rfl⟩ := List.mem_map.1 hx; exact Nt.Ok.isN (hN m (List.mem_of_mem_take hm))), List.length_map, List.length_take, Nat.min_eq_left hq]
    have := h.cells.2 (q * 24 + j) u (by rw [flat_two ns q, List.getElem?_append_right (by omega), hl, Nat.add_sub_cancel_left]; exact hu)
    rw [Addr.add_lit]; simpa using this
  · exfalso
    rw [List.drop_of_length_le (by omega)] at hu
    simp [rowsOf] at hu
/-- Those ahead are about other blocks. -/
def Pre (Q : List Nt) (q : Nat) (b : Int) : Prop := ∀ (m : Nat) (n : Nt), m < q → Q[m]? = some n → n.blk ≠ b
theorem pre_none {Q : List Nt} {b : Int} (h : Pre Q Q.length b) : firstQ Q b = none := by
  unfold firstQ
  rw [List.findIdx?_eq_none_iff]
  intro n hn
  obtain ⟨m, hm⟩ := List.mem_iff_getElem?.1 hn
  have := h m n (List.getElem?_eq_some_iff.1 hm).1 hm
  simpa using this
theorem pre_some {Q : List Nt} {q : Nat} {b : Int} {n : Nt} (h : Pre Q q b) (hn : Q[q]? = some n) (hb : n.blk = b) : firstQ Q b = some q := by
  unfold firstQ
  obtain ⟨h1, h2⟩ := List.getElem?_eq_some_iff.1 hn
  rw [List.findIdx?_eq_some_iff_getElem]
  refine ⟨h1, by rw [h2]; simpa using hb, fun j hj => ?_⟩
  have := h j _ hj (List.getElem?_eq_getElem (by omega))
  simpa using this
theorem pre_succ {Q : List Nt} {q : Nat} {b : Int} {n : Nt} (h : Pre Q q b) (hn : Q[q]? = some n) (hb : n.blk ≠ b) : Pre Q (q + 1) b := fun m k hm hk => by
  by_cases e : m = q
  · subst e; rw [hn] at hk; cases hk; exact hb
  · exact h m k (by omega) hk
theorem pre_erase {Q : List Nt} {q : Nat} {b : Int} (h : Pre Q q b) : Pre (Q.eraseIdx q) q b := fun m k hm hk => by
  rw [List.getElem?_eraseIdx_of_lt hm] at hk
  exact h m k hm hk
/-- How many wait, read out of memory. -/
def rqlen (hb : Nat) (X : World) : Nat := match X.cell? ⟨hb, 11, none⟩ with
  | some (.slice _ n _) => n
  | _ => 0
section
variable {G : Nat → Prop} {w0 W W' : World} {hb rm : Nat} {S : Hs} {L : List Obj} {F : Nat → Prop}
theorem rqlen_is {X : World} (h : Sep G w0 X (rhO hb rm S :: L)) : rqlen hb X = S.Q.length := by
  obtain ⟨p, hf, hs⟩ := rh_open h
  have c11 : X.cell? ⟨hb, 11, none⟩ = some (.slice p.wa S.Q.length p.wc) := (hs.box 0 rfl).cell 11
  unfold rqlen
  rw [c11]
/-- What is left to do when the loop stands somewhere. -/
def Left (EN : Hs × List Nt) (S1 : Hs) (outs : List Nt) (k : Nat) (c : Int) : Prop := if (S1.J c).isSome then EN = (S1, outs) else EN = ((loopP k S1 c).1, outs ++ (loopP k S1 c).2)
theorem rjc_is (h : Good S) (b : Int) : (rjc (S.J b))[0]? = some (.bool (S.J b).isSome) := (rjc_cells h b).1
set_option maxRecDepth 100000 in
set_option maxHeartbeats 8000000 in
theorem rend_is (h : Sep NoF w0 W (rhO hb rm S :: L)) (b : Int) (h0 : 0 ≤ b) (h1 : b < S.data) : Calls Tryd.prog 68 #[ptr hb, .int .i64 b] W fun e W' =>
    ∃ v, e = .returned v ∧ Sep NoF w0 W' (outO v (endP S b).2 :: rhO hb rm (endP S b).1 :: L) := by
  obtain ⟨p, hf, hs⟩ := rh_open h
  have hg := hf.good
  have hdat := hg.data
  obtain ⟨c, rfl⟩ : ∃ c : Nat, b = c := ⟨b.toNat, by omega⟩
  have hcn : c < S.n := by omega
  have hjc := hf.jc
  have hcc : c < p.jc := by omega
  have hjm := hjc.2.1
  unfold maxLen at hjm
  have c10 : W.cell? ⟨hb, 10, none⟩ = some (sl p.jb S.n p.jc) := (hs.box 0 rfl).cell 10
  have hb0 := fun w => bd_rnil w
  have hst := rst_mid TRjb.isZ (hs.box 3 rfl) (o := c * 29) (by have := idx_lt (k := 29) (r := 28) hcn (by omega); rw [Array.size_append, rowG_size]; omega)
  have hs1 := hs.setMG 3 rfl (c * 29) TRjb.Z.toList
  simp only [List.set_cons_zero, List.set_cons_succ] at hs1
  have hjp := job_put hg hcn (o := none) TRjb.isZ (t := p.jt)
  change setMany _ (c * 29) TRjb.Z.toList = _ at hjp
  rw [hjp] at hs1
  obtain ⟨X1, hX1⟩ : ∃ X, W.setCells p.jb (c * 29) TRjb.Z.toList = X := ⟨_, rfl⟩
  rw [hX1] at hst hs1
  have hRF : RFits { S with J := updI S.J (c : Int) none } p := ⟨good_none hg c, hf.ec, hf.jc⟩
  have hs2 : Sep NoF w0 X1 (rhO hb rm { S with J := updI S.J (c : Int) none } :: L) := rh_shut hRF hs1
  have HS2 := Lib.hid ((hs2.push (Upd.refl NoF X1) (Φ := outO (.slice none 0 0) []) ⟨Row.nil _ _ _, fun k hk => by simp [Value.ownBlock] at hk⟩).swap)
  have HE := Lib.hid (show endP S (c : Int) = loopP (S.Q.length + 1) { S with J := updI S.J (c : Int) none } c from rfl)
  have HFEW := Lib.hid hg.few
  generalize endP S (c : Int) = EN at *
  clear h hs hs1 hs2 hf hg hRF hjp hjc hX1
  go_enter Tryd.func68, Tryd.ntmps68
  go_wp2_with fail
  clear c10 hst hb0
  go_loopw [5, 6] (fun ov iv wr => ∃ (k q : Nat) (S1 : Hs) (outs : List Nt) (v : Value), v = ov ∧ iv = .int .i64 q ∧ Hid (q ≤ S1.Q.length ∧ Pre S1.Q q c ∧ S1.Q.length < k ∧ S1.c = S.c ∧ outs.length + 32 * S1.Q.length ≤ 2560 ∧ (∀ n ∈ outs, IsU n.D) ∧ Left EN S1 outs k c ∧ Sep NoF w0 wr (rhO hb rm S1 :: outO v outs :: L))) (fun _ iv wr => rqlen hb wr - (intOf iv).toNat)
  case atStart =>
    refine ⟨S.Q.length + 1, 0, { S with J := updI S.J (c : Int) none }, [], .slice none 0 0, rfl, rfl, Lib.hid ⟨Nat.zero_le _, fun m n hm => by omega, Nat.lt_succ_self _, rfl, ?_, fun n hn => by simp at hn, ?_, HS2.out⟩⟩
    · have := HFEW.out
      simp only [List.length_nil]
      omega
    · unfold Left
      rw [if_neg (by show ¬ ((updI S.J (c : Int) none (c : Int)).isSome = true); rw [updI_same]; simp), HE.out]; rfl
  case round =>
    obtain ⟨k, q, S1, outs, v, rfl, rfl, HI⟩ := hrel
    obtain ⟨wo, hwo⟩ : ∃ x, x = wr := ⟨_, rfl⟩
    subst hwo
    obtain ⟨hql, hpre, hlt, hc1, hlen, hU, hE, hs⟩ := HI.out
    obtain ⟨p1, hf1, hs1⟩ := rh_open hs
    obtain ⟨eb, ec, et, jb, jc, jt, wa, wc⟩ := p1
    have hn1 := Hs.n_eq hc1
    have hcn1 : c < S1.n := by omega
    have hjc := hf1.jc
    simp only at hjc
    have hcc1 : c < jc := by omega
    have hjm1 := hjc.2.1
    unfold maxLen at hjm1
    obtain ⟨is, his⟩ : ∃ x, (S1.J (c : Int)).isSome = x := ⟨_, rfl⟩
    have c10 : wo.cell? ⟨hb, 10, none⟩ = some (sl jb S1.n jc) := (hs1.box 0 rfl).cell 10
    have c11 : wo.cell? ⟨hb, 11, none⟩ = some (.slice wa S1.Q.length wc) := (hs1.box 0 rfl).cell 11
    have cis : wo.cell? ⟨jb, c * 29, none⟩ = some (.bool is) := by
      have hlt2 := idx_lt (k := 29) (r := 0) hcn1 (by omega)
      refine ((hs1.box 3 rfl).cell (c * 29)).trans ?_
      have := rowG_get (k := 29) (n := S1.n) (i := c) (r := 0) (f := fun i : Nat => rjc (S1.J (i : Int))) (rjc_isN hf1.good _).1 hcn1 (by omega)
      rw [Nat.add_zero] at this
      rw [Array.getElem?_append_left (by rw [rowG_size]; omega), this, ← his]
      exact rjc_is hf1.good _
    have hr := hs1.row 4 rfl
    obtain ⟨a9, cap9, hv9, hwc, hwm, hsub⟩ := NQ.s_row hr (fun m hm => (hf1.good.que m hm).isU)
    cases hv9
    dsimp only at hwc hwm
    have hqm := rqlen_is hs
    unfold maxLen at hwm
    have HQM := Lib.hid hqm; have HS1 := Lib.hid hs1; have HF1 := Lib.hid hf1; have HC1 := Lib.hid hc1; have HLEN := Lib.hid hlen; have HUU := Lib.hid hU; have HEN := Lib.hid hE; have HLT := Lib.hid hlt; have HPRE := Lib.hid hpre; have HR := Lib.hid hr; have HSUB := Lib.hid hsub; have HIS := Lib.hid his; have HSS := Lib.hid hs
    clear HI hs hs1 hf1 hc1 hU hE hqm hlt hpre hr hsub his hlen hn1 hjc
    by_cases hq : q < S1.Q.length
    · have hqb : decide ((q : Int) < (S1.Q.length : Int)) = true := by simpa using hq
      cases is
      · have hen := HEN.out
        unfold Left at hen
        rw [if_neg (by rw [HIS.out]; simp)] at hen
        obtain ⟨n, hn⟩ : ∃ n, S1.Q[q]? = some n := ⟨_, List.getElem?_eq_getElem hq⟩
        obtain ⟨ga, rfl, hrg⟩ := HSUB.out q n hn
        have hno := HF1.out.good.que n (List.mem_of_getElem? hn)
        have hnN := Nt.Ok.isN hno.isU
        have l1 := TNot.ld_at hnN hrg
        have l2 := TNot.ld_at hnN (World.rangeAt_alloc hrg (.cells TNot.Z NT))
        have s1 := TNot.st_new hnN wo
        have hs5 := HS1.out.alloc n.cells NT
        obtain ⟨X5, hX5⟩ : ∃ X, wo.alloc (.cells n.cells NT) = X := ⟨_, rfl⟩
        obtain ⟨tb, htb⟩ : ∃ x, wo.heap.size = x := ⟨_, rfl⟩
        rw [hX5, htb] at hs5
        have HX5 := Lib.hid (And.intro hX5 htb)
        have t3 : X5.cell? ⟨tb, 3, none⟩ = some (.int .i64 n.blk) := ((hs5.box 0 rfl).cell 3).trans n.get3
        have HS5 := Lib.hid hs5; have HEN2 := Lib.hid hen; have HN := Lib.hid hn; have HNO := Lib.hid hno; have HNN := Lib.hid hnN
        clear hen HEN hn hrg hno hnN hX5 htb hs5 HSUB
        go_upto_region 6 with fail
        rw [HX5.out.1, HX5.out.2]
        clear l1 l2 s1 c10 c11 cis
        by_cases hblk : n.blk = (c : Int)
        · have hbb : (n.blk != (c : Int)) = false := by simp [hblk]
          have hfq := pre_some HPRE.out HN.out hblk
          obtain ⟨k, rfl⟩ : ∃ k', k = k' + 1 := ⟨k - 1, by have := HLT.out; omega⟩
          have hgd : S1.Q.getD q Nt.nil = n := by have := HN.out; simp [List.getD, this]
          have hen := HEN2.out
          rw [loopP_some hfq, hgd] at hen
          obtain ⟨Q2, hQ2⟩ : ∃ x, S1.Q.eraseIdx q = x := ⟨_, rfl⟩
          have hel : Q2.length = S1.Q.length - 1 := by rw [← hQ2, List.length_eraseIdx, if_pos hq]
          have hg2 := good_erase HF1.out.good q
          have hpe := pre_erase HPRE.out
          rw [hQ2] at hen hg2 hpe
          have HEL := Lib.hid hel
          have HEN3 := Lib.hid hen
          have HPE := Lib.hid hpe
          have hbf := begin_facts (S := { S1 with Q := Q2 }) HF1.out.good.isU n
          have HBF := Lib.hid hbf
          have HNB := Lib.hid hblk
          have hqU : ∀ m ∈ S1.Q, IsU m.D := fun m hm => (HF1.out.good.que m hm).isU
          have hq65 : S1.Q.length ≤ 80 := by have := HLEN.out; omega
          have hqc : q ≤ wc := by omega
          have hq1 : q + 1 ≤ S1.Q.length := hq
          have hq2 : q + 1 ≤ wc := by omega
          have hb1 : (0 : Int) ≤ (q : Int) + 1 := by omega
          have hb2 : (q : Int) + 1 ≤ (S1.Q.length : Int) := by omega
          have hwq : IntKind.i64.wrap ((q : Int) + 1) = (q : Int) + 1 := IntWalk.i64_in _ (by omega)
          obtain ⟨ad, hadr, had⟩ : ∃ ad : Addr, (if wc = q + 1 then some (⟨ga, 0, none⟩ : Addr) else some ⟨ga, (q + 1) * 24, none⟩) = some ad ∧ (ad = ⟨ga, (q + 1) * 24, none⟩ ∨ S1.Q.length = q + 1) := by
            by_cases e : wc = q + 1
            · exact ⟨_, if_pos e, .inr (by omega)⟩
            · exact ⟨_, if_neg e, .inl rfl⟩
          -- [left, tb, box, mem, ent, job, waits, outs]
          have hs6 := out_nil HS5.out
          obtain ⟨v7, X6, hr1, hs7⟩ := s_catr hs6 0 rfl (⟨ga, 0, none⟩ : Addr) q wc (ms := S1.Q.take q) (by rw [List.length_take]; omega) (fun m hm => hqU m (List.mem_of_mem_take hm)) (by simp; omega) (row_front (hs6.row 6 rfl) q)
          obtain ⟨v8, X7, hr2, hs8⟩ := s_catr hs7 0 rfl ad (S1.Q.length - (q + 1)) (wc - (q + 1)) (ms := S1.Q.drop (q + 1)) (by rw [List.length_drop]) (fun m hm => hqU m (List.mem_of_mem_drop hm)) (by simp; omega) (row_back (hs7.row 6 rfl) hqU hq1 had)
          have hs8 : Sep NoF w0 X7 (outO v8 Q2 :: boxO tb n.cells NT :: S1.robjs hb rm ⟨eb, ec, et, jb, jc, jt, some ⟨ga, 0, none⟩, wc⟩ (outO v outs :: L)) := by
            rw [← hQ2, List.eraseIdx_eq_take_drop_succ]; exact hs8
          obtain ⟨a8, c8, rfl, hc8⟩ := (hs8.row 0 rfl).slice
          have hs9 := hs8.set 2 rfl 11 (.slice a8 Q2.length c8)
          have d11 : X5.cell? ⟨hb, 11, none⟩ = some (.slice (some ⟨ga, 0, none⟩) S1.Q.length wc) := (HS5.out.box 1 rfl).cell 11
          have e11 : X6.cell? ⟨hb, 11, none⟩ = some (.slice (some ⟨ga, 0, none⟩) S1.Q.length wc) := (hs7.box 2 rfl).cell 11
          have f11 : X7.cell? ⟨hb, 11, none⟩ = some (.slice (some ⟨ga, 0, none⟩) S1.Q.length wc) := (hs8.box 2 rfl).cell 11
          have g11 := (hs8.box 2 rfl).frozen 11
          have l9 := TNot.ld_at HNN.out (hs9.box 1 rfl).whole
          have hsa : Sep NoF w0 (X7.setCell ⟨hb, 11, none⟩ (.slice a8 Q2.length c8)) (boxO tb n.cells NT :: Hs.robjs { S1 with Q := Q2 } hb rm ⟨eb, ec, et, jb, jc, jt, a8, c8⟩ (outO v outs :: L)) := (hs9.drop 6 (by simp)).sink 5
          have hRF : RFits { S1 with Q := Q2 } ⟨eb, ec, et, jb, jc, jt, a8, c8⟩ := ⟨hg2, HF1.out.ec, HF1.out.jc⟩
          have hsb := (rh_shut1 hRF hsa).drop 0 (by simp)
          have HB := Lib.hid (rbegin_is hsb n HNO.out (by rw [hblk]; omega) (by rw [hblk]; show (c : Int) < S1.data; have := HF1.out.good.data; omega))
          have HR1 := Lib.hid hr1; have HR2 := Lib.hid hr2
          have HAD := Lib.hid had
          clear hr1 hr2 hs6 hs7 hs8 hs9 hsa hRF hsb hqU hpe hg2 hel hbf hen hgd hfq hQ2 hblk had HN hc8 HEN2
          go_wp2_with (first | (at_builtin; refine wpList_append_run (w := X5) rfl _ _ NS rfl rfl rfl HR1.out ?_) | (at_builtin; refine wpList_append_run (w := X6) rfl _ _ NS rfl rfl rfl HR2.out ?_))
          refine HB.out.mono ?_
          rintro e X9 ⟨v2, rfl, hs10⟩
          obtain ⟨v', X10, hrun, hs11⟩ := s_cat hs10 2 0 rfl rfl HBF.out.2.2.2 (by have h1 := HLEN.out; have h2 := HBF.out.2.2.1; omega)
          have hhd : Sep NoF w0 X10 (rhO hb rm (beginP { S1 with Q := Q2 } n).1 :: outO v' (outs ++ (beginP { S1 with Q := Q2 } n).2) :: L) := hs11.drop 0 (by simp)
          have HR3 := Lib.hid hrun
          have hq7 := rqlen_is hhd
          have hnu : ∀ m ∈ outs ++ (beginP { S1 with Q := Q2 } n).2, IsU m.D := fun m hm => by
            rcases List.mem_append.1 hm with h | h
            · exact HUU.out m h
            · exact HBF.out.2.2.2 m h
          have HHD := Lib.hid hhd; have HNU := Lib.hid hnu; have HQ7 := Lib.hid hq7
          clear hrun hs10 hs11 hhd hq7 hnu
          go_wp2_with (at_builtin; refine wpList_append_run (w := X9) rfl _ _ NS rfl rfl rfl HR3.out ?_)
          go_roundw
          case rel =>
            refine ⟨k, q, (beginP { S1 with Q := Q2 } n).1, outs ++ (beginP { S1 with Q := Q2 } n).2, _, rfl, rfl, Lib.hid ⟨?_, ?_, ?_, HBF.out.1.trans HC1.out, ?_, HNU.out, ?_, HHD.out⟩⟩
            · rw [HBF.out.2.1]; show q ≤ Q2.length; have := HEL.out; omega
            · rw [HBF.out.2.1]; exact HPE.out
            · rw [HBF.out.2.1]; show Q2.length < k; have := HEL.out; have := HLT.out; omega
            · rw [HBF.out.2.1, List.length_append]; show _ + 32 * Q2.length ≤ 2560; have := HEL.out; have := HLEN.out; have := HBF.out.2.2.1; omega
            · have hen := HEN3.out
              unfold Left
              cases hbz : ((beginP { S1 with Q := Q2 } n).1.J (c : Int)).isSome
              · rw [hbz] at hen
                simp only [Bool.false_eq_true, if_false] at hen ⊢
                rw [hen, List.append_assoc]
              · rw [hbz] at hen
                simp only [if_true] at hen ⊢
                exact hen
          case measure =>
            rw [HQ7.out, HQM.out, HBF.out.2.1]
            show Q2.length - _ < S1.Q.length - _
            have := HEL.out
            simp [intOf]
            omega
        · have hbb : (n.blk != (c : Int)) = true := by simpa using hblk
          have hps := pre_succ HPRE.out HN.out hblk
          have HPS := Lib.hid hps
          have hs6 := (rh_shut1 HF1.out HS5.out).drop 0 (by simp)
          have hq7 := rqlen_is hs6
          have HS6 := Lib.hid hs6; have HQ7 := Lib.hid hq7
          clear hps hs6 hq7 hblk
          go_wp2
          go_roundw
          case rel =>
            refine ⟨k, q + 1, S1, outs, v, rfl, by go_num, Lib.hid ⟨hq, HPS.out, HLT.out, HC1.out, HLEN.out, HUU.out, ?_, HS6.out⟩⟩
            unfold Left
            rw [if_neg (by rw [HIS.out]; simp)]
            exact HEN2.out
          case measure =>
            rw [HQ7.out, HQM.out]
            simp [intOf]
            omega
      · have hen := HEN.out
        unfold Left at hen
        rw [if_pos (by rw [HIS.out])] at hen
        have HEN2 := Lib.hid hen
        clear hen HEN
        go_wp2
        go_ret
        refine ⟨_, rfl, ?_⟩
        rw [HEN2.out]
        exact HSS.out.swap
    · obtain rfl : q = S1.Q.length := by omega
      have hen := HEN.out
      unfold Left at hen
      have hk1 : k = k - 1 + 1 := by have := HLT.out; omega
      have hnn := pre_none HPRE.out
      rw [hk1, loopP_none hnn, List.append_nil] at hen
      have hen : EN = (S1, outs) := by
        split at hen <;> exact hen
      have HEN2 := Lib.hid hen
      clear hen HEN hk1 hnn hq hql
      go_wp2
      go_ret
      refine ⟨_, rfl, ?_⟩
      rw [HEN2.out]
      exact HSS.out.swap
end
end Go.Proofs.YtlhbnndnkcpomaaDoor.HO

set_option linter.unusedSimpArgs false
set_option linter.unusedVariables false
namespace Go.Proofs.YtlhbnndnkcpomaaDoor.HO
open Go.RowKit
open BU (IsU words)
open PL (Cfg CC CV May)
open ME (memO sl)
open RM (rmO)
/-- No note. -/
def bsZ : Sem Value := Instr.buildSlice NS 0 #[]
theorem bsZ_eq : Instr.buildSlice NS 0 #[] = bsZ := rfl
theorem bsZ_run (w : World) : bsZ.run Tryd.prog w = .ok (.slice (some ⟨w.heap.size, 0, none⟩) 0 0) (w.alloc (.cells #[] NT)) := by
  have hs : (sizeOf NT).run Tryd.prog w = .ok 24 w := Tryd.sizeOf47 w
  unfold bsZ
  simp [Instr.buildSlice, run_underlying Tryd.underlying36, hs, newRow, run_newObj_alloc, Value.cells, Instr.fill, (by decide +kernel : Array.range 0 = #[])]
theorem out_zero {W : World} {F : Nat → Prop} {g : Nat} (h : (boxO g #[] NT).is W F) : (outO (.slice (some ⟨g, 0, none⟩) 0 0) []).is W F := by
  refine ⟨⟨by simp [rowsOf], .inr ⟨g, 0, #[], rfl, h.1, Nat.le_refl _, by unfold maxLen; omega, by omega, by simp [rowsOf]⟩⟩, fun k hk => ?_⟩
  simp [Value.ownBlock] at hk
  subst hk; exact h.2
attribute [local go_sem] Oper.semAt_some
attribute [local go_sem ↓] TNot.ld_eq TNot.st_eq TNot.al_eq TNot.bx_eq TRjb.ld_eq TRjb.st_eq TRjb.al_eq TRjb.bx_eq TBlk.ld_eq TBlk.st_eq TBlk.al_eq TBlk.bx_eq bdN_eq bdR_eq bsN_eq bsZ_eq
attribute [local go_sem] TNot.al_run TNot.bx_run TRjb.al_run TRjb.bx_run TBlk.al_run TBlk.bx_run bsZ_run
section
variable {P : Program} {ops : Array Oper} {Q : Exit → Act → World → Prop} {md : Region.Mode} {S : World → Prop}
/-- Three steps may come up. -/
theorem reg_all3 {i j k : Nat} {o o' o'' : Oper} {fuel : Nat} {listed : Array Bool} {a : Act} {w : World} (hr : Region.ready md ops listed = [i, j, k]) (ho : ops[i]? = some o) (ho' : ops[j]? = some o') (ho'' : ops[k]? = some o'')
    (hw : Region.wanted o (yielded ops a.tmps) = true) (hw' : Region.wanted o' (yielded ops a.tmps) = true) (hw'' : Region.wanted o'' (yielded ops a.tmps) = true)
    (h : ∀ K' : Act → World → Prop, Shut (∀ a w, S w → (S w → wpAnyH P md ops Q S fuel (listed.setIfInBounds i true) a w) → K' a w) → Oper.wp P o a w K' Q)
    (h' : ∀ K' : Act → World → Prop, Shut (∀ a w, S w → (S w → wpAnyH P md ops Q S fuel (listed.setIfInBounds j true) a w) → K' a w) → Oper.wp P o' a w K' Q)
    (h'' : ∀ K' : Act → World → Prop, Shut (∀ a w, S w → (S w → wpAnyH P md ops Q S fuel (listed.setIfInBounds k true) a w) → K' a w) → Oper.wp P o'' a w K' Q) : wpAnyH P md ops Q S (fuel + 1) listed a w :=
  wpAnyH_ready hr (by simp) (AllReadyH.cons ho (fun K hK => by rw [if_pos hw]; exact h K hK) (AllReadyH.cons ho' (fun K hK => by rw [if_pos hw']; exact h' K hK) (AllReadyH.cons ho'' (fun K hK => by rw [if_pos hw'']; exact h'' K hK) AllReadyH.nil)))
end
section
variable {G : Nat → Prop} {w0 W W' : World} {hb rm : Nat} {S : Hs} {L : List Obj} {F : Nat → Prop}
theorem Jb.rset25 {j : Jb} (h : j.ask.cells.size = 24) (m : Mk) : j.rcells.setIfInBounds 25 (VM m) = ({ j with wait := m } : Jb).rcells := (Jb.rset h 0 _).trans rfl
theorem Jb.rset27 {j : Jb} (h : j.ask.cells.size = 24) (r : Bool) : j.rcells.setIfInBounds 27 (.bool r) = ({ j with ref := r } : Jb).rcells := (Jb.rset h 2 _).trans rfl
theorem Jb.rset28 {j : Jb} (h : j.ask.cells.size = 24) (s : Int) : j.rcells.setIfInBounds 28 (.int .u64 s) = ({ j with least := s } : Jb).rcells := (Jb.rset h 3 _).trans rfl
set_option maxRecDepth 100000 in
set_option maxHeartbeats 16000000 in
theorem rtake_is (h : Sep NoF w0 W (rhO hb rm S :: L)) (n : Nt) (hn : n.Ok) : Calls Tryd.prog 36 #[ptr hb, .agg n.cells] W fun e W' =>
    ∃ v, e = .returned (.tuple #[v, .int .i64 (takeP S n).2.2]) ∧ Sep NoF w0 W' (outO v (takeP S n).2.1 :: rhO hb rm (takeP S n).1 :: L) := by
  have hnN := Nt.Ok.isN hn.isU
  have hs1 := h.alloc n.cells NT
  have h1 := h.upd0 (Upd.alloc NoF W (.cells n.cells NT))
  obtain ⟨V, hV⟩ : ∃ V, W.alloc (.cells n.cells NT) = V := ⟨_, rfl⟩
  obtain ⟨nb, hnb⟩ : ∃ x, W.heap.size = x := ⟨_, rfl⟩
  rw [hV] at hs1 h1
  rw [hnb] at hs1
  obtain ⟨F0, hF0⟩ := h1.has 0 rfl
  have hg := rh_good hF0
  have hdat := hg.data
  have HR := Lib.hid (rready_is hF0 n hn)
  have HV := Lib.hid (And.intro hV hnb)
  have l0 := TNot.ld_at hnN (hs1.box 0 rfl).whole
  have HS1 := Lib.hid hs1; have HN := Lib.hid hn; have HNN := Lib.hid hnN; have HG := Lib.hid hg
  by_cases hr : readyP S n = 0
  · rw [hr] at HR
    obtain ⟨hmay, htoo, hb0, hb1, hfc, hroom, hjob⟩ := ready_zero hr
    obtain ⟨b, hbk⟩ : ∃ b : Nat, n.blk = b := ⟨n.blk.toNat, by omega⟩
    have hbn : b < S.n := by omega
    have HMAY := Lib.hid hmay; have HRZ := Lib.hid hr; have HROOM := Lib.hid hroom; have HJOB := Lib.hid hjob; have HBK := Lib.hid hbk
    obtain ⟨tk, htk⟩ : ∃ x, takeP S n = x := ⟨_, rfl⟩
    rw [htk]
    have HTK := Lib.hid htk
    clear h hs1 h1 hV hnb hF0 hg hr hmay htoo hb0 hb1 hfc hroom hjob hbk htk hnN hn
    go_enter Tryd.func36, Tryd.ntmps36
    go_upto_region 1 with fail
    rw [HV.out.1, HV.out.2]
    go_wp2_with fail
    refine HR.out.mono ?_
    rintro e w2 ⟨rfl, hu2⟩
    have hs2 := HS1.out.upd0 hu2
    have z0 : w2.cell? ⟨nb, 0, none⟩ = some (.int .u8 n.kind) := ((hs2.box 0 rfl).cell 0).trans n.get0
    have z3 : w2.cell? ⟨nb, 3, none⟩ = some (.int .i64 b) := ((hs2.box 0 rfl).cell 3).trans (by rw [← HBK.out]; exact n.get3)
    have HS2 := Lib.hid hs2
    clear hu2 hs2 l0 HR HS1
    go_wp2_with fail
    refine (NC.rNet_any n.kind _).mono ?_
    rintro e w3 ⟨rfl, rfl⟩
    cases hask : isAsk n
    · have bn : (netN n.kind == 0) = false := hask
      obtain ⟨j, hj, hj11, hj12⟩ := HJOB.out hask
      obtain ⟨-, -, hjb, hjo⟩ := HG.out.key _ _ hj
      by_cases hk : n.kind = 11
      · have hkb : (n.kind == 11) = true := by simp [hk]
        have htk := HTK.out
        rw [take_done HRZ.out hask hj hk] at htk
        have HTK2 := Lib.hid htk
        have HE := Lib.hid (rend_is (HS2.out.drop 0 (by simp)) (b : Int) (by omega) (by omega))
        rw [HBK.out] at HTK2
        clear hask hj hj11 hj12 hjb hjo hk htk HTK
        go_wp2_with fail
        refine HE.out.mono ?_
        rintro e w7 ⟨v, rfl, hs7⟩
        have HS7 := Lib.hid hs7
        clear hs7
        go_wp2
        go_ret2
        refine ⟨v, ?_⟩
        rw [← HTK2.out]
        exact ⟨rfl, HS7.out⟩
      · have hkb : (n.kind == 11) = false := by simp [hk]
        have htk := HTK.out
        rw [take_took HRZ.out hask hj hk] at htk
        have HTK2 := Lib.hid htk
        obtain ⟨p, hf, hs3⟩ := rh_open (Sep.pick HS2.out 1 rfl)
        have hs3 : Sep NoF w0 w2 (S.robjs hb rm p (boxO nb n.cells NT :: L)) := hs3
        have hjc := hf.jc
        have hbc : b < p.jc := by omega
        have hjm := hjc.2.1
        unfold maxLen at hjm
        have hjN := Jb.isN_r hjo
        have hA := RAt.of hs3
        have c10 : w2.cell? ⟨hb, 10, none⟩ = some (sl p.jb S.n p.jc) := hA.box.cell 10
        have hj' : S.J (b : Int) = some j := by rw [← HBK.out]; exact hj
        have lj := hA.ldJ hf.good hbn
        rw [hj'] at lj
        change (TRjb.ld (.pointer (some ⟨p.jb, b * 29, none⟩))).run Tryd.prog w2 = .ok (.agg j.rcells) w2 at lj
        have s1 := TRjb.st_new hjN w2
        have hs4 := hs3.alloc j.rcells RJT
        obtain ⟨X4, hX4⟩ : ∃ X, w2.alloc (.cells j.rcells RJT) = X := ⟨_, rfl⟩
        obtain ⟨jx, hjx⟩ : ∃ x, w2.heap.size = x := ⟨_, rfl⟩
        rw [hX4, hjx] at hs4
        have y6 : X4.cell? ⟨nb, 6, none⟩ = some (.bool n.has) := ((hs4.box 6 rfl).cell 6).trans n.get6
        have HW0 := (fun w => ML.rwithout_any j.wait n.frm w)
        obtain ⟨mw, hmw⟩ : ∃ x, j.wait &&& ~~~ bitB n.frm = x := ⟨_, rfl⟩
        rw [hmw] at HW0
        have HW := Lib.hid HW0; have HMW := Lib.hid hmw; have HX4 := Lib.hid (And.intro hX4 hjx); have HS4 := Lib.hid hs4; have HF := Lib.hid hf; have HJO := Lib.hid hjo
        have HJN := Lib.hid hjN; have HJ3 := Lib.hid hj'; have HJB := Lib.hid hjb
        clear HW0 hmw hX4 hjx hs4 hs3 hf hjc hjN hA hj' hask hj hj11 hj12 hjb hjo hk htk HTK
        go_upto_region 13 with fail
        rw [HX4.out.1, HX4.out.2]
        clear c10 lj s1 z0 z3 HX4
        cases hhas : n.has
        · rw [hhas] at y6
          by_cases hk10 : n.kind = 10
          · have hkt : (n.kind == 10) = true := by simp [hk10]
            have w0' : X4.cell? ⟨nb, 0, none⟩ = some (.int .u8 n.kind) := ((HS4.out.box 6 rfl).cell 0).trans n.get0
            have w4 : X4.cell? ⟨nb, 4, none⟩ = some (.int .u64 n.stamp) := ((HS4.out.box 6 rfl).cell 4).trans n.get4
            have hj24 : j.ask.cells.size = 24 := (Nt.Ok.isN HJO.out.ask.isU).1
            have v27 : X4.cell? ⟨jx, 27, none⟩ = some (.bool j.ref) := ((HS4.out.box 0 rfl).cell 27).trans ((Jb.r_tail hj24 2).trans rfl)
            have v28 : X4.cell? ⟨jx, 28, none⟩ = some (.int .u64 j.least) := ((HS4.out.box 0 rfl).cell 28).trans ((Jb.r_tail hj24 3).trans rfl)
            have g27 := (HS4.out.box 0 rfl).frozen 27
            have g28 := (HS4.out.box 0 rfl).frozen 28
            have HBU : Hid (∀ i, IsU (S.B i)) := Lib.hid HG.out.isU
            have hheard : heardP S n j = { j with wait := mw, ref := true, least := if (!j.ref || decide (n.stamp < j.least)) = true then n.stamp else j.least } := by
              unfold heardP; rw [HMW.out]; simp [hk10]
            cases hc : (!j.ref || decide (n.stamp < j.least))
            · have hs7 := HS4.out.set 0 rfl 27 (.bool true)
              simp only [List.set_cons_zero, Jb.rset27 hj24] at hs7
              obtain ⟨j1, hj1⟩ : ∃ x, ({ j with ref := true } : Jb) = x := ⟨_, rfl⟩
              have HHE : Hid (heardP S n j = { j1 with wait := mw }) := Lib.hid (by rw [hheard, hc, ← hj1]; simp)
              have HJ1O : Hid j1.Ok := Lib.hid (by rw [← hj1]; exact ⟨HJO.out.ask, HJO.out.least⟩)
              obtain ⟨X7, hX7⟩ : ∃ X, X4.setCell ⟨jx, 27, none⟩ (.bool true) = X := ⟨_, rfl⟩
              have HWT : Hid (j1.wait = j.wait) := Lib.hid (by rw [← hj1])
              have HJS : Hid (j1.ask.cells.size = 24) := Lib.hid (by rw [← hj1]; exact hj24)
              have HJ1B : Hid (j1.ask.blk = n.blk) := Lib.hid (by rw [← hj1]; exact HJB.out)
              rw [hX7, hj1] at hs7
              have HSA : Hid (Sep NoF w0 X7 (boxO jx j1.rcells RJT :: boxO hb (S.rcells rm p) RHT :: rmO rm S.c.blocks.toNat S.B :: boxO p.eb (rowG 2 S.n (fun i => (S.E i).cells) ++ p.et) ET' :: boxO p.jb (rowG 29 S.n (fun i => rjc (S.J (i : Int))) ++ p.jt) RJT :: outO (.slice p.wa S.Q.length p.wc) S.Q :: boxO nb n.cells NT :: L)) := Lib.hid hs7
              have HX7 := Lib.hid hX7
              clear hs7 hX7 hj1 hheard hk10 hj24
              have hrr : j.ref = true := by simp at hc; exact hc.1
              have hls : decide (n.stamp < j.least) = false := by simp at hc; simp; omega
              rw [hrr] at v27
              clear hc hrr
              go_upto_region 19 with fail
              rw [HX7.out]
              clear y6 w0' w4 v27 v28 g27 g28 HX7 hkt
              clear hls
              have x25 : X7.cell? ⟨jx, 25, none⟩ = some (VM j.wait) := ((HSA.out.box 0 rfl).cell 25).trans ((Jb.r_tail HJS.out 0).trans (by rw [← HWT.out]; rfl))
              have g25 := (HSA.out.box 0 rfl).frozen 25
              have x1 : X7.cell? ⟨nb, 1, none⟩ = some (.int .i64 n.frm) := ((HSA.out.box 6 rfl).cell 1).trans n.get1
              have hs8 := HSA.out.set 0 rfl 25 (VM mw)
              simp only [List.set_cons_zero] at hs8
              rw [Jb.rset25 HJS.out] at hs8
              obtain ⟨j2, hj2⟩ : ∃ x, ({ j1 with wait := mw } : Jb) = x := ⟨_, rfl⟩
              rw [hj2] at hs8
              obtain ⟨X8, hX8⟩ : ∃ X, X7.setCell ⟨jx, 25, none⟩ (VM mw) = X := ⟨_, rfl⟩
              rw [hX8] at hs8
              have HSX : Hid (Sep NoF w0 X8 (boxO jx j2.rcells RJT :: boxO hb (S.rcells rm p) RHT :: rmO rm S.c.blocks.toNat S.B :: boxO p.eb (rowG 2 S.n (fun i => (S.E i).cells) ++ p.et) ET' :: boxO p.jb (rowG 29 S.n (fun i => rjc (S.J (i : Int))) ++ p.jt) RJT :: outO (.slice p.wa S.Q.length p.wc) S.Q :: boxO nb n.cells NT :: L)) := Lib.hid hs8
              have HHD : Hid (heardP S n j = j2) := Lib.hid (by rw [← hj2]; exact HHE.out)
              have HJK : Hid j2.Ok := Lib.hid (by rw [← hj2]; exact ⟨HJ1O.out.ask, HJ1O.out.least⟩)
              have HJKB : Hid (j2.ask.blk = n.blk) := Lib.hid (by rw [← hj2]; exact HJ1B.out)
              have HX8 := Lib.hid hX8
              clear hs8 hX8 hj2 HHE HJ1O HJ1B HSA HWT HJS
              skip
              go_wp2_with fail
              refine (HW.out _).mono ?_
              rintro e w6 ⟨rfl, rfl⟩
              go_upto_region 20 with fail
              rw [HX8.out]
              clear x25 g25 x1 HX8 HW
              have hjN2 := Jb.isN_r HJK.out
              have hsd := HSX.out.upd0 (Upd.drew NoF X8)
              have hst := rst_mid hjN2 (hsd.box 4 rfl) (o := b * 29) (by have := idx_lt (k := 29) (r := 28) hbn (by omega); rw [Array.size_append, rowG_size]; omega)
              have hs12 := hsd.setMG 4 rfl (b * 29) j2.rcells.toList
              simp only [List.set_cons_zero, List.set_cons_succ] at hs12
              have hjp := job_put HF.out.good hbn (o := some j2) hjN2 (t := p.jt)
              change setMany _ (b * 29) j2.rcells.toList = _ at hjp
              rw [hjp] at hs12
              obtain ⟨X12, hX12⟩ : ∃ X, (X8.drew).setCells p.jb (b * 29) j2.rcells.toList = X := ⟨_, rfl⟩
              rw [hX12] at hst hs12
              have HM0 : Hid ((fun X : World => X.cell? ⟨hb, 10, none⟩ = some (sl p.jb S.n p.jc) ∧ (TRjb.ld (.pointer (some ⟨jx, 0, none⟩))).run Tryd.prog X = .ok (.agg j2.rcells) X) X8.drew) := Lib.hid ⟨(hsd.box 1 rfl).cell 10, TRjb.ld_at hjN2 (hsd.box 0 rfl).whole⟩
              have HM1 : Hid ((fun X : World => X.cell? ⟨hb, 10, none⟩ = some (sl p.jb S.n p.jc) ∧ (TRjb.ld (.pointer (some ⟨jx, 0, none⟩))).run Tryd.prog X = .ok (.agg j2.rcells) X) X12) := Lib.hid ⟨(hs12.box 1 rfl).cell 10, TRjb.ld_at hjN2 (hs12.box 0 rfl).whole⟩
              have hSn : RFits { S with B := S.B, J := updI S.J n.blk (some j2) } p := ⟨good_heard HF.out.good HJK.out HJKB.out (by rw [HBK.out]; omega) (by rw [HBK.out]; omega) HBU.out, HF.out.ec, HF.out.jc⟩
              have HS13 : Hid (Sep NoF w0 X12 (boxO jx j2.rcells RJT :: rhO hb rm { S with B := S.B, J := updI S.J n.blk (some j2) } :: boxO nb n.cells NT :: L)) := Lib.hid (by
                rw [← HBK.out] at hs12
                exact rh_shut1 hSn hs12)
              have hj24 : j2.ask.cells.size = 24 := (Nt.Ok.isN HJK.out.ask.isU).1
              have u2 : X12.cell? ⟨jx, 2, none⟩ = some (.int .i64 j2.ask.frm) := ((hs12.box 0 rfl).cell 2).trans ((Jb.r_ask (i := 1) hj24 (by omega)).trans j2.ask.get1)
              have u25 : X12.cell? ⟨jx, 25, none⟩ = some (VM j2.wait) := ((hs12.box 0 rfl).cell 25).trans ((Jb.r_tail hj24 0).trans rfl)
              have u27 : X12.cell? ⟨jx, 27, none⟩ = some (.bool j2.ref) := ((hs12.box 0 rfl).cell 27).trans ((Jb.r_tail hj24 2).trans rfl)
              have u28 : X12.cell? ⟨jx, 28, none⟩ = some (.int .u64 j2.least) := ((hs12.box 0 rfl).cell 28).trans ((Jb.r_tail hj24 3).trans rfl)
              have HGD : Hid (Good { S with B := S.B, J := updI S.J n.blk (some j2) }) := Lib.hid hSn.good
              have HTK3 : Hid ((if j2.wait ≠ 0#32 then (({ S with B := S.B, J := updI S.J n.blk (some j2) } : Hs), ([] : List Nt), (0 : Int)) else if j2.ref then ((endP { S with B := S.B, J := updI S.J n.blk (some j2) } n.blk).1, ntNack j2.ask.frm n.blk j2.least :: (endP { S with B := S.B, J := updI S.J n.blk (some j2) } n.blk).2, 0) else ((answerP { S with B := S.B, J := updI S.J n.blk (some j2) } j2).1, [(answerP { S with B := S.B, J := updI S.J n.blk (some j2) } j2).2], 0)) = tk) := Lib.hid (by
                rw [← HTK2.out, ← HHD.out]
                unfold tookP
                simp only [hhas, Bool.false_eq_true, if_false]
                split
                · rfl
                · split <;> rfl)
              clear hsd hs12 hSn hjN2 hX12 hjp hj24 hhas HMW HHD
              go_wp2_with fail
              refine wp_region_held_drew (S := (fun X : World => X.cell? ⟨hb, 10, none⟩ = some (sl p.jb S.n p.jc) ∧ (TRjb.ld (.pointer (some ⟨jx, 0, none⟩))).run Tryd.prog X = .ok (.agg j2.rcells) X)) (by kernel_rfl) (HM0.out) (fun hHeld => ?_)
              refine rgn 0 (v := ?vq22) hHeld ?yq22 ?_
              case yq22 => (intro w hSw; obtain ⟨k0, k1⟩ := hSw; go_simp; try with_reducible rfl)
              simp only [Act.put, rn1, rn2, rn3, rn4, rn5, rn6]
              refine rgn 1 (v := ?vq23) hHeld ?yq23 ?_
              case yq23 => (intro w hSw; obtain ⟨k0, k1⟩ := hSw; go_simp; try with_reducible rfl)
              simp only [Act.put, rn1, rn2, rn3, rn4, rn5, rn6]
              refine rgn 2 (v := ?vq24) hHeld ?yq24 ?_
              case yq24 => (intro w hSw; obtain ⟨k0, k1⟩ := hSw; go_simp; try with_reducible rfl)
              simp only [Act.put, rn1, rn2, rn3, rn4, rn5, rn6]
              refine rgn 3 (v := ?vq25) hHeld ?yq25 ?_
              case yq25 => (intro w hSw; obtain ⟨k0, k1⟩ := hSw; go_simp; try with_reducible rfl)
              simp only [Act.put, rn1, rn2, rn3, rn4, rn5, rn6]
              refine rgn 4 (v := ?vq26) hHeld ?yq26 ?_
              case yq26 => (intro w hSw; obtain ⟨k0, k1⟩ := hSw; go_simp; try with_reducible rfl)
              simp only [Act.put, rn1, rn2, rn3, rn4, rn5, rn6]
              refine rgn 5 (v := ?vq27) hHeld ?yq27 ?_
              case yq27 => (intro w hSw; obtain ⟨k0, k1⟩ := hSw; go_simp; try with_reducible rfl)
              simp only [Act.put, rn1, rn2, rn3, rn4, rn5, rn6]
              refine rgn 6 (v := ?vq28) hHeld ?yq28 ?_
              case yq28 => (intro w hSw; obtain ⟨k0, k1⟩ := hSw; go_simp; try with_reducible rfl)
              simp only [Act.put, rn1, rn2, rn3, rn4, rn5, rn6]
              refine reg_step (i := 7) (by kernel_rfl) rfl (by kernel_rfl) (fun K hK => ?_)
              go_simp
              have HS := HM1.out
              refine hK.out _ _ HS (fun hHeld2 => ?_)
              clear hK hHeld2 hHeld; have hHeld := HS; clear HS
              try simp only [Act.put, rn1, rn2, rn3, rn4, rn5, rn6]
              refine wpAnyH_done (by kernel_rfl) ?_ _
              clear hHeld HM0 HM1 hst
              by_cases hwz : j2.wait = 0#32
              · have hw0 : (((j2.wait.toNat : Nat) : Int) != 0) = false := by simp [hwz]
                cases hrf : j2.ref
                · rw [hrf] at u27
                  have htk3 := HTK3.out
                  simp only [hwz, hrf, ne_eq, not_true_eq_false, if_false, Bool.false_eq_true] at htk3
                  have HTK4 := Lib.hid htk3
                  have HANS := Lib.hid (ranswer_is (HS13.out.drop 0 (by simp)) b j2 (by rw [← HBK.out]; exact updI_same _ _ _))
                  clear htk3 hwz HTK3 hrf
                  go_wp2_with fail
                  refine HANS.out.mono ?_
                  rintro e X14 ⟨g, rfl, hs14⟩
                  have hns : (answerP { S with B := S.B, J := updI S.J n.blk (some j2) } j2).2.cells.size = 24 := (Nt.Ok.isN (show IsU (answerP { S with B := S.B, J := updI S.J n.blk (some j2) } j2).2.D from HBU.out _)).1
                  have HS15 := Lib.hid (hs14.head (Φ' := outO (sl g 1 1) [(answerP { S with B := S.B, J := updI S.J n.blk (some j2) } j2).2]) (fun F hF => out_one hns hF))
                  clear hs14 hns
                  go_wp2
                  go_ret2
                  refine ⟨sl g 1 1, ?_⟩
                  rw [← HTK4.out]
                  exact ⟨rfl, HS15.out.drop 2 (by simp)⟩
                · rw [hrf] at u27
                  have htk3 := HTK3.out
                  simp only [hwz, hrf, ne_eq, not_true_eq_false, if_false, if_true] at htk3
                  have y2 := fun w => bd_stamp 7 j2.ask.frm b j2.least w
                  have hnS : (ntAsk 7 j2.ask.frm b j2.least).cells.size = 24 := (Nt.Ok.isN (n := ntAsk 7 j2.ask.frm b j2.least) BU.isU_Z).1
                  have y3 := fun w => bsN_run hnS w
                  have hs14 := ((HS13.out.alloc (ntAsk 7 j2.ask.frm b j2.least).cells NT).head (Φ' := outO (sl X12.heap.size 1 1) [ntAsk 7 j2.ask.frm b j2.least]) (fun F hF => out_one hnS hF))
                  obtain ⟨X14, hX14⟩ : ∃ X14, X12.alloc (.cells (ntAsk 7 j2.ask.frm b j2.least).cells NT) = X14 := ⟨_, rfl⟩
                  obtain ⟨gx, hgx⟩ : ∃ gx, X12.heap.size = gx := ⟨_, rfl⟩
                  rw [hX14, hgx] at hs14
                  have hs15 := (hs14.drop 1 (by simp)).drop 2 (by simp)
                  have hE0 := rend_is (hb := hb) (rm := rm) hs15.swap n.blk (by rw [HBK.out]; omega) (by show n.blk < S.data; rw [HBK.out]; omega)
                  have hEU := end_facts (S := { S with B := S.B, J := updI S.J n.blk (some j2) }) (b := n.blk) HGD.out
                  obtain ⟨t, ht⟩ : ∃ t, endP { S with B := S.B, J := updI S.J n.blk (some j2) } n.blk = t := ⟨_, rfl⟩
                  rw [ht] at hE0 htk3 hEU
                  rw [HBK.out] at hE0
                  have HEND := Lib.hid hE0
                  have HTK4 := Lib.hid htk3
                  have HEU := Lib.hid hEU
                  have HX14 := Lib.hid (And.intro hX14 hgx)
                  clear htk3 hwz HTK3 hrf hs14 hs15 hX14 hgx hE0 hEU ht
                  go_upto_region 25 with fail
                  rw [HX14.out.1, HX14.out.2]
                  clear y2 y3 u2 u25 u27 u28 hnS HX14
                  go_wp2_with fail
                  refine HEND.out.mono ?_
                  rintro e X16 ⟨v2, rfl, hs16⟩
                  obtain ⟨v', X17, hrun, hs17⟩ := s_cat hs16 2 0 rfl rfl HEU.out.2 (by have := HEU.out.1; simp; omega)
                  obtain ⟨v9, hv9⟩ : ∃ v9, v9 = v' := ⟨_, rfl⟩
                  rw [← hv9] at hrun hs17
                  clear hv9
                  have HR2 := Lib.hid hrun
                  have HS17 := Lib.hid ((hs17.drop 0 (by simp)).swap)
                  clear hrun hs17 hs16
                  go_wp2_with (at_builtin; refine wpList_append_run (w := X16) rfl _ _ NS rfl rfl rfl HR2.out ?_)
                  go_ret2
                  rw [HBK.out] at HTK4
                  rw [← HTK4.out]
                  exact ⟨v9, rfl, HS17.out⟩
              · have hw0 : (((j2.wait.toNat : Nat) : Int) != 0) = true := by
                  have : j2.wait.toNat ≠ 0 := fun e => hwz (BitVec.eq_of_toNat_eq (by simpa using e))
                  simp; omega
                have htk3 := HTK3.out
                simp only [ne_eq, hwz, not_false_eq_true, if_true] at htk3
                have HTK4 := Lib.hid htk3
                clear htk3 hwz HTK3
                go_wp2
                go_ret2
                refine ⟨.slice none 0 0, ?_⟩
                rw [← HTK4.out]
                exact ⟨rfl, out_nil ((HS13.out.drop 0 (by simp)).drop 1 (by simp))⟩
            · have hs7 := (HS4.out.set 0 rfl 28 (.int .u64 n.stamp)).set 0 rfl 27 (.bool true)
              simp only [List.set_cons_zero, Jb.rset28 hj24] at hs7
              rw [Jb.rset27 (j := { j with least := n.stamp }) hj24] at hs7
              obtain ⟨j1, hj1⟩ : ∃ x, ({ j with least := n.stamp, ref := true } : Jb) = x := ⟨_, rfl⟩
              have HHE : Hid (heardP S n j = { j1 with wait := mw }) := Lib.hid (by rw [hheard, hc, ← hj1]; simp)
              have HJ1O : Hid j1.Ok := Lib.hid (by rw [← hj1]; exact ⟨HJO.out.ask, HN.out.stamp⟩)
              obtain ⟨X7, hX7⟩ : ∃ X, (X4.setCell ⟨jx, 28, none⟩ (.int .u64 n.stamp)).setCell ⟨jx, 27, none⟩ (.bool true) = X := ⟨_, rfl⟩
              have HWT : Hid (j1.wait = j.wait) := Lib.hid (by rw [← hj1])
              have HJS : Hid (j1.ask.cells.size = 24) := Lib.hid (by rw [← hj1]; exact hj24)
              have HJ1B : Hid (j1.ask.blk = n.blk) := Lib.hid (by rw [← hj1]; exact HJB.out)
              rw [hX7, hj1] at hs7
              have HSA : Hid (Sep NoF w0 X7 (boxO jx j1.rcells RJT :: boxO hb (S.rcells rm p) RHT :: rmO rm S.c.blocks.toNat S.B :: boxO p.eb (rowG 2 S.n (fun i => (S.E i).cells) ++ p.et) ET' :: boxO p.jb (rowG 29 S.n (fun i => rjc (S.J (i : Int))) ++ p.jt) RJT :: outO (.slice p.wa S.Q.length p.wc) S.Q :: boxO nb n.cells NT :: L)) := Lib.hid hs7
              have HX7 := Lib.hid hX7
              clear hs7 hX7 hj1 hheard hk10 hj24
              cases hrr : j.ref
              · rw [hrr] at v27
                clear hc hrr
                go_upto_region 19 with fail
                rw [HX7.out]
                clear y6 w0' w4 v27 v28 g27 g28 HX7 hkt
                have x25 : X7.cell? ⟨jx, 25, none⟩ = some (VM j.wait) := ((HSA.out.box 0 rfl).cell 25).trans ((Jb.r_tail HJS.out 0).trans (by rw [← HWT.out]; rfl))
                have g25 := (HSA.out.box 0 rfl).frozen 25
                have x1 : X7.cell? ⟨nb, 1, none⟩ = some (.int .i64 n.frm) := ((HSA.out.box 6 rfl).cell 1).trans n.get1
                have hs8 := HSA.out.set 0 rfl 25 (VM mw)
                simp only [List.set_cons_zero] at hs8
                rw [Jb.rset25 HJS.out] at hs8
                obtain ⟨j2, hj2⟩ : ∃ x, ({ j1 with wait := mw } : Jb) = x := ⟨_, rfl⟩
                rw [hj2] at hs8
                obtain ⟨X8, hX8⟩ : ∃ X, X7.setCell ⟨jx, 25, none⟩ (VM mw) = X := ⟨_, rfl⟩
                rw [hX8] at hs8
                have HSX : Hid (Sep NoF w0 X8 (boxO jx j2.rcells RJT :: boxO hb (S.rcells rm p) RHT :: rmO rm S.c.blocks.toNat S.B :: boxO p.eb (rowG 2 S.n (fun i => (S.E i).cells) ++ p.et) ET' :: boxO p.jb (rowG 29 S.n (fun i => rjc (S.J (i : Int))) ++ p.jt) RJT :: outO (.slice p.wa S.Q.length p.wc) S.Q :: boxO nb n.cells NT :: L)) := Lib.hid hs8
                have HHD : Hid (heardP S n j = j2) := Lib.hid (by rw [← hj2]; exact HHE.out)
                have HJK : Hid j2.Ok := Lib.hid (by rw [← hj2]; exact ⟨HJ1O.out.ask, HJ1O.out.least⟩)
                have HJKB : Hid (j2.ask.blk = n.blk) := Lib.hid (by rw [← hj2]; exact HJ1B.out)
                have HX8 := Lib.hid hX8
                clear hs8 hX8 hj2 HHE HJ1O HJ1B HSA HWT HJS
                skip
                go_wp2_with fail
                refine (HW.out _).mono ?_
                rintro e w6 ⟨rfl, rfl⟩
                go_upto_region 20 with fail
                rw [HX8.out]
                clear x25 g25 x1 HX8 HW
                have hjN2 := Jb.isN_r HJK.out
                have hsd := HSX.out.upd0 (Upd.drew NoF X8)
                have hst := rst_mid hjN2 (hsd.box 4 rfl) (o := b * 29) (by have := idx_lt (k := 29) (r := 28) hbn (by omega); rw [Array.size_append, rowG_size]; omega)
                have hs12 := hsd.setMG 4 rfl (b * 29) j2.rcells.toList
                simp only [List.set_cons_zero, List.set_cons_succ] at hs12
                have hjp := job_put HF.out.good hbn (o := some j2) hjN2 (t := p.jt)
                change setMany _ (b * 29) j2.rcells.toList = _ at hjp
                rw [hjp] at hs12
                obtain ⟨X12, hX12⟩ : ∃ X, (X8.drew).setCells p.jb (b * 29) j2.rcells.toList = X := ⟨_, rfl⟩
                rw [hX12] at hst hs12
                have HM0 : Hid ((fun X : World => X.cell? ⟨hb, 10, none⟩ = some (sl p.jb S.n p.jc) ∧ (TRjb.ld (.pointer (some ⟨jx, 0, none⟩))).run Tryd.prog X = .ok (.agg j2.rcells) X) X8.drew) := Lib.hid ⟨(hsd.box 1 rfl).cell 10, TRjb.ld_at hjN2 (hsd.box 0 rfl).whole⟩
                have HM1 : Hid ((fun X : World => X.cell? ⟨hb, 10, none⟩ = some (sl p.jb S.n p.jc) ∧ (TRjb.ld (.pointer (some ⟨jx, 0, none⟩))).run Tryd.prog X = .ok (.agg j2.rcells) X) X12) := Lib.hid ⟨(hs12.box 1 rfl).cell 10, TRjb.ld_at hjN2 (hs12.box 0 rfl).whole⟩
                have hSn : RFits { S with B := S.B, J := updI S.J n.blk (some j2) } p := ⟨good_heard HF.out.good HJK.out HJKB.out (by rw [HBK.out]; omega) (by rw [HBK.out]; omega) HBU.out, HF.out.ec, HF.out.jc⟩
                have HS13 : Hid (Sep NoF w0 X12 (boxO jx j2.rcells RJT :: rhO hb rm { S with B := S.B, J := updI S.J n.blk (some j2) } :: boxO nb n.cells NT :: L)) := Lib.hid (by
                  rw [← HBK.out] at hs12
                  exact rh_shut1 hSn hs12)
                have hj24 : j2.ask.cells.size = 24 := (Nt.Ok.isN HJK.out.ask.isU).1
                have u2 : X12.cell? ⟨jx, 2, none⟩ = some (.int .i64 j2.ask.frm) := ((hs12.box 0 rfl).cell 2).trans ((Jb.r_ask (i := 1) hj24 (by omega)).trans j2.ask.get1)
                have u25 : X12.cell? ⟨jx, 25, none⟩ = some (VM j2.wait) := ((hs12.box 0 rfl).cell 25).trans ((Jb.r_tail hj24 0).trans rfl)
                have u27 : X12.cell? ⟨jx, 27, none⟩ = some (.bool j2.ref) := ((hs12.box 0 rfl).cell 27).trans ((Jb.r_tail hj24 2).trans rfl)
                have u28 : X12.cell? ⟨jx, 28, none⟩ = some (.int .u64 j2.least) := ((hs12.box 0 rfl).cell 28).trans ((Jb.r_tail hj24 3).trans rfl)
                have HGD : Hid (Good { S with B := S.B, J := updI S.J n.blk (some j2) }) := Lib.hid hSn.good
                have HTK3 : Hid ((if j2.wait ≠ 0#32 then (({ S with B := S.B, J := updI S.J n.blk (some j2) } : Hs), ([] : List Nt), (0 : Int)) else if j2.ref then ((endP { S with B := S.B, J := updI S.J n.blk (some j2) } n.blk).1, ntNack j2.ask.frm n.blk j2.least :: (endP { S with B := S.B, J := updI S.J n.blk (some j2) } n.blk).2, 0) else ((answerP { S with B := S.B, J := updI S.J n.blk (some j2) } j2).1, [(answerP { S with B := S.B, J := updI S.J n.blk (some j2) } j2).2], 0)) = tk) := Lib.hid (by
                  rw [← HTK2.out, ← HHD.out]
                  unfold tookP
                  simp only [hhas, Bool.false_eq_true, if_false]
                  split
                  · rfl
                  · split <;> rfl)
                clear hsd hs12 hSn hjN2 hX12 hjp hj24 hhas HMW HHD
                go_wp2_with fail
                refine wp_region_held_drew (S := (fun X : World => X.cell? ⟨hb, 10, none⟩ = some (sl p.jb S.n p.jc) ∧ (TRjb.ld (.pointer (some ⟨jx, 0, none⟩))).run Tryd.prog X = .ok (.agg j2.rcells) X)) (by kernel_rfl) (HM0.out) (fun hHeld => ?_)
                refine rgn 0 (v := ?vq29) hHeld ?yq29 ?_
                case yq29 => (intro w hSw; obtain ⟨k0, k1⟩ := hSw; go_simp; try with_reducible rfl)
                simp only [Act.put, rn1, rn2, rn3, rn4, rn5, rn6]
                refine rgn 1 (v := ?vq30) hHeld ?yq30 ?_
                case yq30 => (intro w hSw; obtain ⟨k0, k1⟩ := hSw; go_simp; try with_reducible rfl)
                simp only [Act.put, rn1, rn2, rn3, rn4, rn5, rn6]
                refine rgn 2 (v := ?vq31) hHeld ?yq31 ?_
                case yq31 => (intro w hSw; obtain ⟨k0, k1⟩ := hSw; go_simp; try with_reducible rfl)
                simp only [Act.put, rn1, rn2, rn3, rn4, rn5, rn6]
                refine rgn 3 (v := ?vq32) hHeld ?yq32 ?_
                case yq32 => (intro w hSw; obtain ⟨k0, k1⟩ := hSw; go_simp; try with_reducible rfl)
                simp only [Act.put, rn1, rn2, rn3, rn4, rn5, rn6]
                refine rgn 4 (v := ?vq33) hHeld ?yq33 ?_
                case yq33 => (intro w hSw; obtain ⟨k0, k1⟩ := hSw; go_simp; try with_reducible rfl)
                simp only [Act.put, rn1, rn2, rn3, rn4, rn5, rn6]
                refine rgn 5 (v := ?vq34) hHeld ?yq34 ?_
                case yq34 => (intro w hSw; obtain ⟨k0, k1⟩ := hSw; go_simp; try with_reducible rfl)
                simp only [Act.put, rn1, rn2, rn3, rn4, rn5, rn6]
                refine rgn 6 (v := ?vq35) hHeld ?yq35 ?_
                case yq35 => (intro w hSw; obtain ⟨k0, k1⟩ := hSw; go_simp; try with_reducible rfl)
                simp only [Act.put, rn1, rn2, rn3, rn4, rn5, rn6]
                refine reg_step (i := 7) (by kernel_rfl) rfl (by kernel_rfl) (fun K hK => ?_)
                go_simp
                have HS := HM1.out
                refine hK.out _ _ HS (fun hHeld2 => ?_)
                clear hK hHeld2 hHeld; have hHeld := HS; clear HS
                try simp only [Act.put, rn1, rn2, rn3, rn4, rn5, rn6]
                refine wpAnyH_done (by kernel_rfl) ?_ _
                clear hHeld HM0 HM1 hst
                by_cases hwz : j2.wait = 0#32
                · have hw0 : (((j2.wait.toNat : Nat) : Int) != 0) = false := by simp [hwz]
                  cases hrf : j2.ref
                  · rw [hrf] at u27
                    have htk3 := HTK3.out
                    simp only [hwz, hrf, ne_eq, not_true_eq_false, if_false, Bool.false_eq_true] at htk3
                    have HTK4 := Lib.hid htk3
                    have HANS := Lib.hid (ranswer_is (HS13.out.drop 0 (by simp)) b j2 (by rw [← HBK.out]; exact updI_same _ _ _))
                    clear htk3 hwz HTK3 hrf
                    go_wp2_with fail
                    refine HANS.out.mono ?_
                    rintro e X14 ⟨g, rfl, hs14⟩
                    have hns : (answerP { S with B := S.B, J := updI S.J n.blk (some j2) } j2).2.cells.size = 24 := (Nt.Ok.isN (show IsU (answerP { S with B := S.B, J := updI S.J n.blk (some j2) } j2).2.D from HBU.out _)).1
                    have HS15 := Lib.hid (hs14.head (Φ' := outO (sl g 1 1) [(answerP { S with B := S.B, J := updI S.J n.blk (some j2) } j2).2]) (fun F hF => out_one hns hF))
                    clear hs14 hns
                    go_wp2
                    go_ret2
                    refine ⟨sl g 1 1, ?_⟩
                    rw [← HTK4.out]
                    exact ⟨rfl, HS15.out.drop 2 (by simp)⟩
                  · rw [hrf] at u27
                    have htk3 := HTK3.out
                    simp only [hwz, hrf, ne_eq, not_true_eq_false, if_false, if_true] at htk3
                    have y2 := fun w => bd_stamp 7 j2.ask.frm b j2.least w
                    have hnS : (ntAsk 7 j2.ask.frm b j2.least).cells.size = 24 := (Nt.Ok.isN (n := ntAsk 7 j2.ask.frm b j2.least) BU.isU_Z).1
                    have y3 := fun w => bsN_run hnS w
                    have hs14 := ((HS13.out.alloc (ntAsk 7 j2.ask.frm b j2.least).cells NT).head (Φ' := outO (sl X12.heap.size 1 1) [ntAsk 7 j2.ask.frm b j2.least]) (fun F hF => out_one hnS hF))
                    obtain ⟨X14, hX14⟩ : ∃ X14, X12.alloc (.cells (ntAsk 7 j2.ask.frm b j2.least).cells NT) = X14 := ⟨_, rfl⟩
                    obtain ⟨gx, hgx⟩ : ∃ gx, X12.heap.size = gx := ⟨_, rfl⟩
                    rw [hX14, hgx] at hs14
                    have hs15 := (hs14.drop 1 (by simp)).drop 2 (by simp)
                    have hE0 := rend_is (hb := hb) (rm := rm) hs15.swap n.blk (by rw [HBK.out]; omega) (by show n.blk < S.data; rw [HBK.out]; omega)
                    have hEU := end_facts (S := { S with B := S.B, J := updI S.J n.blk (some j2) }) (b := n.blk) HGD.out
                    obtain ⟨t, ht⟩ : ∃ t, endP { S with B := S.B, J := updI S.J n.blk (some j2) } n.blk = t := ⟨_, rfl⟩
                    rw [ht] at hE0 htk3 hEU
                    rw [HBK.out] at hE0
                    have HEND := Lib.hid hE0
                    have HTK4 := Lib.hid htk3
                    have HEU := Lib.hid hEU
                    have HX14 := Lib.hid (And.intro hX14 hgx)
                    clear htk3 hwz HTK3 hrf hs14 hs15 hX14 hgx hE0 hEU ht
                    go_upto_region 25 with fail
                    rw [HX14.out.1, HX14.out.2]
                    clear y2 y3 u2 u25 u27 u28 hnS HX14
                    go_wp2_with fail
                    refine HEND.out.mono ?_
                    rintro e X16 ⟨v2, rfl, hs16⟩
                    obtain ⟨v', X17, hrun, hs17⟩ := s_cat hs16 2 0 rfl rfl HEU.out.2 (by have := HEU.out.1; simp; omega)
                    obtain ⟨v9, hv9⟩ : ∃ v9, v9 = v' := ⟨_, rfl⟩
                    rw [← hv9] at hrun hs17
                    clear hv9
                    have HR2 := Lib.hid hrun
                    have HS17 := Lib.hid ((hs17.drop 0 (by simp)).swap)
                    clear hrun hs17 hs16
                    go_wp2_with (at_builtin; refine wpList_append_run (w := X16) rfl _ _ NS rfl rfl rfl HR2.out ?_)
                    go_ret2
                    rw [HBK.out] at HTK4
                    rw [← HTK4.out]
                    exact ⟨v9, rfl, HS17.out⟩
                · have hw0 : (((j2.wait.toNat : Nat) : Int) != 0) = true := by
                    have : j2.wait.toNat ≠ 0 := fun e => hwz (BitVec.eq_of_toNat_eq (by simpa using e))
                    simp; omega
                  have htk3 := HTK3.out
                  simp only [ne_eq, hwz, not_false_eq_true, if_true] at htk3
                  have HTK4 := Lib.hid htk3
                  clear htk3 hwz HTK3
                  go_wp2
                  go_ret2
                  refine ⟨.slice none 0 0, ?_⟩
                  rw [← HTK4.out]
                  exact ⟨rfl, out_nil ((HS13.out.drop 0 (by simp)).drop 1 (by simp))⟩
              · have hls : decide (n.stamp < j.least) = true := by rw [hrr] at hc; simpa using hc
                rw [hrr] at v27
                clear hc hrr
                go_upto_region 19 with fail
                rw [HX7.out]
                clear y6 w0' w4 v27 v28 g27 g28 HX7 hkt
                clear hls
                have x25 : X7.cell? ⟨jx, 25, none⟩ = some (VM j.wait) := ((HSA.out.box 0 rfl).cell 25).trans ((Jb.r_tail HJS.out 0).trans (by rw [← HWT.out]; rfl))
                have g25 := (HSA.out.box 0 rfl).frozen 25
                have x1 : X7.cell? ⟨nb, 1, none⟩ = some (.int .i64 n.frm) := ((HSA.out.box 6 rfl).cell 1).trans n.get1
                have hs8 := HSA.out.set 0 rfl 25 (VM mw)
                simp only [List.set_cons_zero] at hs8
                rw [Jb.rset25 HJS.out] at hs8
                obtain ⟨j2, hj2⟩ : ∃ x, ({ j1 with wait := mw } : Jb) = x := ⟨_, rfl⟩
                rw [hj2] at hs8
                obtain ⟨X8, hX8⟩ : ∃ X, X7.setCell ⟨jx, 25, none⟩ (VM mw) = X := ⟨_, rfl⟩
                rw [hX8] at hs8
                have HSX : Hid (Sep NoF w0 X8 (boxO jx j2.rcells RJT :: boxO hb (S.rcells rm p) RHT :: rmO rm S.c.blocks.toNat S.B :: boxO p.eb (rowG 2 S.n (fun i => (S.E i).cells) ++ p.et) ET' :: boxO p.jb (rowG 29 S.n (fun i => rjc (S.J (i : Int))) ++ p.jt) RJT :: outO (.slice p.wa S.Q.length p.wc) S.Q :: boxO nb n.cells NT :: L)) := Lib.hid hs8
                have HHD : Hid (heardP S n j = j2) := Lib.hid (by rw [← hj2]; exact HHE.out)
                have HJK : Hid j2.Ok := Lib.hid (by rw [← hj2]; exact ⟨HJ1O.out.ask, HJ1O.out.least⟩)
                have HJKB : Hid (j2.ask.blk = n.blk) := Lib.hid (by rw [← hj2]; exact HJ1B.out)
                have HX8 := Lib.hid hX8
                clear hs8 hX8 hj2 HHE HJ1O HJ1B HSA HWT HJS
                skip
                go_wp2_with fail
                refine (HW.out _).mono ?_
                rintro e w6 ⟨rfl, rfl⟩
                go_upto_region 20 with fail
                rw [HX8.out]
                clear x25 g25 x1 HX8 HW
                have hjN2 := Jb.isN_r HJK.out
                have hsd := HSX.out.upd0 (Upd.drew NoF X8)
                have hst := rst_mid hjN2 (hsd.box 4 rfl) (o := b * 29) (by have := idx_lt (k := 29) (r := 28) hbn (by omega); rw [Array.size_append, rowG_size]; omega)
                have hs12 := hsd.setMG 4 rfl (b * 29) j2.rcells.toList
                simp only [List.set_cons_zero, List.set_cons_succ] at hs12
                have hjp := job_put HF.out.good hbn (o := some j2) hjN2 (t := p.jt)
                change setMany _ (b * 29) j2.rcells.toList = _ at hjp
                rw [hjp] at hs12
                obtain ⟨X12, hX12⟩ : ∃ X, (X8.drew).setCells p.jb (b * 29) j2.rcells.toList = X := ⟨_, rfl⟩
                rw [hX12] at hst hs12
                have HM0 : Hid ((fun X : World => X.cell? ⟨hb, 10, none⟩ = some (sl p.jb S.n p.jc) ∧ (TRjb.ld (.pointer (some ⟨jx, 0, none⟩))).run Tryd.prog X = .ok (.agg j2.rcells) X) X8.drew) := Lib.hid ⟨(hsd.box 1 rfl).cell 10, TRjb.ld_at hjN2 (hsd.box 0 rfl).whole⟩
                have HM1 : Hid ((fun X : World => X.cell? ⟨hb, 10, none⟩ = some (sl p.jb S.n p.jc) ∧ (TRjb.ld (.pointer (some ⟨jx, 0, none⟩))).run Tryd.prog X = .ok (.agg j2.rcells) X) X12) := Lib.hid ⟨(hs12.box 1 rfl).cell 10, TRjb.ld_at hjN2 (hs12.box 0 rfl).whole⟩
                have hSn : RFits { S with B := S.B, J := updI S.J n.blk (some j2) } p := ⟨good_heard HF.out.good HJK.out HJKB.out (by rw [HBK.out]; omega) (by rw [HBK.out]; omega) HBU.out, HF.out.ec, HF.out.jc⟩
                have HS13 : Hid (Sep NoF w0 X12 (boxO jx j2.rcells RJT :: rhO hb rm { S with B := S.B, J := updI S.J n.blk (some j2) } :: boxO nb n.cells NT :: L)) := Lib.hid (by
                  rw [← HBK.out] at hs12
                  exact rh_shut1 hSn hs12)
                have hj24 : j2.ask.cells.size = 24 := (Nt.Ok.isN HJK.out.ask.isU).1
                have u2 : X12.cell? ⟨jx, 2, none⟩ = some (.int .i64 j2.ask.frm) := ((hs12.box 0 rfl).cell 2).trans ((Jb.r_ask (i := 1) hj24 (by omega)).trans j2.ask.get1)
                have u25 : X12.cell? ⟨jx, 25, none⟩ = some (VM j2.wait) := ((hs12.box 0 rfl).cell 25).trans ((Jb.r_tail hj24 0).trans rfl)
                have u27 : X12.cell? ⟨jx, 27, none⟩ = some (.bool j2.ref) := ((hs12.box 0 rfl).cell 27).trans ((Jb.r_tail hj24 2).trans rfl)
                have u28 : X12.cell? ⟨jx, 28, none⟩ = some (.int .u64 j2.least) := ((hs12.box 0 rfl).cell 28).trans ((Jb.r_tail hj24 3).trans rfl)
                have HGD : Hid (Good { S with B := S.B, J := updI S.J n.blk (some j2) }) := Lib.hid hSn.good
                have HTK3 : Hid ((if j2.wait ≠ 0#32 then (({ S with B := S.B, J := updI S.J n.blk (some j2) } : Hs), ([] : List Nt), (0 : Int)) else if j2.ref then ((endP { S with B := S.B, J := updI S.J n.blk (some j2) } n.blk).1, ntNack j2.ask.frm n.blk j2.least :: (endP { S with B := S.B, J := updI S.J n.blk (some j2) } n.blk).2, 0) else ((answerP { S with B := S.B, J := updI S.J n.blk (some j2) } j2).1, [(answerP { S with B := S.B, J := updI S.J n.blk (some j2) } j2).2], 0)) = tk) := Lib.hid (by
                  rw [← HTK2.out, ← HHD.out]
                  unfold tookP
                  simp only [hhas, Bool.false_eq_true, if_false]
                  split
                  · rfl
                  · split <;> rfl)
                clear hsd hs12 hSn hjN2 hX12 hjp hj24 hhas HMW HHD
                go_wp2_with fail
                refine wp_region_held_drew (S := (fun X : World => X.cell? ⟨hb, 10, none⟩ = some (sl p.jb S.n p.jc) ∧ (TRjb.ld (.pointer (some ⟨jx, 0, none⟩))).run Tryd.prog X = .ok (.agg j2.rcells) X)) (by kernel_rfl) (HM0.out) (fun hHeld => ?_)
                refine rgn 0 (v := ?vq36) hHeld ?yq36 ?_
                case yq36 => (intro w hSw; obtain ⟨k0, k1⟩ := hSw; go_simp; try with_reducible rfl)
                simp only [Act.put, rn1, rn2, rn3, rn4, rn5, rn6]
                refine rgn 1 (v := ?vq37) hHeld ?yq37 ?_
                case yq37 => (intro w hSw; obtain ⟨k0, k1⟩ := hSw; go_simp; try with_reducible rfl)
                simp only [Act.put, rn1, rn2, rn3, rn4, rn5, rn6]
                refine rgn 2 (v := ?vq38) hHeld ?yq38 ?_
                case yq38 => (intro w hSw; obtain ⟨k0, k1⟩ := hSw; go_simp; try with_reducible rfl)
                simp only [Act.put, rn1, rn2, rn3, rn4, rn5, rn6]
                refine rgn 3 (v := ?vq39) hHeld ?yq39 ?_
                case yq39 => (intro w hSw; obtain ⟨k0, k1⟩ := hSw; go_simp; try with_reducible rfl)
                simp only [Act.put, rn1, rn2, rn3, rn4, rn5, rn6]
                refine rgn 4 (v := ?vq40) hHeld ?yq40 ?_
                case yq40 => (intro w hSw; obtain ⟨k0, k1⟩ := hSw; go_simp; try with_reducible rfl)
                simp only [Act.put, rn1, rn2, rn3, rn4, rn5, rn6]
                refine rgn 5 (v := ?vq41) hHeld ?yq41 ?_
                case yq41 => (intro w hSw; obtain ⟨k0, k1⟩ := hSw; go_simp; try with_reducible rfl)
                simp only [Act.put, rn1, rn2, rn3, rn4, rn5, rn6]
                refine rgn 6 (v := ?vq42) hHeld ?yq42 ?_
                case yq42 => (intro w hSw; obtain ⟨k0, k1⟩ := hSw; go_simp; try with_reducible rfl)
                simp only [Act.put, rn1, rn2, rn3, rn4, rn5, rn6]
                refine reg_step (i := 7) (by kernel_rfl) rfl (by kernel_rfl) (fun K hK => ?_)
                go_simp
                have HS := HM1.out
                refine hK.out _ _ HS (fun hHeld2 => ?_)
                clear hK hHeld2 hHeld; have hHeld := HS; clear HS
                try simp only [Act.put, rn1, rn2, rn3, rn4, rn5, rn6]
                refine wpAnyH_done (by kernel_rfl) ?_ _
                clear hHeld HM0 HM1 hst
                by_cases hwz : j2.wait = 0#32
                · have hw0 : (((j2.wait.toNat : Nat) : Int) != 0) = false := by simp [hwz]
                  cases hrf : j2.ref
                  · rw [hrf] at u27
                    have htk3 := HTK3.out
                    simp only [hwz, hrf, ne_eq, not_true_eq_false, if_false, Bool.false_eq_true] at htk3
                    have HTK4 := Lib.hid htk3
                    have HANS := Lib.hid (ranswer_is (HS13.out.drop 0 (by simp)) b j2 (by rw [← HBK.out]; exact updI_same _ _ _))
                    clear htk3 hwz HTK3 hrf
                    go_wp2_with fail
                    refine HANS.out.mono ?_
                    rintro e X14 ⟨g, rfl, hs14⟩
                    have hns : (answerP { S with B := S.B, J := updI S.J n.blk (some j2) } j2).2.cells.size = 24 := (Nt.Ok.isN (show IsU (answerP { S with B := S.B, J := updI S.J n.blk (some j2) } j2).2.D from HBU.out _)).1
                    have HS15 := Lib.hid (hs14.head (Φ' := outO (sl g 1 1) [(answerP { S with B := S.B, J := updI S.J n.blk (some j2) } j2).2]) (fun F hF => out_one hns hF))
                    clear hs14 hns
                    go_wp2
                    go_ret2
                    refine ⟨sl g 1 1, ?_⟩
                    rw [← HTK4.out]
                    exact ⟨rfl, HS15.out.drop 2 (by simp)⟩
                  · rw [hrf] at u27
                    have htk3 := HTK3.out
                    simp only [hwz, hrf, ne_eq, not_true_eq_false, if_false, if_true] at htk3
                    have y2 := fun w => bd_stamp 7 j2.ask.frm b j2.least w
                    have hnS : (ntAsk 7 j2.ask.frm b j2.least).cells.size = 24 := (Nt.Ok.isN (n := ntAsk 7 j2.ask.frm b j2.least) BU.isU_Z).1
                    have y3 := fun w => bsN_run hnS w
                    have hs14 := ((HS13.out.alloc (ntAsk 7 j2.ask.frm b j2.least).cells NT).head (Φ' := outO (sl X12.heap.size 1 1) [ntAsk 7 j2.ask.frm b j2.least]) (fun F hF => out_one hnS hF))
                    obtain ⟨X14, hX14⟩ : ∃ X14, X12.alloc (.cells (ntAsk 7 j2.ask.frm b j2.least).cells NT) = X14 := ⟨_, rfl⟩
                    obtain ⟨gx, hgx⟩ : ∃ gx, X12.heap.size = gx := ⟨_, rfl⟩
                    rw [hX14, hgx] at hs14
                    have hs15 := (hs14.drop 1 (by simp)).drop 2 (by simp)
                    have hE0 := rend_is (hb := hb) (rm := rm) hs15.swap n.blk (by rw [HBK.out]; omega) (by show n.blk < S.data; rw [HBK.out]; omega)
                    have hEU := end_facts (S := { S with B := S.B, J := updI S.J n.blk (some j2) }) (b := n.blk) HGD.out
                    obtain ⟨t, ht⟩ : ∃ t, endP { S with B := S.B, J := updI S.J n.blk (some j2) } n.blk = t := ⟨_, rfl⟩
                    rw [ht] at hE0 htk3 hEU
                    rw [HBK.out] at hE0
                    have HEND := Lib.hid hE0
                    have HTK4 := Lib.hid htk3
                    have HEU := Lib.hid hEU
                    have HX14 := Lib.hid (And.intro hX14 hgx)
                    clear htk3 hwz HTK3 hrf hs14 hs15 hX14 hgx hE0 hEU ht
                    go_upto_region 25 with fail
                    rw [HX14.out.1, HX14.out.2]
                    clear y2 y3 u2 u25 u27 u28 hnS HX14
                    go_wp2_with fail
                    refine HEND.out.mono ?_
                    rintro e X16 ⟨v2, rfl, hs16⟩
                    obtain ⟨v', X17, hrun, hs17⟩ := s_cat hs16 2 0 rfl rfl HEU.out.2 (by have := HEU.out.1; simp; omega)
                    obtain ⟨v9, hv9⟩ : ∃ v9, v9 = v' := ⟨_, rfl⟩
                    rw [← hv9] at hrun hs17
                    clear hv9
                    have HR2 := Lib.hid hrun
                    have HS17 := Lib.hid ((hs17.drop 0 (by simp)).swap)
                    clear hrun hs17 hs16
                    go_wp2_with (at_builtin; refine wpList_append_run (w := X16) rfl _ _ NS rfl rfl rfl HR2.out ?_)
                    go_ret2
                    rw [HBK.out] at HTK4
                    rw [← HTK4.out]
                    exact ⟨v9, rfl, HS17.out⟩
                · have hw0 : (((j2.wait.toNat : Nat) : Int) != 0) = true := by
                    have : j2.wait.toNat ≠ 0 := fun e => hwz (BitVec.eq_of_toNat_eq (by simpa using e))
                    simp; omega
                  have htk3 := HTK3.out
                  simp only [ne_eq, hwz, not_false_eq_true, if_true] at htk3
                  have HTK4 := Lib.hid htk3
                  clear htk3 hwz HTK3
                  go_wp2
                  go_ret2
                  refine ⟨.slice none 0 0, ?_⟩
                  rw [← HTK4.out]
                  exact ⟨rfl, out_nil ((HS13.out.drop 0 (by simp)).drop 1 (by simp))⟩
          · have HBU : Hid (∀ i, IsU (S.B i)) := Lib.hid HG.out.isU
            have hkt : (n.kind == 10) = false := by simp [hk10]
            have w0' : X4.cell? ⟨nb, 0, none⟩ = some (.int .u8 n.kind) := ((HS4.out.box 6 rfl).cell 0).trans n.get0
            have HSA : Hid (Sep NoF w0 X4 (boxO jx j.rcells RJT :: boxO hb (S.rcells rm p) RHT :: rmO rm S.c.blocks.toNat S.B :: boxO p.eb (rowG 2 S.n (fun i => (S.E i).cells) ++ p.et) ET' :: boxO p.jb (rowG 29 S.n (fun i => rjc (S.J (i : Int))) ++ p.jt) RJT :: outO (.slice p.wa S.Q.length p.wc) S.Q :: boxO nb n.cells NT :: L)) := HS4
            have HHE : Hid (heardP S n j = { j with wait := mw }) := Lib.hid (by unfold heardP; rw [HMW.out]; simp [hk10])
            have HJ1O := HJO
            have HJ1B := HJB
            have HWT : Hid (j.wait = j.wait) := Lib.hid rfl
            have HJS : Hid (j.ask.cells.size = 24) := Lib.hid (Nt.Ok.isN HJO.out.ask.isU).1
            clear hk10
            go_upto_region 19 with fail
            clear w0' hkt
            have x25 : X4.cell? ⟨jx, 25, none⟩ = some (VM j.wait) := ((HSA.out.box 0 rfl).cell 25).trans ((Jb.r_tail HJS.out 0).trans (by rw [← HWT.out]; rfl))
            have g25 := (HSA.out.box 0 rfl).frozen 25
            have x1 : X4.cell? ⟨nb, 1, none⟩ = some (.int .i64 n.frm) := ((HSA.out.box 6 rfl).cell 1).trans n.get1
            have hs8 := HSA.out.set 0 rfl 25 (VM mw)
            simp only [List.set_cons_zero] at hs8
            rw [Jb.rset25 HJS.out] at hs8
            obtain ⟨j2, hj2⟩ : ∃ x, ({ j with wait := mw } : Jb) = x := ⟨_, rfl⟩
            rw [hj2] at hs8
            obtain ⟨X8, hX8⟩ : ∃ X, X4.setCell ⟨jx, 25, none⟩ (VM mw) = X := ⟨_, rfl⟩
            rw [hX8] at hs8
            have HSX : Hid (Sep NoF w0 X8 (boxO jx j2.rcells RJT :: boxO hb (S.rcells rm p) RHT :: rmO rm S.c.blocks.toNat S.B :: boxO p.eb (rowG 2 S.n (fun i => (S.E i).cells) ++ p.et) ET' :: boxO p.jb (rowG 29 S.n (fun i => rjc (S.J (i : Int))) ++ p.jt) RJT :: outO (.slice p.wa S.Q.length p.wc) S.Q :: boxO nb n.cells NT :: L)) := Lib.hid hs8
            have HHD : Hid (heardP S n j = j2) := Lib.hid (by rw [← hj2]; exact HHE.out)
            have HJK : Hid j2.Ok := Lib.hid (by rw [← hj2]; exact ⟨HJ1O.out.ask, HJ1O.out.least⟩)
            have HJKB : Hid (j2.ask.blk = n.blk) := Lib.hid (by rw [← hj2]; exact HJ1B.out)
            have HX8 := Lib.hid hX8
            clear hs8 hX8 hj2 HHE HJ1O HJ1B HSA HWT HJS
            skip
            go_wp2_with fail
            refine (HW.out _).mono ?_
            rintro e w6 ⟨rfl, rfl⟩
            go_upto_region 20 with fail
            rw [HX8.out]
            clear x25 g25 x1 HX8 HW
            have hjN2 := Jb.isN_r HJK.out
            have hsd := HSX.out.upd0 (Upd.drew NoF X8)
            have hst := rst_mid hjN2 (hsd.box 4 rfl) (o := b * 29) (by have := idx_lt (k := 29) (r := 28) hbn (by omega); rw [Array.size_append, rowG_size]; omega)
            have hs12 := hsd.setMG 4 rfl (b * 29) j2.rcells.toList
            simp only [List.set_cons_zero, List.set_cons_succ] at hs12
            have hjp := job_put HF.out.good hbn (o := some j2) hjN2 (t := p.jt)
            change setMany _ (b * 29) j2.rcells.toList = _ at hjp
            rw [hjp] at hs12
            obtain ⟨X12, hX12⟩ : ∃ X, (X8.drew).setCells p.jb (b * 29) j2.rcells.toList = X := ⟨_, rfl⟩
            rw [hX12] at hst hs12
            have HM0 : Hid ((fun X : World => X.cell? ⟨hb, 10, none⟩ = some (sl p.jb S.n p.jc) ∧ (TRjb.ld (.pointer (some ⟨jx, 0, none⟩))).run Tryd.prog X = .ok (.agg j2.rcells) X) X8.drew) := Lib.hid ⟨(hsd.box 1 rfl).cell 10, TRjb.ld_at hjN2 (hsd.box 0 rfl).whole⟩
            have HM1 : Hid ((fun X : World => X.cell? ⟨hb, 10, none⟩ = some (sl p.jb S.n p.jc) ∧ (TRjb.ld (.pointer (some ⟨jx, 0, none⟩))).run Tryd.prog X = .ok (.agg j2.rcells) X) X12) := Lib.hid ⟨(hs12.box 1 rfl).cell 10, TRjb.ld_at hjN2 (hs12.box 0 rfl).whole⟩
            have hSn : RFits { S with B := S.B, J := updI S.J n.blk (some j2) } p := ⟨good_heard HF.out.good HJK.out HJKB.out (by rw [HBK.out]; omega) (by rw [HBK.out]; omega) HBU.out, HF.out.ec, HF.out.jc⟩
            have HS13 : Hid (Sep NoF w0 X12 (boxO jx j2.rcells RJT :: rhO hb rm { S with B := S.B, J := updI S.J n.blk (some j2) } :: boxO nb n.cells NT :: L)) := Lib.hid (by
              rw [← HBK.out] at hs12
              exact rh_shut1 hSn hs12)
            have hj24 : j2.ask.cells.size = 24 := (Nt.Ok.isN HJK.out.ask.isU).1
            have u2 : X12.cell? ⟨jx, 2, none⟩ = some (.int .i64 j2.ask.frm) := ((hs12.box 0 rfl).cell 2).trans ((Jb.r_ask (i := 1) hj24 (by omega)).trans j2.ask.get1)
            have u25 : X12.cell? ⟨jx, 25, none⟩ = some (VM j2.wait) := ((hs12.box 0 rfl).cell 25).trans ((Jb.r_tail hj24 0).trans rfl)
            have u27 : X12.cell? ⟨jx, 27, none⟩ = some (.bool j2.ref) := ((hs12.box 0 rfl).cell 27).trans ((Jb.r_tail hj24 2).trans rfl)
            have u28 : X12.cell? ⟨jx, 28, none⟩ = some (.int .u64 j2.least) := ((hs12.box 0 rfl).cell 28).trans ((Jb.r_tail hj24 3).trans rfl)
            have HGD : Hid (Good { S with B := S.B, J := updI S.J n.blk (some j2) }) := Lib.hid hSn.good
            have HTK3 : Hid ((if j2.wait ≠ 0#32 then (({ S with B := S.B, J := updI S.J n.blk (some j2) } : Hs), ([] : List Nt), (0 : Int)) else if j2.ref then ((endP { S with B := S.B, J := updI S.J n.blk (some j2) } n.blk).1, ntNack j2.ask.frm n.blk j2.least :: (endP { S with B := S.B, J := updI S.J n.blk (some j2) } n.blk).2, 0) else ((answerP { S with B := S.B, J := updI S.J n.blk (some j2) } j2).1, [(answerP { S with B := S.B, J := updI S.J n.blk (some j2) } j2).2], 0)) = tk) := Lib.hid (by
              rw [← HTK2.out, ← HHD.out]
              unfold tookP
              simp only [hhas, Bool.false_eq_true, if_false]
              split
              · rfl
              · split <;> rfl)
            clear hsd hs12 hSn hjN2 hX12 hjp hj24 hhas HMW HHD
            go_wp2_with fail
            refine wp_region_held_drew (S := (fun X : World => X.cell? ⟨hb, 10, none⟩ = some (sl p.jb S.n p.jc) ∧ (TRjb.ld (.pointer (some ⟨jx, 0, none⟩))).run Tryd.prog X = .ok (.agg j2.rcells) X)) (by kernel_rfl) (HM0.out) (fun hHeld => ?_)
            refine rgn 0 (v := ?vq43) hHeld ?yq43 ?_
            case yq43 => (intro w hSw; obtain ⟨k0, k1⟩ := hSw; go_simp; try with_reducible rfl)
            simp only [Act.put, rn1, rn2, rn3, rn4, rn5, rn6]
            refine rgn 1 (v := ?vq44) hHeld ?yq44 ?_
            case yq44 => (intro w hSw; obtain ⟨k0, k1⟩ := hSw; go_simp; try with_reducible rfl)
            simp only [Act.put, rn1, rn2, rn3, rn4, rn5, rn6]
            refine rgn 2 (v := ?vq45) hHeld ?yq45 ?_
            case yq45 => (intro w hSw; obtain ⟨k0, k1⟩ := hSw; go_simp; try with_reducible rfl)
            simp only [Act.put, rn1, rn2, rn3, rn4, rn5, rn6]
            refine rgn 3 (v := ?vq46) hHeld ?yq46 ?_
            case yq46 => (intro w hSw; obtain ⟨k0, k1⟩ := hSw; go_simp; try with_reducible rfl)
            simp only [Act.put, rn1, rn2, rn3, rn4, rn5, rn6]
            refine rgn 4 (v := ?vq47) hHeld ?yq47 ?_
            case yq47 => (intro w hSw; obtain ⟨k0, k1⟩ := hSw; go_simp; try with_reducible rfl)
            simp only [Act.put, rn1, rn2, rn3, rn4, rn5, rn6]
            refine rgn 5 (v := ?vq48) hHeld ?yq48 ?_
            case yq48 => (intro w hSw; obtain ⟨k0, k1⟩ := hSw; go_simp; try with_reducible rfl)
            simp only [Act.put, rn1, rn2, rn3, rn4, rn5, rn6]
            refine rgn 6 (v := ?vq49) hHeld ?yq49 ?_
            case yq49 => (intro w hSw; obtain ⟨k0, k1⟩ := hSw; go_simp; try with_reducible rfl)
            simp only [Act.put, rn1, rn2, rn3, rn4, rn5, rn6]
            refine reg_step (i := 7) (by kernel_rfl) rfl (by kernel_rfl) (fun K hK => ?_)
            go_simp
            have HS := HM1.out
            refine hK.out _ _ HS (fun hHeld2 => ?_)
            clear hK hHeld2 hHeld; have hHeld := HS; clear HS
            try simp only [Act.put, rn1, rn2, rn3, rn4, rn5, rn6]
            refine wpAnyH_done (by kernel_rfl) ?_ _
            clear hHeld HM0 HM1 hst
            by_cases hwz : j2.wait = 0#32
            · have hw0 : (((j2.wait.toNat : Nat) : Int) != 0) = false := by simp [hwz]
              cases hrf : j2.ref
              · rw [hrf] at u27
                have htk3 := HTK3.out
                simp only [hwz, hrf, ne_eq, not_true_eq_false, if_false, Bool.false_eq_true] at htk3
                have HTK4 := Lib.hid htk3
                have HANS := Lib.hid (ranswer_is (HS13.out.drop 0 (by simp)) b j2 (by rw [← HBK.out]; exact updI_same _ _ _))
                clear htk3 hwz HTK3 hrf
                go_wp2_with fail
                refine HANS.out.mono ?_
                rintro e X14 ⟨g, rfl, hs14⟩
                have hns : (answerP { S with B := S.B, J := updI S.J n.blk (some j2) } j2).2.cells.size = 24 := (Nt.Ok.isN (show IsU (answerP { S with B := S.B, J := updI S.J n.blk (some j2) } j2).2.D from HBU.out _)).1
                have HS15 := Lib.hid (hs14.head (Φ' := outO (sl g 1 1) [(answerP { S with B := S.B, J := updI S.J n.blk (some j2) } j2).2]) (fun F hF => out_one hns hF))
                clear hs14 hns
                go_wp2
                go_ret2
                refine ⟨sl g 1 1, ?_⟩
                rw [← HTK4.out]
                exact ⟨rfl, HS15.out.drop 2 (by simp)⟩
              · rw [hrf] at u27
                have htk3 := HTK3.out
                simp only [hwz, hrf, ne_eq, not_true_eq_false, if_false, if_true] at htk3
                have y2 := fun w => bd_stamp 7 j2.ask.frm b j2.least w
                have hnS : (ntAsk 7 j2.ask.frm b j2.least).cells.size = 24 := (Nt.Ok.isN (n := ntAsk 7 j2.ask.frm b j2.least) BU.isU_Z).1
                have y3 := fun w => bsN_run hnS w
                have hs14 := ((HS13.out.alloc (ntAsk 7 j2.ask.frm b j2.least).cells NT).head (Φ' := outO (sl X12.heap.size 1 1) [ntAsk 7 j2.ask.frm b j2.least]) (fun F hF => out_one hnS hF))
                obtain ⟨X14, hX14⟩ : ∃ X14, X12.alloc (.cells (ntAsk 7 j2.ask.frm b j2.least).cells NT) = X14 := ⟨_, rfl⟩
                obtain ⟨gx, hgx⟩ : ∃ gx, X12.heap.size = gx := ⟨_, rfl⟩
                rw [hX14, hgx] at hs14
                have hs15 := (hs14.drop 1 (by simp)).drop 2 (by simp)
                have hE0 := rend_is (hb := hb) (rm := rm) hs15.swap n.blk (by rw [HBK.out]; omega) (by show n.blk < S.data; rw [HBK.out]; omega)
                have hEU := end_facts (S := { S with B := S.B, J := updI S.J n.blk (some j2) }) (b := n.blk) HGD.out
                obtain ⟨t, ht⟩ : ∃ t, endP { S with B := S.B, J := updI S.J n.blk (some j2) } n.blk = t := ⟨_, rfl⟩
                rw [ht] at hE0 htk3 hEU
                rw [HBK.out] at hE0
                have HEND := Lib.hid hE0
                have HTK4 := Lib.hid htk3
                have HEU := Lib.hid hEU
                have HX14 := Lib.hid (And.intro hX14 hgx)
                clear htk3 hwz HTK3 hrf hs14 hs15 hX14 hgx hE0 hEU ht
                go_upto_region 25 with fail
                rw [HX14.out.1, HX14.out.2]
                clear y2 y3 u2 u25 u27 u28 hnS HX14
                go_wp2_with fail
                refine HEND.out.mono ?_
                rintro e X16 ⟨v2, rfl, hs16⟩
                obtain ⟨v', X17, hrun, hs17⟩ := s_cat hs16 2 0 rfl rfl HEU.out.2 (by have := HEU.out.1; simp; omega)
                obtain ⟨v9, hv9⟩ : ∃ v9, v9 = v' := ⟨_, rfl⟩
                rw [← hv9] at hrun hs17
                clear hv9
                have HR2 := Lib.hid hrun
                have HS17 := Lib.hid ((hs17.drop 0 (by simp)).swap)
                clear hrun hs17 hs16
                go_wp2_with (at_builtin; refine wpList_append_run (w := X16) rfl _ _ NS rfl rfl rfl HR2.out ?_)
                go_ret2
                rw [HBK.out] at HTK4
                rw [← HTK4.out]
                exact ⟨v9, rfl, HS17.out⟩
            · have hw0 : (((j2.wait.toNat : Nat) : Int) != 0) = true := by
                have : j2.wait.toNat ≠ 0 := fun e => hwz (BitVec.eq_of_toNat_eq (by simpa using e))
                simp; omega
              have htk3 := HTK3.out
              simp only [ne_eq, hwz, not_false_eq_true, if_true] at htk3
              have HTK4 := Lib.hid htk3
              clear htk3 hwz HTK3
              go_wp2
              go_ret2
              refine ⟨.slice none 0 0, ?_⟩
              rw [← HTK4.out]
              exact ⟨rfl, out_nil ((HS13.out.drop 0 (by simp)).drop 1 (by simp))⟩
        · have hk10 : ¬ n.kind = 10 := fun e => by have := may_has HMAY.out e; rw [this] at hhas; cases hhas
          rw [hhas] at y6
          have hD := HN.out.isU
          have hs4d := HS4.out.upd0 (Upd.drew NoF X4)
          have HSB := Lib.hid (hs4d.call 2 rfl (fun F hF => RM.setBlock_ok hF (by omega) b (by omega) n.D hD))
          have HMB0 : Hid ((fun X : World => X.cell? ⟨hb, 8, none⟩ = some (ptr rm) ∧ (TBlk.ld (.pointer (some ⟨nb, 8, none⟩))).run Tryd.prog X = .ok (.agg n.D) X) X4.drew) := Lib.hid ⟨(hs4d.box 1 rfl).cell 8, TBlk.ld_at hD.isN ((hs4d.box 6 rfl).range 8 _ (fun j v hv => by rw [Nt.getD]; simpa using hv))⟩
          have HKB : Hid (∀ X, Sep NoF w0 X (boxO jx j.rcells RJT :: boxO hb (S.rcells rm p) RHT :: rmO rm S.c.blocks.toNat (updG S.B b n.D) :: boxO p.eb (rowG 2 S.n (fun i => (S.E i).cells) ++ p.et) ET' :: boxO p.jb (rowG 29 S.n (fun i => rjc (S.J (i : Int))) ++ p.jt) RJT :: outO (.slice p.wa S.Q.length p.wc) S.Q :: boxO nb n.cells NT :: L) → (fun X : World => X.cell? ⟨hb, 8, none⟩ = some (ptr rm) ∧ (TBlk.ld (.pointer (some ⟨nb, 8, none⟩))).run Tryd.prog X = .ok (.agg n.D) X) X) := Lib.hid (fun X hx => ⟨(hx.box 1 rfl).cell 8, TBlk.ld_at hD.isN ((hx.box 6 rfl).range 8 _ (fun j v hv => by rw [Nt.getD]; simpa using hv))⟩)
          have HBU : Hid (∀ i, IsU ((updG S.B b n.D) i)) := Lib.hid (fun i => by unfold updG; split; exact hD; exact HG.out.isU i)
          clear hs4d hD
          go_wp2_with fail
          refine wp_region_held_drew (S := (fun X : World => X.cell? ⟨hb, 8, none⟩ = some (ptr rm) ∧ (TBlk.ld (.pointer (some ⟨nb, 8, none⟩))).run Tryd.prog X = .ok (.agg n.D) X)) (by kernel_rfl) (HMB0.out) (fun hHeld => ?_)
          refine rgn 0 (v := ?vq50) hHeld ?yq50 ?_
          case yq50 => (intro w hSw; obtain ⟨k0, k1⟩ := hSw; go_simp; try with_reducible rfl)
          simp only [Act.put, rn1, rn2, rn3, rn4, rn5, rn6]
          refine rgn 1 (v := ?vq51) hHeld ?yq51 ?_
          case yq51 => (intro w hSw; obtain ⟨k0, k1⟩ := hSw; go_simp; try with_reducible rfl)
          simp only [Act.put, rn1, rn2, rn3, rn4, rn5, rn6]
          refine rgn 2 (v := ?vq52) hHeld ?yq52 ?_
          case yq52 => (intro w hSw; obtain ⟨k0, k1⟩ := hSw; go_simp; try with_reducible rfl)
          simp only [Act.put, rn1, rn2, rn3, rn4, rn5, rn6]
          refine rgn 3 (v := ?vq53) hHeld ?yq53 ?_
          case yq53 => (intro w hSw; obtain ⟨k0, k1⟩ := hSw; go_simp; try with_reducible rfl)
          simp only [Act.put, rn1, rn2, rn3, rn4, rn5, rn6]
          refine rgn 4 (v := ?vq54) hHeld ?yq54 ?_
          case yq54 => (intro w hSw; obtain ⟨k0, k1⟩ := hSw; go_simp; try with_reducible rfl)
          simp only [Act.put, rn1, rn2, rn3, rn4, rn5, rn6]
          refine rgn 5 (v := ?vq55) hHeld ?yq55 ?_
          case yq55 => (intro w hSw; obtain ⟨k0, k1⟩ := hSw; go_simp; try with_reducible rfl)
          simp only [Act.put, rn1, rn2, rn3, rn4, rn5, rn6]
          refine rgn 6 (v := ?vq56) hHeld ?yq56 ?_
          case yq56 => (intro w hSw; obtain ⟨k0, k1⟩ := hSw; go_simp; try with_reducible rfl)
          simp only [Act.put, rn1, rn2, rn3, rn4, rn5, rn6]
          refine reg_step (i := 7) (by kernel_rfl) rfl (by kernel_rfl) (fun K hK => ?_)
          go_simp
          refine HSB.out.mono ?_
          rintro e X5 ⟨rfl, hs5⟩
          have hs5 : Sep NoF w0 X5 (boxO jx j.rcells RJT :: boxO hb (S.rcells rm p) RHT :: rmO rm S.c.blocks.toNat (updG S.B b n.D) :: boxO p.eb (rowG 2 S.n (fun i => (S.E i).cells) ++ p.et) ET' :: boxO p.jb (rowG 29 S.n (fun i => rjc (S.J (i : Int))) ++ p.jt) RJT :: outO (.slice p.wa S.Q.length p.wc) S.Q :: boxO nb n.cells NT :: L) := hs5
          have HS := HKB.out _ hs5
          have HS5 := Lib.hid hs5
          clear hs5
          go_wp2_with fail
          refine hK.out _ _ HS (fun hHeld2 => ?_)
          clear hK hHeld2 hHeld; have hHeld := HS; clear HS
          try simp only [Act.put, rn1, rn2, rn3, rn4, rn5, rn6]
          refine wpAnyH_done (by kernel_rfl) ?_ _
          clear hHeld HSB HMB0 HKB y6
          have hkt : (n.kind == 10) = false := by simp [hk10]
          have w0' : X5.cell? ⟨nb, 0, none⟩ = some (.int .u8 n.kind) := ((HS5.out.box 6 rfl).cell 0).trans n.get0
          have HSA : Hid (Sep NoF w0 X5 (boxO jx j.rcells RJT :: boxO hb (S.rcells rm p) RHT :: rmO rm S.c.blocks.toNat (updG S.B b n.D) :: boxO p.eb (rowG 2 S.n (fun i => (S.E i).cells) ++ p.et) ET' :: boxO p.jb (rowG 29 S.n (fun i => rjc (S.J (i : Int))) ++ p.jt) RJT :: outO (.slice p.wa S.Q.length p.wc) S.Q :: boxO nb n.cells NT :: L)) := HS5
          have HHE : Hid (heardP S n j = { j with wait := mw }) := Lib.hid (by unfold heardP; rw [HMW.out]; simp [hk10])
          have HJ1O := HJO
          have HJ1B := HJB
          have HWT : Hid (j.wait = j.wait) := Lib.hid rfl
          have HJS : Hid (j.ask.cells.size = 24) := Lib.hid (Nt.Ok.isN HJO.out.ask.isU).1
          clear hk10
          go_upto_region 19 with fail
          clear w0' hkt
          have x25 : X5.cell? ⟨jx, 25, none⟩ = some (VM j.wait) := ((HSA.out.box 0 rfl).cell 25).trans ((Jb.r_tail HJS.out 0).trans (by rw [← HWT.out]; rfl))
          have g25 := (HSA.out.box 0 rfl).frozen 25
          have x1 : X5.cell? ⟨nb, 1, none⟩ = some (.int .i64 n.frm) := ((HSA.out.box 6 rfl).cell 1).trans n.get1
          have hs8 := HSA.out.set 0 rfl 25 (VM mw)
          simp only [List.set_cons_zero] at hs8
          rw [Jb.rset25 HJS.out] at hs8
          obtain ⟨j2, hj2⟩ : ∃ x, ({ j with wait := mw } : Jb) = x := ⟨_, rfl⟩
          rw [hj2] at hs8
          obtain ⟨X8, hX8⟩ : ∃ X, X5.setCell ⟨jx, 25, none⟩ (VM mw) = X := ⟨_, rfl⟩
          rw [hX8] at hs8
          have HSX : Hid (Sep NoF w0 X8 (boxO jx j2.rcells RJT :: boxO hb (S.rcells rm p) RHT :: rmO rm S.c.blocks.toNat (updG S.B b n.D) :: boxO p.eb (rowG 2 S.n (fun i => (S.E i).cells) ++ p.et) ET' :: boxO p.jb (rowG 29 S.n (fun i => rjc (S.J (i : Int))) ++ p.jt) RJT :: outO (.slice p.wa S.Q.length p.wc) S.Q :: boxO nb n.cells NT :: L)) := Lib.hid hs8
          have HHD : Hid (heardP S n j = j2) := Lib.hid (by rw [← hj2]; exact HHE.out)
          have HJK : Hid j2.Ok := Lib.hid (by rw [← hj2]; exact ⟨HJ1O.out.ask, HJ1O.out.least⟩)
          have HJKB : Hid (j2.ask.blk = n.blk) := Lib.hid (by rw [← hj2]; exact HJ1B.out)
          have HX8 := Lib.hid hX8
          clear hs8 hX8 hj2 HHE HJ1O HJ1B HSA HWT HJS
          skip
          go_wp2_with fail
          refine (HW.out _).mono ?_
          rintro e w6 ⟨rfl, rfl⟩
          go_upto_region 20 with fail
          rw [HX8.out]
          clear x25 g25 x1 HX8 HW
          have hjN2 := Jb.isN_r HJK.out
          have hsd := HSX.out.upd0 (Upd.drew NoF X8)
          have hst := rst_mid hjN2 (hsd.box 4 rfl) (o := b * 29) (by have := idx_lt (k := 29) (r := 28) hbn (by omega); rw [Array.size_append, rowG_size]; omega)
          have hs12 := hsd.setMG 4 rfl (b * 29) j2.rcells.toList
          simp only [List.set_cons_zero, List.set_cons_succ] at hs12
          have hjp := job_put HF.out.good hbn (o := some j2) hjN2 (t := p.jt)
          change setMany _ (b * 29) j2.rcells.toList = _ at hjp
          rw [hjp] at hs12
          obtain ⟨X12, hX12⟩ : ∃ X, (X8.drew).setCells p.jb (b * 29) j2.rcells.toList = X := ⟨_, rfl⟩
          rw [hX12] at hst hs12
          have HM0 : Hid ((fun X : World => X.cell? ⟨hb, 10, none⟩ = some (sl p.jb S.n p.jc) ∧ (TRjb.ld (.pointer (some ⟨jx, 0, none⟩))).run Tryd.prog X = .ok (.agg j2.rcells) X) X8.drew) := Lib.hid ⟨(hsd.box 1 rfl).cell 10, TRjb.ld_at hjN2 (hsd.box 0 rfl).whole⟩
          have HM1 : Hid ((fun X : World => X.cell? ⟨hb, 10, none⟩ = some (sl p.jb S.n p.jc) ∧ (TRjb.ld (.pointer (some ⟨jx, 0, none⟩))).run Tryd.prog X = .ok (.agg j2.rcells) X) X12) := Lib.hid ⟨(hs12.box 1 rfl).cell 10, TRjb.ld_at hjN2 (hs12.box 0 rfl).whole⟩
          have hSn : RFits { S with B := (updG S.B b n.D), J := updI S.J n.blk (some j2) } p := ⟨good_heard HF.out.good HJK.out HJKB.out (by rw [HBK.out]; omega) (by rw [HBK.out]; omega) HBU.out, HF.out.ec, HF.out.jc⟩
          have HS13 : Hid (Sep NoF w0 X12 (boxO jx j2.rcells RJT :: rhO hb rm { S with B := (updG S.B b n.D), J := updI S.J n.blk (some j2) } :: boxO nb n.cells NT :: L)) := Lib.hid (by
            rw [← HBK.out] at hs12
            exact rh_shut1 hSn hs12)
          have hj24 : j2.ask.cells.size = 24 := (Nt.Ok.isN HJK.out.ask.isU).1
          have u2 : X12.cell? ⟨jx, 2, none⟩ = some (.int .i64 j2.ask.frm) := ((hs12.box 0 rfl).cell 2).trans ((Jb.r_ask (i := 1) hj24 (by omega)).trans j2.ask.get1)
          have u25 : X12.cell? ⟨jx, 25, none⟩ = some (VM j2.wait) := ((hs12.box 0 rfl).cell 25).trans ((Jb.r_tail hj24 0).trans rfl)
          have u27 : X12.cell? ⟨jx, 27, none⟩ = some (.bool j2.ref) := ((hs12.box 0 rfl).cell 27).trans ((Jb.r_tail hj24 2).trans rfl)
          have u28 : X12.cell? ⟨jx, 28, none⟩ = some (.int .u64 j2.least) := ((hs12.box 0 rfl).cell 28).trans ((Jb.r_tail hj24 3).trans rfl)
          have HGD : Hid (Good { S with B := (updG S.B b n.D), J := updI S.J n.blk (some j2) }) := Lib.hid hSn.good
          have HTK3 : Hid ((if j2.wait ≠ 0#32 then (({ S with B := (updG S.B b n.D), J := updI S.J n.blk (some j2) } : Hs), ([] : List Nt), (0 : Int)) else if j2.ref then ((endP { S with B := (updG S.B b n.D), J := updI S.J n.blk (some j2) } n.blk).1, ntNack j2.ask.frm n.blk j2.least :: (endP { S with B := (updG S.B b n.D), J := updI S.J n.blk (some j2) } n.blk).2, 0) else ((answerP { S with B := (updG S.B b n.D), J := updI S.J n.blk (some j2) } j2).1, [(answerP { S with B := (updG S.B b n.D), J := updI S.J n.blk (some j2) } j2).2], 0)) = tk) := Lib.hid (by
            rw [← HTK2.out, ← HHD.out]
            unfold tookP
            simp only [hhas, if_true, show n.blk.toNat = b by rw [HBK.out]; rfl]
            split
            · rfl
            · split <;> rfl)
          clear hsd hs12 hSn hjN2 hX12 hjp hj24 hhas HMW HHD
          go_wp2_with fail
          refine wp_region_held_drew (S := (fun X : World => X.cell? ⟨hb, 10, none⟩ = some (sl p.jb S.n p.jc) ∧ (TRjb.ld (.pointer (some ⟨jx, 0, none⟩))).run Tryd.prog X = .ok (.agg j2.rcells) X)) (by kernel_rfl) (HM0.out) (fun hHeld => ?_)
          refine rgn 0 (v := ?vq57) hHeld ?yq57 ?_
          case yq57 => (intro w hSw; obtain ⟨k0, k1⟩ := hSw; go_simp; try with_reducible rfl)
          simp only [Act.put, rn1, rn2, rn3, rn4, rn5, rn6]
          refine rgn 1 (v := ?vq58) hHeld ?yq58 ?_
          case yq58 => (intro w hSw; obtain ⟨k0, k1⟩ := hSw; go_simp; try with_reducible rfl)
          simp only [Act.put, rn1, rn2, rn3, rn4, rn5, rn6]
          refine rgn 2 (v := ?vq59) hHeld ?yq59 ?_
          case yq59 => (intro w hSw; obtain ⟨k0, k1⟩ := hSw; go_simp; try with_reducible rfl)
          simp only [Act.put, rn1, rn2, rn3, rn4, rn5, rn6]
          refine rgn 3 (v := ?vq60) hHeld ?yq60 ?_
          case yq60 => (intro w hSw; obtain ⟨k0, k1⟩ := hSw; go_simp; try with_reducible rfl)
          simp only [Act.put, rn1, rn2, rn3, rn4, rn5, rn6]
          refine rgn 4 (v := ?vq61) hHeld ?yq61 ?_
          case yq61 => (intro w hSw; obtain ⟨k0, k1⟩ := hSw; go_simp; try with_reducible rfl)
          simp only [Act.put, rn1, rn2, rn3, rn4, rn5, rn6]
          refine rgn 5 (v := ?vq62) hHeld ?yq62 ?_
          case yq62 => (intro w hSw; obtain ⟨k0, k1⟩ := hSw; go_simp; try with_reducible rfl)
          simp only [Act.put, rn1, rn2, rn3, rn4, rn5, rn6]
          refine rgn 6 (v := ?vq63) hHeld ?yq63 ?_
          case yq63 => (intro w hSw; obtain ⟨k0, k1⟩ := hSw; go_simp; try with_reducible rfl)
          simp only [Act.put, rn1, rn2, rn3, rn4, rn5, rn6]
          refine reg_step (i := 7) (by kernel_rfl) rfl (by kernel_rfl) (fun K hK => ?_)
          go_simp
          have HS := HM1.out
          refine hK.out _ _ HS (fun hHeld2 => ?_)
          clear hK hHeld2 hHeld; have hHeld := HS; clear HS
          try simp only [Act.put, rn1, rn2, rn3, rn4, rn5, rn6]
          refine wpAnyH_done (by kernel_rfl) ?_ _
          clear hHeld HM0 HM1 hst
          by_cases hwz : j2.wait = 0#32
          · have hw0 : (((j2.wait.toNat : Nat) : Int) != 0) = false := by simp [hwz]
            cases hrf : j2.ref
            · rw [hrf] at u27
              have htk3 := HTK3.out
              simp only [hwz, hrf, ne_eq, not_true_eq_false, if_false, Bool.false_eq_true] at htk3
              have HTK4 := Lib.hid htk3
              have HANS := Lib.hid (ranswer_is (HS13.out.drop 0 (by simp)) b j2 (by rw [← HBK.out]; exact updI_same _ _ _))
              clear htk3 hwz HTK3 hrf
              go_wp2_with fail
              refine HANS.out.mono ?_
              rintro e X14 ⟨g, rfl, hs14⟩
              have hns : (answerP { S with B := (updG S.B b n.D), J := updI S.J n.blk (some j2) } j2).2.cells.size = 24 := (Nt.Ok.isN (show IsU (answerP { S with B := (updG S.B b n.D), J := updI S.J n.blk (some j2) } j2).2.D from HBU.out _)).1
              have HS15 := Lib.hid (hs14.head (Φ' := outO (sl g 1 1) [(answerP { S with B := (updG S.B b n.D), J := updI S.J n.blk (some j2) } j2).2]) (fun F hF => out_one hns hF))
              clear hs14 hns
              go_wp2
              go_ret2
              refine ⟨sl g 1 1, ?_⟩
              rw [← HTK4.out]
              exact ⟨rfl, HS15.out.drop 2 (by simp)⟩
            · rw [hrf] at u27
              have htk3 := HTK3.out
              simp only [hwz, hrf, ne_eq, not_true_eq_false, if_false, if_true] at htk3
              have y2 := fun w => bd_stamp 7 j2.ask.frm b j2.least w
              have hnS : (ntAsk 7 j2.ask.frm b j2.least).cells.size = 24 := (Nt.Ok.isN (n := ntAsk 7 j2.ask.frm b j2.least) BU.isU_Z).1
              have y3 := fun w => bsN_run hnS w
              have hs14 := ((HS13.out.alloc (ntAsk 7 j2.ask.frm b j2.least).cells NT).head (Φ' := outO (sl X12.heap.size 1 1) [ntAsk 7 j2.ask.frm b j2.least]) (fun F hF => out_one hnS hF))
              obtain ⟨X14, hX14⟩ : ∃ X14, X12.alloc (.cells (ntAsk 7 j2.ask.frm b j2.least).cells NT) = X14 := ⟨_, rfl⟩
              obtain ⟨gx, hgx⟩ : ∃ gx, X12.heap.size = gx := ⟨_, rfl⟩
              rw [hX14, hgx] at hs14
              have hs15 := (hs14.drop 1 (by simp)).drop 2 (by simp)
              have hE0 := rend_is (hb := hb) (rm := rm) hs15.swap n.blk (by rw [HBK.out]; omega) (by show n.blk < S.data; rw [HBK.out]; omega)
              have hEU := end_facts (S := { S with B := (updG S.B b n.D), J := updI S.J n.blk (some j2) }) (b := n.blk) HGD.out
              obtain ⟨t, ht⟩ : ∃ t, endP { S with B := (updG S.B b n.D), J := updI S.J n.blk (some j2) } n.blk = t := ⟨_, rfl⟩
              rw [ht] at hE0 htk3 hEU
              rw [HBK.out] at hE0
              have HEND := Lib.hid hE0
              have HTK4 := Lib.hid htk3
              have HEU := Lib.hid hEU
              have HX14 := Lib.hid (And.intro hX14 hgx)
              clear htk3 hwz HTK3 hrf hs14 hs15 hX14 hgx hE0 hEU ht
              go_upto_region 25 with fail
              rw [HX14.out.1, HX14.out.2]
              clear y2 y3 u2 u25 u27 u28 hnS HX14
              go_wp2_with fail
              refine HEND.out.mono ?_
              rintro e X16 ⟨v2, rfl, hs16⟩
              obtain ⟨v', X17, hrun, hs17⟩ := s_cat hs16 2 0 rfl rfl HEU.out.2 (by have := HEU.out.1; simp; omega)
              obtain ⟨v9, hv9⟩ : ∃ v9, v9 = v' := ⟨_, rfl⟩
              rw [← hv9] at hrun hs17
              clear hv9
              have HR2 := Lib.hid hrun
              have HS17 := Lib.hid ((hs17.drop 0 (by simp)).swap)
              clear hrun hs17 hs16
              go_wp2_with (at_builtin; refine wpList_append_run (w := X16) rfl _ _ NS rfl rfl rfl HR2.out ?_)
              go_ret2
              rw [HBK.out] at HTK4
              rw [← HTK4.out]
              exact ⟨v9, rfl, HS17.out⟩
          · have hw0 : (((j2.wait.toNat : Nat) : Int) != 0) = true := by
              have : j2.wait.toNat ≠ 0 := fun e => hwz (BitVec.eq_of_toNat_eq (by simpa using e))
              simp; omega
            have htk3 := HTK3.out
            simp only [ne_eq, hwz, not_false_eq_true, if_true] at htk3
            have HTK4 := Lib.hid htk3
            clear htk3 hwz HTK3
            go_wp2
            go_ret2
            refine ⟨.slice none 0 0, ?_⟩
            rw [← HTK4.out]
            exact ⟨rfl, out_nil ((HS13.out.drop 0 (by simp)).drop 1 (by simp))⟩
    · have bn : (netN n.kind == 0) = true := hask
      obtain ⟨p, hf, hs3⟩ := rh_open (Sep.pick HS2.out 1 rfl)
      have hs3 : Sep NoF w0 w2 (S.robjs hb rm p (boxO nb n.cells NT :: L)) := hs3
      have hjc := hf.jc
      have hbc : b < p.jc := by omega
      have hjm := hjc.2.1
      unfold maxLen at hjm
      have c10 : w2.cell? ⟨hb, 10, none⟩ = some (sl p.jb S.n p.jc) := (hs3.box 0 rfl).cell 10
      obtain ⟨is, his⟩ : ∃ x, (S.J (b : Int)).isSome = x := ⟨_, rfl⟩
      have cis : w2.cell? ⟨p.jb, b * 29, none⟩ = some (.bool is) := by
        have hlt2 := idx_lt (k := 29) (r := 0) hbn (by omega)
        refine ((hs3.box 3 rfl).cell (b * 29)).trans ?_
        have := rowG_get (k := 29) (n := S.n) (i := b) (r := 0) (f := fun i : Nat => rjc (S.J (i : Int))) (rjc_isN hf.good _).1 hbn (by omega)
        rw [Nat.add_zero] at this
        rw [Array.getElem?_append_left (by rw [rowG_size]; omega), this, ← his]
        exact rjc_is hf.good _
      have HIS := Lib.hid his
      have HS3 := Lib.hid hs3; have HF := Lib.hid hf
      have HASK := Lib.hid hask
      clear hs3 hf his hjc hask
      cases is
      · have hjn : S.J n.blk = none := by
          have := HIS.out; rw [HBK.out]; simpa using this
        have htk := HTK.out
        rw [take_begin HRZ.out hjn] at htk
        have HTK2 := Lib.hid htk
        have HB := Lib.hid (rbegin_is (HS2.out.drop 0 (by simp)) n HN.out (by rw [HBK.out]; omega) (by rw [HBK.out]; omega))
        have l3 := TNot.ld_at HNN.out (HS2.out.box 0 rfl).whole
        clear hjn htk HTK
        go_wp2_with fail
        refine HB.out.mono ?_
        rintro e w7 ⟨v, rfl, hs7⟩
        have HS7 := Lib.hid hs7
        clear hs7
        go_wp2
        go_ret2
        refine ⟨v, ?_⟩
        rw [← HTK2.out]
        exact ⟨rfl, HS7.out⟩
      · have hjs : (S.J n.blk).isSome = true := by rw [HBK.out]; exact HIS.out
        have htk := HTK.out
        rw [take_wait HRZ.out HASK.out hjs] at htk
        have hrm := HROOM.out HASK.out hjs
        have HTK2 := Lib.hid htk
        have HRM := Lib.hid hrm
        have HS4 := Lib.hid (HS3.out.upd0 (Upd.drew NoF w2))
        have y3 := fun w => bsN_run HNN.out.1 w
        clear hjs htk hrm HTK HASK
        go_wp2_with fail
        refine wp_region_held_drew (S := (fun X : World => (TNot.ld (.pointer (some ⟨nb, 0, none⟩))).run Tryd.prog X = .ok (.agg n.cells) X)) (by kernel_rfl) (TNot.ld_at HNN.out (HS4.out.box 5 rfl).whole) (fun hHeld => ?_)
        obtain ⟨w4, hw4⟩ : ∃ X, w2.drew = X := ⟨_, rfl⟩
        rw [hw4] at hHeld HS4 ⊢
        clear hw4
        refine rgn 0 (v := ?vq1) hHeld ?yq1 ?_
        case yq1 => (intro w hSw; (try dsimp only at hSw); have k0 := hSw; go_simp; try with_reducible rfl)
        simp only [Act.put, rn1, rn2, rn3, rn4, rn5, rn6]
        refine rgn 2 (v := ?vq2) hHeld ?yq2 ?_
        case yq2 => (intro w hSw; (try dsimp only at hSw); have k0 := hSw; go_simp; try with_reducible rfl)
        simp only [Act.put, rn1, rn2, rn3, rn4, rn5, rn6]
        refine rgn 3 (v := ?vq3) hHeld ?yq3 ?_
        case yq3 => (intro w hSw; (try dsimp only at hSw); have k0 := hSw; go_simp; try with_reducible rfl)
        simp only [Act.put, rn1, rn2, rn3, rn4, rn5, rn6]
        refine rgn 4 (v := ?vq4) hHeld ?yq4 ?_
        case yq4 => (intro w hSw; (try dsimp only at hSw); have k0 := hSw; go_simp; try with_reducible rfl)
        simp only [Act.put, rn1, rn2, rn3, rn4, rn5, rn6]
        refine rgn 7 (v := ?vq5) hHeld ?yq5 ?_
        case yq5 => (intro w hSw; (try dsimp only at hSw); have k0 := hSw; go_simp; try with_reducible rfl)
        simp only [Act.put, rn1, rn2, rn3, rn4, rn5, rn6]
        refine reg_all3 (i := 1) (j := 5) (k := 8) (by kernel_rfl) rfl rfl rfl (by kernel_rfl) (by kernel_rfl) (by kernel_rfl) (fun K hK => ?_) (fun K hK => ?_) (fun K hK => ?_)
        · go_simp
          have hs := ((HS4.out.alloc #[] NT).head (Φ' := outO (.slice (some ⟨w4.heap.size, 0, none⟩) 0 0) []) (fun F hF => out_zero hF))
          obtain ⟨Y1, hY⟩ : ∃ Y1, w4.alloc (.cells #[] NT) = Y1 := ⟨_, rfl⟩
          obtain ⟨ge, hge⟩ : ∃ x, w4.heap.size = x := ⟨_, rfl⟩
          rw [hY, hge] at hs
          have HY1 : Hid (Sep NoF w0 Y1 (outO (.slice (some ⟨ge, 0, none⟩) 0 0) [] :: boxO hb (S.rcells rm p) RHT :: rmO rm S.c.blocks.toNat S.B :: boxO p.eb (rowG 2 S.n (fun i => (S.E i).cells) ++ p.et) ET' :: boxO p.jb (rowG 29 S.n (fun i => rjc (S.J (i : Int))) ++ p.jt) RJT :: outO (.slice p.wa S.Q.length p.wc) S.Q :: boxO nb n.cells NT :: L)) := Lib.hid hs
          have HS : (fun X : World => (TNot.ld (.pointer (some ⟨nb, 0, none⟩))).run Tryd.prog X = .ok (.agg n.cells) X) Y1 := TNot.ld_at HNN.out (HY1.out.box 6 rfl).whole
          try simp only [hY, hge]
          clear hs hY hge
          refine hK.out _ _ HS (fun hHeld2 => ?_)
          clear hK hHeld2 hHeld; have hHeld := HS; clear HS
          try simp only [Act.put, rn1, rn2, rn3, rn4, rn5, rn6]
          refine reg_two (i := 5) (j := 8) (by kernel_rfl) rfl rfl (by kernel_rfl) (by kernel_rfl) (fun K hK => ?_) (fun K hK => ?_)
          · have f11 : Y1.cell? ⟨hb, 11, none⟩ = some (.slice p.wa S.Q.length p.wc) := (HY1.out.box 1 rfl).cell 11
            go_simp
            clear f11
            have HS : (fun X : World => (TNot.ld (.pointer (some ⟨nb, 0, none⟩))).run Tryd.prog X = .ok (.agg n.cells) X) Y1 := hHeld
            refine hK.out _ _ HS (fun hHeld2 => ?_)
            clear hK hHeld2 hHeld; have hHeld := HS; clear HS
            try simp only [Act.put, rn1, rn2, rn3, rn4, rn5, rn6]
            refine reg_two (i := 6) (j := 8) (by kernel_rfl) rfl rfl (by kernel_rfl) (by kernel_rfl) (fun K hK => ?_) (fun K hK => ?_)
            · obtain ⟨v6, Y3, hrun, hs⟩ := s_cat HY1.out 0 5 rfl rfl (fun m hm => (HG.out.que m hm).isU) (by have := HG.out.few; simp; omega)
              have HY3 : Hid (Sep NoF w0 Y3 (outO v6 S.Q :: boxO hb (S.rcells rm p) RHT :: rmO rm S.c.blocks.toNat S.B :: boxO p.eb (rowG 2 S.n (fun i => (S.E i).cells) ++ p.et) ET' :: boxO p.jb (rowG 29 S.n (fun i => rjc (S.J (i : Int))) ++ p.jt) RJT :: outO (.slice p.wa S.Q.length p.wc) S.Q :: boxO nb n.cells NT :: L)) := Lib.hid (by simpa using hs)
              refine oper_app _ _ NS rfl rfl rfl hrun ?_
              have HS : (fun X : World => (TNot.ld (.pointer (some ⟨nb, 0, none⟩))).run Tryd.prog X = .ok (.agg n.cells) X) Y3 := TNot.ld_at HNN.out (HY3.out.box 6 rfl).whole
              clear hs hrun
              refine hK.out _ _ HS (fun hHeld2 => ?_)
              clear hK hHeld2 hHeld; have hHeld := HS; clear HS
              try simp only [Act.put, rn1, rn2, rn3, rn4, rn5, rn6]
              refine reg_step (i := 8) (by kernel_rfl) rfl (by kernel_rfl) (fun K hK => ?_)
              go_simp
              have hs := ((HY3.out.alloc n.cells NT).head (Φ' := outO (.slice (some ⟨Y3.heap.size, 0, none⟩) 1 1) [n]) (fun F hF => out_one HNN.out.1 hF))
              obtain ⟨Y4, hY⟩ : ∃ Y4, Y3.alloc (.cells n.cells NT) = Y4 := ⟨_, rfl⟩
              obtain ⟨gn, hgn⟩ : ∃ x, Y3.heap.size = x := ⟨_, rfl⟩
              rw [hY, hgn] at hs
              have HY4 : Hid (Sep NoF w0 Y4 (outO (.slice (some ⟨gn, 0, none⟩) 1 1) [n] :: outO v6 S.Q :: boxO hb (S.rcells rm p) RHT :: rmO rm S.c.blocks.toNat S.B :: boxO p.eb (rowG 2 S.n (fun i => (S.E i).cells) ++ p.et) ET' :: boxO p.jb (rowG 29 S.n (fun i => rjc (S.J (i : Int))) ++ p.jt) RJT :: outO (.slice p.wa S.Q.length p.wc) S.Q :: boxO nb n.cells NT :: L)) := Lib.hid hs
              have HS : (fun X : World => (TNot.ld (.pointer (some ⟨nb, 0, none⟩))).run Tryd.prog X = .ok (.agg n.cells) X) Y4 := TNot.ld_at HNN.out (HY4.out.box 7 rfl).whole
              try simp only [hY, hgn]
              clear hs hY hgn
              refine hK.out _ _ HS (fun hHeld2 => ?_)
              clear hK hHeld2 hHeld; have hHeld := HS; clear HS
              try simp only [Act.put, rn1, rn2, rn3, rn4, rn5, rn6]
              refine reg_step (i := 9) (by kernel_rfl) rfl (by kernel_rfl) (fun K hK => ?_)
              obtain ⟨v9, Y5, hrun, hs⟩ := s_cat HY4.out 1 0 rfl rfl (fun m hm => by simp at hm; subst hm; exact HN.out.isU) (by have := HG.out.few; simp; omega)
              obtain ⟨a9, c9, rfl, -⟩ := (hs.row 1 rfl).slice
              have HY5 : Hid (Sep NoF w0 Y5 (outO (.slice (some ⟨gn, 0, none⟩) 1 1) [n] :: outO (.slice a9 (S.Q ++ [n]).length c9) (S.Q ++ [n]) :: boxO hb (S.rcells rm p) RHT :: rmO rm S.c.blocks.toNat S.B :: boxO p.eb (rowG 2 S.n (fun i => (S.E i).cells) ++ p.et) ET' :: boxO p.jb (rowG 29 S.n (fun i => rjc (S.J (i : Int))) ++ p.jt) RJT :: outO (.slice p.wa S.Q.length p.wc) S.Q :: boxO nb n.cells NT :: L)) := Lib.hid hs
              refine oper_app _ _ NS rfl rfl rfl hrun ?_
              have HS : (fun X : World => (TNot.ld (.pointer (some ⟨nb, 0, none⟩))).run Tryd.prog X = .ok (.agg n.cells) X) Y5 := TNot.ld_at HNN.out (HY5.out.box 7 rfl).whole
              clear hs hrun
              refine hK.out _ _ HS (fun hHeld2 => ?_)
              clear hK hHeld2 hHeld; have hHeld := HS; clear HS
              try simp only [Act.put, rn1, rn2, rn3, rn4, rn5, rn6]
              refine rgn 10 (v := ?vq6) hHeld ?yq6 ?_
              case yq6 => (intro w hSw; go_simp; try with_reducible rfl)
              simp only [Act.put, rn1, rn2, rn3, rn4, rn5, rn6]
              refine rgn 11 (v := ?vq7) hHeld ?yq7 ?_
              case yq7 => (intro w hSw; go_simp; try with_reducible rfl)
              simp only [Act.put, rn1, rn2, rn3, rn4, rn5, rn6]
              refine reg_step (i := 12) (by kernel_rfl) rfl (by kernel_rfl) (fun K hK => ?_)
              have f11 : Y5.cell? ⟨hb, 11, none⟩ = some (.slice p.wa S.Q.length p.wc) := (HY5.out.box 2 rfl).cell 11
              have g11 := (HY5.out.box 2 rfl).frozen 11
              have hs := HY5.out.set 2 rfl 11 (.slice a9 (S.Q ++ [n]).length c9)
              obtain ⟨m9, hm9⟩ : ∃ x, (S.Q ++ [n]).length = x := ⟨_, rfl⟩
              rw [hm9] at hs ⊢
              go_simp
              obtain ⟨Z, hZ⟩ : ∃ Z, Y5.setCell ⟨hb, 11, none⟩ (.slice a9 m9 c9) = Z := ⟨_, rfl⟩
              rw [hZ] at hs
              rw [← hm9] at hs
              have hs2 := (((hs.drop 6 (by simp)).drop 0 (by simp)).sink 4)
              have HZ : Hid (Sep NoF w0 Z (boxO hb (Hs.rcells { S with Q := S.Q ++ [n] } rm ⟨p.eb, p.ec, p.et, p.jb, p.jc, p.jt, a9, c9⟩) RHT :: rmO rm S.c.blocks.toNat S.B :: boxO p.eb (rowG 2 S.n (fun i => (S.E i).cells) ++ p.et) ET' :: boxO p.jb (rowG 29 S.n (fun i => rjc (S.J (i : Int))) ++ p.jt) RJT :: outO (.slice a9 (S.Q ++ [n]).length c9) (S.Q ++ [n]) :: boxO nb n.cells NT :: L)) := Lib.hid hs2
              have HS : (fun X : World => (TNot.ld (.pointer (some ⟨nb, 0, none⟩))).run Tryd.prog X = .ok (.agg n.cells) X) Z := TNot.ld_at HNN.out (HZ.out.box 5 rfl).whole
              try simp only [hZ]
              clear hs hs2 hZ f11 g11 hm9
              refine hK.out _ _ HS (fun hHeld2 => ?_)
              clear hK hHeld2 hHeld; have hHeld := HS; clear HS
              try simp only [Act.put, rn1, rn2, rn3, rn4, rn5, rn6]
              refine wpAnyH_done (by kernel_rfl) ?_ _
              clear hHeld
              go_wp2
              go_ret2
              refine ⟨.slice none 0 0, ?_⟩
              rw [← HTK2.out]
              exact ⟨rfl, out_nil ((rh_shut (S := { S with Q := S.Q ++ [n] }) (p := ⟨p.eb, p.ec, p.et, p.jb, p.jc, p.jt, a9, c9⟩) ⟨good_wait HF.out.good HN.out HRM.out, HF.out.ec, HF.out.jc⟩ HZ.out).drop 1 (by simp))⟩
            · go_simp
              have hs := ((HY1.out.alloc n.cells NT).head (Φ' := outO (.slice (some ⟨Y1.heap.size, 0, none⟩) 1 1) [n]) (fun F hF => out_one HNN.out.1 hF))
              obtain ⟨Y6, hY⟩ : ∃ Y6, Y1.alloc (.cells n.cells NT) = Y6 := ⟨_, rfl⟩
              obtain ⟨gn, hgn⟩ : ∃ x, Y1.heap.size = x := ⟨_, rfl⟩
              rw [hY, hgn] at hs
              have HY6 : Hid (Sep NoF w0 Y6 (outO (.slice (some ⟨gn, 0, none⟩) 1 1) [n] :: outO (.slice (some ⟨ge, 0, none⟩) 0 0) [] :: boxO hb (S.rcells rm p) RHT :: rmO rm S.c.blocks.toNat S.B :: boxO p.eb (rowG 2 S.n (fun i => (S.E i).cells) ++ p.et) ET' :: boxO p.jb (rowG 29 S.n (fun i => rjc (S.J (i : Int))) ++ p.jt) RJT :: outO (.slice p.wa S.Q.length p.wc) S.Q :: boxO nb n.cells NT :: L)) := Lib.hid hs
              have HS : (fun X : World => (TNot.ld (.pointer (some ⟨nb, 0, none⟩))).run Tryd.prog X = .ok (.agg n.cells) X) Y6 := TNot.ld_at HNN.out (HY6.out.box 7 rfl).whole
              try simp only [hY, hgn]
              clear hs hY hgn
              refine hK.out _ _ HS (fun hHeld2 => ?_)
              clear hK hHeld2 hHeld; have hHeld := HS; clear HS
              try simp only [Act.put, rn1, rn2, rn3, rn4, rn5, rn6]
              refine reg_step (i := 6) (by kernel_rfl) rfl (by kernel_rfl) (fun K hK => ?_)
              obtain ⟨v6, Y7, hrun, hs⟩ := s_cat HY6.out 1 6 rfl rfl (fun m hm => (HG.out.que m hm).isU) (by have := HG.out.few; simp; omega)
              have HY7 : Hid (Sep NoF w0 Y7 (outO (.slice (some ⟨gn, 0, none⟩) 1 1) [n] :: outO v6 S.Q :: boxO hb (S.rcells rm p) RHT :: rmO rm S.c.blocks.toNat S.B :: boxO p.eb (rowG 2 S.n (fun i => (S.E i).cells) ++ p.et) ET' :: boxO p.jb (rowG 29 S.n (fun i => rjc (S.J (i : Int))) ++ p.jt) RJT :: outO (.slice p.wa S.Q.length p.wc) S.Q :: boxO nb n.cells NT :: L)) := Lib.hid (by simpa using hs)
              refine oper_app _ _ NS rfl rfl rfl hrun ?_
              have HS : (fun X : World => (TNot.ld (.pointer (some ⟨nb, 0, none⟩))).run Tryd.prog X = .ok (.agg n.cells) X) Y7 := TNot.ld_at HNN.out (HY7.out.box 7 rfl).whole
              clear hs hrun
              refine hK.out _ _ HS (fun hHeld2 => ?_)
              clear hK hHeld2 hHeld; have hHeld := HS; clear HS
              try simp only [Act.put, rn1, rn2, rn3, rn4, rn5, rn6]
              refine reg_step (i := 9) (by kernel_rfl) rfl (by kernel_rfl) (fun K hK => ?_)
              obtain ⟨v9, Y8, hrun, hs⟩ := s_cat HY7.out 1 0 rfl rfl (fun m hm => by simp at hm; subst hm; exact HN.out.isU) (by have := HG.out.few; simp; omega)
              obtain ⟨a9, c9, rfl, -⟩ := (hs.row 1 rfl).slice
              have HY8 : Hid (Sep NoF w0 Y8 (outO (.slice (some ⟨gn, 0, none⟩) 1 1) [n] :: outO (.slice a9 (S.Q ++ [n]).length c9) (S.Q ++ [n]) :: boxO hb (S.rcells rm p) RHT :: rmO rm S.c.blocks.toNat S.B :: boxO p.eb (rowG 2 S.n (fun i => (S.E i).cells) ++ p.et) ET' :: boxO p.jb (rowG 29 S.n (fun i => rjc (S.J (i : Int))) ++ p.jt) RJT :: outO (.slice p.wa S.Q.length p.wc) S.Q :: boxO nb n.cells NT :: L)) := Lib.hid hs
              refine oper_app _ _ NS rfl rfl rfl hrun ?_
              have HS : (fun X : World => (TNot.ld (.pointer (some ⟨nb, 0, none⟩))).run Tryd.prog X = .ok (.agg n.cells) X) Y8 := TNot.ld_at HNN.out (HY8.out.box 7 rfl).whole
              clear hs hrun
              refine hK.out _ _ HS (fun hHeld2 => ?_)
              clear hK hHeld2 hHeld; have hHeld := HS; clear HS
              try simp only [Act.put, rn1, rn2, rn3, rn4, rn5, rn6]
              refine rgn 10 (v := ?vq8) hHeld ?yq8 ?_
              case yq8 => (intro w hSw; go_simp; try with_reducible rfl)
              simp only [Act.put, rn1, rn2, rn3, rn4, rn5, rn6]
              refine rgn 11 (v := ?vq9) hHeld ?yq9 ?_
              case yq9 => (intro w hSw; go_simp; try with_reducible rfl)
              simp only [Act.put, rn1, rn2, rn3, rn4, rn5, rn6]
              refine reg_step (i := 12) (by kernel_rfl) rfl (by kernel_rfl) (fun K hK => ?_)
              have f11 : Y8.cell? ⟨hb, 11, none⟩ = some (.slice p.wa S.Q.length p.wc) := (HY8.out.box 2 rfl).cell 11
              have g11 := (HY8.out.box 2 rfl).frozen 11
              have hs := HY8.out.set 2 rfl 11 (.slice a9 (S.Q ++ [n]).length c9)
              obtain ⟨m9, hm9⟩ : ∃ x, (S.Q ++ [n]).length = x := ⟨_, rfl⟩
              rw [hm9] at hs ⊢
              go_simp
              obtain ⟨Z, hZ⟩ : ∃ Z, Y8.setCell ⟨hb, 11, none⟩ (.slice a9 m9 c9) = Z := ⟨_, rfl⟩
              rw [hZ] at hs
              rw [← hm9] at hs
              have hs2 := (((hs.drop 6 (by simp)).drop 0 (by simp)).sink 4)
              have HZ : Hid (Sep NoF w0 Z (boxO hb (Hs.rcells { S with Q := S.Q ++ [n] } rm ⟨p.eb, p.ec, p.et, p.jb, p.jc, p.jt, a9, c9⟩) RHT :: rmO rm S.c.blocks.toNat S.B :: boxO p.eb (rowG 2 S.n (fun i => (S.E i).cells) ++ p.et) ET' :: boxO p.jb (rowG 29 S.n (fun i => rjc (S.J (i : Int))) ++ p.jt) RJT :: outO (.slice a9 (S.Q ++ [n]).length c9) (S.Q ++ [n]) :: boxO nb n.cells NT :: L)) := Lib.hid hs2
              have HS : (fun X : World => (TNot.ld (.pointer (some ⟨nb, 0, none⟩))).run Tryd.prog X = .ok (.agg n.cells) X) Z := TNot.ld_at HNN.out (HZ.out.box 5 rfl).whole
              try simp only [hZ]
              clear hs hs2 hZ f11 g11 hm9
              refine hK.out _ _ HS (fun hHeld2 => ?_)
              clear hK hHeld2 hHeld; have hHeld := HS; clear HS
              try simp only [Act.put, rn1, rn2, rn3, rn4, rn5, rn6]
              refine wpAnyH_done (by kernel_rfl) ?_ _
              clear hHeld
              go_wp2
              go_ret2
              refine ⟨.slice none 0 0, ?_⟩
              rw [← HTK2.out]
              exact ⟨rfl, out_nil ((rh_shut (S := { S with Q := S.Q ++ [n] }) (p := ⟨p.eb, p.ec, p.et, p.jb, p.jc, p.jt, a9, c9⟩) ⟨good_wait HF.out.good HN.out HRM.out, HF.out.ec, HF.out.jc⟩ HZ.out).drop 1 (by simp))⟩
          · go_simp
            have hs := ((HY1.out.alloc n.cells NT).head (Φ' := outO (.slice (some ⟨Y1.heap.size, 0, none⟩) 1 1) [n]) (fun F hF => out_one HNN.out.1 hF))
            obtain ⟨Y9, hY⟩ : ∃ Y9, Y1.alloc (.cells n.cells NT) = Y9 := ⟨_, rfl⟩
            obtain ⟨gn, hgn⟩ : ∃ x, Y1.heap.size = x := ⟨_, rfl⟩
            rw [hY, hgn] at hs
            have HY9 : Hid (Sep NoF w0 Y9 (outO (.slice (some ⟨gn, 0, none⟩) 1 1) [n] :: outO (.slice (some ⟨ge, 0, none⟩) 0 0) [] :: boxO hb (S.rcells rm p) RHT :: rmO rm S.c.blocks.toNat S.B :: boxO p.eb (rowG 2 S.n (fun i => (S.E i).cells) ++ p.et) ET' :: boxO p.jb (rowG 29 S.n (fun i => rjc (S.J (i : Int))) ++ p.jt) RJT :: outO (.slice p.wa S.Q.length p.wc) S.Q :: boxO nb n.cells NT :: L)) := Lib.hid hs
            have HS : (fun X : World => (TNot.ld (.pointer (some ⟨nb, 0, none⟩))).run Tryd.prog X = .ok (.agg n.cells) X) Y9 := TNot.ld_at HNN.out (HY9.out.box 7 rfl).whole
            try simp only [hY, hgn]
            clear hs hY hgn
            refine hK.out _ _ HS (fun hHeld2 => ?_)
            clear hK hHeld2 hHeld; have hHeld := HS; clear HS
            try simp only [Act.put, rn1, rn2, rn3, rn4, rn5, rn6]
            refine reg_step (i := 5) (by kernel_rfl) rfl (by kernel_rfl) (fun K hK => ?_)
            have f11 : Y9.cell? ⟨hb, 11, none⟩ = some (.slice p.wa S.Q.length p.wc) := (HY9.out.box 2 rfl).cell 11
            go_simp
            clear f11
            have HS : (fun X : World => (TNot.ld (.pointer (some ⟨nb, 0, none⟩))).run Tryd.prog X = .ok (.agg n.cells) X) Y9 := hHeld
            refine hK.out _ _ HS (fun hHeld2 => ?_)
            clear hK hHeld2 hHeld; have hHeld := HS; clear HS
            try simp only [Act.put, rn1, rn2, rn3, rn4, rn5, rn6]
            refine reg_step (i := 6) (by kernel_rfl) rfl (by kernel_rfl) (fun K hK => ?_)
            obtain ⟨v6, Y11, hrun, hs⟩ := s_cat HY9.out 1 6 rfl rfl (fun m hm => (HG.out.que m hm).isU) (by have := HG.out.few; simp; omega)
            have HY11 : Hid (Sep NoF w0 Y11 (outO (.slice (some ⟨gn, 0, none⟩) 1 1) [n] :: outO v6 S.Q :: boxO hb (S.rcells rm p) RHT :: rmO rm S.c.blocks.toNat S.B :: boxO p.eb (rowG 2 S.n (fun i => (S.E i).cells) ++ p.et) ET' :: boxO p.jb (rowG 29 S.n (fun i => rjc (S.J (i : Int))) ++ p.jt) RJT :: outO (.slice p.wa S.Q.length p.wc) S.Q :: boxO nb n.cells NT :: L)) := Lib.hid (by simpa using hs)
            refine oper_app _ _ NS rfl rfl rfl hrun ?_
            have HS : (fun X : World => (TNot.ld (.pointer (some ⟨nb, 0, none⟩))).run Tryd.prog X = .ok (.agg n.cells) X) Y11 := TNot.ld_at HNN.out (HY11.out.box 7 rfl).whole
            clear hs hrun
            refine hK.out _ _ HS (fun hHeld2 => ?_)
            clear hK hHeld2 hHeld; have hHeld := HS; clear HS
            try simp only [Act.put, rn1, rn2, rn3, rn4, rn5, rn6]
            refine reg_step (i := 9) (by kernel_rfl) rfl (by kernel_rfl) (fun K hK => ?_)
            obtain ⟨v9, Y12, hrun, hs⟩ := s_cat HY11.out 1 0 rfl rfl (fun m hm => by simp at hm; subst hm; exact HN.out.isU) (by have := HG.out.few; simp; omega)
            obtain ⟨a9, c9, rfl, -⟩ := (hs.row 1 rfl).slice
            have HY12 : Hid (Sep NoF w0 Y12 (outO (.slice (some ⟨gn, 0, none⟩) 1 1) [n] :: outO (.slice a9 (S.Q ++ [n]).length c9) (S.Q ++ [n]) :: boxO hb (S.rcells rm p) RHT :: rmO rm S.c.blocks.toNat S.B :: boxO p.eb (rowG 2 S.n (fun i => (S.E i).cells) ++ p.et) ET' :: boxO p.jb (rowG 29 S.n (fun i => rjc (S.J (i : Int))) ++ p.jt) RJT :: outO (.slice p.wa S.Q.length p.wc) S.Q :: boxO nb n.cells NT :: L)) := Lib.hid hs
            refine oper_app _ _ NS rfl rfl rfl hrun ?_
            have HS : (fun X : World => (TNot.ld (.pointer (some ⟨nb, 0, none⟩))).run Tryd.prog X = .ok (.agg n.cells) X) Y12 := TNot.ld_at HNN.out (HY12.out.box 7 rfl).whole
            clear hs hrun
            refine hK.out _ _ HS (fun hHeld2 => ?_)
            clear hK hHeld2 hHeld; have hHeld := HS; clear HS
            try simp only [Act.put, rn1, rn2, rn3, rn4, rn5, rn6]
            refine rgn 10 (v := ?vq10) hHeld ?yq10 ?_
            case yq10 => (intro w hSw; go_simp; try with_reducible rfl)
            simp only [Act.put, rn1, rn2, rn3, rn4, rn5, rn6]
            refine rgn 11 (v := ?vq11) hHeld ?yq11 ?_
            case yq11 => (intro w hSw; go_simp; try with_reducible rfl)
            simp only [Act.put, rn1, rn2, rn3, rn4, rn5, rn6]
            refine reg_step (i := 12) (by kernel_rfl) rfl (by kernel_rfl) (fun K hK => ?_)
            have f11 : Y12.cell? ⟨hb, 11, none⟩ = some (.slice p.wa S.Q.length p.wc) := (HY12.out.box 2 rfl).cell 11
            have g11 := (HY12.out.box 2 rfl).frozen 11
            have hs := HY12.out.set 2 rfl 11 (.slice a9 (S.Q ++ [n]).length c9)
            obtain ⟨m9, hm9⟩ : ∃ x, (S.Q ++ [n]).length = x := ⟨_, rfl⟩
            rw [hm9] at hs ⊢
            go_simp
            obtain ⟨Z, hZ⟩ : ∃ Z, Y12.setCell ⟨hb, 11, none⟩ (.slice a9 m9 c9) = Z := ⟨_, rfl⟩
            rw [hZ] at hs
            rw [← hm9] at hs
            have hs2 := (((hs.drop 6 (by simp)).drop 0 (by simp)).sink 4)
            have HZ : Hid (Sep NoF w0 Z (boxO hb (Hs.rcells { S with Q := S.Q ++ [n] } rm ⟨p.eb, p.ec, p.et, p.jb, p.jc, p.jt, a9, c9⟩) RHT :: rmO rm S.c.blocks.toNat S.B :: boxO p.eb (rowG 2 S.n (fun i => (S.E i).cells) ++ p.et) ET' :: boxO p.jb (rowG 29 S.n (fun i => rjc (S.J (i : Int))) ++ p.jt) RJT :: outO (.slice a9 (S.Q ++ [n]).length c9) (S.Q ++ [n]) :: boxO nb n.cells NT :: L)) := Lib.hid hs2
            have HS : (fun X : World => (TNot.ld (.pointer (some ⟨nb, 0, none⟩))).run Tryd.prog X = .ok (.agg n.cells) X) Z := TNot.ld_at HNN.out (HZ.out.box 5 rfl).whole
            try simp only [hZ]
            clear hs hs2 hZ f11 g11 hm9
            refine hK.out _ _ HS (fun hHeld2 => ?_)
            clear hK hHeld2 hHeld; have hHeld := HS; clear HS
            try simp only [Act.put, rn1, rn2, rn3, rn4, rn5, rn6]
            refine wpAnyH_done (by kernel_rfl) ?_ _
            clear hHeld
            go_wp2
            go_ret2
            refine ⟨.slice none 0 0, ?_⟩
            rw [← HTK2.out]
            exact ⟨rfl, out_nil ((rh_shut (S := { S with Q := S.Q ++ [n] }) (p := ⟨p.eb, p.ec, p.et, p.jb, p.jc, p.jt, a9, c9⟩) ⟨good_wait HF.out.good HN.out HRM.out, HF.out.ec, HF.out.jc⟩ HZ.out).drop 1 (by simp))⟩
        · have f11 : w4.cell? ⟨hb, 11, none⟩ = some (.slice p.wa S.Q.length p.wc) := (HS4.out.box 0 rfl).cell 11
          go_simp
          clear f11
          have HS : (fun X : World => (TNot.ld (.pointer (some ⟨nb, 0, none⟩))).run Tryd.prog X = .ok (.agg n.cells) X) w4 := hHeld
          refine hK.out _ _ HS (fun hHeld2 => ?_)
          clear hK hHeld2 hHeld; have hHeld := HS; clear HS
          try simp only [Act.put, rn1, rn2, rn3, rn4, rn5, rn6]
          refine reg_two (i := 1) (j := 8) (by kernel_rfl) rfl rfl (by kernel_rfl) (by kernel_rfl) (fun K hK => ?_) (fun K hK => ?_)
          · go_simp
            have hs := ((HS4.out.alloc #[] NT).head (Φ' := outO (.slice (some ⟨w4.heap.size, 0, none⟩) 0 0) []) (fun F hF => out_zero hF))
            obtain ⟨Y14, hY⟩ : ∃ Y14, w4.alloc (.cells #[] NT) = Y14 := ⟨_, rfl⟩
            obtain ⟨ge, hge⟩ : ∃ x, w4.heap.size = x := ⟨_, rfl⟩
            rw [hY, hge] at hs
            have HY14 : Hid (Sep NoF w0 Y14 (outO (.slice (some ⟨ge, 0, none⟩) 0 0) [] :: boxO hb (S.rcells rm p) RHT :: rmO rm S.c.blocks.toNat S.B :: boxO p.eb (rowG 2 S.n (fun i => (S.E i).cells) ++ p.et) ET' :: boxO p.jb (rowG 29 S.n (fun i => rjc (S.J (i : Int))) ++ p.jt) RJT :: outO (.slice p.wa S.Q.length p.wc) S.Q :: boxO nb n.cells NT :: L)) := Lib.hid hs
            have HS : (fun X : World => (TNot.ld (.pointer (some ⟨nb, 0, none⟩))).run Tryd.prog X = .ok (.agg n.cells) X) Y14 := TNot.ld_at HNN.out (HY14.out.box 6 rfl).whole
            try simp only [hY, hge]
            clear hs hY hge
            refine hK.out _ _ HS (fun hHeld2 => ?_)
            clear hK hHeld2 hHeld; have hHeld := HS; clear HS
            try simp only [Act.put, rn1, rn2, rn3, rn4, rn5, rn6]
            refine reg_two (i := 6) (j := 8) (by kernel_rfl) rfl rfl (by kernel_rfl) (by kernel_rfl) (fun K hK => ?_) (fun K hK => ?_)
            · obtain ⟨v6, Y15, hrun, hs⟩ := s_cat HY14.out 0 5 rfl rfl (fun m hm => (HG.out.que m hm).isU) (by have := HG.out.few; simp; omega)
              have HY15 : Hid (Sep NoF w0 Y15 (outO v6 S.Q :: boxO hb (S.rcells rm p) RHT :: rmO rm S.c.blocks.toNat S.B :: boxO p.eb (rowG 2 S.n (fun i => (S.E i).cells) ++ p.et) ET' :: boxO p.jb (rowG 29 S.n (fun i => rjc (S.J (i : Int))) ++ p.jt) RJT :: outO (.slice p.wa S.Q.length p.wc) S.Q :: boxO nb n.cells NT :: L)) := Lib.hid (by simpa using hs)
              refine oper_app _ _ NS rfl rfl rfl hrun ?_
              have HS : (fun X : World => (TNot.ld (.pointer (some ⟨nb, 0, none⟩))).run Tryd.prog X = .ok (.agg n.cells) X) Y15 := TNot.ld_at HNN.out (HY15.out.box 6 rfl).whole
              clear hs hrun
              refine hK.out _ _ HS (fun hHeld2 => ?_)
              clear hK hHeld2 hHeld; have hHeld := HS; clear HS
              try simp only [Act.put, rn1, rn2, rn3, rn4, rn5, rn6]
              refine reg_step (i := 8) (by kernel_rfl) rfl (by kernel_rfl) (fun K hK => ?_)
              go_simp
              have hs := ((HY15.out.alloc n.cells NT).head (Φ' := outO (.slice (some ⟨Y15.heap.size, 0, none⟩) 1 1) [n]) (fun F hF => out_one HNN.out.1 hF))
              obtain ⟨Y16, hY⟩ : ∃ Y16, Y15.alloc (.cells n.cells NT) = Y16 := ⟨_, rfl⟩
              obtain ⟨gn, hgn⟩ : ∃ x, Y15.heap.size = x := ⟨_, rfl⟩
              rw [hY, hgn] at hs
              have HY16 : Hid (Sep NoF w0 Y16 (outO (.slice (some ⟨gn, 0, none⟩) 1 1) [n] :: outO v6 S.Q :: boxO hb (S.rcells rm p) RHT :: rmO rm S.c.blocks.toNat S.B :: boxO p.eb (rowG 2 S.n (fun i => (S.E i).cells) ++ p.et) ET' :: boxO p.jb (rowG 29 S.n (fun i => rjc (S.J (i : Int))) ++ p.jt) RJT :: outO (.slice p.wa S.Q.length p.wc) S.Q :: boxO nb n.cells NT :: L)) := Lib.hid hs
              have HS : (fun X : World => (TNot.ld (.pointer (some ⟨nb, 0, none⟩))).run Tryd.prog X = .ok (.agg n.cells) X) Y16 := TNot.ld_at HNN.out (HY16.out.box 7 rfl).whole
              try simp only [hY, hgn]
              clear hs hY hgn
              refine hK.out _ _ HS (fun hHeld2 => ?_)
              clear hK hHeld2 hHeld; have hHeld := HS; clear HS
              try simp only [Act.put, rn1, rn2, rn3, rn4, rn5, rn6]
              refine reg_step (i := 9) (by kernel_rfl) rfl (by kernel_rfl) (fun K hK => ?_)
              obtain ⟨v9, Y17, hrun, hs⟩ := s_cat HY16.out 1 0 rfl rfl (fun m hm => by simp at hm; subst hm; exact HN.out.isU) (by have := HG.out.few; simp; omega)
              obtain ⟨a9, c9, rfl, -⟩ := (hs.row 1 rfl).slice
              have HY17 : Hid (Sep NoF w0 Y17 (outO (.slice (some ⟨gn, 0, none⟩) 1 1) [n] :: outO (.slice a9 (S.Q ++ [n]).length c9) (S.Q ++ [n]) :: boxO hb (S.rcells rm p) RHT :: rmO rm S.c.blocks.toNat S.B :: boxO p.eb (rowG 2 S.n (fun i => (S.E i).cells) ++ p.et) ET' :: boxO p.jb (rowG 29 S.n (fun i => rjc (S.J (i : Int))) ++ p.jt) RJT :: outO (.slice p.wa S.Q.length p.wc) S.Q :: boxO nb n.cells NT :: L)) := Lib.hid hs
              refine oper_app _ _ NS rfl rfl rfl hrun ?_
              have HS : (fun X : World => (TNot.ld (.pointer (some ⟨nb, 0, none⟩))).run Tryd.prog X = .ok (.agg n.cells) X) Y17 := TNot.ld_at HNN.out (HY17.out.box 7 rfl).whole
              clear hs hrun
              refine hK.out _ _ HS (fun hHeld2 => ?_)
              clear hK hHeld2 hHeld; have hHeld := HS; clear HS
              try simp only [Act.put, rn1, rn2, rn3, rn4, rn5, rn6]
              refine rgn 10 (v := ?vq12) hHeld ?yq12 ?_
              case yq12 => (intro w hSw; go_simp; try with_reducible rfl)
              simp only [Act.put, rn1, rn2, rn3, rn4, rn5, rn6]
              refine rgn 11 (v := ?vq13) hHeld ?yq13 ?_
              case yq13 => (intro w hSw; go_simp; try with_reducible rfl)
              simp only [Act.put, rn1, rn2, rn3, rn4, rn5, rn6]
              refine reg_step (i := 12) (by kernel_rfl) rfl (by kernel_rfl) (fun K hK => ?_)
              have f11 : Y17.cell? ⟨hb, 11, none⟩ = some (.slice p.wa S.Q.length p.wc) := (HY17.out.box 2 rfl).cell 11
              have g11 := (HY17.out.box 2 rfl).frozen 11
              have hs := HY17.out.set 2 rfl 11 (.slice a9 (S.Q ++ [n]).length c9)
              obtain ⟨m9, hm9⟩ : ∃ x, (S.Q ++ [n]).length = x := ⟨_, rfl⟩
              rw [hm9] at hs ⊢
              go_simp
              obtain ⟨Z, hZ⟩ : ∃ Z, Y17.setCell ⟨hb, 11, none⟩ (.slice a9 m9 c9) = Z := ⟨_, rfl⟩
              rw [hZ] at hs
              rw [← hm9] at hs
              have hs2 := (((hs.drop 6 (by simp)).drop 0 (by simp)).sink 4)
              have HZ : Hid (Sep NoF w0 Z (boxO hb (Hs.rcells { S with Q := S.Q ++ [n] } rm ⟨p.eb, p.ec, p.et, p.jb, p.jc, p.jt, a9, c9⟩) RHT :: rmO rm S.c.blocks.toNat S.B :: boxO p.eb (rowG 2 S.n (fun i => (S.E i).cells) ++ p.et) ET' :: boxO p.jb (rowG 29 S.n (fun i => rjc (S.J (i : Int))) ++ p.jt) RJT :: outO (.slice a9 (S.Q ++ [n]).length c9) (S.Q ++ [n]) :: boxO nb n.cells NT :: L)) := Lib.hid hs2
              have HS : (fun X : World => (TNot.ld (.pointer (some ⟨nb, 0, none⟩))).run Tryd.prog X = .ok (.agg n.cells) X) Z := TNot.ld_at HNN.out (HZ.out.box 5 rfl).whole
              try simp only [hZ]
              clear hs hs2 hZ f11 g11 hm9
              refine hK.out _ _ HS (fun hHeld2 => ?_)
              clear hK hHeld2 hHeld; have hHeld := HS; clear HS
              try simp only [Act.put, rn1, rn2, rn3, rn4, rn5, rn6]
              refine wpAnyH_done (by kernel_rfl) ?_ _
              clear hHeld
              go_wp2
              go_ret2
              refine ⟨.slice none 0 0, ?_⟩
              rw [← HTK2.out]
              exact ⟨rfl, out_nil ((rh_shut (S := { S with Q := S.Q ++ [n] }) (p := ⟨p.eb, p.ec, p.et, p.jb, p.jc, p.jt, a9, c9⟩) ⟨good_wait HF.out.good HN.out HRM.out, HF.out.ec, HF.out.jc⟩ HZ.out).drop 1 (by simp))⟩
            · go_simp
              have hs := ((HY14.out.alloc n.cells NT).head (Φ' := outO (.slice (some ⟨Y14.heap.size, 0, none⟩) 1 1) [n]) (fun F hF => out_one HNN.out.1 hF))
              obtain ⟨Y18, hY⟩ : ∃ Y18, Y14.alloc (.cells n.cells NT) = Y18 := ⟨_, rfl⟩
              obtain ⟨gn, hgn⟩ : ∃ x, Y14.heap.size = x := ⟨_, rfl⟩
              rw [hY, hgn] at hs
              have HY18 : Hid (Sep NoF w0 Y18 (outO (.slice (some ⟨gn, 0, none⟩) 1 1) [n] :: outO (.slice (some ⟨ge, 0, none⟩) 0 0) [] :: boxO hb (S.rcells rm p) RHT :: rmO rm S.c.blocks.toNat S.B :: boxO p.eb (rowG 2 S.n (fun i => (S.E i).cells) ++ p.et) ET' :: boxO p.jb (rowG 29 S.n (fun i => rjc (S.J (i : Int))) ++ p.jt) RJT :: outO (.slice p.wa S.Q.length p.wc) S.Q :: boxO nb n.cells NT :: L)) := Lib.hid hs
              have HS : (fun X : World => (TNot.ld (.pointer (some ⟨nb, 0, none⟩))).run Tryd.prog X = .ok (.agg n.cells) X) Y18 := TNot.ld_at HNN.out (HY18.out.box 7 rfl).whole
              try simp only [hY, hgn]
              clear hs hY hgn
              refine hK.out _ _ HS (fun hHeld2 => ?_)
              clear hK hHeld2 hHeld; have hHeld := HS; clear HS
              try simp only [Act.put, rn1, rn2, rn3, rn4, rn5, rn6]
              refine reg_step (i := 6) (by kernel_rfl) rfl (by kernel_rfl) (fun K hK => ?_)
              obtain ⟨v6, Y19, hrun, hs⟩ := s_cat HY18.out 1 6 rfl rfl (fun m hm => (HG.out.que m hm).isU) (by have := HG.out.few; simp; omega)
              have HY19 : Hid (Sep NoF w0 Y19 (outO (.slice (some ⟨gn, 0, none⟩) 1 1) [n] :: outO v6 S.Q :: boxO hb (S.rcells rm p) RHT :: rmO rm S.c.blocks.toNat S.B :: boxO p.eb (rowG 2 S.n (fun i => (S.E i).cells) ++ p.et) ET' :: boxO p.jb (rowG 29 S.n (fun i => rjc (S.J (i : Int))) ++ p.jt) RJT :: outO (.slice p.wa S.Q.length p.wc) S.Q :: boxO nb n.cells NT :: L)) := Lib.hid (by simpa using hs)
              refine oper_app _ _ NS rfl rfl rfl hrun ?_
              have HS : (fun X : World => (TNot.ld (.pointer (some ⟨nb, 0, none⟩))).run Tryd.prog X = .ok (.agg n.cells) X) Y19 := TNot.ld_at HNN.out (HY19.out.box 7 rfl).whole
              clear hs hrun
              refine hK.out _ _ HS (fun hHeld2 => ?_)
              clear hK hHeld2 hHeld; have hHeld := HS; clear HS
              try simp only [Act.put, rn1, rn2, rn3, rn4, rn5, rn6]
              refine reg_step (i := 9) (by kernel_rfl) rfl (by kernel_rfl) (fun K hK => ?_)
              obtain ⟨v9, Y20, hrun, hs⟩ := s_cat HY19.out 1 0 rfl rfl (fun m hm => by simp at hm; subst hm; exact HN.out.isU) (by have := HG.out.few; simp; omega)
              obtain ⟨a9, c9, rfl, -⟩ := (hs.row 1 rfl).slice
              have HY20 : Hid (Sep NoF w0 Y20 (outO (.slice (some ⟨gn, 0, none⟩) 1 1) [n] :: outO (.slice a9 (S.Q ++ [n]).length c9) (S.Q ++ [n]) :: boxO hb (S.rcells rm p) RHT :: rmO rm S.c.blocks.toNat S.B :: boxO p.eb (rowG 2 S.n (fun i => (S.E i).cells) ++ p.et) ET' :: boxO p.jb (rowG 29 S.n (fun i => rjc (S.J (i : Int))) ++ p.jt) RJT :: outO (.slice p.wa S.Q.length p.wc) S.Q :: boxO nb n.cells NT :: L)) := Lib.hid hs
              refine oper_app _ _ NS rfl rfl rfl hrun ?_
              have HS : (fun X : World => (TNot.ld (.pointer (some ⟨nb, 0, none⟩))).run Tryd.prog X = .ok (.agg n.cells) X) Y20 := TNot.ld_at HNN.out (HY20.out.box 7 rfl).whole
              clear hs hrun
              refine hK.out _ _ HS (fun hHeld2 => ?_)
              clear hK hHeld2 hHeld; have hHeld := HS; clear HS
              try simp only [Act.put, rn1, rn2, rn3, rn4, rn5, rn6]
              refine rgn 10 (v := ?vq14) hHeld ?yq14 ?_
              case yq14 => (intro w hSw; go_simp; try with_reducible rfl)
              simp only [Act.put, rn1, rn2, rn3, rn4, rn5, rn6]
              refine rgn 11 (v := ?vq15) hHeld ?yq15 ?_
              case yq15 => (intro w hSw; go_simp; try with_reducible rfl)
              simp only [Act.put, rn1, rn2, rn3, rn4, rn5, rn6]
              refine reg_step (i := 12) (by kernel_rfl) rfl (by kernel_rfl) (fun K hK => ?_)
              have f11 : Y20.cell? ⟨hb, 11, none⟩ = some (.slice p.wa S.Q.length p.wc) := (HY20.out.box 2 rfl).cell 11
              have g11 := (HY20.out.box 2 rfl).frozen 11
              have hs := HY20.out.set 2 rfl 11 (.slice a9 (S.Q ++ [n]).length c9)
              obtain ⟨m9, hm9⟩ : ∃ x, (S.Q ++ [n]).length = x := ⟨_, rfl⟩
              rw [hm9] at hs ⊢
              go_simp
              obtain ⟨Z, hZ⟩ : ∃ Z, Y20.setCell ⟨hb, 11, none⟩ (.slice a9 m9 c9) = Z := ⟨_, rfl⟩
              rw [hZ] at hs
              rw [← hm9] at hs
              have hs2 := (((hs.drop 6 (by simp)).drop 0 (by simp)).sink 4)
              have HZ : Hid (Sep NoF w0 Z (boxO hb (Hs.rcells { S with Q := S.Q ++ [n] } rm ⟨p.eb, p.ec, p.et, p.jb, p.jc, p.jt, a9, c9⟩) RHT :: rmO rm S.c.blocks.toNat S.B :: boxO p.eb (rowG 2 S.n (fun i => (S.E i).cells) ++ p.et) ET' :: boxO p.jb (rowG 29 S.n (fun i => rjc (S.J (i : Int))) ++ p.jt) RJT :: outO (.slice a9 (S.Q ++ [n]).length c9) (S.Q ++ [n]) :: boxO nb n.cells NT :: L)) := Lib.hid hs2
              have HS : (fun X : World => (TNot.ld (.pointer (some ⟨nb, 0, none⟩))).run Tryd.prog X = .ok (.agg n.cells) X) Z := TNot.ld_at HNN.out (HZ.out.box 5 rfl).whole
              try simp only [hZ]
              clear hs hs2 hZ f11 g11 hm9
              refine hK.out _ _ HS (fun hHeld2 => ?_)
              clear hK hHeld2 hHeld; have hHeld := HS; clear HS
              try simp only [Act.put, rn1, rn2, rn3, rn4, rn5, rn6]
              refine wpAnyH_done (by kernel_rfl) ?_ _
              clear hHeld
              go_wp2
              go_ret2
              refine ⟨.slice none 0 0, ?_⟩
              rw [← HTK2.out]
              exact ⟨rfl, out_nil ((rh_shut (S := { S with Q := S.Q ++ [n] }) (p := ⟨p.eb, p.ec, p.et, p.jb, p.jc, p.jt, a9, c9⟩) ⟨good_wait HF.out.good HN.out HRM.out, HF.out.ec, HF.out.jc⟩ HZ.out).drop 1 (by simp))⟩
          · go_simp
            have hs := ((HS4.out.alloc n.cells NT).head (Φ' := outO (.slice (some ⟨w4.heap.size, 0, none⟩) 1 1) [n]) (fun F hF => out_one HNN.out.1 hF))
            obtain ⟨Y21, hY⟩ : ∃ Y21, w4.alloc (.cells n.cells NT) = Y21 := ⟨_, rfl⟩
            obtain ⟨gn, hgn⟩ : ∃ x, w4.heap.size = x := ⟨_, rfl⟩
            rw [hY, hgn] at hs
            have HY21 : Hid (Sep NoF w0 Y21 (outO (.slice (some ⟨gn, 0, none⟩) 1 1) [n] :: boxO hb (S.rcells rm p) RHT :: rmO rm S.c.blocks.toNat S.B :: boxO p.eb (rowG 2 S.n (fun i => (S.E i).cells) ++ p.et) ET' :: boxO p.jb (rowG 29 S.n (fun i => rjc (S.J (i : Int))) ++ p.jt) RJT :: outO (.slice p.wa S.Q.length p.wc) S.Q :: boxO nb n.cells NT :: L)) := Lib.hid hs
            have HS : (fun X : World => (TNot.ld (.pointer (some ⟨nb, 0, none⟩))).run Tryd.prog X = .ok (.agg n.cells) X) Y21 := TNot.ld_at HNN.out (HY21.out.box 6 rfl).whole
            try simp only [hY, hgn]
            clear hs hY hgn
            refine hK.out _ _ HS (fun hHeld2 => ?_)
            clear hK hHeld2 hHeld; have hHeld := HS; clear HS
            try simp only [Act.put, rn1, rn2, rn3, rn4, rn5, rn6]
            refine reg_step (i := 1) (by kernel_rfl) rfl (by kernel_rfl) (fun K hK => ?_)
            go_simp
            have hs := ((HY21.out.alloc #[] NT).head (Φ' := outO (.slice (some ⟨Y21.heap.size, 0, none⟩) 0 0) []) (fun F hF => out_zero hF))
            obtain ⟨Y22, hY⟩ : ∃ Y22, Y21.alloc (.cells #[] NT) = Y22 := ⟨_, rfl⟩
            obtain ⟨ge, hge⟩ : ∃ x, Y21.heap.size = x := ⟨_, rfl⟩
            rw [hY, hge] at hs
            have HY22 : Hid (Sep NoF w0 Y22 (outO (.slice (some ⟨ge, 0, none⟩) 0 0) [] :: outO (.slice (some ⟨gn, 0, none⟩) 1 1) [n] :: boxO hb (S.rcells rm p) RHT :: rmO rm S.c.blocks.toNat S.B :: boxO p.eb (rowG 2 S.n (fun i => (S.E i).cells) ++ p.et) ET' :: boxO p.jb (rowG 29 S.n (fun i => rjc (S.J (i : Int))) ++ p.jt) RJT :: outO (.slice p.wa S.Q.length p.wc) S.Q :: boxO nb n.cells NT :: L)) := Lib.hid hs
            have HS : (fun X : World => (TNot.ld (.pointer (some ⟨nb, 0, none⟩))).run Tryd.prog X = .ok (.agg n.cells) X) Y22 := TNot.ld_at HNN.out (HY22.out.box 7 rfl).whole
            try simp only [hY, hge]
            clear hs hY hge
            refine hK.out _ _ HS (fun hHeld2 => ?_)
            clear hK hHeld2 hHeld; have hHeld := HS; clear HS
            try simp only [Act.put, rn1, rn2, rn3, rn4, rn5, rn6]
            refine reg_step (i := 6) (by kernel_rfl) rfl (by kernel_rfl) (fun K hK => ?_)
            obtain ⟨v6, Y23, hrun, hs⟩ := s_cat HY22.out 0 6 rfl rfl (fun m hm => (HG.out.que m hm).isU) (by have := HG.out.few; simp; omega)
            have HY23 : Hid (Sep NoF w0 Y23 (outO v6 S.Q :: outO (.slice (some ⟨gn, 0, none⟩) 1 1) [n] :: boxO hb (S.rcells rm p) RHT :: rmO rm S.c.blocks.toNat S.B :: boxO p.eb (rowG 2 S.n (fun i => (S.E i).cells) ++ p.et) ET' :: boxO p.jb (rowG 29 S.n (fun i => rjc (S.J (i : Int))) ++ p.jt) RJT :: outO (.slice p.wa S.Q.length p.wc) S.Q :: boxO nb n.cells NT :: L)) := Lib.hid (by simpa using hs)
            refine oper_app _ _ NS rfl rfl rfl hrun ?_
            have HS : (fun X : World => (TNot.ld (.pointer (some ⟨nb, 0, none⟩))).run Tryd.prog X = .ok (.agg n.cells) X) Y23 := TNot.ld_at HNN.out (HY23.out.box 7 rfl).whole
            clear hs hrun
            refine hK.out _ _ HS (fun hHeld2 => ?_)
            clear hK hHeld2 hHeld; have hHeld := HS; clear HS
            try simp only [Act.put, rn1, rn2, rn3, rn4, rn5, rn6]
            refine reg_step (i := 9) (by kernel_rfl) rfl (by kernel_rfl) (fun K hK => ?_)
            obtain ⟨v9, Y24, hrun, hs⟩ := s_cat HY23.out 0 1 rfl rfl (fun m hm => by simp at hm; subst hm; exact HN.out.isU) (by have := HG.out.few; simp; omega)
            obtain ⟨a9, c9, rfl, -⟩ := (hs.row 0 rfl).slice
            have HY24 : Hid (Sep NoF w0 Y24 (outO (.slice a9 (S.Q ++ [n]).length c9) (S.Q ++ [n]) :: outO (.slice (some ⟨gn, 0, none⟩) 1 1) [n] :: boxO hb (S.rcells rm p) RHT :: rmO rm S.c.blocks.toNat S.B :: boxO p.eb (rowG 2 S.n (fun i => (S.E i).cells) ++ p.et) ET' :: boxO p.jb (rowG 29 S.n (fun i => rjc (S.J (i : Int))) ++ p.jt) RJT :: outO (.slice p.wa S.Q.length p.wc) S.Q :: boxO nb n.cells NT :: L)) := Lib.hid hs
            refine oper_app _ _ NS rfl rfl rfl hrun ?_
            have HS : (fun X : World => (TNot.ld (.pointer (some ⟨nb, 0, none⟩))).run Tryd.prog X = .ok (.agg n.cells) X) Y24 := TNot.ld_at HNN.out (HY24.out.box 7 rfl).whole
            clear hs hrun
            refine hK.out _ _ HS (fun hHeld2 => ?_)
            clear hK hHeld2 hHeld; have hHeld := HS; clear HS
            try simp only [Act.put, rn1, rn2, rn3, rn4, rn5, rn6]
            refine rgn 10 (v := ?vq16) hHeld ?yq16 ?_
            case yq16 => (intro w hSw; go_simp; try with_reducible rfl)
            simp only [Act.put, rn1, rn2, rn3, rn4, rn5, rn6]
            refine rgn 11 (v := ?vq17) hHeld ?yq17 ?_
            case yq17 => (intro w hSw; go_simp; try with_reducible rfl)
            simp only [Act.put, rn1, rn2, rn3, rn4, rn5, rn6]
            refine reg_step (i := 12) (by kernel_rfl) rfl (by kernel_rfl) (fun K hK => ?_)
            have f11 : Y24.cell? ⟨hb, 11, none⟩ = some (.slice p.wa S.Q.length p.wc) := (HY24.out.box 2 rfl).cell 11
            have g11 := (HY24.out.box 2 rfl).frozen 11
            have hs := HY24.out.set 2 rfl 11 (.slice a9 (S.Q ++ [n]).length c9)
            obtain ⟨m9, hm9⟩ : ∃ x, (S.Q ++ [n]).length = x := ⟨_, rfl⟩
            rw [hm9] at hs ⊢
            go_simp
            obtain ⟨Z, hZ⟩ : ∃ Z, Y24.setCell ⟨hb, 11, none⟩ (.slice a9 m9 c9) = Z := ⟨_, rfl⟩
            rw [hZ] at hs
            rw [← hm9] at hs
            have hs2 := (((hs.drop 6 (by simp)).drop 1 (by simp)).sink 4)
            have HZ : Hid (Sep NoF w0 Z (boxO hb (Hs.rcells { S with Q := S.Q ++ [n] } rm ⟨p.eb, p.ec, p.et, p.jb, p.jc, p.jt, a9, c9⟩) RHT :: rmO rm S.c.blocks.toNat S.B :: boxO p.eb (rowG 2 S.n (fun i => (S.E i).cells) ++ p.et) ET' :: boxO p.jb (rowG 29 S.n (fun i => rjc (S.J (i : Int))) ++ p.jt) RJT :: outO (.slice a9 (S.Q ++ [n]).length c9) (S.Q ++ [n]) :: boxO nb n.cells NT :: L)) := Lib.hid hs2
            have HS : (fun X : World => (TNot.ld (.pointer (some ⟨nb, 0, none⟩))).run Tryd.prog X = .ok (.agg n.cells) X) Z := TNot.ld_at HNN.out (HZ.out.box 5 rfl).whole
            try simp only [hZ]
            clear hs hs2 hZ f11 g11 hm9
            refine hK.out _ _ HS (fun hHeld2 => ?_)
            clear hK hHeld2 hHeld; have hHeld := HS; clear HS
            try simp only [Act.put, rn1, rn2, rn3, rn4, rn5, rn6]
            refine wpAnyH_done (by kernel_rfl) ?_ _
            clear hHeld
            go_wp2
            go_ret2
            refine ⟨.slice none 0 0, ?_⟩
            rw [← HTK2.out]
            exact ⟨rfl, out_nil ((rh_shut (S := { S with Q := S.Q ++ [n] }) (p := ⟨p.eb, p.ec, p.et, p.jb, p.jc, p.jt, a9, c9⟩) ⟨good_wait HF.out.good HN.out HRM.out, HF.out.ec, HF.out.jc⟩ HZ.out).drop 1 (by simp))⟩
        · go_simp
          have hs := ((HS4.out.alloc n.cells NT).head (Φ' := outO (.slice (some ⟨w4.heap.size, 0, none⟩) 1 1) [n]) (fun F hF => out_one HNN.out.1 hF))
          obtain ⟨Y25, hY⟩ : ∃ Y25, w4.alloc (.cells n.cells NT) = Y25 := ⟨_, rfl⟩
          obtain ⟨gn, hgn⟩ : ∃ x, w4.heap.size = x := ⟨_, rfl⟩
          rw [hY, hgn] at hs
          have HY25 : Hid (Sep NoF w0 Y25 (outO (.slice (some ⟨gn, 0, none⟩) 1 1) [n] :: boxO hb (S.rcells rm p) RHT :: rmO rm S.c.blocks.toNat S.B :: boxO p.eb (rowG 2 S.n (fun i => (S.E i).cells) ++ p.et) ET' :: boxO p.jb (rowG 29 S.n (fun i => rjc (S.J (i : Int))) ++ p.jt) RJT :: outO (.slice p.wa S.Q.length p.wc) S.Q :: boxO nb n.cells NT :: L)) := Lib.hid hs
          have HS : (fun X : World => (TNot.ld (.pointer (some ⟨nb, 0, none⟩))).run Tryd.prog X = .ok (.agg n.cells) X) Y25 := TNot.ld_at HNN.out (HY25.out.box 6 rfl).whole
          try simp only [hY, hgn]
          clear hs hY hgn
          refine hK.out _ _ HS (fun hHeld2 => ?_)
          clear hK hHeld2 hHeld; have hHeld := HS; clear HS
          try simp only [Act.put, rn1, rn2, rn3, rn4, rn5, rn6]
          refine reg_two (i := 1) (j := 5) (by kernel_rfl) rfl rfl (by kernel_rfl) (by kernel_rfl) (fun K hK => ?_) (fun K hK => ?_)
          · go_simp
            have hs := ((HY25.out.alloc #[] NT).head (Φ' := outO (.slice (some ⟨Y25.heap.size, 0, none⟩) 0 0) []) (fun F hF => out_zero hF))
            obtain ⟨Y26, hY⟩ : ∃ Y26, Y25.alloc (.cells #[] NT) = Y26 := ⟨_, rfl⟩
            obtain ⟨ge, hge⟩ : ∃ x, Y25.heap.size = x := ⟨_, rfl⟩
            rw [hY, hge] at hs
            have HY26 : Hid (Sep NoF w0 Y26 (outO (.slice (some ⟨ge, 0, none⟩) 0 0) [] :: outO (.slice (some ⟨gn, 0, none⟩) 1 1) [n] :: boxO hb (S.rcells rm p) RHT :: rmO rm S.c.blocks.toNat S.B :: boxO p.eb (rowG 2 S.n (fun i => (S.E i).cells) ++ p.et) ET' :: boxO p.jb (rowG 29 S.n (fun i => rjc (S.J (i : Int))) ++ p.jt) RJT :: outO (.slice p.wa S.Q.length p.wc) S.Q :: boxO nb n.cells NT :: L)) := Lib.hid hs
            have HS : (fun X : World => (TNot.ld (.pointer (some ⟨nb, 0, none⟩))).run Tryd.prog X = .ok (.agg n.cells) X) Y26 := TNot.ld_at HNN.out (HY26.out.box 7 rfl).whole
            try simp only [hY, hge]
            clear hs hY hge
            refine hK.out _ _ HS (fun hHeld2 => ?_)
            clear hK hHeld2 hHeld; have hHeld := HS; clear HS
            try simp only [Act.put, rn1, rn2, rn3, rn4, rn5, rn6]
            refine reg_step (i := 5) (by kernel_rfl) rfl (by kernel_rfl) (fun K hK => ?_)
            have f11 : Y26.cell? ⟨hb, 11, none⟩ = some (.slice p.wa S.Q.length p.wc) := (HY26.out.box 2 rfl).cell 11
            go_simp
            clear f11
            have HS : (fun X : World => (TNot.ld (.pointer (some ⟨nb, 0, none⟩))).run Tryd.prog X = .ok (.agg n.cells) X) Y26 := hHeld
            refine hK.out _ _ HS (fun hHeld2 => ?_)
            clear hK hHeld2 hHeld; have hHeld := HS; clear HS
            try simp only [Act.put, rn1, rn2, rn3, rn4, rn5, rn6]
            refine reg_step (i := 6) (by kernel_rfl) rfl (by kernel_rfl) (fun K hK => ?_)
            obtain ⟨v6, Y28, hrun, hs⟩ := s_cat HY26.out 0 6 rfl rfl (fun m hm => (HG.out.que m hm).isU) (by have := HG.out.few; simp; omega)
            have HY28 : Hid (Sep NoF w0 Y28 (outO v6 S.Q :: outO (.slice (some ⟨gn, 0, none⟩) 1 1) [n] :: boxO hb (S.rcells rm p) RHT :: rmO rm S.c.blocks.toNat S.B :: boxO p.eb (rowG 2 S.n (fun i => (S.E i).cells) ++ p.et) ET' :: boxO p.jb (rowG 29 S.n (fun i => rjc (S.J (i : Int))) ++ p.jt) RJT :: outO (.slice p.wa S.Q.length p.wc) S.Q :: boxO nb n.cells NT :: L)) := Lib.hid (by simpa using hs)
            refine oper_app _ _ NS rfl rfl rfl hrun ?_
            have HS : (fun X : World => (TNot.ld (.pointer (some ⟨nb, 0, none⟩))).run Tryd.prog X = .ok (.agg n.cells) X) Y28 := TNot.ld_at HNN.out (HY28.out.box 7 rfl).whole
            clear hs hrun
            refine hK.out _ _ HS (fun hHeld2 => ?_)
            clear hK hHeld2 hHeld; have hHeld := HS; clear HS
            try simp only [Act.put, rn1, rn2, rn3, rn4, rn5, rn6]
            refine reg_step (i := 9) (by kernel_rfl) rfl (by kernel_rfl) (fun K hK => ?_)
            obtain ⟨v9, Y29, hrun, hs⟩ := s_cat HY28.out 0 1 rfl rfl (fun m hm => by simp at hm; subst hm; exact HN.out.isU) (by have := HG.out.few; simp; omega)
            obtain ⟨a9, c9, rfl, -⟩ := (hs.row 0 rfl).slice
            have HY29 : Hid (Sep NoF w0 Y29 (outO (.slice a9 (S.Q ++ [n]).length c9) (S.Q ++ [n]) :: outO (.slice (some ⟨gn, 0, none⟩) 1 1) [n] :: boxO hb (S.rcells rm p) RHT :: rmO rm S.c.blocks.toNat S.B :: boxO p.eb (rowG 2 S.n (fun i => (S.E i).cells) ++ p.et) ET' :: boxO p.jb (rowG 29 S.n (fun i => rjc (S.J (i : Int))) ++ p.jt) RJT :: outO (.slice p.wa S.Q.length p.wc) S.Q :: boxO nb n.cells NT :: L)) := Lib.hid hs
            refine oper_app _ _ NS rfl rfl rfl hrun ?_
            have HS : (fun X : World => (TNot.ld (.pointer (some ⟨nb, 0, none⟩))).run Tryd.prog X = .ok (.agg n.cells) X) Y29 := TNot.ld_at HNN.out (HY29.out.box 7 rfl).whole
            clear hs hrun
            refine hK.out _ _ HS (fun hHeld2 => ?_)
            clear hK hHeld2 hHeld; have hHeld := HS; clear HS
            try simp only [Act.put, rn1, rn2, rn3, rn4, rn5, rn6]
            refine rgn 10 (v := ?vq18) hHeld ?yq18 ?_
            case yq18 => (intro w hSw; go_simp; try with_reducible rfl)
            simp only [Act.put, rn1, rn2, rn3, rn4, rn5, rn6]
            refine rgn 11 (v := ?vq19) hHeld ?yq19 ?_
            case yq19 => (intro w hSw; go_simp; try with_reducible rfl)
            simp only [Act.put, rn1, rn2, rn3, rn4, rn5, rn6]
            refine reg_step (i := 12) (by kernel_rfl) rfl (by kernel_rfl) (fun K hK => ?_)
            have f11 : Y29.cell? ⟨hb, 11, none⟩ = some (.slice p.wa S.Q.length p.wc) := (HY29.out.box 2 rfl).cell 11
            have g11 := (HY29.out.box 2 rfl).frozen 11
            have hs := HY29.out.set 2 rfl 11 (.slice a9 (S.Q ++ [n]).length c9)
            obtain ⟨m9, hm9⟩ : ∃ x, (S.Q ++ [n]).length = x := ⟨_, rfl⟩
            rw [hm9] at hs ⊢
            go_simp
            obtain ⟨Z, hZ⟩ : ∃ Z, Y29.setCell ⟨hb, 11, none⟩ (.slice a9 m9 c9) = Z := ⟨_, rfl⟩
            rw [hZ] at hs
            rw [← hm9] at hs
            have hs2 := (((hs.drop 6 (by simp)).drop 1 (by simp)).sink 4)
            have HZ : Hid (Sep NoF w0 Z (boxO hb (Hs.rcells { S with Q := S.Q ++ [n] } rm ⟨p.eb, p.ec, p.et, p.jb, p.jc, p.jt, a9, c9⟩) RHT :: rmO rm S.c.blocks.toNat S.B :: boxO p.eb (rowG 2 S.n (fun i => (S.E i).cells) ++ p.et) ET' :: boxO p.jb (rowG 29 S.n (fun i => rjc (S.J (i : Int))) ++ p.jt) RJT :: outO (.slice a9 (S.Q ++ [n]).length c9) (S.Q ++ [n]) :: boxO nb n.cells NT :: L)) := Lib.hid hs2
            have HS : (fun X : World => (TNot.ld (.pointer (some ⟨nb, 0, none⟩))).run Tryd.prog X = .ok (.agg n.cells) X) Z := TNot.ld_at HNN.out (HZ.out.box 5 rfl).whole
            try simp only [hZ]
            clear hs hs2 hZ f11 g11 hm9
            refine hK.out _ _ HS (fun hHeld2 => ?_)
            clear hK hHeld2 hHeld; have hHeld := HS; clear HS
            try simp only [Act.put, rn1, rn2, rn3, rn4, rn5, rn6]
            refine wpAnyH_done (by kernel_rfl) ?_ _
            clear hHeld
            go_wp2
            go_ret2
            refine ⟨.slice none 0 0, ?_⟩
            rw [← HTK2.out]
            exact ⟨rfl, out_nil ((rh_shut (S := { S with Q := S.Q ++ [n] }) (p := ⟨p.eb, p.ec, p.et, p.jb, p.jc, p.jt, a9, c9⟩) ⟨good_wait HF.out.good HN.out HRM.out, HF.out.ec, HF.out.jc⟩ HZ.out).drop 1 (by simp))⟩
          · have f11 : Y25.cell? ⟨hb, 11, none⟩ = some (.slice p.wa S.Q.length p.wc) := (HY25.out.box 1 rfl).cell 11
            go_simp
            clear f11
            have HS : (fun X : World => (TNot.ld (.pointer (some ⟨nb, 0, none⟩))).run Tryd.prog X = .ok (.agg n.cells) X) Y25 := hHeld
            refine hK.out _ _ HS (fun hHeld2 => ?_)
            clear hK hHeld2 hHeld; have hHeld := HS; clear HS
            try simp only [Act.put, rn1, rn2, rn3, rn4, rn5, rn6]
            refine reg_step (i := 1) (by kernel_rfl) rfl (by kernel_rfl) (fun K hK => ?_)
            go_simp
            have hs := ((HY25.out.alloc #[] NT).head (Φ' := outO (.slice (some ⟨Y25.heap.size, 0, none⟩) 0 0) []) (fun F hF => out_zero hF))
            obtain ⟨Y31, hY⟩ : ∃ Y31, Y25.alloc (.cells #[] NT) = Y31 := ⟨_, rfl⟩
            obtain ⟨ge, hge⟩ : ∃ x, Y25.heap.size = x := ⟨_, rfl⟩
            rw [hY, hge] at hs
            have HY31 : Hid (Sep NoF w0 Y31 (outO (.slice (some ⟨ge, 0, none⟩) 0 0) [] :: outO (.slice (some ⟨gn, 0, none⟩) 1 1) [n] :: boxO hb (S.rcells rm p) RHT :: rmO rm S.c.blocks.toNat S.B :: boxO p.eb (rowG 2 S.n (fun i => (S.E i).cells) ++ p.et) ET' :: boxO p.jb (rowG 29 S.n (fun i => rjc (S.J (i : Int))) ++ p.jt) RJT :: outO (.slice p.wa S.Q.length p.wc) S.Q :: boxO nb n.cells NT :: L)) := Lib.hid hs
            have HS : (fun X : World => (TNot.ld (.pointer (some ⟨nb, 0, none⟩))).run Tryd.prog X = .ok (.agg n.cells) X) Y31 := TNot.ld_at HNN.out (HY31.out.box 7 rfl).whole
            try simp only [hY, hge]
            clear hs hY hge
            refine hK.out _ _ HS (fun hHeld2 => ?_)
            clear hK hHeld2 hHeld; have hHeld := HS; clear HS
            try simp only [Act.put, rn1, rn2, rn3, rn4, rn5, rn6]
            refine reg_step (i := 6) (by kernel_rfl) rfl (by kernel_rfl) (fun K hK => ?_)
            obtain ⟨v6, Y32, hrun, hs⟩ := s_cat HY31.out 0 6 rfl rfl (fun m hm => (HG.out.que m hm).isU) (by have := HG.out.few; simp; omega)
            have HY32 : Hid (Sep NoF w0 Y32 (outO v6 S.Q :: outO (.slice (some ⟨gn, 0, none⟩) 1 1) [n] :: boxO hb (S.rcells rm p) RHT :: rmO rm S.c.blocks.toNat S.B :: boxO p.eb (rowG 2 S.n (fun i => (S.E i).cells) ++ p.et) ET' :: boxO p.jb (rowG 29 S.n (fun i => rjc (S.J (i : Int))) ++ p.jt) RJT :: outO (.slice p.wa S.Q.length p.wc) S.Q :: boxO nb n.cells NT :: L)) := Lib.hid (by simpa using hs)
            refine oper_app _ _ NS rfl rfl rfl hrun ?_
            have HS : (fun X : World => (TNot.ld (.pointer (some ⟨nb, 0, none⟩))).run Tryd.prog X = .ok (.agg n.cells) X) Y32 := TNot.ld_at HNN.out (HY32.out.box 7 rfl).whole
            clear hs hrun
            refine hK.out _ _ HS (fun hHeld2 => ?_)
            clear hK hHeld2 hHeld; have hHeld := HS; clear HS
            try simp only [Act.put, rn1, rn2, rn3, rn4, rn5, rn6]
            refine reg_step (i := 9) (by kernel_rfl) rfl (by kernel_rfl) (fun K hK => ?_)
            obtain ⟨v9, Y33, hrun, hs⟩ := s_cat HY32.out 0 1 rfl rfl (fun m hm => by simp at hm; subst hm; exact HN.out.isU) (by have := HG.out.few; simp; omega)
            obtain ⟨a9, c9, rfl, -⟩ := (hs.row 0 rfl).slice
            have HY33 : Hid (Sep NoF w0 Y33 (outO (.slice a9 (S.Q ++ [n]).length c9) (S.Q ++ [n]) :: outO (.slice (some ⟨gn, 0, none⟩) 1 1) [n] :: boxO hb (S.rcells rm p) RHT :: rmO rm S.c.blocks.toNat S.B :: boxO p.eb (rowG 2 S.n (fun i => (S.E i).cells) ++ p.et) ET' :: boxO p.jb (rowG 29 S.n (fun i => rjc (S.J (i : Int))) ++ p.jt) RJT :: outO (.slice p.wa S.Q.length p.wc) S.Q :: boxO nb n.cells NT :: L)) := Lib.hid hs
            refine oper_app _ _ NS rfl rfl rfl hrun ?_
            have HS : (fun X : World => (TNot.ld (.pointer (some ⟨nb, 0, none⟩))).run Tryd.prog X = .ok (.agg n.cells) X) Y33 := TNot.ld_at HNN.out (HY33.out.box 7 rfl).whole
            clear hs hrun
            refine hK.out _ _ HS (fun hHeld2 => ?_)
            clear hK hHeld2 hHeld; have hHeld := HS; clear HS
            try simp only [Act.put, rn1, rn2, rn3, rn4, rn5, rn6]
            refine rgn 10 (v := ?vq20) hHeld ?yq20 ?_
            case yq20 => (intro w hSw; go_simp; try with_reducible rfl)
            simp only [Act.put, rn1, rn2, rn3, rn4, rn5, rn6]
            refine rgn 11 (v := ?vq21) hHeld ?yq21 ?_
            case yq21 => (intro w hSw; go_simp; try with_reducible rfl)
            simp only [Act.put, rn1, rn2, rn3, rn4, rn5, rn6]
            refine reg_step (i := 12) (by kernel_rfl) rfl (by kernel_rfl) (fun K hK => ?_)
            have f11 : Y33.cell? ⟨hb, 11, none⟩ = some (.slice p.wa S.Q.length p.wc) := (HY33.out.box 2 rfl).cell 11
            have g11 := (HY33.out.box 2 rfl).frozen 11
            have hs := HY33.out.set 2 rfl 11 (.slice a9 (S.Q ++ [n]).length c9)
            obtain ⟨m9, hm9⟩ : ∃ x, (S.Q ++ [n]).length = x := ⟨_, rfl⟩
            rw [hm9] at hs ⊢
            go_simp
            obtain ⟨Z, hZ⟩ : ∃ Z, Y33.setCell ⟨hb, 11, none⟩ (.slice a9 m9 c9) = Z := ⟨_, rfl⟩
            rw [hZ] at hs
            rw [← hm9] at hs
            have hs2 := (((hs.drop 6 (by simp)).drop 1 (by simp)).sink 4)
            have HZ : Hid (Sep NoF w0 Z (boxO hb (Hs.rcells { S with Q := S.Q ++ [n] } rm ⟨p.eb, p.ec, p.et, p.jb, p.jc, p.jt, a9, c9⟩) RHT :: rmO rm S.c.blocks.toNat S.B :: boxO p.eb (rowG 2 S.n (fun i => (S.E i).cells) ++ p.et) ET' :: boxO p.jb (rowG 29 S.n (fun i => rjc (S.J (i : Int))) ++ p.jt) RJT :: outO (.slice a9 (S.Q ++ [n]).length c9) (S.Q ++ [n]) :: boxO nb n.cells NT :: L)) := Lib.hid hs2
            have HS : (fun X : World => (TNot.ld (.pointer (some ⟨nb, 0, none⟩))).run Tryd.prog X = .ok (.agg n.cells) X) Z := TNot.ld_at HNN.out (HZ.out.box 5 rfl).whole
            try simp only [hZ]
            clear hs hs2 hZ f11 g11 hm9
            refine hK.out _ _ HS (fun hHeld2 => ?_)
            clear hK hHeld2 hHeld; have hHeld := HS; clear HS
            try simp only [Act.put, rn1, rn2, rn3, rn4, rn5, rn6]
            refine wpAnyH_done (by kernel_rfl) ?_ _
            clear hHeld
            go_wp2
            go_ret2
            refine ⟨.slice none 0 0, ?_⟩
            rw [← HTK2.out]
            exact ⟨rfl, out_nil ((rh_shut (S := { S with Q := S.Q ++ [n] }) (p := ⟨p.eb, p.ec, p.et, p.jb, p.jc, p.jt, a9, c9⟩) ⟨good_wait HF.out.good HN.out HRM.out, HF.out.ec, HF.out.jc⟩ HZ.out).drop 1 (by simp))⟩
  · have hrb : (readyP S n != 0) = true := by simp [hr]
    have HSE := Lib.hid (take_err hr)
    have H1 := Lib.hid h1
    generalize readyP S n = r at *
    clear hs1 hF0 hV hnb hg hr h h1
    go_enter Tryd.func36, Tryd.ntmps36
    go_upto_region 1 with fail
    rw [HV.out.1, HV.out.2]
    go_wp2_with fail
    refine HR.out.mono ?_
    rintro e w2 ⟨rfl, hu2⟩
    have HS2 := Lib.hid (H1.out.upd0 hu2)
    clear hu2 l0
    go_wp2
    go_ret2
    refine ⟨.slice none 0 0, ?_⟩
    rw [HSE.out]
    exact ⟨rfl, out_nil HS2.out⟩
end
end Go.Proofs.YtlhbnndnkcpomaaDoor.HO

set_option linter.unusedSimpArgs false
set_option linter.unusedVariables false
namespace Go.Proofs.YtlhbnndnkcpomaaDoor.HO
open Go.RowKit
open BU (IsU words)
open PL (Cfg CC CV May)
open ME (memO sl)
open RM (rmO)
abbrev ES : TypeId := 85
abbrev RJS : TypeId := 86
def bdE (parts : Array (Nat × Value)) : Sem Value := Instr.build ET' parts
theorem bdE_eq (parts : Array (Nat × Value)) : Instr.build ET' parts = bdE parts := rfl
def bsR (parts : Array (Nat × Value)) : Sem Value := Instr.buildSlice RJS 1 parts
theorem bsR_eq (parts : Array (Nat × Value)) : Instr.buildSlice RJS 1 parts = bsR parts := rfl
theorem bsR_run {x : Array Value} (hx : x.size = 29) (w : World) : (bsR #[(0, .agg x)]).run Tryd.prog w = .ok (.slice (some ⟨w.heap.size, 0, none⟩) 1 1) (w.alloc (.cells x RJT)) :=
  agg_bs Tryd.underlying86 TRjb.infoZ TRjb.size_Z (by decide) (by decide) hx w
set_option maxRecDepth 100000 in
theorem enPl (w : World) : ((Tryd.prog.fieldsOf ET').mapM fun (f : Field) => do pure (f.offset, ← sizeOf f.type) : Sem (Array (Nat × Nat))).run Tryd.prog w = .ok #[(0, 1), (1, 1)] w := by
  have hf : ((Tryd.prog.fieldsOf ET').toList.map fun f => (f.offset, f.type)) = [(0, 3), (1, 57)] := by kernel_rfl
  have e : Tryd.prog.fieldsOf ET' = (Tryd.prog.fieldsOf ET').toList.toArray := by simp
  rw [e]
  generalize (Tryd.prog.fieldsOf ET').toList = l at *
  match l, hf with
  | [f0, f1], hf =>
    simp only [List.map_cons, List.map_nil, List.cons.injEq, Prod.mk.injEq, and_true] at hf
    obtain ⟨⟨a0, b0⟩, a1, b1⟩ := hf
    simp [a0, a1, b0, b1, Tryd.sizeOf3, Tryd.sizeOf57]
set_option maxRecDepth 100000 in
theorem bd_free (w : World) : (bdE #[(0, .int .i64 (-1))]).run Tryd.prog w = .ok (.agg En.free.cells) w := by
  refine build_run (pl := [(0, 1), (1, 1)]) Tryd.underlying59 TEnt.infoZ enPl _ _ ?_ w
  rw [fill_step (off := 0) (size := 1) rfl rfl (by decide), fill_nil]
  exact congrArg some (by kernel_rfl)
attribute [local go_sem] Oper.semAt_some
attribute [local go_sem ↓] TEnt.ld_eq TEnt.st_eq TEnt.al_eq TEnt.bx_eq TRjb.ld_eq TRjb.st_eq TRjb.al_eq TRjb.bx_eq bdE_eq bdR_eq bsE_eq bsR_eq
attribute [local go_sem] TEnt.al_run TEnt.bx_run TRjb.al_run TRjb.bx_run
theorem infoRJ : (Tryd.prog.info? RJT).map (fun i => (i.zero, i.size, i.bytes)) = some (some (.agg TRjb.Z), 29, 136) := by kernel_rfl
theorem rowG_succ {k n : Nat} {f : Nat → Array Value} (hf : ∀ i, (f i).size = k) : rowG k (n + 1) f = rowG k n f ++ f n := by
  apply Array.ext_getElem?
  intro j
  by_cases hj : j < n * k
  · obtain ⟨q, r, rfl, hr, hq⟩ := idx_split hj
    rw [rowG_get (hf q) (by omega) hr, Array.getElem?_append_left (by rw [rowG_size]; omega), rowG_get (hf q) hq hr]
  · rw [Array.getElem?_append_right (by rw [rowG_size]; omega), rowG_size]
    by_cases h2 : j - n * k < k
    · obtain ⟨r, rfl⟩ : ∃ r, j = n * k + r := ⟨j - n * k, by omega⟩
      rw [rowG_get (hf n) (by omega) (by omega), Nat.add_sub_cancel_left]
    · rw [Array.getElem?_eq_none (by rw [rowG_size, Nat.succ_mul]; omega), Array.getElem?_eq_none (by rw [hf]; omega)]
section
variable {G : Nat → Prop} {w0 W W' : World} {hb rm : Nat} {S : Hs} {L : List Obj} {F : Nat → Prop}
/-- One thing more at the end of a row. -/
theorem s_appG (h : Sep G w0 W L) (i : Nat) {T TS : TypeId} {Z : Array Value} {k by' : Nat} (ht : Tryd.prog.underlying TS = some (.slice T)) (hinf : (Tryd.prog.info? T).map (fun i => (i.zero, i.size, i.bytes)) = some (some (.agg Z), k, by')) (hz : Z.size = k) (hk : 0 < k)
    {v : Value} {n : Nat} {f : Nat → Array Value} (hi : L[i]? = some (rowO T k v n (rowG k n f).toList)) (hf : ∀ i, IsN k (f i)) (hn : n ≤ 65535) (hb : by' ≤ 65536) :
    ∃ v' W', (Builtin.append_ #[TS, TS] TS #[v, .slice (some ⟨W.heap.size, 0, none⟩) 1 1]).run Tryd.prog (W.alloc (.cells (f n) T)) = .ok v' W' ∧ Sep G w0 W' (L.set i (rowO T k v' (n + 1) (rowG k (n + 1) f).toList)) := by
  have h1 := h.upd0 (Upd.alloc NoF W (.cells (f n) T))
  obtain ⟨F, hF, hS⟩ := h1.step i hi
  obtain ⟨i0, hi0, hz0, hz1, hz2⟩ := info_parts hinf
  have qx := (Blk.new W (f n) T).whole
  have hm : (n + 1) * by' ≤ 140737488355328 := by
    have := Nat.mul_le_mul (show n + 1 ≤ 65536 by omega) hb
    omega
  obtain ⟨v9, w9, hrun, hrow9, hg, hfr⟩ := run_append_row (P := Tryd.prog) (W.alloc (.cells (f n) T)) TS TS T i0 (.agg Z) k by' ht hi0 hz0 hz1 hz2 hz hk v n _
    hF.1 ⟨W.heap.size, 0, none⟩ 1 1 (f n).toList (by rw [Array.length_toList, (hf n).1]; omega) (fun j u hu => by rw [Addr.add_lit]; simpa using qx j u hu) (fun u hu => (hf n).2 u (by simpa using hu)) (by unfold maxLen; omega) hm
  refine ⟨v9, w9, hrun, hS _ _ (Upd.grown (F := F) hg (fun k hk hlt => ⟨hF.2 k hk, hF.1.isCells k hk⟩)) ⟨?_, fun k hk => ?_⟩⟩
  · rw [rowG_succ (fun i => (hf i).1), Array.toList_append]
    exact hrow9
  · rcases hfr with e | ⟨g, e, hge⟩
    · rw [e] at hk; exact .inl (hF.2 k hk)
    · rw [e] at hk; cases hk; exact .inr hge
/-- A row that is not empty, as a block. -/
theorem row_box {T : TypeId} {v : Value} {k n : Nat} {f : Nat → Array Value} (h : Sep G w0 W (rowO T k v n (rowG k n f).toList :: L)) (hn : 1 ≤ n) : ∃ g cap tl, v = sl g n cap ∧ n ≤ cap ∧ cap ≤ maxLen ∧ cap * k ≤ n * k + tl.size ∧ Sep G w0 W (boxO g (rowG k n f ++ tl) T :: L) := by
  obtain ⟨hu, F, h1, ⟨⟨hlen, hrow⟩, hown⟩, h3⟩ := h
  rcases hrow with ⟨-, e⟩ | ⟨g, cap, cur, rfl, hgg, hc, hm, hs, ht⟩
  · omega
  · obtain ⟨tl, rfl⟩ := split_takeG ht
    refine ⟨g, cap, tl, rfl, hc, hm, by rw [Array.size_append, rowG_size] at hs; exact hs, hu, F, h1, ⟨hgg, hown g rfl⟩, h3⟩
abbrev rnew0 (c : Cfg) (rm : Nat) (ea ja : Option Addr) (k ec jc : Nat) : Array Value := #[.int .i64 c.cores, .int .i64 c.sets, .int .i64 c.ways, .int .i64 c.blocks, .int .i64 c.logs, .int .i64 c.backs, .int .i64 c.nest, .int .i64 c.tries, ptr rm, .slice ea k ec, .slice ja k jc, .slice none 0 0]
set_option maxRecDepth 100000 in
set_option maxHeartbeats 4000000 in
theorem rnew_is {n : Nat} {B : Nat → Array Value} (h : Sep NoF w0 W (rmO rm n B :: L)) (c : Cfg) (hc : May c) (hn : c.blocks = n) (hB : ∀ i, IsU (B i)) : Calls Tryd.prog 34 #[CV c, ptr rm] W fun e W' =>
    ∃ hb, e = .returned (ptr hb) ∧ Sep NoF w0 W' (rhO hb rm (Hs.new c B) :: L) := by
  have hmd := mul_data hc
  obtain ⟨N, hN⟩ : ∃ N : Nat, c.blocks - c.cores * c.logs = N := ⟨(c.blocks - c.cores * c.logs).toNat, by omega⟩
  have hSn : (Hs.new c B).n = N := by unfold Hs.n Hs.data Hs.new; dsimp only; rw [hN]; rfl
  have hcb : (Hs.new c B).c.blocks.toNat = n := by show c.blocks.toNat = n; rw [hn]; rfl
  have hDat := fun w => PL.rdata_any c hc.1 hc.2.2.1 hc.2.1 w
  rw [hN] at hDat
  have HDAT := Lib.hid hDat
  have hs1 := h.alloc (CC c) CT
  obtain ⟨V, hV⟩ : ∃ V, W.alloc (.cells (CC c) CT) = V := ⟨_, rfl⟩
  obtain ⟨cx, hcx⟩ : ∃ cx, W.heap.size = cx := ⟨_, rfl⟩
  rw [hV, hcx] at hs1
  have HV := Lib.hid (And.intro hV hcx)
  have hs2 := hs1.alloc (rnew0 c rm none none 0 0 0) RHT
  obtain ⟨V2, hV2⟩ : ∃ V2, V.alloc (.cells (rnew0 c rm none none 0 0 0) RHT) = V2 := ⟨_, rfl⟩
  obtain ⟨hb, hhb⟩ : ∃ x, V.heap.size = x := ⟨_, rfl⟩
  rw [hV2, hhb] at hs2
  have HV2 := Lib.hid (And.intro hV2 hhb)
  obtain ⟨k0, k1, k2, k3, k4, k5, k6, k7⟩ : (V.cell? ⟨cx, 0, none⟩ = some (.int .i64 c.cores) ∧ V.cell? ⟨cx, 1, none⟩ = some (.int .i64 c.sets) ∧ V.cell? ⟨cx, 2, none⟩ = some (.int .i64 c.ways) ∧ V.cell? ⟨cx, 3, none⟩ = some (.int .i64 c.blocks) ∧ V.cell? ⟨cx, 4, none⟩ = some (.int .i64 c.logs) ∧ V.cell? ⟨cx, 5, none⟩ = some (.int .i64 c.backs) ∧ V.cell? ⟨cx, 6, none⟩ = some (.int .i64 c.nest) ∧ V.cell? ⟨cx, 7, none⟩ = some (.int .i64 c.tries)) := ⟨(hs1.box 0 rfl).cell 0, (hs1.box 0 rfl).cell 1, (hs1.box 0 rfl).cell 2, (hs1.box 0 rfl).cell 3, (hs1.box 0 rfl).cell 4, (hs1.box 0 rfl).cell 5, (hs1.box 0 rfl).cell 6, (hs1.box 0 rfl).cell 7⟩
  have hp1 := hs2.push (Upd.refl NoF V2) (Φ := rowO RJT 29 (.slice none 0 0) 0 (rowG 29 0 (fun _ => TRjb.Z)).toList) ⟨by rw [show (rowG 29 0 (fun _ => TRjb.Z)).toList = [] from List.eq_nil_of_length_eq_zero (by rw [Array.length_toList, rowG_size])]; exact Row.nil _ _ _, fun k hk => by simp [Value.ownBlock] at hk⟩
  have hp2 := hp1.push (Upd.refl NoF V2) (Φ := rowO ET' 2 (.slice none 0 0) 0 (rowG 2 0 (fun _ => En.free.cells)).toList) ⟨by rw [show (rowG 2 0 (fun _ => En.free.cells)).toList = [] from List.eq_nil_of_length_eq_zero (by rw [Array.length_toList, rowG_size])]; exact Row.nil _ _ _, fun k hk => by simp [Value.ownBlock] at hk⟩
  have HS2 := Lib.hid (Sep.pick hp2 2 rfl)
  have HNN := Lib.hid (show 1 ≤ N ∧ N ≤ 255 by omega)
  have HSN := Lib.hid (And.intro hSn hcb)
  have HG := Lib.hid (new_good hc hB)
  have hbf := fun w => bd_free w
  have hbr := fun w => bd_rnil w
  have hbse := fun w => bsE_run w
  have hbsr := fun w => bsR_run (x := TRjb.Z) rfl w
  clear h hs1 hV hcx hs2 hV2 hhb hp1 hp2 hmd hN hSn hDat hc hn hB hcb
  go_enter Tryd.func34, Tryd.ntmps34
  go_upto_region 1 with fail
  rw [HV.out.1, HV.out.2]
  go_upto_region 2 with fail
  rw [HV2.out.1, HV2.out.2]
  clear k0 k1 k2 k3 k4 k5 k6 k7
  go_wp2_with fail
  go_loopw [6] (fun iv wr => ∃ (k : Nat) (ea ja : Option Addr) (ec jc : Nat), k ≤ N ∧ iv = .int .i64 k ∧ Hid (Sep NoF w0 wr (boxO hb (rnew0 c rm ea ja k ec jc) RHT :: rowO ET' 2 (.slice ea k ec) k (rowG 2 k (fun _ => En.free.cells)).toList :: rowO RJT 29 (.slice ja k jc) k (rowG 29 k (fun _ => TRjb.Z)).toList :: boxO cx (CC c) CT :: rmO rm n B :: L))) (fun i _ => N - (intOf i).toNat)
  case atStart => exact ⟨0, none, none, 0, 0, Nat.zero_le _, rfl, HS2⟩
  case round =>
    obtain ⟨k, ea, ja, ec, jc, hk, rfl, HI⟩ := hrel
    obtain ⟨wo, hwo⟩ : ∃ x, x = wr := ⟨_, rfl⟩
    subst hwo
    have hs := HI.out
    obtain ⟨k0, k1, k2, k3, k4, k5, k6, k7⟩ : (wo.cell? ⟨cx, 0, none⟩ = some (.int .i64 c.cores) ∧ wo.cell? ⟨cx, 1, none⟩ = some (.int .i64 c.sets) ∧ wo.cell? ⟨cx, 2, none⟩ = some (.int .i64 c.ways) ∧ wo.cell? ⟨cx, 3, none⟩ = some (.int .i64 c.blocks) ∧ wo.cell? ⟨cx, 4, none⟩ = some (.int .i64 c.logs) ∧ wo.cell? ⟨cx, 5, none⟩ = some (.int .i64 c.backs) ∧ wo.cell? ⟨cx, 6, none⟩ = some (.int .i64 c.nest) ∧ wo.cell? ⟨cx, 7, none⟩ = some (.int .i64 c.tries)) := ⟨(hs.box 3 rfl).cell 0, (hs.box 3 rfl).cell 1, (hs.box 3 rfl).cell 2, (hs.box 3 rfl).cell 3, (hs.box 3 rfl).cell 4, (hs.box 3 rfl).cell 5, (hs.box 3 rfl).cell 6, (hs.box 3 rfl).cell 7⟩
    clear hs
    go_wp2_with fail
    refine (HDAT.out _).mono ?_
    rintro e w3 ⟨rfl, hu3⟩
    have hs3 := HI.out.upd0 hu3
    clear hu3 k0 k1 k2 k3 k4 k5 k6 k7 HI
    by_cases hlt : k < N
    · have hNb := HNN.out.2
      obtain ⟨v4, X4, hr1, hs4⟩ := s_appG hs3 1 (TS := ES) Tryd.underlying85 RE.infoEn TEnt.size_Z (by decide) rfl (fun _ => En.isN _) (by omega) (by decide)
      obtain ⟨ea2, ec2, rfl, -⟩ := (hs4.row 1 rfl).slice
      have c9 : w3.cell? ⟨hb, 9, none⟩ = some (.slice ea k ec) := (hs3.box 0 rfl).cell 9
      have d9 : X4.cell? ⟨hb, 9, none⟩ = some (.slice ea k ec) := (hs4.box 0 rfl).cell 9
      have f9 := (hs4.box 0 rfl).frozen 9
      have hs5 := hs4.set 0 rfl 9 (.slice ea2 (k + 1) ec2)
      obtain ⟨X5, hX5⟩ : ∃ X, X4.setCell ⟨hb, 9, none⟩ (.slice ea2 (k + 1) ec2) = X := ⟨_, rfl⟩
      rw [hX5] at hs5
      have HX5 := Lib.hid hX5
      have HC10 := Lib.hid (show X5.cell? ⟨hb, 10, none⟩ = some (.slice ja k jc) from (hs5.box 0 rfl).cell 10)
      obtain ⟨v6, X6, hr2, hs6⟩ := s_appG hs5 2 (TS := RJS) Tryd.underlying86 infoRJ TRjb.size_Z (by decide) rfl (fun _ => TRjb.isZ) (by omega) (by decide)
      obtain ⟨ja2, jc2, rfl, -⟩ := (hs6.row 2 rfl).slice
      have d10 : X6.cell? ⟨hb, 10, none⟩ = some (.slice ja k jc) := (hs6.box 0 rfl).cell 10
      have f10 := (hs6.box 0 rfl).frozen 10
      have hs7 := hs6.set 0 rfl 10 (.slice ja2 (k + 1) jc2)
      have HS7 : Hid (Sep NoF w0 (X6.setCell ⟨hb, 10, none⟩ (.slice ja2 (k + 1) jc2)) (boxO hb (rnew0 c rm ea2 ja2 (k + 1) ec2 jc2) RHT :: rowO ET' 2 (.slice ea2 (k + 1) ec2) (k + 1) (rowG 2 (k + 1) (fun _ => En.free.cells)).toList :: rowO RJT 29 (.slice ja2 (k + 1) jc2) (k + 1) (rowG 29 (k + 1) (fun _ => TRjb.Z)).toList :: boxO cx (CC c) CT :: rmO rm n B :: L)) := Lib.hid hs7
      have HR1 := Lib.hid hr1; have HR2 := Lib.hid hr2
      clear hr1 hr2 hs3 hs4 hs5 hs6 hs7 hX5
      go_upto_region 6 with (at_builtin; refine wpList_append_run (w := w3.alloc (.cells En.free.cells ET')) rfl _ _ ES rfl rfl rfl HR1.out ?_)
      rw [HX5.out]
      have c10 : X5.cell? ⟨hb, 10, none⟩ = some (.slice ja k jc) := HC10.out
      go_wp2_with (at_builtin; refine wpList_append_run (w := X5.alloc (.cells TRjb.Z RJT)) rfl _ _ RJS rfl rfl rfl HR2.out ?_)
      go_roundw
      case rel => exact ⟨k + 1, ea2, ja2, ec2, jc2, hlt, by go_num, HS7⟩
      case measure => simp [intOf]; omega
    · obtain rfl : k = N := by omega
      have hs4 := (hs3.drop 3 (by simp))
      obtain ⟨eg, ec', et, he1, he2, he3, he4, hs5⟩ := row_box (Sep.pick hs4 1 rfl) HNN.out.1
      obtain ⟨jg, jc', jt, hj1, hj2, hj3, hj4, hs6⟩ := row_box (Sep.pick hs5 2 rfl) HNN.out.1
      cases he1; cases hj1
      have hs7 := Sep.pick (Sep.pick (Sep.pick (Sep.pick (out_nil hs6) 1 rfl) 2 rfl) 4 rfl) 4 rfl
      have hs8 : Sep NoF w0 w3 (rhO hb rm (Hs.new c B) :: L) := by
        refine rh_shut (p := ⟨eg, ec, et, jg, jc, jt, none, 0⟩) ⟨HG.out, ?_, ?_⟩ ?_
        · rw [HSN.out.1]; exact ⟨he2, he3, he4⟩
        · rw [HSN.out.1]; exact ⟨hj2, hj3, hj4⟩
        · have := hs7
          dsimp only [Hs.robjs, Hs.rcells]
          rw [HSN.out.1, HSN.out.2]
          exact this
      have HS8 := Lib.hid hs8
      clear hs3 hs4 hs5 hs6 hs7 hs8
      go_wp2
      go_ret
      exact ⟨hb, rfl, HS8.out⟩
end
end Go.Proofs.YtlhbnndnkcpomaaDoor.HO

set_option linter.unusedSimpArgs false
set_option linter.unusedVariables false
namespace Go.Proofs.YtlhbnndnkcpomaaDoor.HO
open Go.RowKit
open BU (IsU words)
open PL (Cfg CC CV May)
open ME (memO sl)
open ET (run_neq_entry)
open RM (rmO)
def neE (a b : Value) : Sem Value := binOp .neq ET' a b
theorem neE_eq (a b : Value) : binOp .neq ET' a b = neE a b := rfl
theorem neE_run (e : En) (w : World) : (neE (.agg e.cells) (.agg e.cells)).run Tryd.prog w = .ok (.bool false) w :=
  (run_neq_entry w e.own (e.shr.toNat : Int) e.own (e.shr.toNat : Int)).trans (by simp)
attribute [local go_sem] Oper.semAt_some
attribute [local go_sem ↓] neE_eq neB_eq TNot.ld_eq TNot.st_eq TNot.al_eq TNot.bx_eq TBlk.ld_eq TBlk.st_eq TBlk.al_eq TBlk.bx_eq TEnt.ld_eq TEnt.st_eq TEnt.al_eq TEnt.bx_eq
attribute [local go_sem] TNot.al_run TNot.bx_run TBlk.al_run TBlk.bx_run TEnt.al_run TEnt.bx_run
section
variable {w0 W W' : World} {hb mb : Nat} {S : Hs} {L : List Obj}
theorem rh_at {rb rm : Nat} {W : World} (h : Sep NoF w0 W L) (i : Nat) (hi : L[i]? = some (rhO rb rm S)) : ∃ p, RFits S p ∧ RAt S rb rm p W := by
  obtain ⟨F, hF⟩ := h.has i hi
  exact RAt.open hF
theorem rh_rm {rb rm : Nat} {W : World} (h : Sep NoF w0 W L) (i : Nat) (hi : L[i]? = some (rhO rb rm S)) : ∃ F, (rmO rm S.c.blocks.toNat S.B).is W F := by
  obtain ⟨p, hf, hs⟩ := rh_open (Sep.pick h i hi)
  exact hs.has 1 rfl
theorem entP_in {S : Hs} {k : Nat} (h : k < S.n) : entP S (k : Int) = S.E k ∧ ME.errP S.n (k : Int) = 0 := by
  unfold entP ME.errP
  rw [if_pos (by omega), if_pos (by omega)]
  exact ⟨rfl, rfl⟩
theorem entP_out {S : Hs} : ME.errP S.n (S.n : Int) = 5 := by
  unfold ME.errP
  rw [if_neg (by omega)]
set_option maxRecDepth 100000 in
set_option maxHeartbeats 8000000 in
theorem plays_any (c : Cfg) (a1 : Option Addr) (len1 cap1 : Nat) (N1 : Nat → Nt) (cp : Bool) (w : World) (hT : Tab w) (h1 : IsRowN w a1 len1 cap1 N1) :
    Calls Tryd.prog 8 #[CV c, .slice a1 len1 cap1, .bool cp] w fun e w' => e = .returned (.bool true) ∧ Below w.heap.size w w' := by
  have HC1 := Lib.hid (fun i (hi : i < len1) => h1.at hi)
  obtain ⟨lc1, m1, _⟩ := h1
  unfold maxLen at m1
  have HTB := Lib.hid hT
  obtain ⟨W0, hW0⟩ : ∃ W0, w.alloc (.cells (CC c) CT) = W0 := ⟨_, rfl⟩
  have HS0 : Hid (Sep NoF w W0 [boxO w.heap.size (CC c) CT]) := Lib.hid (by rw [← hW0]; exact (Sep.zero NoF w).alloc _ _)
  obtain ⟨cb, hcb⟩ : ∃ x, w.heap.size = x := ⟨_, rfl⟩
  rw [hcb] at HS0
  have HW0 := Lib.hid (And.intro hW0 hcb)
  clear hW0 hT hcb
  by_cases g_l : 300 < len1
  · have hb_l : decide ((300 : Int) < (len1 : Int)) = true := by simp; omega
    go_enter Tryd.func8, Tryd.ntmps8
    go_upto_region 1 with fail
    rw [HW0.out.1, HW0.out.2]
    go_wp2_with fail
    refine (works_is HS0.out HTB.out).mono ?_
    rintro e w9 ⟨rfl, hs⟩
    have HS9 := Lib.hid hs
    clear hs
    go_wp2
    go_ret
    exact ⟨rfl, HS9.out.below⟩
  · have hb_l : decide ((300 : Int) < (len1 : Int)) = false := by simp; omega
    by_cases hbl : 1 ≤ c.blocks ∧ c.blocks ≤ 256
    · obtain ⟨B, hB⟩ : ∃ B : Nat, c.blocks = B := ⟨c.blocks.toNat, by omega⟩
      have HME := Lib.hid (fun W => ME.new_ok B (by omega) (by omega) W)
      have HRM := Lib.hid (fun W => RM.new_ok B (by omega) (by omega) W)
      have HB := Lib.hid hB
      have HBB := Lib.hid (show 1 ≤ B ∧ B ≤ 256 by omega)
      have HMAY := Lib.hid (fun W => PL.rMay_any c W)
      go_enter Tryd.func8, Tryd.ntmps8
      go_upto_region 1 with fail
      rw [HW0.out.1, HW0.out.2]
      obtain ⟨k0, k1, k2, k3, k4, k5, k6, k7⟩ : (W0.cell? ⟨cb, 0, none⟩ = some (.int .i64 c.cores) ∧ W0.cell? ⟨cb, 1, none⟩ = some (.int .i64 c.sets) ∧ W0.cell? ⟨cb, 2, none⟩ = some (.int .i64 c.ways) ∧ W0.cell? ⟨cb, 3, none⟩ = some (.int .i64 c.blocks) ∧ W0.cell? ⟨cb, 4, none⟩ = some (.int .i64 c.logs) ∧ W0.cell? ⟨cb, 5, none⟩ = some (.int .i64 c.backs) ∧ W0.cell? ⟨cb, 6, none⟩ = some (.int .i64 c.nest) ∧ W0.cell? ⟨cb, 7, none⟩ = some (.int .i64 c.tries)) := ⟨(HS0.out.box 0 rfl).cell 0, (HS0.out.box 0 rfl).cell 1, (HS0.out.box 0 rfl).cell 2, (HS0.out.box 0 rfl).cell 3, (HS0.out.box 0 rfl).cell 4, (HS0.out.box 0 rfl).cell 5, (HS0.out.box 0 rfl).cell 6, (HS0.out.box 0 rfl).cell 7⟩
      rw [HB.out] at k3
      go_wp2_with fail
      refine (HME.out _).mono ?_
      rintro e w2 ⟨mb, rfl, hu, hmo⟩
      have HS2 := Lib.hid (HS0.out.push hu hmo)
      clear hu hmo k0 k1 k2 k3 k4 k5 k6 k7
      obtain ⟨k0, k1, k2, k3, k4, k5, k6, k7⟩ : (w2.cell? ⟨cb, 0, none⟩ = some (.int .i64 c.cores) ∧ w2.cell? ⟨cb, 1, none⟩ = some (.int .i64 c.sets) ∧ w2.cell? ⟨cb, 2, none⟩ = some (.int .i64 c.ways) ∧ w2.cell? ⟨cb, 3, none⟩ = some (.int .i64 c.blocks) ∧ w2.cell? ⟨cb, 4, none⟩ = some (.int .i64 c.logs) ∧ w2.cell? ⟨cb, 5, none⟩ = some (.int .i64 c.backs) ∧ w2.cell? ⟨cb, 6, none⟩ = some (.int .i64 c.nest) ∧ w2.cell? ⟨cb, 7, none⟩ = some (.int .i64 c.tries)) := ⟨(HS2.out.box 1 rfl).cell 0, (HS2.out.box 1 rfl).cell 1, (HS2.out.box 1 rfl).cell 2, (HS2.out.box 1 rfl).cell 3, (HS2.out.box 1 rfl).cell 4, (HS2.out.box 1 rfl).cell 5, (HS2.out.box 1 rfl).cell 6, (HS2.out.box 1 rfl).cell 7⟩
      rw [HB.out] at k3
      go_wp2_with fail
      refine (HRM.out _).mono ?_
      rintro e w3 ⟨rm, rfl, hu, hmo⟩
      have HS3 := Lib.hid (HS2.out.push hu hmo)
      clear hu hmo k0 k1 k2 k3 k4 k5 k6 k7
      obtain ⟨k0, k1, k2, k3, k4, k5, k6, k7⟩ : (w3.cell? ⟨cb, 0, none⟩ = some (.int .i64 c.cores) ∧ w3.cell? ⟨cb, 1, none⟩ = some (.int .i64 c.sets) ∧ w3.cell? ⟨cb, 2, none⟩ = some (.int .i64 c.ways) ∧ w3.cell? ⟨cb, 3, none⟩ = some (.int .i64 c.blocks) ∧ w3.cell? ⟨cb, 4, none⟩ = some (.int .i64 c.logs) ∧ w3.cell? ⟨cb, 5, none⟩ = some (.int .i64 c.backs) ∧ w3.cell? ⟨cb, 6, none⟩ = some (.int .i64 c.nest) ∧ w3.cell? ⟨cb, 7, none⟩ = some (.int .i64 c.tries)) := ⟨(HS3.out.box 2 rfl).cell 0, (HS3.out.box 2 rfl).cell 1, (HS3.out.box 2 rfl).cell 2, (HS3.out.box 2 rfl).cell 3, (HS3.out.box 2 rfl).cell 4, (HS3.out.box 2 rfl).cell 5, (HS3.out.box 2 rfl).cell 6, (HS3.out.box 2 rfl).cell 7⟩
      by_cases hm : May c
      · have hNW := new_yes HS3.out.swap c hm hB (fun _ => BU.isU_Z)
        have HNW := Lib.hid hNW
        have hd : decide (May c) = true := decide_eq_true hm
        rw [hd] at HMAY
        have HM := Lib.hid hm
        clear hNW hm hB hbl
        go_wp2_with fail
        refine HNW.out.mono ?_
        rintro e w5 ⟨hb, rfl, hs⟩
        have HS5 : Hid (Sep NoF w w5 [homeO hb mb (Hs.new c (fun _ => TBlk.Z)), rmO rm B (fun _ => TBlk.Z), boxO cb (CC c) CT]) := Lib.hid hs
        clear hs k0 k1 k2 k3 k4 k5 k6 k7
        obtain ⟨k0, k1, k2, k3, k4, k5, k6, k7⟩ : (w5.cell? ⟨cb, 0, none⟩ = some (.int .i64 c.cores) ∧ w5.cell? ⟨cb, 1, none⟩ = some (.int .i64 c.sets) ∧ w5.cell? ⟨cb, 2, none⟩ = some (.int .i64 c.ways) ∧ w5.cell? ⟨cb, 3, none⟩ = some (.int .i64 c.blocks) ∧ w5.cell? ⟨cb, 4, none⟩ = some (.int .i64 c.logs) ∧ w5.cell? ⟨cb, 5, none⟩ = some (.int .i64 c.backs) ∧ w5.cell? ⟨cb, 6, none⟩ = some (.int .i64 c.nest) ∧ w5.cell? ⟨cb, 7, none⟩ = some (.int .i64 c.tries)) := ⟨(HS5.out.box 2 rfl).cell 0, (HS5.out.box 2 rfl).cell 1, (HS5.out.box 2 rfl).cell 2, (HS5.out.box 2 rfl).cell 3, (HS5.out.box 2 rfl).cell 4, (HS5.out.box 2 rfl).cell 5, (HS5.out.box 2 rfl).cell 6, (HS5.out.box 2 rfl).cell 7⟩
        go_wp2_with fail
        refine (HMAY.out _).mono ?_
        rintro e w6 ⟨rfl, hu⟩
        have HS6 := Lib.hid (HS5.out.upd0 hu)
        have hRN := rnew_is (Sep.pick HS6.out 1 rfl) c HM.out HB.out (fun _ => BU.isU_Z)
        have HRN := Lib.hid hRN
        clear hu hRN k0 k1 k2 k3 k4 k5 k6 k7
        obtain ⟨k0, k1, k2, k3, k4, k5, k6, k7⟩ : (w6.cell? ⟨cb, 0, none⟩ = some (.int .i64 c.cores) ∧ w6.cell? ⟨cb, 1, none⟩ = some (.int .i64 c.sets) ∧ w6.cell? ⟨cb, 2, none⟩ = some (.int .i64 c.ways) ∧ w6.cell? ⟨cb, 3, none⟩ = some (.int .i64 c.blocks) ∧ w6.cell? ⟨cb, 4, none⟩ = some (.int .i64 c.logs) ∧ w6.cell? ⟨cb, 5, none⟩ = some (.int .i64 c.backs) ∧ w6.cell? ⟨cb, 6, none⟩ = some (.int .i64 c.nest) ∧ w6.cell? ⟨cb, 7, none⟩ = some (.int .i64 c.tries)) := ⟨(HS6.out.box 2 rfl).cell 0, (HS6.out.box 2 rfl).cell 1, (HS6.out.box 2 rfl).cell 2, (HS6.out.box 2 rfl).cell 3, (HS6.out.box 2 rfl).cell 4, (HS6.out.box 2 rfl).cell 5, (HS6.out.box 2 rfl).cell 6, (HS6.out.box 2 rfl).cell 7⟩
        go_wp2_with fail
        refine HRN.out.mono ?_
        rintro e w7 ⟨rb, rfl, hs⟩
        have HS7 : Hid (Sep NoF w w7 [homeO hb mb (Hs.new c (fun _ => TBlk.Z)), rhO rb rm (Hs.new c (fun _ => TBlk.Z)), boxO cb (CC c) CT]) := Lib.hid hs.swap
        clear hs k0 k1 k2 k3 k4 k5 k6 k7
        go_wp2_with fail
        go_loopw [11, 73] (fun hv iv wr => ∃ (k hb mbx : Nat) (S : Hs), k ≤ len1 ∧ hv = ptr hb ∧ iv = .int .i64 k ∧ Hid (S.c = c) ∧ Hid (cp = false → mbx = mb) ∧ Hid (Sep NoF w wr [homeO hb mbx S, rhO rb rm S, boxO cb (CC c) CT])) (fun _ i _ => len1 - (intOf i).toNat)
        case atStart => exact ⟨0, hb, mb, _, Nat.zero_le _, rfl, rfl, Lib.hid rfl, Lib.hid (fun _ => rfl), HS7⟩
        case round =>
          obtain ⟨k, hb, mbx, S, hk, rfl, rfl, HCC, HMB, HI⟩ := hrel
          obtain ⟨wo, hwo⟩ : ∃ x, x = wr := ⟨_, rfl⟩
          subst hwo
          by_cases hlt : k < len1
          · obtain ⟨hok, x, g, q, rfl, hxa, hgl, hrg⟩ := HC1.out k hlt
            have HOK := Lib.hid hok
            have hrw : wo.rangeAt g q (N1 k).cells.toList := fun j v hv => HI.out.old (hrg j v hv)
            generalize N1 k = n at *
            have hrw2 : (wo.alloc (.cells TNot.Z NT)).rangeAt g q n.cells.toList := World.rangeAt_alloc hrw _
            have l1 := TNot.ld_at (Nt.Ok.isN HOK.out.isU) hrw
            have l2 := TNot.ld_at (Nt.Ok.isN HOK.out.isU) hrw2
            have s1 := TNot.st_new (Nt.Ok.isN HOK.out.isU) wo
            have hs5 := HI.out.alloc n.cells NT
            obtain ⟨V, hV⟩ : ∃ W, wo.alloc (.cells n.cells NT) = W := ⟨_, rfl⟩
            obtain ⟨nb, hnb⟩ : ∃ b, wo.heap.size = b := ⟨_, rfl⟩
            rw [hV, hnb] at hs5
            have HSA := Lib.hid hs5
            have HV := Lib.hid (And.intro hV hnb)
            clear hV hs5 hok hrw hrw2 hrg hnb HI
            go_upto_region 16 with fail
            rw [HV.out.1, HV.out.2]
            clear l1 l2 s1 HV
            obtain ⟨F1, hF1⟩ := HSA.out.has 1 rfl
            have hg := home_good hF1
            have HG := Lib.hid hg
            have HR1 := Lib.hid (fun X (hX : Upd NoF V X) => (show Calls Tryd.prog 31 #[ptr hb, .agg n.cells] X fun e w' => e = .returned (.int .i64 (readyP S n)) ∧ Upd NoF X w' from by
              obtain ⟨F, hF⟩ := (HSA.out.upd0 hX).has 1 rfl
              exact ready_is hF n HOK.out))
            have HR2 := Lib.hid (fun X (hX : Upd NoF V X) => (show Calls Tryd.prog 35 #[ptr rb, .agg n.cells] X fun e w' => e = .returned (.int .i64 (readyP S n)) ∧ Upd NoF X w' from by
              obtain ⟨F, hF⟩ := (HSA.out.upd0 hX).has 2 rfl
              exact rready_is hF n HOK.out))
            have HL := Lib.hid (fun X (hX : Upd NoF V X) => TNot.ld_at (Nt.Ok.isN HOK.out.isU) ((HSA.out.upd0 hX).box 0 rfl).whole)
            have HD := Lib.hid (Upd.drew NoF V)
            generalize hrd : readyP S n = rd at *
            clear hF1 hg hrd
            go_wp2_with fail
            refine wp_region_held_drew (S := (fun X => Upd NoF V X)) (by kernel_rfl) (HD.out) (fun hHeld => ?_)
            refine rgn 0 (v := ?vq35) hHeld ?yq35 ?_
            case yq35 => (intro w hSw; (try dsimp only at hSw); have l9 := HL.out _ hSw; go_simp; try with_reducible rfl)
            simp only [Act.put, rn1, rn2, rn3, rn4, rn5, rn6]
            refine rgn 1 (v := ?vq36) hHeld ?yq36 ?_
            case yq36 => (intro w hSw; (try dsimp only at hSw); have l9 := HL.out _ hSw; go_simp; try with_reducible rfl)
            simp only [Act.put, rn1, rn2, rn3, rn4, rn5, rn6]
            refine rgn 3 (v := ?vq37) hHeld ?yq37 ?_
            case yq37 => (intro w hSw; (try dsimp only at hSw); have l9 := HL.out _ hSw; go_simp; try with_reducible rfl)
            simp only [Act.put, rn1, rn2, rn3, rn4, rn5, rn6]
            refine rgn 4 (v := ?vq38) hHeld ?yq38 ?_
            case yq38 => (intro w hSw; (try dsimp only at hSw); have l9 := HL.out _ hSw; go_simp; try with_reducible rfl)
            simp only [Act.put, rn1, rn2, rn3, rn4, rn5, rn6]
            refine reg_step (i := 2) (by kernel_rfl) rfl (by kernel_rfl) (fun K hK => ?_)
            go_simp
            refine (HR1.out _ hHeld).mono ?_
            rintro e w2 ⟨rfl, hu2⟩
            have HS : (fun X => Upd NoF V X) w2 := hHeld.trans hu2 (fun _ _ h => h)
            clear hu2
            go_wp2_with fail
            refine hK.out _ _ HS (fun hHeld2 => ?_)
            clear hK hHeld2 hHeld; have hHeld := HS; clear HS
            try simp only [Act.put, rn1, rn2, rn3, rn4, rn5, rn6]
            refine reg_step (i := 5) (by kernel_rfl) rfl (by kernel_rfl) (fun K hK => ?_)
            go_simp
            refine (HR2.out _ hHeld).mono ?_
            rintro e w2 ⟨rfl, hu2⟩
            have HS : (fun X => Upd NoF V X) w2 := hHeld.trans hu2 (fun _ _ h => h)
            clear hu2
            go_wp2_with fail
            refine hK.out _ _ HS (fun hHeld2 => ?_)
            clear hK hHeld2 hHeld; have hHeld := HS; clear HS
            try simp only [Act.put, rn1, rn2, rn3, rn4, rn5, rn6]
            refine rgn 6 (v := .bool false) hHeld ?yq39 ?_
            case yq39 => (intro w hSw; go_simp; try with_reducible rfl)
            simp only [Act.put, rn1, rn2, rn3, rn4, rn5, rn6]
            refine wpAnyH_done (by kernel_rfl) ?_ _
            have HSB := Lib.hid (HSA.out.upd0 hHeld)
            clear hHeld HR1 HR2 HL HD HSA
            obtain ⟨V6, hV6⟩ : ∃ X, w2 = X := ⟨_, rfl⟩
            rw [hV6] at HSB ⊢
            clear hV6
            cases cp
            · have HSC := HSB
              clear HSB
              obtain ⟨tk, htk⟩ : ∃ x, takeP S n = x := ⟨_, rfl⟩
              have ht1 := take_is (Sep.pick HSC.out 1 rfl) HTB.out n HOK.out
              have hU := take_isU HG.out HOK.out
              have hc := take_c S n
              rw [htk] at ht1 hU hc
              have HT1 := Lib.hid ht1; have HU := Lib.hid hU; have HTK := Lib.hid htk
              have HC2 : Hid (tk.1.c = c) := Lib.hid (hc.trans HCC.out)
              have l9 := TNot.ld_at (Nt.Ok.isN HOK.out.isU) (HSC.out.box 0 rfl).whole
              clear ht1 hU htk hc HSC
              go_wp2_with fail
              refine HT1.out.mono ?_
              rintro e w9 ⟨v1, rfl, hs⟩
              have hs9 : Sep NoF w w9 [outO v1 tk.2.1, homeO hb mbx tk.1, boxO nb n.cells NT, rhO rb rm S, boxO cb (CC c) CT] := hs
              have ht2 := rtake_is (Sep.pick hs9 3 rfl) n HOK.out
              rw [HTK.out] at ht2
              have HT2 := Lib.hid ht2
              have l9 := TNot.ld_at (Nt.Ok.isN HOK.out.isU) (hs9.box 2 rfl).whole
              clear hs hs9 ht2
              go_wp2_with fail
              refine HT2.out.mono ?_
              rintro e w10 ⟨v2, rfl, hs⟩
              have HS10 : Hid (Sep NoF w w10 [outO v2 tk.2.1, rhO rb rm tk.1, outO v1 tk.2.1, homeO hb mbx tk.1, boxO nb n.cells NT, boxO cb (CC c) CT]) := Lib.hid hs
              clear hs l9
              obtain ⟨p, hf, hA⟩ := rh_at HS10.out 1 rfl
              have HF := Lib.hid (fun X (hX : Upd NoF w10 X) => (show X.cell? ⟨rb, 11, none⟩ = some (.slice p.wa tk.1.Q.length p.wc) from (hA.upd hX).box.cell 11))
              have HEQ := Lib.hid (fun X (hX : Upd NoF w10 X) => NQ.equal_same X v1 v2 tk.2.1 HU.out ((HS10.out.upd0 hX).row 2 rfl) ((HS10.out.upd0 hX).row 0 rfl))
              have HWT := Lib.hid (fun X (hX : Upd NoF w10 X) => waits_at (HS10.out.upd0 hX) 3 rfl rfl)
              have HD := Lib.hid (Upd.drew NoF w10)
              generalize hcd : tk.2.2 = cd at *
              generalize hql : (tk.1.Q.length : Int) = ql at *
              clear hf hA hcd
              go_wp2_with fail
              refine wp_region_held_drew (S := (fun X => Upd NoF w10 X)) (by kernel_rfl) (HD.out) (fun hHeld => ?_)
              refine rgn 0 (v := ?vq1) hHeld ?yq1 ?_
              case yq1 => (intro w hSw; go_simp; try with_reducible rfl)
              simp only [Act.put, rn1, rn2, rn3, rn4, rn5, rn6]
              refine rgn 1 (v := ?vq2) hHeld ?yq2 ?_
              case yq2 => (intro w hSw; go_simp; try with_reducible rfl)
              simp only [Act.put, rn1, rn2, rn3, rn4, rn5, rn6]
              refine rgn 2 (v := .bool false) hHeld ?yq3 ?_
              case yq3 => (intro w hSw; go_simp; try with_reducible rfl)
              simp only [Act.put, rn1, rn2, rn3, rn4, rn5, rn6]
              refine rgn 3 (v := .bool false) hHeld ?yq4 ?_
              case yq4 => (intro w hSw; go_simp; try with_reducible rfl)
              simp only [Act.put, rn1, rn2, rn3, rn4, rn5, rn6]
              refine rgn 4 (v := ?vq5) hHeld ?yq5 ?_
              case yq5 => (intro w hSw; go_simp; try with_reducible rfl)
              simp only [Act.put, rn1, rn2, rn3, rn4, rn5, rn6]
              refine rgn 5 (v := ?vq6) hHeld ?yq6 ?_
              case yq6 => (intro w hSw; go_simp; try with_reducible rfl)
              simp only [Act.put, rn1, rn2, rn3, rn4, rn5, rn6]
              refine reg_step (i := 6) (by kernel_rfl) rfl (by kernel_rfl) (fun K hK => ?_)
              go_simp
              refine (HEQ.out _ hHeld).mono ?_
              rintro e w2 ⟨rfl, hu2⟩
              have HS : (fun X => Upd NoF w10 X) w2 := hHeld.trans hu2 (fun _ _ h => h)
              clear hu2
              go_wp2_with fail
              refine hK.out _ _ HS (fun hHeld2 => ?_)
              clear hK hHeld2 hHeld; have hHeld := HS; clear HS
              try simp only [Act.put, rn1, rn2, rn3, rn4, rn5, rn6]
              refine rgn 7 (v := .bool false) hHeld ?yq7 ?_
              case yq7 => (intro w hSw; go_simp; try with_reducible rfl)
              simp only [Act.put, rn1, rn2, rn3, rn4, rn5, rn6]
              refine rgn 8 (v := .bool false) hHeld ?yq8 ?_
              case yq8 => (intro w hSw; go_simp; try with_reducible rfl)
              simp only [Act.put, rn1, rn2, rn3, rn4, rn5, rn6]
              refine rgn 9 (v := .bool false) hHeld ?yq9 ?_
              case yq9 => (intro w hSw; go_simp; try with_reducible rfl)
              simp only [Act.put, rn1, rn2, rn3, rn4, rn5, rn6]
              refine rgn 10 (v := ?vq10) hHeld ?yq10 ?_
              case yq10 => (intro w hSw; go_simp; try with_reducible rfl)
              simp only [Act.put, rn1, rn2, rn3, rn4, rn5, rn6]
              refine rgn 12 (v := ?vq11) hHeld ?yq11 ?_
              case yq11 => (intro w hSw; (try dsimp only at hSw); have k9 := HF.out _ hSw; (try rw [hql] at k9); go_simp; try with_reducible rfl)
              simp only [Act.put, rn1, rn2, rn3, rn4, rn5, rn6]
              refine rgn 13 (v := ?vq12) hHeld ?yq12 ?_
              case yq12 => (intro w hSw; (try dsimp only at hSw); have k9 := HF.out _ hSw; (try rw [hql] at k9); go_simp; try with_reducible rfl)
              simp only [Act.put, rn1, rn2, rn3, rn4, rn5, rn6]
              refine rgn 14 (v := ?vq13) hHeld ?yq13 ?_
              case yq13 => (intro w hSw; (try dsimp only at hSw); have k9 := HF.out _ hSw; (try rw [hql] at k9); go_simp; try with_reducible rfl)
              simp only [Act.put, rn1, rn2, rn3, rn4, rn5, rn6]
              refine rgn 15 (v := ?vq14) hHeld ?yq14 ?_
              case yq14 => (intro w hSw; (try dsimp only at hSw); have k9 := HF.out _ hSw; (try rw [hql] at k9); go_simp; try with_reducible rfl)
              simp only [Act.put, rn1, rn2, rn3, rn4, rn5, rn6]
              refine rgn 16 (v := ?vq15) hHeld ?yq15 ?_
              case yq15 => (intro w hSw; (try dsimp only at hSw); have k9 := HF.out _ hSw; (try rw [hql] at k9); go_simp; try with_reducible rfl)
              simp only [Act.put, rn1, rn2, rn3, rn4, rn5, rn6]
              refine reg_step (i := 11) (by kernel_rfl) rfl (by kernel_rfl) (fun K hK => ?_)
              go_simp
              refine (HWT.out _ hHeld).mono ?_
              rintro e w11 ⟨rfl, rfl⟩
              have HS : (fun X => Upd NoF w10 X) w2 := hHeld
              go_wp2_with fail
              refine hK.out _ _ HS (fun hHeld2 => ?_)
              clear hK hHeld2 hHeld; have hHeld := HS; clear HS
              try simp only [Act.put, rn1, rn2, rn3, rn4, rn5, rn6]
              refine rgn 17 (v := .bool false) hHeld ?yq16 ?_
              case yq16 => (intro w hSw; go_simp; try with_reducible rfl)
              simp only [Act.put, rn1, rn2, rn3, rn4, rn5, rn6]
              refine rgn 18 (v := .bool false) hHeld ?yq17 ?_
              case yq17 => (intro w hSw; go_simp; try with_reducible rfl)
              simp only [Act.put, rn1, rn2, rn3, rn4, rn5, rn6]
              refine wpAnyH_done (by kernel_rfl) ?_ _
              have HS12 := Lib.hid ((((HS10.out.upd0 hHeld).drop 4 (by simp)).drop 2 (by simp)).drop 0 (by simp))
              clear hHeld HEQ HWT HF HS10 HD
              go_wp2
              go_roundw
              case rel => exact ⟨k + 1, hb, mbx, tk.1, by omega, rfl, by go_num, HC2, HMB, Lib.hid HS12.out.swap⟩
              case measure => simp [intOf]; omega
            · have HCP := Lib.hid (copy_is (Sep.pick HSB.out 1 rfl))
              clear HSB
              go_wp2_with fail
              refine HCP.out.mono ?_
              rintro e w7 ⟨hb2, mb2, rfl, hs⟩
              have hs7 : Sep NoF w w7 [homeO hb2 mb2 S, homeO hb mbx S, boxO nb n.cells NT, rhO rb rm S, boxO cb (CC c) CT] := hs
              have ht0 := take_is (Sep.pick hs7 1 rfl) HTB.out n HOK.out
              obtain ⟨er, her⟩ : ∃ x, (takeP S n).2.2 = x := ⟨_, rfl⟩
              rw [her] at ht0
              have HT0 := Lib.hid ht0
              have l9 := TNot.ld_at (Nt.Ok.isN HOK.out.isU) (hs7.box 2 rfl).whole
              clear hs hs7 ht0 her
              go_wp2_with fail
              refine HT0.out.mono ?_
              rintro e w8 ⟨v0, rfl, hs⟩
              have hs8 : Sep NoF w w8 [outO v0 (takeP S n).2.1, homeO hb mbx (takeP S n).1, homeO hb2 mb2 S, boxO nb n.cells NT, rhO rb rm S, boxO cb (CC c) CT] := hs
              have HSC : Hid (Sep NoF w w8 [boxO nb n.cells NT, homeO hb2 mb2 S, rhO rb rm S, boxO cb (CC c) CT]) := Lib.hid ((hs8.drop 0 (by simp)).drop 0 (by simp)).swap
              clear hs hs8 l9
              obtain ⟨tk, htk⟩ : ∃ x, takeP S n = x := ⟨_, rfl⟩
              have ht1 := take_is (Sep.pick HSC.out 1 rfl) HTB.out n HOK.out
              have hU := take_isU HG.out HOK.out
              have hc := take_c S n
              rw [htk] at ht1 hU hc
              have HT1 := Lib.hid ht1; have HU := Lib.hid hU; have HTK := Lib.hid htk
              have HC2 : Hid (tk.1.c = c) := Lib.hid (hc.trans HCC.out)
              have l9 := TNot.ld_at (Nt.Ok.isN HOK.out.isU) (HSC.out.box 0 rfl).whole
              clear ht1 hU htk hc HSC
              go_wp2_with fail
              refine HT1.out.mono ?_
              rintro e w9 ⟨v1, rfl, hs⟩
              have hs9 : Sep NoF w w9 [outO v1 tk.2.1, homeO hb2 mb2 tk.1, boxO nb n.cells NT, rhO rb rm S, boxO cb (CC c) CT] := hs
              have ht2 := rtake_is (Sep.pick hs9 3 rfl) n HOK.out
              rw [HTK.out] at ht2
              have HT2 := Lib.hid ht2
              have l9 := TNot.ld_at (Nt.Ok.isN HOK.out.isU) (hs9.box 2 rfl).whole
              clear hs hs9 ht2
              go_wp2_with fail
              refine HT2.out.mono ?_
              rintro e w10 ⟨v2, rfl, hs⟩
              have HS10 : Hid (Sep NoF w w10 [outO v2 tk.2.1, rhO rb rm tk.1, outO v1 tk.2.1, homeO hb2 mb2 tk.1, boxO nb n.cells NT, boxO cb (CC c) CT]) := Lib.hid hs
              clear hs l9
              obtain ⟨p, hf, hA⟩ := rh_at HS10.out 1 rfl
              have HF := Lib.hid (fun X (hX : Upd NoF w10 X) => (show X.cell? ⟨rb, 11, none⟩ = some (.slice p.wa tk.1.Q.length p.wc) from (hA.upd hX).box.cell 11))
              have HEQ := Lib.hid (fun X (hX : Upd NoF w10 X) => NQ.equal_same X v1 v2 tk.2.1 HU.out ((HS10.out.upd0 hX).row 2 rfl) ((HS10.out.upd0 hX).row 0 rfl))
              have HWT := Lib.hid (fun X (hX : Upd NoF w10 X) => waits_at (HS10.out.upd0 hX) 3 rfl rfl)
              have HD := Lib.hid (Upd.drew NoF w10)
              generalize hcd : tk.2.2 = cd at *
              generalize hql : (tk.1.Q.length : Int) = ql at *
              clear hf hA hcd
              go_wp2_with fail
              refine wp_region_held_drew (S := (fun X => Upd NoF w10 X)) (by kernel_rfl) (HD.out) (fun hHeld => ?_)
              refine rgn 0 (v := ?vq18) hHeld ?yq18 ?_
              case yq18 => (intro w hSw; go_simp; try with_reducible rfl)
              simp only [Act.put, rn1, rn2, rn3, rn4, rn5, rn6]
              refine rgn 1 (v := ?vq19) hHeld ?yq19 ?_
              case yq19 => (intro w hSw; go_simp; try with_reducible rfl)
              simp only [Act.put, rn1, rn2, rn3, rn4, rn5, rn6]
              refine rgn 2 (v := .bool false) hHeld ?yq20 ?_
              case yq20 => (intro w hSw; go_simp; try with_reducible rfl)
              simp only [Act.put, rn1, rn2, rn3, rn4, rn5, rn6]
              refine rgn 3 (v := .bool false) hHeld ?yq21 ?_
              case yq21 => (intro w hSw; go_simp; try with_reducible rfl)
              simp only [Act.put, rn1, rn2, rn3, rn4, rn5, rn6]
              refine rgn 4 (v := ?vq22) hHeld ?yq22 ?_
              case yq22 => (intro w hSw; go_simp; try with_reducible rfl)
              simp only [Act.put, rn1, rn2, rn3, rn4, rn5, rn6]
              refine rgn 5 (v := ?vq23) hHeld ?yq23 ?_
              case yq23 => (intro w hSw; go_simp; try with_reducible rfl)
              simp only [Act.put, rn1, rn2, rn3, rn4, rn5, rn6]
              refine reg_step (i := 6) (by kernel_rfl) rfl (by kernel_rfl) (fun K hK => ?_)
              go_simp
              refine (HEQ.out _ hHeld).mono ?_
              rintro e w2 ⟨rfl, hu2⟩
              have HS : (fun X => Upd NoF w10 X) w2 := hHeld.trans hu2 (fun _ _ h => h)
              clear hu2
              go_wp2_with fail
              refine hK.out _ _ HS (fun hHeld2 => ?_)
              clear hK hHeld2 hHeld; have hHeld := HS; clear HS
              try simp only [Act.put, rn1, rn2, rn3, rn4, rn5, rn6]
              refine rgn 7 (v := .bool false) hHeld ?yq24 ?_
              case yq24 => (intro w hSw; go_simp; try with_reducible rfl)
              simp only [Act.put, rn1, rn2, rn3, rn4, rn5, rn6]
              refine rgn 8 (v := .bool false) hHeld ?yq25 ?_
              case yq25 => (intro w hSw; go_simp; try with_reducible rfl)
              simp only [Act.put, rn1, rn2, rn3, rn4, rn5, rn6]
              refine rgn 9 (v := .bool false) hHeld ?yq26 ?_
              case yq26 => (intro w hSw; go_simp; try with_reducible rfl)
              simp only [Act.put, rn1, rn2, rn3, rn4, rn5, rn6]
              refine rgn 10 (v := ?vq27) hHeld ?yq27 ?_
              case yq27 => (intro w hSw; go_simp; try with_reducible rfl)
              simp only [Act.put, rn1, rn2, rn3, rn4, rn5, rn6]
              refine rgn 12 (v := ?vq28) hHeld ?yq28 ?_
              case yq28 => (intro w hSw; (try dsimp only at hSw); have k9 := HF.out _ hSw; (try rw [hql] at k9); go_simp; try with_reducible rfl)
              simp only [Act.put, rn1, rn2, rn3, rn4, rn5, rn6]
              refine rgn 13 (v := ?vq29) hHeld ?yq29 ?_
              case yq29 => (intro w hSw; (try dsimp only at hSw); have k9 := HF.out _ hSw; (try rw [hql] at k9); go_simp; try with_reducible rfl)
              simp only [Act.put, rn1, rn2, rn3, rn4, rn5, rn6]
              refine rgn 14 (v := ?vq30) hHeld ?yq30 ?_
              case yq30 => (intro w hSw; (try dsimp only at hSw); have k9 := HF.out _ hSw; (try rw [hql] at k9); go_simp; try with_reducible rfl)
              simp only [Act.put, rn1, rn2, rn3, rn4, rn5, rn6]
              refine rgn 15 (v := ?vq31) hHeld ?yq31 ?_
              case yq31 => (intro w hSw; (try dsimp only at hSw); have k9 := HF.out _ hSw; (try rw [hql] at k9); go_simp; try with_reducible rfl)
              simp only [Act.put, rn1, rn2, rn3, rn4, rn5, rn6]
              refine rgn 16 (v := ?vq32) hHeld ?yq32 ?_
              case yq32 => (intro w hSw; (try dsimp only at hSw); have k9 := HF.out _ hSw; (try rw [hql] at k9); go_simp; try with_reducible rfl)
              simp only [Act.put, rn1, rn2, rn3, rn4, rn5, rn6]
              refine reg_step (i := 11) (by kernel_rfl) rfl (by kernel_rfl) (fun K hK => ?_)
              go_simp
              refine (HWT.out _ hHeld).mono ?_
              rintro e w11 ⟨rfl, rfl⟩
              have HS : (fun X => Upd NoF w10 X) w2 := hHeld
              go_wp2_with fail
              refine hK.out _ _ HS (fun hHeld2 => ?_)
              clear hK hHeld2 hHeld; have hHeld := HS; clear HS
              try simp only [Act.put, rn1, rn2, rn3, rn4, rn5, rn6]
              refine rgn 17 (v := .bool false) hHeld ?yq33 ?_
              case yq33 => (intro w hSw; go_simp; try with_reducible rfl)
              simp only [Act.put, rn1, rn2, rn3, rn4, rn5, rn6]
              refine rgn 18 (v := .bool false) hHeld ?yq34 ?_
              case yq34 => (intro w hSw; go_simp; try with_reducible rfl)
              simp only [Act.put, rn1, rn2, rn3, rn4, rn5, rn6]
              refine wpAnyH_done (by kernel_rfl) ?_ _
              have HS12 := Lib.hid ((((HS10.out.upd0 hHeld).drop 4 (by simp)).drop 2 (by simp)).drop 0 (by simp))
              clear hHeld HEQ HWT HF HS10 HD
              go_wp2
              go_roundw
              case rel => exact ⟨k + 1, hb2, mb2, tk.1, by omega, rfl, by go_num, HC2, Lib.hid (fun h => by cases h), Lib.hid HS12.out.swap⟩
              case measure => simp [intOf]; omega
          · obtain rfl : k = len1 := by omega
            obtain ⟨p, hf, hA⟩ := rh_at HI.out 1 rfl
            have c9 : wo.cell? ⟨rb, 9, none⟩ = some (sl p.eb S.n p.ec) := hA.box.cell 9
            have HSN := Lib.hid (show 1 ≤ S.n ∧ S.n ≤ 255 from ⟨hf.good.data.2.1, hf.good.data.2.2.1⟩)
            clear hf hA
            go_wp2_with fail
            clear c9
            go_loopw [128] (fun iv wr => ∃ (b : Nat), b ≤ S.n ∧ iv = .int .i64 b ∧ Hid (Sep NoF w wr [homeO hb mbx S, rhO rb rm S, boxO cb (CC c) CT])) (fun i _ => S.n - (intOf i).toNat)
            case atStart => exact ⟨0, Nat.zero_le _, rfl, HI⟩
            case round =>
              obtain ⟨b, hb', rfl, HI⟩ := hrel
              obtain ⟨w1, hw1⟩ : ∃ x, x = wr := ⟨_, rfl⟩
              subst hw1
              by_cases hlt : b < S.n
              · obtain ⟨p, hf, hA⟩ := rh_at HI.out 1 rfl
                obtain ⟨F1, hF1⟩ := HI.out.has 0 rfl
                have hec := hf.ec
                have hjc := hf.jc
                have hbe : b < p.ec := by omega
                have hbj : b < p.jc := by omega
                have hem := hec.2.1
                have hjm := hjc.2.1
                unfold maxLen at hem hjm
                have hsm := hf.good.data
                have hen := entry_is hF1 (b : Int)
                rw [(entP_in hlt).1, (entP_in hlt).2] at hen
                have HEN := Lib.hid hen
                have HA := Lib.hid hA; have HF := Lib.hid hf
                clear hf hA hF1 hec hjc hen
                go_wp2_with fail
                refine HEN.out.mono ?_
                rintro e w2 ⟨rfl, hu⟩
                have s1 := TEnt.st_new (En.isN (S.E b)) w2
                have hs5 := (HI.out.upd0 hu).alloc (S.E b).cells ET'
                have hA5 := (HA.out.upd hu).upd (Upd.alloc NoF w2 (.cells (S.E b).cells ET'))
                obtain ⟨V, hV⟩ : ∃ X, w2.alloc (.cells (S.E b).cells ET') = X := ⟨_, rfl⟩
                obtain ⟨xb, hxb⟩ : ∃ x, w2.heap.size = x := ⟨_, rfl⟩
                rw [hV] at hs5 hA5
                rw [hxb] at hs5
                have HSV := Lib.hid hs5
                have HFV := Lib.hid (fun X (hX : Upd NoF V X) => (show (TEnt.ld (.pointer (some ⟨xb, 0, none⟩))).run Tryd.prog X = .ok (.agg (S.E b).cells) X ∧ X.cell? ⟨rb, 9, none⟩ = some (sl p.eb S.n p.ec) ∧ (TEnt.ld (.pointer (some ⟨p.eb, b * 2, none⟩))).run Tryd.prog X = .ok (.agg (S.E b).cells) X ∧ X.cell? ⟨rb, 10, none⟩ = some (sl p.jb S.n p.jc) ∧ X.cell? ⟨p.jb, b * 29, none⟩ = some (.bool (S.J (b : Int)).isSome) from
                  ⟨TEnt.ld_at (En.isN _) ((hs5.box 0 rfl).upd hX (fun h => h)).whole, (hA5.upd hX).box.cell 9, (hA5.upd hX).ldE hlt, (hA5.upd hX).box.cell 10, by
                    have hlt2 := idx_lt (k := 29) (r := 0) hlt (by omega)
                    refine ((hA5.upd hX).job.cell (b * 29)).trans ?_
                    have := rowG_get (k := 29) (n := S.n) (i := b) (r := 0) (f := fun i : Nat => rjc (S.J (i : Int))) (rjc_isN HF.out.good _).1 hlt (by omega)
                    rw [Nat.add_zero] at this
                    rw [Array.getElem?_append_left (by rw [rowG_size]; omega), this]
                    exact rjc_is HF.out.good _⟩))
                have HBU := Lib.hid (fun X (hX : Upd NoF V X) => busy_at (hb := hb) (mb := mbx) (hs5.upd0 hX) 1 rfl (b : Int) (by omega) rfl)
                have HNE := Lib.hid (fun w => neE_run (S.E b) w)
                have HD := Lib.hid (Upd.drew NoF V)
                have HV := Lib.hid (And.intro hV hxb)
                generalize hjs : (S.J (b : Int)).isSome = js at *
                generalize hec : (S.E b).cells = ecl at *
                clear hs5 hA5 hV hxb hu HI HEN HA HF hjs hec
                go_upto_region 31 with fail
                rw [HV.out.1, HV.out.2]
                clear s1 HV
                go_wp2_with fail
                refine wp_region_held_drew (S := (fun X => Upd NoF V X)) (by kernel_rfl) (HD.out) (fun hHeld => ?_)
                refine rgn 0 (v := ?vq40) hHeld ?yq40 ?_
                case yq40 => (intro w hSw; obtain ⟨k0, k1, k2, k3, k4⟩ := HFV.out _ hSw; have k5 := HNE.out w; go_simp; try with_reducible rfl)
                simp only [Act.put, rn1, rn2, rn3, rn4, rn5, rn6]
                refine rgn 1 (v := ?vq41) hHeld ?yq41 ?_
                case yq41 => (intro w hSw; obtain ⟨k0, k1, k2, k3, k4⟩ := HFV.out _ hSw; have k5 := HNE.out w; go_simp; try with_reducible rfl)
                simp only [Act.put, rn1, rn2, rn3, rn4, rn5, rn6]
                refine rgn 2 (v := ?vq42) hHeld ?yq42 ?_
                case yq42 => (intro w hSw; obtain ⟨k0, k1, k2, k3, k4⟩ := HFV.out _ hSw; have k5 := HNE.out w; go_simp; try with_reducible rfl)
                simp only [Act.put, rn1, rn2, rn3, rn4, rn5, rn6]
                refine rgn 3 (v := ?vq43) hHeld ?yq43 ?_
                case yq43 => (intro w hSw; obtain ⟨k0, k1, k2, k3, k4⟩ := HFV.out _ hSw; have k5 := HNE.out w; go_simp; try with_reducible rfl)
                simp only [Act.put, rn1, rn2, rn3, rn4, rn5, rn6]
                refine rgn 4 (v := ?vq44) hHeld ?yq44 ?_
                case yq44 => (intro w hSw; obtain ⟨k0, k1, k2, k3, k4⟩ := HFV.out _ hSw; have k5 := HNE.out w; go_simp; try with_reducible rfl)
                simp only [Act.put, rn1, rn2, rn3, rn4, rn5, rn6]
                refine rgn 5 (v := ?vq45) hHeld ?yq45 ?_
                case yq45 => (intro w hSw; obtain ⟨k0, k1, k2, k3, k4⟩ := HFV.out _ hSw; have k5 := HNE.out w; go_simp; try with_reducible rfl)
                simp only [Act.put, rn1, rn2, rn3, rn4, rn5, rn6]
                refine rgn 6 (v := ?vq46) hHeld ?yq46 ?_
                case yq46 => (intro w hSw; obtain ⟨k0, k1, k2, k3, k4⟩ := HFV.out _ hSw; have k5 := HNE.out w; go_simp; try with_reducible rfl)
                simp only [Act.put, rn1, rn2, rn3, rn4, rn5, rn6]
                refine rgn 7 (v := ?vq47) hHeld ?yq47 ?_
                case yq47 => (intro w hSw; obtain ⟨k0, k1, k2, k3, k4⟩ := HFV.out _ hSw; have k5 := HNE.out w; go_simp; try with_reducible rfl)
                simp only [Act.put, rn1, rn2, rn3, rn4, rn5, rn6]
                refine rgn 8 (v := .bool false) hHeld ?yq48 ?_
                case yq48 => (intro w hSw; obtain ⟨k0, k1, k2, k3, k4⟩ := HFV.out _ hSw; have k5 := HNE.out w; go_simp; try with_reducible rfl)
                simp only [Act.put, rn1, rn2, rn3, rn4, rn5, rn6]
                refine rgn 9 (v := .bool false) hHeld ?yq49 ?_
                case yq49 => (intro w hSw; obtain ⟨k0, k1, k2, k3, k4⟩ := HFV.out _ hSw; have k5 := HNE.out w; go_simp; try with_reducible rfl)
                simp only [Act.put, rn1, rn2, rn3, rn4, rn5, rn6]
                refine rgn 10 (v := ?vq50) hHeld ?yq50 ?_
                case yq50 => (intro w hSw; obtain ⟨k0, k1, k2, k3, k4⟩ := HFV.out _ hSw; have k5 := HNE.out w; go_simp; try with_reducible rfl)
                simp only [Act.put, rn1, rn2, rn3, rn4, rn5, rn6]
                refine rgn 11 (v := .bool false) hHeld ?yq51 ?_
                case yq51 => (intro w hSw; obtain ⟨k0, k1, k2, k3, k4⟩ := HFV.out _ hSw; have k5 := HNE.out w; go_simp; try with_reducible rfl)
                simp only [Act.put, rn1, rn2, rn3, rn4, rn5, rn6]
                refine rgn 12 (v := .bool false) hHeld ?yq52 ?_
                case yq52 => (intro w hSw; obtain ⟨k0, k1, k2, k3, k4⟩ := HFV.out _ hSw; have k5 := HNE.out w; go_simp; try with_reducible rfl)
                simp only [Act.put, rn1, rn2, rn3, rn4, rn5, rn6]
                refine rgn 13 (v := .bool false) hHeld ?yq53 ?_
                case yq53 => (intro w hSw; obtain ⟨k0, k1, k2, k3, k4⟩ := HFV.out _ hSw; have k5 := HNE.out w; go_simp; try with_reducible rfl)
                simp only [Act.put, rn1, rn2, rn3, rn4, rn5, rn6]
                refine rgn 14 (v := ?vq54) hHeld ?yq54 ?_
                case yq54 => (intro w hSw; obtain ⟨k0, k1, k2, k3, k4⟩ := HFV.out _ hSw; have k5 := HNE.out w; go_simp; try with_reducible rfl)
                simp only [Act.put, rn1, rn2, rn3, rn4, rn5, rn6]
                refine rgn 15 (v := ?vq55) hHeld ?yq55 ?_
                case yq55 => (intro w hSw; obtain ⟨k0, k1, k2, k3, k4⟩ := HFV.out _ hSw; have k5 := HNE.out w; go_simp; try with_reducible rfl)
                simp only [Act.put, rn1, rn2, rn3, rn4, rn5, rn6]
                refine rgn 17 (v := ?vq56) hHeld ?yq56 ?_
                case yq56 => (intro w hSw; obtain ⟨k0, k1, k2, k3, k4⟩ := HFV.out _ hSw; go_simp; try with_reducible rfl)
                simp only [Act.put, rn1, rn2, rn3, rn4, rn5, rn6]
                refine rgn 18 (v := ?vq57) hHeld ?yq57 ?_
                case yq57 => (intro w hSw; obtain ⟨k0, k1, k2, k3, k4⟩ := HFV.out _ hSw; go_simp; try with_reducible rfl)
                simp only [Act.put, rn1, rn2, rn3, rn4, rn5, rn6]
                refine rgn 19 (v := ?vq58) hHeld ?yq58 ?_
                case yq58 => (intro w hSw; obtain ⟨k0, k1, k2, k3, k4⟩ := HFV.out _ hSw; go_simp; try with_reducible rfl)
                simp only [Act.put, rn1, rn2, rn3, rn4, rn5, rn6]
                refine rgn 20 (v := ?vq59) hHeld ?yq59 ?_
                case yq59 => (intro w hSw; obtain ⟨k0, k1, k2, k3, k4⟩ := HFV.out _ hSw; go_simp; try with_reducible rfl)
                simp only [Act.put, rn1, rn2, rn3, rn4, rn5, rn6]
                refine rgn 21 (v := ?vq60) hHeld ?yq60 ?_
                case yq60 => (intro w hSw; obtain ⟨k0, k1, k2, k3, k4⟩ := HFV.out _ hSw; go_simp; try with_reducible rfl)
                simp only [Act.put, rn1, rn2, rn3, rn4, rn5, rn6]
                refine rgn 22 (v := ?vq61) hHeld ?yq61 ?_
                case yq61 => (intro w hSw; obtain ⟨k0, k1, k2, k3, k4⟩ := HFV.out _ hSw; go_simp; try with_reducible rfl)
                simp only [Act.put, rn1, rn2, rn3, rn4, rn5, rn6]
                refine rgn 23 (v := ?vq62) hHeld ?yq62 ?_
                case yq62 => (intro w hSw; obtain ⟨k0, k1, k2, k3, k4⟩ := HFV.out _ hSw; go_simp; try with_reducible rfl)
                simp only [Act.put, rn1, rn2, rn3, rn4, rn5, rn6]
                refine rgn 24 (v := ?vq63) hHeld ?yq63 ?_
                case yq63 => (intro w hSw; obtain ⟨k0, k1, k2, k3, k4⟩ := HFV.out _ hSw; go_simp; try with_reducible rfl)
                simp only [Act.put, rn1, rn2, rn3, rn4, rn5, rn6]
                refine reg_step (i := 16) (by kernel_rfl) rfl (by kernel_rfl) (fun K hK => ?_)
                go_simp
                refine (HBU.out _ hHeld).mono ?_
                rintro e w3 ⟨rfl, hu⟩
                have HS : (fun X => Upd NoF V X) w3 := hHeld.trans hu (fun _ _ h => h)
                clear hu
                go_wp2_with fail
                refine hK.out _ _ HS (fun hHeld2 => ?_)
                clear hK hHeld2 hHeld; have hHeld := HS; clear HS
                try simp only [Act.put, rn1, rn2, rn3, rn4, rn5, rn6]
                refine rgn 25 (v := .bool false) hHeld ?yq64 ?_
                case yq64 => (intro w hSw; go_simp; try with_reducible rfl)
                simp only [Act.put, rn1, rn2, rn3, rn4, rn5, rn6]
                refine rgn 26 (v := .bool false) hHeld ?yq65 ?_
                case yq65 => (intro w hSw; go_simp; try with_reducible rfl)
                simp only [Act.put, rn1, rn2, rn3, rn4, rn5, rn6]
                refine wpAnyH_done (by kernel_rfl) ?_ _
                have HS6 := Lib.hid ((HSV.out.upd0 hHeld).drop 0 (by simp))
                clear hHeld HFV HBU HNE HD HSV
                go_wp2
                go_roundw
                case rel => exact ⟨b + 1, by omega, by go_num, HS6⟩
                case measure => simp [intOf]; omega
              · obtain rfl : b = S.n := by omega
                obtain ⟨p, hf, hA⟩ := rh_at HI.out 1 rfl
                have c9 : w1.cell? ⟨rb, 9, none⟩ = some (sl p.eb S.n p.ec) := hA.box.cell 9
                obtain ⟨F1, hF1⟩ := HI.out.has 0 rfl
                have hen := entry_is hF1 (S.n : Int)
                rw [entP_out] at hen
                have HEN := Lib.hid hen
                clear hf hA hF1 hen
                go_wp2_with fail
                refine HEN.out.mono ?_
                rintro e we ⟨rfl, hu⟩
                have HSE := Lib.hid (HI.out.upd0 hu)
                clear hu c9 HEN HI
                cases cp
                · have hmb := HMB.out rfl
                  subst hmb
                  have k3 : we.cell? ⟨cb, 3, none⟩ = some (.int .i64 B) := by
                    have : we.cell? ⟨cb, 3, none⟩ = some (.int .i64 c.blocks) := (HSE.out.box 2 rfl).cell 3
                    rw [HB.out] at this; exact this
                  have hSB : S.c.blocks.toNat = B := by rw [HCC.out, HB.out]; rfl
                  go_wp2_with fail
                  clear k3
                  go_loopw [179] (fun iv wr => ∃ (b : Nat), b ≤ B ∧ iv = .int .i64 b ∧ Hid (Sep NoF w wr [homeO hb mbx S, rhO rb rm S, boxO cb (CC c) CT])) (fun i _ => B - (intOf i).toNat)
                  case atStart => exact ⟨0, Nat.zero_le _, rfl, HSE⟩
                  case round =>
                    obtain ⟨b, hb3, rfl, HI⟩ := hrel
                    obtain ⟨w4, hw4⟩ : ∃ x, x = wr := ⟨_, rfl⟩
                    subst hw4
                    by_cases hlt : b < B
                    · obtain ⟨F1, hF1⟩ := HI.out.has 0 rfl
                      have hmo := home_mem hF1
                      obtain ⟨F2, hF2⟩ := rh_rm HI.out 1 rfl
                      have hsm := (home_good hF1).data
                      have hUB := (home_good hF1).isU b
                      rw [hSB] at hmo hF2 hsm
                      have hx := ME.block_any hmo (by omega) (b : Int)
                      have e1 : ME.blkP B S.B (b : Int) = S.B b := by unfold ME.blkP; rw [if_pos (by omega)]; rfl
                      have e2 : ME.errP B (b : Int) = 0 := by unfold ME.errP; rw [if_pos (by omega)]
                      rw [e1, e2] at hx
                      have HX := Lib.hid hx
                      have HU := Lib.hid hUB
                      clear hF1 hmo hx e1 e2 hUB hsm hF2
                      go_wp2_with fail
                      refine HX.out.mono ?_
                      rintro e w2 ⟨rfl, hu⟩
                      have s1 := TBlk.st_new HU.out.isN w2
                      have hs3 := (HI.out.upd0 hu).alloc (S.B b) 45
                      obtain ⟨V, hV⟩ : ∃ X, w2.alloc (.cells (S.B b) 45) = X := ⟨_, rfl⟩
                      obtain ⟨xb, hxb⟩ : ∃ x, w2.heap.size = x := ⟨_, rfl⟩
                      rw [hV, hxb] at hs3
                      obtain ⟨F3, hF3⟩ := rh_rm hs3 2 rfl
                      rw [hSB] at hF3
                      have HY := Lib.hid (RM.block_ok hF3 (by have := HBB.out; omega) b hlt)
                      have HV := Lib.hid (And.intro hV hxb)
                      have HS3 := Lib.hid hs3
                      clear hs3 hV hxb hu hF3 HI
                      go_upto_region 40 with fail
                      rw [HV.out.1, HV.out.2]
                      clear s1 HV
                      go_wp2_with fail
                      refine HY.out.mono ?_
                      rintro e w3 ⟨rfl, hu⟩
                      have s1 := TBlk.st_new HU.out.isN w3
                      have hs4 := (HS3.out.upd0 hu).alloc (S.B b) 45
                      obtain ⟨V4, hV⟩ : ∃ X, w3.alloc (.cells (S.B b) 45) = X := ⟨_, rfl⟩
                      obtain ⟨yb, hyb⟩ : ∃ x, w3.heap.size = x := ⟨_, rfl⟩
                      rw [hV, hyb] at hs4
                      have HV := Lib.hid (And.intro hV hyb)
                      have HS4 := Lib.hid hs4
                      have l3 := TBlk.ld_at HU.out.isN (hs4.box 1 rfl).whole
                      have l4 := TBlk.ld_at HU.out.isN (hs4.box 0 rfl).whole
                      have hne := neB_run HU.out HU.out V4
                      have hbb : (!(words (S.B b) == words (S.B b))) = false := by simp
                      rw [hbb] at hne
                      clear hs4 hV hyb hu hbb
                      go_upto_region 41 with fail
                      rw [HV.out.1, HV.out.2]
                      clear s1 HV
                      have hBq := HBB.out.2
                      go_wp2
                      go_roundw
                      case rel => exact ⟨b + 1, by omega, by go_num, Lib.hid ((HS4.out.drop 0 (by simp)).drop 0 (by simp))⟩
                      case measure => simp [intOf]; omega
                    · obtain rfl : b = B := by omega
                      have HS8 := Lib.hid HI.out
                      clear HI
                      go_wp2_with fail
                      refine (works_is HS8.out HTB.out).mono ?_
                      rintro e w9 ⟨rfl, hs⟩
                      have HS9 := Lib.hid hs
                      clear hs
                      go_wp2
                      go_ret
                      exact ⟨rfl, HS9.out.below⟩
                · go_wp2_with fail
                  refine (works_is HSE.out HTB.out).mono ?_
                  rintro e w9 ⟨rfl, hs⟩
                  have HS9 := Lib.hid hs
                  clear hs
                  go_wp2
                  go_ret
                  exact ⟨rfl, HS9.out.below⟩
      · have hd : decide (May c) = false := decide_eq_false hm
        rw [hd] at HMAY
        have HNO := Lib.hid (fun W => new_no c hm mb W)
        clear hm hB hbl
        go_wp2_with fail
        refine (HNO.out _).mono ?_
        rintro e w5 ⟨rfl, hu⟩
        have HS5 := Lib.hid (HS3.out.upd0 hu)
        clear hu k0 k1 k2 k3 k4 k5 k6 k7
        obtain ⟨k0, k1, k2, k3, k4, k5, k6, k7⟩ : (w5.cell? ⟨cb, 0, none⟩ = some (.int .i64 c.cores) ∧ w5.cell? ⟨cb, 1, none⟩ = some (.int .i64 c.sets) ∧ w5.cell? ⟨cb, 2, none⟩ = some (.int .i64 c.ways) ∧ w5.cell? ⟨cb, 3, none⟩ = some (.int .i64 c.blocks) ∧ w5.cell? ⟨cb, 4, none⟩ = some (.int .i64 c.logs) ∧ w5.cell? ⟨cb, 5, none⟩ = some (.int .i64 c.backs) ∧ w5.cell? ⟨cb, 6, none⟩ = some (.int .i64 c.nest) ∧ w5.cell? ⟨cb, 7, none⟩ = some (.int .i64 c.tries)) := ⟨(HS5.out.box 2 rfl).cell 0, (HS5.out.box 2 rfl).cell 1, (HS5.out.box 2 rfl).cell 2, (HS5.out.box 2 rfl).cell 3, (HS5.out.box 2 rfl).cell 4, (HS5.out.box 2 rfl).cell 5, (HS5.out.box 2 rfl).cell 6, (HS5.out.box 2 rfl).cell 7⟩
        go_wp2_with fail
        refine (HMAY.out _).mono ?_
        rintro e w6 ⟨rfl, hu⟩
        have HS6 := Lib.hid (HS5.out.upd0 hu)
        clear hu k0 k1 k2 k3 k4 k5 k6 k7
        go_wp2_with fail
        refine (works_is HS6.out HTB.out).mono ?_
        rintro e w9 ⟨rfl, hs⟩
        have HS9 := Lib.hid hs
        clear hs
        go_wp2
        go_ret
        exact ⟨rfl, HS9.out.below⟩
    · have HME := Lib.hid (fun W => ME.new_bad c.blocks (by omega) W)
      have HRM := Lib.hid (fun W => RM.new_bad c.blocks (by omega) W)
      have HNIL := Lib.hid (fun W => new_nil c W)
      clear hbl
      go_enter Tryd.func8, Tryd.ntmps8
      go_upto_region 1 with fail
      rw [HW0.out.1, HW0.out.2]
      obtain ⟨k0, k1, k2, k3, k4, k5, k6, k7⟩ : (W0.cell? ⟨cb, 0, none⟩ = some (.int .i64 c.cores) ∧ W0.cell? ⟨cb, 1, none⟩ = some (.int .i64 c.sets) ∧ W0.cell? ⟨cb, 2, none⟩ = some (.int .i64 c.ways) ∧ W0.cell? ⟨cb, 3, none⟩ = some (.int .i64 c.blocks) ∧ W0.cell? ⟨cb, 4, none⟩ = some (.int .i64 c.logs) ∧ W0.cell? ⟨cb, 5, none⟩ = some (.int .i64 c.backs) ∧ W0.cell? ⟨cb, 6, none⟩ = some (.int .i64 c.nest) ∧ W0.cell? ⟨cb, 7, none⟩ = some (.int .i64 c.tries)) := ⟨(HS0.out.box 0 rfl).cell 0, (HS0.out.box 0 rfl).cell 1, (HS0.out.box 0 rfl).cell 2, (HS0.out.box 0 rfl).cell 3, (HS0.out.box 0 rfl).cell 4, (HS0.out.box 0 rfl).cell 5, (HS0.out.box 0 rfl).cell 6, (HS0.out.box 0 rfl).cell 7⟩
      go_wp2_with fail
      refine (HME.out _).mono ?_
      rintro e w2 ⟨rfl, rfl⟩
      go_wp2_with fail
      refine (HRM.out _).mono ?_
      rintro e w3 ⟨rfl, rfl⟩
      go_wp2_with fail
      refine (HNIL.out _).mono ?_
      rintro e w5 ⟨rfl, hu⟩
      have HS5 := Lib.hid (HS0.out.upd0 hu)
      clear hu k0 k1 k2 k3 k4 k5 k6 k7
      go_wp2_with fail
      refine (works_is HS5.out HTB.out).mono ?_
      rintro e w9 ⟨rfl, hs⟩
      have HS9 := Lib.hid hs
      clear hs
      go_wp2
      go_ret
      exact ⟨rfl, HS9.out.below⟩
end
end Go.Proofs.YtlhbnndnkcpomaaDoor.HO

set_option linter.unusedSimpArgs false
set_option linter.unusedVariables false
namespace Go.Proofs.YtlhbnndnkcpomaaDoor
open Go.ChangeShapes Go.WideShapes Go.ChangeAt Go.RowKit

/-- What the rows list. -/
abbrev laidTab : List (String × DataW Unit) := [("math/bits.deBruijn32tab", Rows.laid_math_bits_deBruijn32tab)]

theorem gTab : Tryd.prog.globalNamed "math/bits.deBruijn32tab" = some 0 := by kernel_rfl
theorem tTab : (Tryd.prog.globals[0]?).map (·.type) = some 165 := by kernel_rfl

/-- The door's own heap meets the condition. -/
theorem door_met (os : Os) (args : Array Value) : laidMetH Tryd.prog laidTab ((World.doorLaid Tryd.prog 400 os).forCall (fun _ _ => 0) ⟨#[], args, []⟩).memory :=
  laidMetH_of_parts3 (fuel := 8) (laidMet_of_run' 8 (by kernel_rfl) (by kernel_rfl)) (by kernel_rfl) (by kernel_rfl)

theorem tab_of_laid {W : World} (h : laidMetH Tryd.prog laidTab W) : Tab W := by
  rw [MakeChecks.laidMetH_plain _ _ _ (by kernel_rfl)] at h
  have ht : Lib.TabIs Tryd.prog W "math/bits.deBruijn32tab" .u8 (Lib.deBruijn32tab.map (fun x : Nat => (x : Int))) :=
    Lib.tabIs_of_head gTab tTab Tryd.underlying165 Tryd.underlying5 (by kernel_rfl) (by kernel_rfl) (by exact h)
  intro i hi
  have := ht.cell gTab i (by simpa [Lib.deBruijn32tab] using hi)
  rw [this]
  have e : (Lib.deBruijn32tab.map (fun x : Nat => (x : Int))).getD i 0 = ((Lib.deBruijn32tab.getD i 0 : Nat) : Int) := by
    simp only [List.getD, List.getElem?_map]
    cases Lib.deBruijn32tab[i]? <;> rfl
  rw [e]
end Go.Proofs.YtlhbnndnkcpomaaDoor
