/- The reference's net (undertowref09): New, Room, Send, Take. -/
import Derived.Test.YtmfhbobjambgaaaNetM
import Derived.Test.YtmfhbobjambgaaaNetI
import Derived.Test.YtmfhbobjambgaaaGridR
import Derived.Test.YtmfhbobjambgaaaNoteR
import Derived.Test.YtmfhbobjambgaaaNetOrderW
import Derived.Test.YtmfhbobjambgaaaReg
import Derived.Test.YtmfhbobjambgaaaRowG
set_option linter.unusedSimpArgs false
set_option linter.unusedVariables false
namespace Go.Proofs.Ytmfhbobjambgaaa.NE
open Go.RowKit
open BU (IsU words)
open PL (Cfg CC CV May)
open GR (hopsN px py)
abbrev NT : TypeId := 37
abbrev NS : TypeId := 24
abbrev CT : TypeId := 23
abbrev RNT : TypeId := 67
def bsN (parts : Array (Nat × Value)) : Sem Value := Instr.buildSlice NS 1 parts
theorem bsN_eq (parts : Array (Nat × Value)) : Instr.buildSlice NS 1 parts = bsN parts := rfl
theorem bsN_run {x : Array Value} (hx : x.size = 24) (w : World) : (bsN #[(0, .agg x)]).run Try.prog w = .ok (.slice (some ⟨w.heap.size, 0, none⟩) 1 1) (w.alloc (.cells x NT)) :=
  agg_bs Try.underlying24 TNot.infoZ TNot.size_Z (by decide) (by decide) hx w
theorem out_one {W : World} {F : Nat → Prop} {g : Nat} {n : Nt} (hn : n.cells.size = 24) (h : (boxO g n.cells NT).is W F) : (notesO (.slice (some ⟨g, 0, none⟩) 1 1) [n]).is W F := by
  refine ⟨⟨by simp [rowsOf, hn], .inr ⟨g, 1, n.cells, rfl, h.1, Nat.le_refl _, by unfold maxLen; omega, by omega, by simp [rowsOf]; rw [List.take_of_length_le (by simp [hn])]⟩⟩, fun k hk => ?_⟩
  simp [Value.ownBlock] at hk
  subst hk; exact h.2
/-- No note. -/
def bsZ : Sem Value := Instr.buildSlice NS 0 #[]
theorem bsZ_eq : Instr.buildSlice NS 0 #[] = bsZ := rfl
theorem bsZ_run (w : World) : bsZ.run Try.prog w = .ok (.slice (some ⟨w.heap.size, 0, none⟩) 0 0) (w.alloc (.cells #[] NT)) := by
  have hs : (sizeOf NT).run Try.prog w = .ok 24 w := Try.sizeOf37 w
  unfold bsZ
  simp [Instr.buildSlice, run_underlying Try.underlying24, hs, newRow, run_newObj_alloc, Value.cells, Instr.fill, (by decide +kernel : Array.range 0 = #[])]
theorem out_zero {W : World} {F : Nat → Prop} {g : Nat} (h : (boxO g #[] NT).is W F) : (notesO (.slice (some ⟨g, 0, none⟩) 0 0) []).is W F := by
  refine ⟨⟨by simp [rowsOf], .inr ⟨g, 0, #[], rfl, h.1, Nat.le_refl _, by unfold maxLen; omega, by omega, by simp [rowsOf]⟩⟩, fun k hk => ?_⟩
  simp [Value.ownBlock] at hk
  subst hk; exact h.2
/-- One row of notes behind another. -/
theorem s_cat {G : Nat → Prop} {w0 W : World} {L : List Obj} (h : Sep G w0 W L) (i k : Nat) {v u : Value} {ns ms : List Nt} (hi : L[i]? = some (notesO v ns)) (hk : L[k]? = some (notesO u ms)) (hm : ∀ n ∈ ms, IsU n.D) (hl : ns.length + ms.length ≤ 65536) :
    ∃ v' W', (Builtin.append_ #[NS, NS] NS #[v, u]).run Try.prog W = .ok v' W' ∧ Sep G w0 W' (L.set i (notesO v' (ns ++ ms))) := by
  obtain ⟨F, hF, hS⟩ := h.step i hi
  obtain ⟨F2, hF2, _⟩ := h.get k hk
  obtain ⟨i0, hi0, hz0, hz1, hz2⟩ := info_parts PN.infoE
  obtain ⟨v9, w9, hrun, hrow9, hg, hf⟩ := run_append_all (P := Try.prog) W NS NS NT i0 (.agg TNot.Z) 24 112 Try.underlying24 hi0 hz0 hz1 hz2 PN.zsize (by decide) v ns.length _ hF.1 u ms.length _ hF2.1
    (flat_one (c := 24) (fun x hx => by obtain ⟨n, hn, rfl⟩ := List.mem_map.1 hx; exact Nt.Ok.isN (hm n hn))) (by unfold maxLen; omega) (by omega)
  refine ⟨v9, w9, hrun, hS _ _ (Upd.grown (F := F) hg (fun k hk hlt => ⟨hF.2 k hk, hF.1.isCells k hk⟩)) ⟨?_, fun k hk => ?_⟩⟩
  · have e : (rowsOf ((ns ++ ms).map Nt.cells)).flatten = (rowsOf (ns.map Nt.cells)).flatten ++ (rowsOf (ms.map Nt.cells)).flatten := by simp [rowsOf]
    rw [e, List.length_append]
    exact hrow9
  · rcases hf with e | ⟨g, e, hge⟩
    · rw [e] at hk; exact .inl (hF.2 k hk)
    · rw [e] at hk; cases hk; exact .inr hge
/-- Some of a row of notes behind another row. -/
theorem s_catr {G : Nat → Prop} {w0 W : World} {L : List Obj} (h : Sep G w0 W L) (i : Nat) {v : Value} {ns ms : List Nt} (hi : L[i]? = some (notesO v ns)) (ad : Addr) (m c2 : Nat) (hlen : ms.length = m) (hm : ∀ n ∈ ms, IsU n.D) (hl : ns.length + m ≤ 65536)
    (hc : ∀ (j : Nat) (u : Value), (rowsOf (ms.map Nt.cells)).flatten[j]? = some u → W.cell? (ad.add j) = some u) :
    ∃ v' W', (Builtin.append_ #[NS, NS] NS #[v, .slice (some ad) m c2]).run Try.prog W = .ok v' W' ∧ Sep G w0 W' (L.set i (notesO v' (ns ++ ms))) := by
  subst hlen
  obtain ⟨F, hF, hS⟩ := h.step i hi
  obtain ⟨i0, hi0, hz0, hz1, hz2⟩ := info_parts PN.infoE
  have hN : ∀ x ∈ ms.map Nt.cells, IsN 24 x := fun x hx => by obtain ⟨n, hn, rfl⟩ := List.mem_map.1 hx; exact Nt.Ok.isN (hm n hn)
  obtain ⟨v9, w9, hrun, hrow9, hg, hf⟩ := run_append_row (P := Try.prog) W NS NS NT i0 (.agg TNot.Z) 24 112 Try.underlying24 hi0 hz0 hz1 hz2 PN.zsize (by decide) v ns.length _ hF.1
    ad ms.length c2 (rowsOf (ms.map Nt.cells)).flatten (by rw [flat_len hN, List.length_map]) hc (flat_one hN) (by unfold maxLen; omega) (by omega)
  refine ⟨v9, w9, hrun, hS _ _ (Upd.grown (F := F) hg (fun k hk hlt => ⟨hF.2 k hk, hF.1.isCells k hk⟩)) ⟨?_, fun k hk => ?_⟩⟩
  · have e : (rowsOf ((ns ++ ms).map Nt.cells)).flatten = (rowsOf (ns.map Nt.cells)).flatten ++ (rowsOf (ms.map Nt.cells)).flatten := by simp [rowsOf]
    rw [e, List.length_append]
    exact hrow9
  · rcases hf with e | ⟨g, e, hge⟩
    · rw [e] at hk; exact .inl (hF.2 k hk)
    · rw [e] at hk; cases hk; exact .inr hge
theorem flat_two (ns : List Nt) (i : Nat) : (rowsOf (ns.map Nt.cells)).flatten = (rowsOf ((ns.take i).map Nt.cells)).flatten ++ (rowsOf ((ns.drop i).map Nt.cells)).flatten := by
  rw [← List.flatten_append]
  unfold rowsOf
  rw [← List.map_append, ← List.map_append, List.take_append_drop]
/-- The cells of the first ones of a row; of the rest. -/
theorem row_front {W : World} {g n cap : Nat} {ns : List Nt} (h : Row W NT 24 (.slice (some ⟨g, 0, none⟩) n cap) n (rowsOf (ns.map Nt.cells)).flatten) (q : Nat) :
    ∀ (j : Nat) (u : Value), (rowsOf ((ns.take q).map Nt.cells)).flatten[j]? = some u → W.cell? ((⟨g, 0, none⟩ : Addr).add j) = some u := fun j u hu => by
  have := h.cells.2 j u (by rw [flat_two ns q, List.getElem?_append_left (List.getElem?_eq_some_iff.1 hu).1]; exact hu)
  rw [Addr.add_lit]; simpa using this
theorem row_back {W : World} {g n cap : Nat} {ns : List Nt} (h : Row W NT 24 (.slice (some ⟨g, 0, none⟩) n cap) n (rowsOf (ns.map Nt.cells)).flatten) (hN : ∀ m ∈ ns, IsU m.D) {q : Nat} (hq : q ≤ ns.length) {ad : Addr} (had : ad = ⟨g, q * 24, none⟩ ∨ ns.length = q) :
    ∀ (j : Nat) (u : Value), (rowsOf ((ns.drop q).map Nt.cells)).flatten[j]? = some u → W.cell? (ad.add j) = some u := fun j u hu => by
  rcases had with rfl | had
  · have hl : (rowsOf ((ns.take q).map Nt.cells)).flatten.length = q * 24 := by
      rw [flat_len (c := 24) (fun x hx => by obtain ⟨m, hm, rfl⟩ := List.mem_map.1 hx; exact Nt.Ok.isN (hN m (List.mem_of_mem_take hm))), List.length_map, List.length_take, Nat.min_eq_left hq]
    have := h.cells.2 (q * 24 + j) u (by rw [flat_two ns q, List.getElem?_append_right (by omega), hl, Nat.add_sub_cancel_left]; exact hu)
    rw [Addr.add_lit]; simpa using this
  · exfalso
    rw [List.drop_of_length_le (by omega)] at hu
    simp [rowsOf] at hu
section
variable {ops : Array Oper} {o : Oper} {a : Act} {w : World} {K : Act → World → Prop} {Q : Exit → Act → World → Prop}
theorem oper_app (s x : Operand) (t : TypeId) (hop : o.op = Op.call { callee := Callee.builtin Builtin.append, args := #[s, x], argTypes := #[t, t] })
    {v vx v' : Value} {w' : World} (hs : a.eval s = v) (hx : a.eval x = vx) (hr : (Builtin.append_ #[t, t] o.type #[v, vx]).run Try.prog w = .ok v' w')
    (hK : K (a.put o.dst v') w') : Oper.wp Try.prog o a w K Q := by
  unfold Oper.wp
  simp [execOp, hop, resolve, invoke, builtin, hs, hx, hr, Result.andThen]
  exact hK
end
section
variable {P : Program} {ops : Array Oper} {Q : Exit → Act → World → Prop} {md : Region.Mode} {S : World → Prop}
/-- Three steps may come up. -/
theorem reg_all3 {i j k : Nat} {o o' o'' : Oper} {fuel : Nat} {listed : Array Bool} {a : Act} {w : World} (hr : Region.ready md ops listed = [i, j, k]) (ho : ops[i]? = some o) (ho' : ops[j]? = some o') (ho'' : ops[k]? = some o'')
    (hw : Region.wanted o (yielded ops a.tmps) = true) (hw' : Region.wanted o' (yielded ops a.tmps) = true) (hw'' : Region.wanted o'' (yielded ops a.tmps) = true)
    (h : ∀ K' : Act → World → Prop, Shut (∀ a w, S w → (S w → wpAnyH P md ops Q S fuel (listed.setIfInBounds i true) a w) → K' a w) → Oper.wp P o a w K' Q)
    (h' : ∀ K' : Act → World → Prop, Shut (∀ a w, S w → (S w → wpAnyH P md ops Q S fuel (listed.setIfInBounds j true) a w) → K' a w) → Oper.wp P o' a w K' Q)
    (h'' : ∀ K' : Act → World → Prop, Shut (∀ a w, S w → (S w → wpAnyH P md ops Q S fuel (listed.setIfInBounds k true) a w) → K' a w) → Oper.wp P o'' a w K' Q) : wpAnyH P md ops Q S (fuel + 1) listed a w :=
  wpAnyH_ready hr (by simp) (AllReadyH.cons ho (fun K hK => by rw [if_pos hw]; exact h K hK) (AllReadyH.cons ho' (fun K hK => by rw [if_pos hw']; exact h' K hK) (AllReadyH.cons ho'' (fun K hK => by rw [if_pos hw'']; exact h'' K hK) AllReadyH.nil)))
end
abbrev RnA (c : Cfg) (room hops : Int) (a : Option Addr) (n cap : Nat) : Array Value :=
  #[.int .i64 c.cores, .int .i64 c.sets, .int .i64 c.ways, .int .i64 c.blocks, .int .i64 c.logs, .int .i64 c.backs, .int .i64 c.nest, .int .i64 c.tries, .int .i64 room, .slice a n cap, .int .i64 hops]
/-- The reference's net. -/
def Rn (rb : Nat) (c : Cfg) (room : Int) (ns : List Nt) (hops : Int) : Obj :=
  exO fun p : Option Addr × Nat => andO (∀ n ∈ ns, n.Ok) (starO (boxO rb (RnA c room hops p.1 ns.length p.2) RNT) (notesO (.slice p.1 ns.length p.2) ns))
attribute [local go_sem] Oper.semAt_some
attribute [local go_sem ↓] TNot.ld_eq TNot.st_eq TNot.al_eq TNot.bx_eq bsN_eq bsZ_eq
attribute [local go_sem] TNot.al_run TNot.bx_run bsZ_run
section
variable {G : Nat → Prop} {w0 W W' : World} {L : List Obj} {F : Nat → Prop} {rb : Nat} {c : Cfg} {room hops : Int} {ns : List Nt}
theorem rn_open (h : Sep G w0 W (Rn rb c room ns hops :: L)) : ∃ (a : Option Addr) (cap : Nat), (∀ n ∈ ns, n.Ok) ∧ Sep G w0 W (boxO rb (RnA c room hops a ns.length cap) RNT :: notesO (.slice a ns.length cap) ns :: L) := by
  obtain ⟨p, h⟩ := h.ex
  obtain ⟨hN, h⟩ := h.pure
  exact ⟨p.1, p.2, hN, h.star⟩
theorem rn_shut {a : Option Addr} {cap : Nat} (hN : ∀ n ∈ ns, n.Ok) (h : Sep G w0 W (boxO rb (RnA c room hops a ns.length cap) RNT :: notesO (.slice a ns.length cap) ns :: L)) : Sep G w0 W (Rn rb c room ns hops :: L) :=
  Sep.unex (a, cap) (Sep.unpure hN h.unstar)
theorem rn_oks (h : (Rn rb c room ns hops).is W F) : ∀ n ∈ ns, n.Ok := h.choose_spec.1
theorem Sep.at_ {Φ : Obj} (h : Sep G w0 W L) (i : Nat) (hi : L[i]? = some Φ) : Sep G w0 W (Φ :: L.eraseIdx i) := by
  obtain ⟨F, h1, h2, h3, _⟩ := h.own.at i hi h.newM
  exact ⟨h.upd, F, h1, h2, h3⟩
set_option maxRecDepth 100000 in
theorem rnew_any (c : Cfg) (room : Int) (w : World) : Calls Try.prog 26 #[CV c, .int .i64 room] w fun e w' =>
    if May c ∧ 1 ≤ room ∧ room ≤ 1024 then ∃ rb, e = .returned (.tuple #[ptr rb, .int .i64 0]) ∧ Upd NoF w w' ∧ (Rn rb c room [] 0).is w' (fun k => w.heap.size ≤ k)
    else e = .returned (.tuple #[.pointer none, .int .i64 2]) ∧ Upd NoF w w' := by
  have HM := Lib.hid (fun w => PL.rMay_any c w)
  obtain ⟨V, hV⟩ : ∃ V, w.alloc (.cells (CC c) CT) = V := ⟨_, rfl⟩
  obtain ⟨cx, hcx⟩ : ∃ x, w.heap.size = x := ⟨_, rfl⟩
  have hu1 : Upd NoF w V := by rw [← hV]; exact Upd.alloc NoF w _
  have q1 := Blk.new w (CC c) CT
  rw [hV, hcx] at q1
  have HV := Lib.hid (And.intro hV hcx); have HQ := Lib.hid q1; have HU := Lib.hid hu1
  obtain ⟨k0, k1, k2, k3, k4, k5, k6, k7⟩ : (V.cell? ⟨cx, 0, none⟩ = some (.int .i64 c.cores) ∧ V.cell? ⟨cx, 1, none⟩ = some (.int .i64 c.sets) ∧ V.cell? ⟨cx, 2, none⟩ = some (.int .i64 c.ways) ∧ V.cell? ⟨cx, 3, none⟩ = some (.int .i64 c.blocks) ∧ V.cell? ⟨cx, 4, none⟩ = some (.int .i64 c.logs) ∧ V.cell? ⟨cx, 5, none⟩ = some (.int .i64 c.backs) ∧ V.cell? ⟨cx, 6, none⟩ = some (.int .i64 c.nest) ∧ V.cell? ⟨cx, 7, none⟩ = some (.int .i64 c.tries)) := ⟨q1.cell 0, q1.cell 1, q1.cell 2, q1.cell 3, q1.cell 4, q1.cell 5, q1.cell 6, q1.cell 7⟩
  clear hV q1 hu1
  by_cases hm : May c
  · have hd : decide (May c) = true := decide_eq_true hm
    rw [hd] at HM
    by_cases h1 : room < 1
    · have g1 : decide (room < 1) = true := by simpa using h1
      have hn : ¬ (May c ∧ 1 ≤ room ∧ room ≤ 1024) := fun h => by omega
      simp only [hn, if_false]
      clear hm h1 hcx hn
      go_enter Try.func26, Try.ntmps26
      go_upto_region 1 with fail
      rw [HV.out.1, HV.out.2]
      go_wp2_with fail
      refine (HM.out _).mono ?_
      rintro e w2 ⟨rfl, hu⟩
      have HU2 := Lib.hid (HU.out.trans hu (fun _ _ h => h))
      clear hu
      go_wp2
      go_ret2
      exact ⟨rfl, HU2.out⟩
    · have g1 : decide (room < 1) = false := by simp; omega
      by_cases h2 : 1024 < room
      · have g2 : decide (1024 < room) = true := by simpa using h2
        have hn : ¬ (May c ∧ 1 ≤ room ∧ room ≤ 1024) := fun h => by omega
        simp only [hn, if_false]
        clear hm h1 h2 hcx hn
        go_enter Try.func26, Try.ntmps26
        go_upto_region 1 with fail
        rw [HV.out.1, HV.out.2]
        go_wp2_with fail
        refine (HM.out _).mono ?_
        rintro e w2 ⟨rfl, hu⟩
        have HU2 := Lib.hid (HU.out.trans hu (fun _ _ h => h))
        clear hu
        go_wp2
        go_ret2
        exact ⟨rfl, HU2.out⟩
      · have g2 : decide (1024 < room) = false := by simp; omega
        have hn : May c ∧ 1 ≤ room ∧ room ≤ 1024 := ⟨hm, by omega, by omega⟩
        simp only [hn, and_self, if_true]
        clear hm h1 h2 hcx hn
        go_enter Try.func26, Try.ntmps26
        go_upto_region 1 with fail
        rw [HV.out.1, HV.out.2]
        go_wp2_with fail
        refine (HM.out _).mono ?_
        rintro e w2 ⟨rfl, hu⟩
        have q2 := HQ.out.upd hu (fun h => h)
        obtain ⟨j0, j1, j2, j3, j4, j5, j6, j7⟩ : (w2.cell? ⟨cx, 0, none⟩ = some (.int .i64 c.cores) ∧ w2.cell? ⟨cx, 1, none⟩ = some (.int .i64 c.sets) ∧ w2.cell? ⟨cx, 2, none⟩ = some (.int .i64 c.ways) ∧ w2.cell? ⟨cx, 3, none⟩ = some (.int .i64 c.blocks) ∧ w2.cell? ⟨cx, 4, none⟩ = some (.int .i64 c.logs) ∧ w2.cell? ⟨cx, 5, none⟩ = some (.int .i64 c.backs) ∧ w2.cell? ⟨cx, 6, none⟩ = some (.int .i64 c.nest) ∧ w2.cell? ⟨cx, 7, none⟩ = some (.int .i64 c.tries)) := ⟨q2.cell 0, q2.cell 1, q2.cell 2, q2.cell 3, q2.cell 4, q2.cell 5, q2.cell 6, q2.cell 7⟩
        have HU2 := Lib.hid (HU.out.trans hu (fun _ _ h => h))
        clear hu q2
        go_wp2
        go_ret2
        have hsz := HU2.out.size
        have h0 := (Sep.start (F := fun k => w.heap.size ≤ k) (Φ := boxO w2.heap.size (RnA c room 0 none 0 0) RNT) ⟨Blk.new w2 _ _, hsz⟩).push (Upd.refl NoF _) (Φ := notesO (.slice none 0 0) []) ⟨Row.nil _ _ _, fun k hk => by simp [Value.ownBlock] at hk⟩
        have h1 := (rn_shut (ns := []) (fun n hn => by cases hn) h0.swap).fin
        refine ⟨_, rfl, HU2.out.trans (Upd.alloc NoF w2 _) (fun _ _ h => h), (Rn _ c room [] 0).mono h1.2 (fun k hk => ?_)⟩
        rcases hk with hk | hk
        · exact hk
        · rw [World.size_alloc] at hk; omega
  · have hd : decide (May c) = false := decide_eq_false hm
    rw [hd] at HM
    have hn : ¬ (May c ∧ 1 ≤ room ∧ room ≤ 1024) := fun h => hm h.1
    simp only [hn, if_false]
    clear hm hcx hn
    go_enter Try.func26, Try.ntmps26
    go_upto_region 1 with fail
    rw [HV.out.1, HV.out.2]
    go_wp2_with fail
    refine (HM.out _).mono ?_
    rintro e w2 ⟨rfl, hu⟩
    have HU2 := Lib.hid (HU.out.trans hu (fun _ _ h => h))
    clear hu
    go_wp2
    go_ret2
    exact ⟨rfl, HU2.out⟩
theorem cnt_take (node net : Int) {k : Nat} {n : Nt} (hn : ns[k]? = some n) : cntN node net (ns.take (k + 1)) = cntN node net (ns.take k) + (if isB node net n then 1 else 0) := by
  obtain ⟨h1, h2⟩ := List.getElem?_eq_some_iff.1 hn
  rw [List.take_succ_eq_append_getElem h1, h2]
  exact cnt_push node net _ n
theorem cnt_le2 (node net : Int) (l : List Nt) : 0 ≤ cntN node net l ∧ cntN node net l ≤ l.length := by
  unfold cntN
  have := List.countP_le_length (p := isB node net) (l := l)
  omega
set_option maxRecDepth 100000 in
set_option maxHeartbeats 2000000 in
theorem rroom_any (h : Sep NoF w0 W (Rn rb c room ns hops :: L)) (node net : Int) (hr : 0 ≤ room ∧ room ≤ 65536) (hl : ns.length ≤ 65536) : Calls Try.prog 29 #[ptr rb, .int .i64 node, .int .i64 net] W fun e W' =>
    e = .returned (.int .i64 (roomN c room ns node net)) ∧ Upd NoF W W' := by
  obtain ⟨a, cap, hN, hs⟩ := rn_open h
  have c0 : W.cell? ⟨rb, 0, none⟩ = some (.int .i64 c.cores) := (hs.box 0 rfl).cell 0
  have c8 : W.cell? ⟨rb, 8, none⟩ = some (.int .i64 room) := (hs.box 0 rfl).cell 8
  by_cases h1 : node < -1
  · have g1 : decide (node < -1) = true := by simpa using h1
    unfold roomN
    rw [if_pos (.inl h1)]
    clear hs h hN h1 c8
    go_enter Try.func29, Try.ntmps29
    go_wp2
    go_ret
    exact ⟨rfl, Upd.refl NoF W⟩
  · have g1 : decide (node < -1) = false := by simp; omega
    by_cases h2 : c.cores ≤ node
    · have g2 : decide (c.cores ≤ node) = true := by simpa using h2
      unfold roomN
      rw [if_pos (.inr (.inl h2))]
      clear hs h hN h1 h2 c8
      go_enter Try.func29, Try.ntmps29
      go_wp2
      go_ret
      exact ⟨rfl, Upd.refl NoF W⟩
    · have g2 : decide (c.cores ≤ node) = false := by simp; omega
      by_cases h3 : net < 0
      · have g3 : decide (net < 0) = true := by simpa using h3
        unfold roomN
        rw [if_pos (.inr (.inr (.inl h3)))]
        clear hs h hN h1 h2 h3 c8
        go_enter Try.func29, Try.ntmps29
        go_wp2
        go_ret
        exact ⟨rfl, Upd.refl NoF W⟩
      · have g3 : decide (net < 0) = false := by simp; omega
        by_cases h4 : 2 < net
        · have g4 : decide (2 < net) = true := by simpa using h4
          unfold roomN
          rw [if_pos (.inr (.inr (.inr (by omega))))]
          clear hs h hN h1 h2 h3 h4 c8
          go_enter Try.func29, Try.ntmps29
          go_wp2
          go_ret
          exact ⟨rfl, Upd.refl NoF W⟩
        · have g4 : decide (2 < net) = false := by simp; omega
          unfold roomN
          rw [if_neg (by omega)]
          have HC := Lib.hid (fun X (hX : Upd NoF W X) => (show X.cell? ⟨rb, 9, none⟩ = some (.slice a ns.length cap) from ((hs.upd0 hX).box 0 rfl).cell 9))
          have HR := Lib.hid (fun X (hX : Upd NoF W X) => s_row ((hs.upd0 hX).row 1 rfl) hN)
          clear hs h hN h1 h2 h3 h4
          go_enter Try.func29, Try.ntmps29
          go_wp2_with fail
          clear c0 c8 g1 g2 g3 g4
          go_loopw [7, 8] (fun nv iv wr => ∃ k : Nat, k ≤ ns.length ∧ nv = .int .i64 (room - cntN node net (ns.take k)) ∧ iv = .int .i64 k ∧ Hid (Upd NoF W wr)) (fun _ i _ => ns.length - (intOf i).toNat)
          case atStart => exact ⟨0, Nat.zero_le _, by simp [cntN], rfl, Lib.hid (Upd.refl NoF W)⟩
          case round =>
            obtain ⟨k, hk, rfl, rfl, HI⟩ := hrel
            obtain ⟨wo, hwo⟩ : ∃ x, x = wr := ⟨_, rfl⟩
            subst hwo
            have c9 := HC.out wo HI.out
            have hcb := cnt_le2 node net (ns.take k)
            have hcl : ((ns.take k).length : Int) ≤ 65536 := by rw [List.length_take]; omega
            by_cases hlt : k < ns.length
            · obtain ⟨n, hn⟩ : ∃ n, ns[k]? = some n := ⟨_, List.getElem?_eq_getElem hlt⟩
              obtain ⟨a', cap', he, hcap, hcm, hat⟩ := HR.out wo HI.out
              cases he
              obtain ⟨g, rfl, hrg⟩ := hat k n hn
              unfold maxLen at hcm
              have hct := cnt_take (ns := ns) node net hn
              have t2 : wo.cell? ⟨g, k * 24 + 2, none⟩ = some (.int .i64 n.too) := by
                refine hrg 2 _ ?_
                rw [Array.getElem?_toList]; exact n.get2
              have t0 : wo.cell? ⟨g, k * 24, none⟩ = some (.int .u8 n.kind) := by
                refine hrg 0 _ ?_
                rw [Array.getElem?_toList]; exact n.get0
              obtain ⟨cn, hcn⟩ : ∃ x, cntN node net (ns.take k) = x := ⟨_, rfl⟩
              rw [hcn] at hct hcb ⊢
              unfold isB at hct
              have HCT := Lib.hid hct
              clear hct hat hrg hn hcn
              have hw : IntKind.i64.wrap (room - cn - 1) = room - cn - 1 := IntWalk.i64_in _ (by omega)
              cases ht : (n.too == node)
              · have hct := HCT.out
                rw [ht] at hct
                simp only [Bool.false_and, Bool.false_eq_true, if_false, Int.add_zero] at hct
                have HCT2 := Lib.hid hct
                clear hct HCT
                go_wp2
                go_roundw
                case rel => exact ⟨k + 1, hlt, by rw [HCT2.out], by go_num, HI⟩
                case measure => simp [intOf]; omega
              · cases hk2 : (netN n.kind == net)
                · have hct := HCT.out
                  rw [ht, hk2] at hct
                  simp only [Bool.and_false, Bool.false_eq_true, if_false, Int.add_zero] at hct
                  have HCT2 := Lib.hid hct
                  clear hct HCT
                  go_wp2_with fail
                  refine (NC.rNet_any n.kind _).mono ?_
                  rintro e w3 ⟨rfl, rfl⟩
                  go_wp2
                  go_roundw
                  case rel => exact ⟨k + 1, hlt, by rw [HCT2.out], by go_num, HI⟩
                  case measure => simp [intOf]; omega
                · have hct := HCT.out
                  rw [ht, hk2] at hct
                  simp only [Bool.and_self, if_true] at hct
                  have HCT2 := Lib.hid hct
                  clear hct HCT
                  go_wp2_with fail
                  refine (NC.rNet_any n.kind _).mono ?_
                  rintro e w3 ⟨rfl, rfl⟩
                  go_wp2
                  go_roundw
                  case rel => exact ⟨k + 1, hlt, by rw [HCT2.out, ← Int.sub_sub], by go_num, HI⟩
                  case measure => simp [intOf]; omega
            · obtain rfl : k = ns.length := by omega
              rw [List.take_of_length_le (Nat.le_refl _)]
              go_wp2
              go_ret
              exact ⟨rfl, HI.out⟩
set_option maxRecDepth 100000 in
set_option maxHeartbeats 4000000 in
theorem rsend_any (h : Sep NoF w0 W (Rn rb c room ns hops :: L)) (hc : May c) (n : Nt) (hn : n.Ok) (hr : 0 ≤ room ∧ room ≤ 1024) (hI : InvT c room ns) : Calls Try.prog 27 #[ptr rb, .agg n.cells] W fun e W' =>
    e = .returned (.int .i64 (sendE c room ns n)) ∧ Sep NoF w0 W' (Rn rb c room (sendS c room ns n) hops :: L) := by
  have hlen := hI.len hc.1.2 hr
  have hs1 := h.alloc n.cells NT
  have hnN := Nt.Ok.isN hn.isU
  obtain ⟨V, hV⟩ : ∃ V, W.alloc (.cells n.cells NT) = V := ⟨_, rfl⟩
  obtain ⟨nb, hnb⟩ : ∃ x, W.heap.size = x := ⟨_, rfl⟩
  rw [hV, hnb] at hs1
  obtain ⟨a, cap, hN, hs2⟩ := rn_open (Sep.at_ hs1 1 rfl)
  have hs2 : Sep NoF w0 V (boxO rb (RnA c room hops a ns.length cap) RNT :: notesO (.slice a ns.length cap) ns :: boxO nb n.cells NT :: L) := hs2
  have HV := Lib.hid (And.intro hV hnb); have HS1 := Lib.hid hs1; have HS2 := Lib.hid hs2
  have HF := Lib.hid (fun X (hX : Upd NoF V X) => (show X.cell? ⟨rb, 0, none⟩ = some (.int .i64 c.cores) ∧ X.cell? ⟨rb, 1, none⟩ = some (.int .i64 c.sets) ∧ X.cell? ⟨rb, 2, none⟩ = some (.int .i64 c.ways) ∧ X.cell? ⟨rb, 3, none⟩ = some (.int .i64 c.blocks) ∧ X.cell? ⟨rb, 4, none⟩ = some (.int .i64 c.logs) ∧ X.cell? ⟨rb, 5, none⟩ = some (.int .i64 c.backs) ∧ X.cell? ⟨rb, 6, none⟩ = some (.int .i64 c.nest) ∧ X.cell? ⟨rb, 7, none⟩ = some (.int .i64 c.tries) ∧ (TNot.ld (.pointer (some ⟨nb, 0, none⟩))).run Try.prog X = .ok (.agg n.cells) X ∧ X.cell? ⟨nb, 0, none⟩ = some (.int .u8 n.kind) ∧ X.cell? ⟨nb, 2, none⟩ = some (.int .i64 n.too) from
    ⟨((hs2.upd0 hX).box 0 rfl).cell 0, ((hs2.upd0 hX).box 0 rfl).cell 1, ((hs2.upd0 hX).box 0 rfl).cell 2, ((hs2.upd0 hX).box 0 rfl).cell 3, ((hs2.upd0 hX).box 0 rfl).cell 4, ((hs2.upd0 hX).box 0 rfl).cell 5, ((hs2.upd0 hX).box 0 rfl).cell 6, ((hs2.upd0 hX).box 0 rfl).cell 7, TNot.ld_at hnN ((hs2.upd0 hX).box 2 rfl).whole, (((hs2.upd0 hX).box 2 rfl).cell 0).trans n.get0, (((hs2.upd0 hX).box 2 rfl).cell 2).trans n.get2⟩))
  have HFT := Lib.hid (fun w => rfits_any c n hn hc w)
  have HRM := Lib.hid (fun X (hX : Upd NoF V X) => rroom_any (Sep.at_ (hs1.upd0 hX) 1 rfl) n.too (netN n.kind) (by omega) (by omega))
  have HD := Lib.hid (Upd.drew NoF V)
  have HN := Lib.hid hn; have HNN := Lib.hid hnN; have HOK := Lib.hid hN; have HI := Lib.hid hI
  have hc16 := hc.1.2
  clear h hs1 hs2 hV hnb hN hI hnN
  cases hft : fitsN c n
  · have hse : sendE c room ns n = 2 := by unfold sendE; rw [if_pos hft]
    have hss : sendS c room ns n = ns := by unfold sendS; rw [if_neg (by rw [hse]; decide)]
    rw [hft] at HFT
    rw [hse, hss]
    clear hse hss hft
    go_enter Try.func27, Try.ntmps27
    go_upto_region 1 with fail
    rw [HV.out.1, HV.out.2]
    go_wp2_with fail
    refine wp_region_held_drew (S := (fun X => Upd NoF V X)) (by kernel_rfl) (HD.out) (fun hHeld => ?_)
    refine rgn 0 (v := ?vq22) hHeld ?yq22 ?_
    case yq22 => (intro w hSw; obtain ⟨k0, k1, k2, k3, k4, k5, k6, k7, kl, n0, n2⟩ := HF.out _ hSw; go_simp; try with_reducible rfl)
    simp only [Act.put, rn1, rn2, rn3, rn4, rn5, rn6]
    refine rgn 1 (v := ?vq23) hHeld ?yq23 ?_
    case yq23 => (intro w hSw; obtain ⟨k0, k1, k2, k3, k4, k5, k6, k7, kl, n0, n2⟩ := HF.out _ hSw; go_simp; try with_reducible rfl)
    simp only [Act.put, rn1, rn2, rn3, rn4, rn5, rn6]
    refine rgn 2 (v := ?vq24) hHeld ?yq24 ?_
    case yq24 => (intro w hSw; obtain ⟨k0, k1, k2, k3, k4, k5, k6, k7, kl, n0, n2⟩ := HF.out _ hSw; go_simp; try with_reducible rfl)
    simp only [Act.put, rn1, rn2, rn3, rn4, rn5, rn6]
    refine rgn 3 (v := ?vq25) hHeld ?yq25 ?_
    case yq25 => (intro w hSw; obtain ⟨k0, k1, k2, k3, k4, k5, k6, k7, kl, n0, n2⟩ := HF.out _ hSw; go_simp; try with_reducible rfl)
    simp only [Act.put, rn1, rn2, rn3, rn4, rn5, rn6]
    refine rgn 4 (v := ?vq26) hHeld ?yq26 ?_
    case yq26 => (intro w hSw; obtain ⟨k0, k1, k2, k3, k4, k5, k6, k7, kl, n0, n2⟩ := HF.out _ hSw; go_simp; try with_reducible rfl)
    simp only [Act.put, rn1, rn2, rn3, rn4, rn5, rn6]
    refine reg_step (i := 5) (by kernel_rfl) rfl (by kernel_rfl) (fun K hK => ?_)
    go_simp
    refine (HFT.out _).mono ?_
    rintro e w2 ⟨rfl, hu2⟩
    have HS : (fun X => Upd NoF V X) w2 := hHeld.trans hu2 (fun _ _ h => h)
    clear hu2
    go_wp2_with fail
    refine hK.out _ _ HS (fun hHeld2 => ?_)
    clear hK hHeld2 hHeld; have hHeld := HS; clear HS
    try simp only [Act.put, rn1, rn2, rn3, rn4, rn5, rn6]
    refine rgn 6 (v := .bool true) hHeld ?yq27 ?_
    case yq27 => (intro w hSw; go_simp; try with_reducible rfl)
    simp only [Act.put, rn1, rn2, rn3, rn4, rn5, rn6]
    refine wpAnyH_done (by kernel_rfl) ?_ _
    have HS9 := Lib.hid ((HS1.out.drop 0 (by simp)).upd0 hHeld)
    clear hHeld
    go_wp2
    go_ret
    exact ⟨rfl, HS9.out⟩
  · rw [hft] at HFT
    have hrf := room_fit hc16 hft room ns
    have hfew := HI.out.few n.too (netN n.kind)
    by_cases hrz : roomN c room ns n.too (netN n.kind) = 0
    · have hse : sendE c room ns n = 7 := by unfold sendE; rw [if_neg (by rw [hft]; decide), if_pos hrz]
      have hss : sendS c room ns n = ns := by unfold sendS; rw [if_neg (by rw [hse]; decide)]
      rw [hrz] at HRM
      rw [hse, hss]
      clear hse hss hft hrf hfew hrz
      go_enter Try.func27, Try.ntmps27
      go_upto_region 1 with fail
      rw [HV.out.1, HV.out.2]
      go_wp2_with fail
      refine wp_region_held_drew (S := (fun X => Upd NoF V X)) (by kernel_rfl) (HD.out) (fun hHeld => ?_)
      refine rgn 0 (v := ?vq28) hHeld ?yq28 ?_
      case yq28 => (intro w hSw; obtain ⟨k0, k1, k2, k3, k4, k5, k6, k7, kl, n0, n2⟩ := HF.out _ hSw; go_simp; try with_reducible rfl)
      simp only [Act.put, rn1, rn2, rn3, rn4, rn5, rn6]
      refine rgn 1 (v := ?vq29) hHeld ?yq29 ?_
      case yq29 => (intro w hSw; obtain ⟨k0, k1, k2, k3, k4, k5, k6, k7, kl, n0, n2⟩ := HF.out _ hSw; go_simp; try with_reducible rfl)
      simp only [Act.put, rn1, rn2, rn3, rn4, rn5, rn6]
      refine rgn 2 (v := ?vq30) hHeld ?yq30 ?_
      case yq30 => (intro w hSw; obtain ⟨k0, k1, k2, k3, k4, k5, k6, k7, kl, n0, n2⟩ := HF.out _ hSw; go_simp; try with_reducible rfl)
      simp only [Act.put, rn1, rn2, rn3, rn4, rn5, rn6]
      refine rgn 3 (v := ?vq31) hHeld ?yq31 ?_
      case yq31 => (intro w hSw; obtain ⟨k0, k1, k2, k3, k4, k5, k6, k7, kl, n0, n2⟩ := HF.out _ hSw; go_simp; try with_reducible rfl)
      simp only [Act.put, rn1, rn2, rn3, rn4, rn5, rn6]
      refine rgn 4 (v := ?vq32) hHeld ?yq32 ?_
      case yq32 => (intro w hSw; obtain ⟨k0, k1, k2, k3, k4, k5, k6, k7, kl, n0, n2⟩ := HF.out _ hSw; go_simp; try with_reducible rfl)
      simp only [Act.put, rn1, rn2, rn3, rn4, rn5, rn6]
      refine reg_step (i := 5) (by kernel_rfl) rfl (by kernel_rfl) (fun K hK => ?_)
      go_simp
      refine (HFT.out _).mono ?_
      rintro e w2 ⟨rfl, hu2⟩
      have HS : (fun X => Upd NoF V X) w2 := hHeld.trans hu2 (fun _ _ h => h)
      clear hu2
      go_wp2_with fail
      refine hK.out _ _ HS (fun hHeld2 => ?_)
      clear hK hHeld2 hHeld; have hHeld := HS; clear HS
      try simp only [Act.put, rn1, rn2, rn3, rn4, rn5, rn6]
      refine rgn 6 (v := .bool false) hHeld ?yq33 ?_
      case yq33 => (intro w hSw; go_simp; try with_reducible rfl)
      simp only [Act.put, rn1, rn2, rn3, rn4, rn5, rn6]
      refine wpAnyH_done (by kernel_rfl) ?_ _
      have HH := Lib.hid (hHeld.trans (Upd.drew NoF _) (fun _ _ h => h))
      clear hHeld
      go_wp2_with fail
      refine wp_region_held_drew (S := (fun X => Upd NoF V X)) (by kernel_rfl) (HH.out) (fun hHeld => ?_)
      obtain ⟨X0, hX0⟩ : ∃ X, w2.drew = X := ⟨_, rfl⟩
      rw [hX0] at hHeld ⊢
      clear hX0
      refine rgn 0 (v := ?vq34) hHeld ?yq34 ?_
      case yq34 => (intro w hSw; obtain ⟨k0, k1, k2, k3, k4, k5, k6, k7, kl, n0, n2⟩ := HF.out _ hSw; go_simp; try with_reducible rfl)
      simp only [Act.put, rn1, rn2, rn3, rn4, rn5, rn6]
      refine rgn 1 (v := ?vq35) hHeld ?yq35 ?_
      case yq35 => (intro w hSw; obtain ⟨k0, k1, k2, k3, k4, k5, k6, k7, kl, n0, n2⟩ := HF.out _ hSw; go_simp; try with_reducible rfl)
      simp only [Act.put, rn1, rn2, rn3, rn4, rn5, rn6]
      refine rgn 2 (v := ?vq36) hHeld ?yq36 ?_
      case yq36 => (intro w hSw; obtain ⟨k0, k1, k2, k3, k4, k5, k6, k7, kl, n0, n2⟩ := HF.out _ hSw; go_simp; try with_reducible rfl)
      simp only [Act.put, rn1, rn2, rn3, rn4, rn5, rn6]
      refine rgn 3 (v := ?vq37) hHeld ?yq37 ?_
      case yq37 => (intro w hSw; obtain ⟨k0, k1, k2, k3, k4, k5, k6, k7, kl, n0, n2⟩ := HF.out _ hSw; go_simp; try with_reducible rfl)
      simp only [Act.put, rn1, rn2, rn3, rn4, rn5, rn6]
      refine rgn 4 (v := ?vq38) hHeld ?yq38 ?_
      case yq38 => (intro w hSw; obtain ⟨k0, k1, k2, k3, k4, k5, k6, k7, kl, n0, n2⟩ := HF.out _ hSw; go_simp; try with_reducible rfl)
      simp only [Act.put, rn1, rn2, rn3, rn4, rn5, rn6]
      refine reg_step (i := 5) (by kernel_rfl) rfl (by kernel_rfl) (fun K hK => ?_)
      go_simp
      refine (NC.rNet_any n.kind _).mono ?_
      rintro e w3 ⟨rfl, rfl⟩
      have HS : (fun X => Upd NoF V X) X0 := hHeld
      go_wp2_with fail
      refine hK.out _ _ HS (fun hHeld2 => ?_)
      clear hK hHeld2 hHeld; have hHeld := HS; clear HS
      try simp only [Act.put, rn1, rn2, rn3, rn4, rn5, rn6]
      refine reg_step (i := 6) (by kernel_rfl) rfl (by kernel_rfl) (fun K hK => ?_)
      go_simp
      refine (HRM.out _ hHeld).mono ?_
      rintro e w4 ⟨rfl, hu4⟩
      have HS : (fun X => Upd NoF V X) w4 := hHeld.trans hu4 (fun _ _ h => h)
      clear hu4
      go_wp2_with fail
      refine hK.out _ _ HS (fun hHeld2 => ?_)
      clear hK hHeld2 hHeld; have hHeld := HS; clear HS
      try simp only [Act.put, rn1, rn2, rn3, rn4, rn5, rn6]
      refine rgn 7 (v := .bool true) hHeld ?yq39 ?_
      case yq39 => (intro w hSw; go_simp; try with_reducible rfl)
      simp only [Act.put, rn1, rn2, rn3, rn4, rn5, rn6]
      refine wpAnyH_done (by kernel_rfl) ?_ _
      have HS9 := Lib.hid ((HS1.out.drop 0 (by simp)).upd0 hHeld)
      clear hHeld
      go_wp2
      go_ret
      exact ⟨rfl, HS9.out⟩
    · have hse : sendE c room ns n = 0 := by unfold sendE; rw [if_neg (by rw [hft]; decide), if_neg hrz]
      have hss : sendS c room ns n = ns ++ [n] := by unfold sendS; rw [if_pos hse]
      rw [hse, hss]
      obtain ⟨rm, hrm⟩ : ∃ x, roomN c room ns n.too (netN n.kind) = x := ⟨_, rfl⟩
      rw [hrm] at HRM
      have hrb : decide (rm ≤ 0) = false := by simp; omega
      clear hse hss hft hrf hfew hrz hrm
      go_enter Try.func27, Try.ntmps27
      go_upto_region 1 with fail
      rw [HV.out.1, HV.out.2]
      go_wp2_with fail
      refine wp_region_held_drew (S := (fun X => Upd NoF V X)) (by kernel_rfl) (HD.out) (fun hHeld => ?_)
      refine rgn 0 (v := ?vq40) hHeld ?yq40 ?_
      case yq40 => (intro w hSw; obtain ⟨k0, k1, k2, k3, k4, k5, k6, k7, kl, n0, n2⟩ := HF.out _ hSw; go_simp; try with_reducible rfl)
      simp only [Act.put, rn1, rn2, rn3, rn4, rn5, rn6]
      refine rgn 1 (v := ?vq41) hHeld ?yq41 ?_
      case yq41 => (intro w hSw; obtain ⟨k0, k1, k2, k3, k4, k5, k6, k7, kl, n0, n2⟩ := HF.out _ hSw; go_simp; try with_reducible rfl)
      simp only [Act.put, rn1, rn2, rn3, rn4, rn5, rn6]
      refine rgn 2 (v := ?vq42) hHeld ?yq42 ?_
      case yq42 => (intro w hSw; obtain ⟨k0, k1, k2, k3, k4, k5, k6, k7, kl, n0, n2⟩ := HF.out _ hSw; go_simp; try with_reducible rfl)
      simp only [Act.put, rn1, rn2, rn3, rn4, rn5, rn6]
      refine rgn 3 (v := ?vq43) hHeld ?yq43 ?_
      case yq43 => (intro w hSw; obtain ⟨k0, k1, k2, k3, k4, k5, k6, k7, kl, n0, n2⟩ := HF.out _ hSw; go_simp; try with_reducible rfl)
      simp only [Act.put, rn1, rn2, rn3, rn4, rn5, rn6]
      refine rgn 4 (v := ?vq44) hHeld ?yq44 ?_
      case yq44 => (intro w hSw; obtain ⟨k0, k1, k2, k3, k4, k5, k6, k7, kl, n0, n2⟩ := HF.out _ hSw; go_simp; try with_reducible rfl)
      simp only [Act.put, rn1, rn2, rn3, rn4, rn5, rn6]
      refine reg_step (i := 5) (by kernel_rfl) rfl (by kernel_rfl) (fun K hK => ?_)
      go_simp
      refine (HFT.out _).mono ?_
      rintro e w2 ⟨rfl, hu2⟩
      have HS : (fun X => Upd NoF V X) w2 := hHeld.trans hu2 (fun _ _ h => h)
      clear hu2
      go_wp2_with fail
      refine hK.out _ _ HS (fun hHeld2 => ?_)
      clear hK hHeld2 hHeld; have hHeld := HS; clear HS
      try simp only [Act.put, rn1, rn2, rn3, rn4, rn5, rn6]
      refine rgn 6 (v := .bool false) hHeld ?yq45 ?_
      case yq45 => (intro w hSw; go_simp; try with_reducible rfl)
      simp only [Act.put, rn1, rn2, rn3, rn4, rn5, rn6]
      refine wpAnyH_done (by kernel_rfl) ?_ _
      have HH := Lib.hid (hHeld.trans (Upd.drew NoF _) (fun _ _ h => h))
      clear hHeld
      go_wp2_with fail
      refine wp_region_held_drew (S := (fun X => Upd NoF V X)) (by kernel_rfl) (HH.out) (fun hHeld => ?_)
      obtain ⟨X0, hX0⟩ : ∃ X, w2.drew = X := ⟨_, rfl⟩
      rw [hX0] at hHeld ⊢
      clear hX0
      refine rgn 0 (v := ?vq46) hHeld ?yq46 ?_
      case yq46 => (intro w hSw; obtain ⟨k0, k1, k2, k3, k4, k5, k6, k7, kl, n0, n2⟩ := HF.out _ hSw; go_simp; try with_reducible rfl)
      simp only [Act.put, rn1, rn2, rn3, rn4, rn5, rn6]
      refine rgn 1 (v := ?vq47) hHeld ?yq47 ?_
      case yq47 => (intro w hSw; obtain ⟨k0, k1, k2, k3, k4, k5, k6, k7, kl, n0, n2⟩ := HF.out _ hSw; go_simp; try with_reducible rfl)
      simp only [Act.put, rn1, rn2, rn3, rn4, rn5, rn6]
      refine rgn 2 (v := ?vq48) hHeld ?yq48 ?_
      case yq48 => (intro w hSw; obtain ⟨k0, k1, k2, k3, k4, k5, k6, k7, kl, n0, n2⟩ := HF.out _ hSw; go_simp; try with_reducible rfl)
      simp only [Act.put, rn1, rn2, rn3, rn4, rn5, rn6]
      refine rgn 3 (v := ?vq49) hHeld ?yq49 ?_
      case yq49 => (intro w hSw; obtain ⟨k0, k1, k2, k3, k4, k5, k6, k7, kl, n0, n2⟩ := HF.out _ hSw; go_simp; try with_reducible rfl)
      simp only [Act.put, rn1, rn2, rn3, rn4, rn5, rn6]
      refine rgn 4 (v := ?vq50) hHeld ?yq50 ?_
      case yq50 => (intro w hSw; obtain ⟨k0, k1, k2, k3, k4, k5, k6, k7, kl, n0, n2⟩ := HF.out _ hSw; go_simp; try with_reducible rfl)
      simp only [Act.put, rn1, rn2, rn3, rn4, rn5, rn6]
      refine reg_step (i := 5) (by kernel_rfl) rfl (by kernel_rfl) (fun K hK => ?_)
      go_simp
      refine (NC.rNet_any n.kind _).mono ?_
      rintro e w3 ⟨rfl, rfl⟩
      have HS : (fun X => Upd NoF V X) X0 := hHeld
      go_wp2_with fail
      refine hK.out _ _ HS (fun hHeld2 => ?_)
      clear hK hHeld2 hHeld; have hHeld := HS; clear HS
      try simp only [Act.put, rn1, rn2, rn3, rn4, rn5, rn6]
      refine reg_step (i := 6) (by kernel_rfl) rfl (by kernel_rfl) (fun K hK => ?_)
      go_simp
      refine (HRM.out _ hHeld).mono ?_
      rintro e w4 ⟨rfl, hu4⟩
      have HS : (fun X => Upd NoF V X) w4 := hHeld.trans hu4 (fun _ _ h => h)
      clear hu4
      go_wp2_with fail
      refine hK.out _ _ HS (fun hHeld2 => ?_)
      clear hK hHeld2 hHeld; have hHeld := HS; clear HS
      try simp only [Act.put, rn1, rn2, rn3, rn4, rn5, rn6]
      refine rgn 7 (v := .bool false) hHeld ?yq51 ?_
      case yq51 => (intro w hSw; go_simp; try with_reducible rfl)
      simp only [Act.put, rn1, rn2, rn3, rn4, rn5, rn6]
      refine wpAnyH_done (by kernel_rfl) ?_ _
      have HS5 := Lib.hid ((HS2.out.upd0 hHeld).upd0 (Upd.drew NoF w4))
      have y3 := fun w => bsN_run HNN.out.1 w
      clear hHeld HRM HFT HF
      go_wp2_with fail
      refine wp_region_held_drew (S := (fun X : World => (TNot.ld (.pointer (some ⟨nb, 0, none⟩))).run Try.prog X = .ok (.agg n.cells) X)) (by kernel_rfl) (TNot.ld_at HNN.out (HS5.out.box 2 rfl).whole) (fun hHeld => ?_)
      obtain ⟨w5, hw5⟩ : ∃ X, w4.drew = X := ⟨_, rfl⟩
      rw [hw5] at hHeld HS5 ⊢
      clear hw5
      refine rgn 0 (v := ?vq1) hHeld ?yq1 ?_
      case yq1 => (intro w hSw; (try dsimp only at hSw); have k0 := hSw; go_simp; try with_reducible rfl)
      simp only [Act.put, rn1, rn2, rn3, rn4, rn5, rn6]
      refine rgn 2 (v := ?vq2) hHeld ?yq2 ?_
      case yq2 => (intro w hSw; (try dsimp only at hSw); have k0 := hSw; go_simp; try with_reducible rfl)
      simp only [Act.put, rn1, rn2, rn3, rn4, rn5, rn6]
      refine rgn 3 (v := ?vq3) hHeld ?yq3 ?_
      case yq3 => (intro w hSw; (try dsimp only at hSw); have k0 := hSw; go_simp; try with_reducible rfl)
      simp only [Act.put, rn1, rn2, rn3, rn4, rn5, rn6]
      refine rgn 4 (v := ?vq4) hHeld ?yq4 ?_
      case yq4 => (intro w hSw; (try dsimp only at hSw); have k0 := hSw; go_simp; try with_reducible rfl)
      simp only [Act.put, rn1, rn2, rn3, rn4, rn5, rn6]
      refine rgn 7 (v := ?vq5) hHeld ?yq5 ?_
      case yq5 => (intro w hSw; (try dsimp only at hSw); have k0 := hSw; go_simp; try with_reducible rfl)
      simp only [Act.put, rn1, rn2, rn3, rn4, rn5, rn6]
      refine reg_all3 (i := 1) (j := 5) (k := 8) (by kernel_rfl) rfl rfl rfl (by kernel_rfl) (by kernel_rfl) (by kernel_rfl) (fun K hK => ?_) (fun K hK => ?_) (fun K hK => ?_)
      · go_simp
        have hs := ((HS5.out.alloc #[] NT).head (Φ' := notesO (.slice (some ⟨w5.heap.size, 0, none⟩) 0 0) []) (fun F hF => out_zero hF))
        obtain ⟨Y1, hY⟩ : ∃ Y1, w5.alloc (.cells #[] NT) = Y1 := ⟨_, rfl⟩
        obtain ⟨ge, hge⟩ : ∃ x, w5.heap.size = x := ⟨_, rfl⟩
        rw [hY, hge] at hs
        have HY1 : Hid (Sep NoF w0 Y1 (notesO (.slice (some ⟨ge, 0, none⟩) 0 0) [] :: boxO rb (RnA c room hops a ns.length cap) RNT :: notesO (.slice a ns.length cap) ns :: boxO nb n.cells NT :: L)) := Lib.hid hs
        have HS : (fun X : World => (TNot.ld (.pointer (some ⟨nb, 0, none⟩))).run Try.prog X = .ok (.agg n.cells) X) Y1 := TNot.ld_at HNN.out (HY1.out.box 3 rfl).whole
        try simp only [hY, hge]
        clear hs hY hge
        refine hK.out _ _ HS (fun hHeld2 => ?_)
        clear hK hHeld2 hHeld; have hHeld := HS; clear HS
        try simp only [Act.put, rn1, rn2, rn3, rn4, rn5, rn6]
        refine reg_two (i := 5) (j := 8) (by kernel_rfl) rfl rfl (by kernel_rfl) (by kernel_rfl) (fun K hK => ?_) (fun K hK => ?_)
        · have f11 : Y1.cell? ⟨rb, 9, none⟩ = some (.slice a ns.length cap) := (HY1.out.box 1 rfl).cell 9
          go_simp
          clear f11
          have HS : (fun X : World => (TNot.ld (.pointer (some ⟨nb, 0, none⟩))).run Try.prog X = .ok (.agg n.cells) X) Y1 := hHeld
          refine hK.out _ _ HS (fun hHeld2 => ?_)
          clear hK hHeld2 hHeld; have hHeld := HS; clear HS
          try simp only [Act.put, rn1, rn2, rn3, rn4, rn5, rn6]
          refine reg_two (i := 6) (j := 8) (by kernel_rfl) rfl rfl (by kernel_rfl) (by kernel_rfl) (fun K hK => ?_) (fun K hK => ?_)
          · obtain ⟨v6, Y3, hrun, hs⟩ := s_cat HY1.out 0 2 rfl rfl (fun m hm => (HOK.out m hm).isU) (by simp; omega)
            have HY3 : Hid (Sep NoF w0 Y3 (notesO v6 ns :: boxO rb (RnA c room hops a ns.length cap) RNT :: notesO (.slice a ns.length cap) ns :: boxO nb n.cells NT :: L)) := Lib.hid (by simpa using hs)
            refine oper_app _ _ NS rfl rfl rfl hrun ?_
            have HS : (fun X : World => (TNot.ld (.pointer (some ⟨nb, 0, none⟩))).run Try.prog X = .ok (.agg n.cells) X) Y3 := TNot.ld_at HNN.out (HY3.out.box 3 rfl).whole
            clear hs hrun
            refine hK.out _ _ HS (fun hHeld2 => ?_)
            clear hK hHeld2 hHeld; have hHeld := HS; clear HS
            try simp only [Act.put, rn1, rn2, rn3, rn4, rn5, rn6]
            refine reg_step (i := 8) (by kernel_rfl) rfl (by kernel_rfl) (fun K hK => ?_)
            go_simp
            have hs := ((HY3.out.alloc n.cells NT).head (Φ' := notesO (.slice (some ⟨Y3.heap.size, 0, none⟩) 1 1) [n]) (fun F hF => out_one HNN.out.1 hF))
            obtain ⟨Y4, hY⟩ : ∃ Y4, Y3.alloc (.cells n.cells NT) = Y4 := ⟨_, rfl⟩
            obtain ⟨gn, hgn⟩ : ∃ x, Y3.heap.size = x := ⟨_, rfl⟩
            rw [hY, hgn] at hs
            have HY4 : Hid (Sep NoF w0 Y4 (notesO (.slice (some ⟨gn, 0, none⟩) 1 1) [n] :: notesO v6 ns :: boxO rb (RnA c room hops a ns.length cap) RNT :: notesO (.slice a ns.length cap) ns :: boxO nb n.cells NT :: L)) := Lib.hid hs
            have HS : (fun X : World => (TNot.ld (.pointer (some ⟨nb, 0, none⟩))).run Try.prog X = .ok (.agg n.cells) X) Y4 := TNot.ld_at HNN.out (HY4.out.box 4 rfl).whole
            try simp only [hY, hgn]
            clear hs hY hgn
            refine hK.out _ _ HS (fun hHeld2 => ?_)
            clear hK hHeld2 hHeld; have hHeld := HS; clear HS
            try simp only [Act.put, rn1, rn2, rn3, rn4, rn5, rn6]
            refine reg_step (i := 9) (by kernel_rfl) rfl (by kernel_rfl) (fun K hK => ?_)
            obtain ⟨v9, Y5, hrun, hs⟩ := s_cat HY4.out 1 0 rfl rfl (fun m hm => by simp at hm; subst hm; exact HN.out.isU) (by simp; omega)
            obtain ⟨a9, c9, rfl, -⟩ := (hs.row 1 rfl).slice
            have HY5 : Hid (Sep NoF w0 Y5 (notesO (.slice (some ⟨gn, 0, none⟩) 1 1) [n] :: notesO (.slice a9 (ns ++ [n]).length c9) (ns ++ [n]) :: boxO rb (RnA c room hops a ns.length cap) RNT :: notesO (.slice a ns.length cap) ns :: boxO nb n.cells NT :: L)) := Lib.hid hs
            refine oper_app _ _ NS rfl rfl rfl hrun ?_
            have HS : (fun X : World => (TNot.ld (.pointer (some ⟨nb, 0, none⟩))).run Try.prog X = .ok (.agg n.cells) X) Y5 := TNot.ld_at HNN.out (HY5.out.box 4 rfl).whole
            clear hs hrun
            refine hK.out _ _ HS (fun hHeld2 => ?_)
            clear hK hHeld2 hHeld; have hHeld := HS; clear HS
            try simp only [Act.put, rn1, rn2, rn3, rn4, rn5, rn6]
            refine rgn 10 (v := ?vq6) hHeld ?yq6 ?_
            case yq6 => (intro w hSw; go_simp; try with_reducible rfl)
            simp only [Act.put, rn1, rn2, rn3, rn4, rn5, rn6]
            refine rgn 11 (v := ?vq7) hHeld ?yq7 ?_
            case yq7 => (intro w hSw; go_simp; try with_reducible rfl)
            simp only [Act.put, rn1, rn2, rn3, rn4, rn5, rn6]
            refine reg_step (i := 12) (by kernel_rfl) rfl (by kernel_rfl) (fun K hK => ?_)
            have f11 : Y5.cell? ⟨rb, 9, none⟩ = some (.slice a ns.length cap) := (HY5.out.box 2 rfl).cell 9
            have g11 := (HY5.out.box 2 rfl).frozen 9
            have hs := HY5.out.set 2 rfl 9 (.slice a9 (ns ++ [n]).length c9)
            obtain ⟨m9, hm9⟩ : ∃ x, (ns ++ [n]).length = x := ⟨_, rfl⟩
            rw [hm9] at hs ⊢
            go_simp
            obtain ⟨Z, hZ⟩ : ∃ Z, Y5.setCell ⟨rb, 9, none⟩ (.slice a9 m9 c9) = Z := ⟨_, rfl⟩
            rw [hZ] at hs
            rw [← hm9] at hs
            have hs2 := ((hs.drop 3 (by simp)).drop 0 (by simp)).swap
            have HZ : Hid (Sep NoF w0 Z (boxO rb (RnA c room hops a9 (ns ++ [n]).length c9) RNT :: notesO (.slice a9 (ns ++ [n]).length c9) (ns ++ [n]) :: boxO nb n.cells NT :: L)) := Lib.hid hs2
            have HS : (fun X : World => (TNot.ld (.pointer (some ⟨nb, 0, none⟩))).run Try.prog X = .ok (.agg n.cells) X) Z := TNot.ld_at HNN.out (HZ.out.box 2 rfl).whole
            try simp only [hZ]
            clear hs hs2 hZ f11 g11 hm9
            refine hK.out _ _ HS (fun hHeld2 => ?_)
            clear hK hHeld2 hHeld; have hHeld := HS; clear HS
            try simp only [Act.put, rn1, rn2, rn3, rn4, rn5, rn6]
            refine wpAnyH_done (by kernel_rfl) ?_ _
            clear hHeld
            go_wp2
            go_ret
            exact ⟨rfl, (rn_shut (fun m hm => by rcases List.mem_append.1 hm with h | h; exact HOK.out m h; simp at h; subst h; exact HN.out) HZ.out).drop 1 (by simp)⟩
          · go_simp
            have hs := ((HY1.out.alloc n.cells NT).head (Φ' := notesO (.slice (some ⟨Y1.heap.size, 0, none⟩) 1 1) [n]) (fun F hF => out_one HNN.out.1 hF))
            obtain ⟨Y6, hY⟩ : ∃ Y6, Y1.alloc (.cells n.cells NT) = Y6 := ⟨_, rfl⟩
            obtain ⟨gn, hgn⟩ : ∃ x, Y1.heap.size = x := ⟨_, rfl⟩
            rw [hY, hgn] at hs
            have HY6 : Hid (Sep NoF w0 Y6 (notesO (.slice (some ⟨gn, 0, none⟩) 1 1) [n] :: notesO (.slice (some ⟨ge, 0, none⟩) 0 0) [] :: boxO rb (RnA c room hops a ns.length cap) RNT :: notesO (.slice a ns.length cap) ns :: boxO nb n.cells NT :: L)) := Lib.hid hs
            have HS : (fun X : World => (TNot.ld (.pointer (some ⟨nb, 0, none⟩))).run Try.prog X = .ok (.agg n.cells) X) Y6 := TNot.ld_at HNN.out (HY6.out.box 4 rfl).whole
            try simp only [hY, hgn]
            clear hs hY hgn
            refine hK.out _ _ HS (fun hHeld2 => ?_)
            clear hK hHeld2 hHeld; have hHeld := HS; clear HS
            try simp only [Act.put, rn1, rn2, rn3, rn4, rn5, rn6]
            refine reg_step (i := 6) (by kernel_rfl) rfl (by kernel_rfl) (fun K hK => ?_)
            obtain ⟨v6, Y7, hrun, hs⟩ := s_cat HY6.out 1 3 rfl rfl (fun m hm => (HOK.out m hm).isU) (by simp; omega)
            have HY7 : Hid (Sep NoF w0 Y7 (notesO (.slice (some ⟨gn, 0, none⟩) 1 1) [n] :: notesO v6 ns :: boxO rb (RnA c room hops a ns.length cap) RNT :: notesO (.slice a ns.length cap) ns :: boxO nb n.cells NT :: L)) := Lib.hid (by simpa using hs)
            refine oper_app _ _ NS rfl rfl rfl hrun ?_
            have HS : (fun X : World => (TNot.ld (.pointer (some ⟨nb, 0, none⟩))).run Try.prog X = .ok (.agg n.cells) X) Y7 := TNot.ld_at HNN.out (HY7.out.box 4 rfl).whole
            clear hs hrun
            refine hK.out _ _ HS (fun hHeld2 => ?_)
            clear hK hHeld2 hHeld; have hHeld := HS; clear HS
            try simp only [Act.put, rn1, rn2, rn3, rn4, rn5, rn6]
            refine reg_step (i := 9) (by kernel_rfl) rfl (by kernel_rfl) (fun K hK => ?_)
            obtain ⟨v9, Y8, hrun, hs⟩ := s_cat HY7.out 1 0 rfl rfl (fun m hm => by simp at hm; subst hm; exact HN.out.isU) (by simp; omega)
            obtain ⟨a9, c9, rfl, -⟩ := (hs.row 1 rfl).slice
            have HY8 : Hid (Sep NoF w0 Y8 (notesO (.slice (some ⟨gn, 0, none⟩) 1 1) [n] :: notesO (.slice a9 (ns ++ [n]).length c9) (ns ++ [n]) :: boxO rb (RnA c room hops a ns.length cap) RNT :: notesO (.slice a ns.length cap) ns :: boxO nb n.cells NT :: L)) := Lib.hid hs
            refine oper_app _ _ NS rfl rfl rfl hrun ?_
            have HS : (fun X : World => (TNot.ld (.pointer (some ⟨nb, 0, none⟩))).run Try.prog X = .ok (.agg n.cells) X) Y8 := TNot.ld_at HNN.out (HY8.out.box 4 rfl).whole
            clear hs hrun
            refine hK.out _ _ HS (fun hHeld2 => ?_)
            clear hK hHeld2 hHeld; have hHeld := HS; clear HS
            try simp only [Act.put, rn1, rn2, rn3, rn4, rn5, rn6]
            refine rgn 10 (v := ?vq8) hHeld ?yq8 ?_
            case yq8 => (intro w hSw; go_simp; try with_reducible rfl)
            simp only [Act.put, rn1, rn2, rn3, rn4, rn5, rn6]
            refine rgn 11 (v := ?vq9) hHeld ?yq9 ?_
            case yq9 => (intro w hSw; go_simp; try with_reducible rfl)
            simp only [Act.put, rn1, rn2, rn3, rn4, rn5, rn6]
            refine reg_step (i := 12) (by kernel_rfl) rfl (by kernel_rfl) (fun K hK => ?_)
            have f11 : Y8.cell? ⟨rb, 9, none⟩ = some (.slice a ns.length cap) := (HY8.out.box 2 rfl).cell 9
            have g11 := (HY8.out.box 2 rfl).frozen 9
            have hs := HY8.out.set 2 rfl 9 (.slice a9 (ns ++ [n]).length c9)
            obtain ⟨m9, hm9⟩ : ∃ x, (ns ++ [n]).length = x := ⟨_, rfl⟩
            rw [hm9] at hs ⊢
            go_simp
            obtain ⟨Z, hZ⟩ : ∃ Z, Y8.setCell ⟨rb, 9, none⟩ (.slice a9 m9 c9) = Z := ⟨_, rfl⟩
            rw [hZ] at hs
            rw [← hm9] at hs
            have hs2 := ((hs.drop 3 (by simp)).drop 0 (by simp)).swap
            have HZ : Hid (Sep NoF w0 Z (boxO rb (RnA c room hops a9 (ns ++ [n]).length c9) RNT :: notesO (.slice a9 (ns ++ [n]).length c9) (ns ++ [n]) :: boxO nb n.cells NT :: L)) := Lib.hid hs2
            have HS : (fun X : World => (TNot.ld (.pointer (some ⟨nb, 0, none⟩))).run Try.prog X = .ok (.agg n.cells) X) Z := TNot.ld_at HNN.out (HZ.out.box 2 rfl).whole
            try simp only [hZ]
            clear hs hs2 hZ f11 g11 hm9
            refine hK.out _ _ HS (fun hHeld2 => ?_)
            clear hK hHeld2 hHeld; have hHeld := HS; clear HS
            try simp only [Act.put, rn1, rn2, rn3, rn4, rn5, rn6]
            refine wpAnyH_done (by kernel_rfl) ?_ _
            clear hHeld
            go_wp2
            go_ret
            exact ⟨rfl, (rn_shut (fun m hm => by rcases List.mem_append.1 hm with h | h; exact HOK.out m h; simp at h; subst h; exact HN.out) HZ.out).drop 1 (by simp)⟩
        · go_simp
          have hs := ((HY1.out.alloc n.cells NT).head (Φ' := notesO (.slice (some ⟨Y1.heap.size, 0, none⟩) 1 1) [n]) (fun F hF => out_one HNN.out.1 hF))
          obtain ⟨Y9, hY⟩ : ∃ Y9, Y1.alloc (.cells n.cells NT) = Y9 := ⟨_, rfl⟩
          obtain ⟨gn, hgn⟩ : ∃ x, Y1.heap.size = x := ⟨_, rfl⟩
          rw [hY, hgn] at hs
          have HY9 : Hid (Sep NoF w0 Y9 (notesO (.slice (some ⟨gn, 0, none⟩) 1 1) [n] :: notesO (.slice (some ⟨ge, 0, none⟩) 0 0) [] :: boxO rb (RnA c room hops a ns.length cap) RNT :: notesO (.slice a ns.length cap) ns :: boxO nb n.cells NT :: L)) := Lib.hid hs
          have HS : (fun X : World => (TNot.ld (.pointer (some ⟨nb, 0, none⟩))).run Try.prog X = .ok (.agg n.cells) X) Y9 := TNot.ld_at HNN.out (HY9.out.box 4 rfl).whole
          try simp only [hY, hgn]
          clear hs hY hgn
          refine hK.out _ _ HS (fun hHeld2 => ?_)
          clear hK hHeld2 hHeld; have hHeld := HS; clear HS
          try simp only [Act.put, rn1, rn2, rn3, rn4, rn5, rn6]
          refine reg_step (i := 5) (by kernel_rfl) rfl (by kernel_rfl) (fun K hK => ?_)
          have f11 : Y9.cell? ⟨rb, 9, none⟩ = some (.slice a ns.length cap) := (HY9.out.box 2 rfl).cell 9
          go_simp
          clear f11
          have HS : (fun X : World => (TNot.ld (.pointer (some ⟨nb, 0, none⟩))).run Try.prog X = .ok (.agg n.cells) X) Y9 := hHeld
          refine hK.out _ _ HS (fun hHeld2 => ?_)
          clear hK hHeld2 hHeld; have hHeld := HS; clear HS
          try simp only [Act.put, rn1, rn2, rn3, rn4, rn5, rn6]
          refine reg_step (i := 6) (by kernel_rfl) rfl (by kernel_rfl) (fun K hK => ?_)
          obtain ⟨v6, Y11, hrun, hs⟩ := s_cat HY9.out 1 3 rfl rfl (fun m hm => (HOK.out m hm).isU) (by simp; omega)
          have HY11 : Hid (Sep NoF w0 Y11 (notesO (.slice (some ⟨gn, 0, none⟩) 1 1) [n] :: notesO v6 ns :: boxO rb (RnA c room hops a ns.length cap) RNT :: notesO (.slice a ns.length cap) ns :: boxO nb n.cells NT :: L)) := Lib.hid (by simpa using hs)
          refine oper_app _ _ NS rfl rfl rfl hrun ?_
          have HS : (fun X : World => (TNot.ld (.pointer (some ⟨nb, 0, none⟩))).run Try.prog X = .ok (.agg n.cells) X) Y11 := TNot.ld_at HNN.out (HY11.out.box 4 rfl).whole
          clear hs hrun
          refine hK.out _ _ HS (fun hHeld2 => ?_)
          clear hK hHeld2 hHeld; have hHeld := HS; clear HS
          try simp only [Act.put, rn1, rn2, rn3, rn4, rn5, rn6]
          refine reg_step (i := 9) (by kernel_rfl) rfl (by kernel_rfl) (fun K hK => ?_)
          obtain ⟨v9, Y12, hrun, hs⟩ := s_cat HY11.out 1 0 rfl rfl (fun m hm => by simp at hm; subst hm; exact HN.out.isU) (by simp; omega)
          obtain ⟨a9, c9, rfl, -⟩ := (hs.row 1 rfl).slice
          have HY12 : Hid (Sep NoF w0 Y12 (notesO (.slice (some ⟨gn, 0, none⟩) 1 1) [n] :: notesO (.slice a9 (ns ++ [n]).length c9) (ns ++ [n]) :: boxO rb (RnA c room hops a ns.length cap) RNT :: notesO (.slice a ns.length cap) ns :: boxO nb n.cells NT :: L)) := Lib.hid hs
          refine oper_app _ _ NS rfl rfl rfl hrun ?_
          have HS : (fun X : World => (TNot.ld (.pointer (some ⟨nb, 0, none⟩))).run Try.prog X = .ok (.agg n.cells) X) Y12 := TNot.ld_at HNN.out (HY12.out.box 4 rfl).whole
          clear hs hrun
          refine hK.out _ _ HS (fun hHeld2 => ?_)
          clear hK hHeld2 hHeld; have hHeld := HS; clear HS
          try simp only [Act.put, rn1, rn2, rn3, rn4, rn5, rn6]
          refine rgn 10 (v := ?vq10) hHeld ?yq10 ?_
          case yq10 => (intro w hSw; go_simp; try with_reducible rfl)
          simp only [Act.put, rn1, rn2, rn3, rn4, rn5, rn6]
          refine rgn 11 (v := ?vq11) hHeld ?yq11 ?_
          case yq11 => (intro w hSw; go_simp; try with_reducible rfl)
          simp only [Act.put, rn1, rn2, rn3, rn4, rn5, rn6]
          refine reg_step (i := 12) (by kernel_rfl) rfl (by kernel_rfl) (fun K hK => ?_)
          have f11 : Y12.cell? ⟨rb, 9, none⟩ = some (.slice a ns.length cap) := (HY12.out.box 2 rfl).cell 9
          have g11 := (HY12.out.box 2 rfl).frozen 9
          have hs := HY12.out.set 2 rfl 9 (.slice a9 (ns ++ [n]).length c9)
          obtain ⟨m9, hm9⟩ : ∃ x, (ns ++ [n]).length = x := ⟨_, rfl⟩
          rw [hm9] at hs ⊢
          go_simp
          obtain ⟨Z, hZ⟩ : ∃ Z, Y12.setCell ⟨rb, 9, none⟩ (.slice a9 m9 c9) = Z := ⟨_, rfl⟩
          rw [hZ] at hs
          rw [← hm9] at hs
          have hs2 := ((hs.drop 3 (by simp)).drop 0 (by simp)).swap
          have HZ : Hid (Sep NoF w0 Z (boxO rb (RnA c room hops a9 (ns ++ [n]).length c9) RNT :: notesO (.slice a9 (ns ++ [n]).length c9) (ns ++ [n]) :: boxO nb n.cells NT :: L)) := Lib.hid hs2
          have HS : (fun X : World => (TNot.ld (.pointer (some ⟨nb, 0, none⟩))).run Try.prog X = .ok (.agg n.cells) X) Z := TNot.ld_at HNN.out (HZ.out.box 2 rfl).whole
          try simp only [hZ]
          clear hs hs2 hZ f11 g11 hm9
          refine hK.out _ _ HS (fun hHeld2 => ?_)
          clear hK hHeld2 hHeld; have hHeld := HS; clear HS
          try simp only [Act.put, rn1, rn2, rn3, rn4, rn5, rn6]
          refine wpAnyH_done (by kernel_rfl) ?_ _
          clear hHeld
          go_wp2
          go_ret
          exact ⟨rfl, (rn_shut (fun m hm => by rcases List.mem_append.1 hm with h | h; exact HOK.out m h; simp at h; subst h; exact HN.out) HZ.out).drop 1 (by simp)⟩
      · have f11 : w5.cell? ⟨rb, 9, none⟩ = some (.slice a ns.length cap) := (HS5.out.box 0 rfl).cell 9
        go_simp
        clear f11
        have HS : (fun X : World => (TNot.ld (.pointer (some ⟨nb, 0, none⟩))).run Try.prog X = .ok (.agg n.cells) X) w5 := hHeld
        refine hK.out _ _ HS (fun hHeld2 => ?_)
        clear hK hHeld2 hHeld; have hHeld := HS; clear HS
        try simp only [Act.put, rn1, rn2, rn3, rn4, rn5, rn6]
        refine reg_two (i := 1) (j := 8) (by kernel_rfl) rfl rfl (by kernel_rfl) (by kernel_rfl) (fun K hK => ?_) (fun K hK => ?_)
        · go_simp
          have hs := ((HS5.out.alloc #[] NT).head (Φ' := notesO (.slice (some ⟨w5.heap.size, 0, none⟩) 0 0) []) (fun F hF => out_zero hF))
          obtain ⟨Y14, hY⟩ : ∃ Y14, w5.alloc (.cells #[] NT) = Y14 := ⟨_, rfl⟩
          obtain ⟨ge, hge⟩ : ∃ x, w5.heap.size = x := ⟨_, rfl⟩
          rw [hY, hge] at hs
          have HY14 : Hid (Sep NoF w0 Y14 (notesO (.slice (some ⟨ge, 0, none⟩) 0 0) [] :: boxO rb (RnA c room hops a ns.length cap) RNT :: notesO (.slice a ns.length cap) ns :: boxO nb n.cells NT :: L)) := Lib.hid hs
          have HS : (fun X : World => (TNot.ld (.pointer (some ⟨nb, 0, none⟩))).run Try.prog X = .ok (.agg n.cells) X) Y14 := TNot.ld_at HNN.out (HY14.out.box 3 rfl).whole
          try simp only [hY, hge]
          clear hs hY hge
          refine hK.out _ _ HS (fun hHeld2 => ?_)
          clear hK hHeld2 hHeld; have hHeld := HS; clear HS
          try simp only [Act.put, rn1, rn2, rn3, rn4, rn5, rn6]
          refine reg_two (i := 6) (j := 8) (by kernel_rfl) rfl rfl (by kernel_rfl) (by kernel_rfl) (fun K hK => ?_) (fun K hK => ?_)
          · obtain ⟨v6, Y15, hrun, hs⟩ := s_cat HY14.out 0 2 rfl rfl (fun m hm => (HOK.out m hm).isU) (by simp; omega)
            have HY15 : Hid (Sep NoF w0 Y15 (notesO v6 ns :: boxO rb (RnA c room hops a ns.length cap) RNT :: notesO (.slice a ns.length cap) ns :: boxO nb n.cells NT :: L)) := Lib.hid (by simpa using hs)
            refine oper_app _ _ NS rfl rfl rfl hrun ?_
            have HS : (fun X : World => (TNot.ld (.pointer (some ⟨nb, 0, none⟩))).run Try.prog X = .ok (.agg n.cells) X) Y15 := TNot.ld_at HNN.out (HY15.out.box 3 rfl).whole
            clear hs hrun
            refine hK.out _ _ HS (fun hHeld2 => ?_)
            clear hK hHeld2 hHeld; have hHeld := HS; clear HS
            try simp only [Act.put, rn1, rn2, rn3, rn4, rn5, rn6]
            refine reg_step (i := 8) (by kernel_rfl) rfl (by kernel_rfl) (fun K hK => ?_)
            go_simp
            have hs := ((HY15.out.alloc n.cells NT).head (Φ' := notesO (.slice (some ⟨Y15.heap.size, 0, none⟩) 1 1) [n]) (fun F hF => out_one HNN.out.1 hF))
            obtain ⟨Y16, hY⟩ : ∃ Y16, Y15.alloc (.cells n.cells NT) = Y16 := ⟨_, rfl⟩
            obtain ⟨gn, hgn⟩ : ∃ x, Y15.heap.size = x := ⟨_, rfl⟩
            rw [hY, hgn] at hs
            have HY16 : Hid (Sep NoF w0 Y16 (notesO (.slice (some ⟨gn, 0, none⟩) 1 1) [n] :: notesO v6 ns :: boxO rb (RnA c room hops a ns.length cap) RNT :: notesO (.slice a ns.length cap) ns :: boxO nb n.cells NT :: L)) := Lib.hid hs
            have HS : (fun X : World => (TNot.ld (.pointer (some ⟨nb, 0, none⟩))).run Try.prog X = .ok (.agg n.cells) X) Y16 := TNot.ld_at HNN.out (HY16.out.box 4 rfl).whole
            try simp only [hY, hgn]
            clear hs hY hgn
            refine hK.out _ _ HS (fun hHeld2 => ?_)
            clear hK hHeld2 hHeld; have hHeld := HS; clear HS
            try simp only [Act.put, rn1, rn2, rn3, rn4, rn5, rn6]
            refine reg_step (i := 9) (by kernel_rfl) rfl (by kernel_rfl) (fun K hK => ?_)
            obtain ⟨v9, Y17, hrun, hs⟩ := s_cat HY16.out 1 0 rfl rfl (fun m hm => by simp at hm; subst hm; exact HN.out.isU) (by simp; omega)
            obtain ⟨a9, c9, rfl, -⟩ := (hs.row 1 rfl).slice
            have HY17 : Hid (Sep NoF w0 Y17 (notesO (.slice (some ⟨gn, 0, none⟩) 1 1) [n] :: notesO (.slice a9 (ns ++ [n]).length c9) (ns ++ [n]) :: boxO rb (RnA c room hops a ns.length cap) RNT :: notesO (.slice a ns.length cap) ns :: boxO nb n.cells NT :: L)) := Lib.hid hs
            refine oper_app _ _ NS rfl rfl rfl hrun ?_
            have HS : (fun X : World => (TNot.ld (.pointer (some ⟨nb, 0, none⟩))).run Try.prog X = .ok (.agg n.cells) X) Y17 := TNot.ld_at HNN.out (HY17.out.box 4 rfl).whole
            clear hs hrun
            refine hK.out _ _ HS (fun hHeld2 => ?_)
            clear hK hHeld2 hHeld; have hHeld := HS; clear HS
            try simp only [Act.put, rn1, rn2, rn3, rn4, rn5, rn6]
            refine rgn 10 (v := ?vq12) hHeld ?yq12 ?_
            case yq12 => (intro w hSw; go_simp; try with_reducible rfl)
            simp only [Act.put, rn1, rn2, rn3, rn4, rn5, rn6]
            refine rgn 11 (v := ?vq13) hHeld ?yq13 ?_
            case yq13 => (intro w hSw; go_simp; try with_reducible rfl)
            simp only [Act.put, rn1, rn2, rn3, rn4, rn5, rn6]
            refine reg_step (i := 12) (by kernel_rfl) rfl (by kernel_rfl) (fun K hK => ?_)
            have f11 : Y17.cell? ⟨rb, 9, none⟩ = some (.slice a ns.length cap) := (HY17.out.box 2 rfl).cell 9
            have g11 := (HY17.out.box 2 rfl).frozen 9
            have hs := HY17.out.set 2 rfl 9 (.slice a9 (ns ++ [n]).length c9)
            obtain ⟨m9, hm9⟩ : ∃ x, (ns ++ [n]).length = x := ⟨_, rfl⟩
            rw [hm9] at hs ⊢
            go_simp
            obtain ⟨Z, hZ⟩ : ∃ Z, Y17.setCell ⟨rb, 9, none⟩ (.slice a9 m9 c9) = Z := ⟨_, rfl⟩
            rw [hZ] at hs
            rw [← hm9] at hs
            have hs2 := ((hs.drop 3 (by simp)).drop 0 (by simp)).swap
            have HZ : Hid (Sep NoF w0 Z (boxO rb (RnA c room hops a9 (ns ++ [n]).length c9) RNT :: notesO (.slice a9 (ns ++ [n]).length c9) (ns ++ [n]) :: boxO nb n.cells NT :: L)) := Lib.hid hs2
            have HS : (fun X : World => (TNot.ld (.pointer (some ⟨nb, 0, none⟩))).run Try.prog X = .ok (.agg n.cells) X) Z := TNot.ld_at HNN.out (HZ.out.box 2 rfl).whole
            try simp only [hZ]
            clear hs hs2 hZ f11 g11 hm9
            refine hK.out _ _ HS (fun hHeld2 => ?_)
            clear hK hHeld2 hHeld; have hHeld := HS; clear HS
            try simp only [Act.put, rn1, rn2, rn3, rn4, rn5, rn6]
            refine wpAnyH_done (by kernel_rfl) ?_ _
            clear hHeld
            go_wp2
            go_ret
            exact ⟨rfl, (rn_shut (fun m hm => by rcases List.mem_append.1 hm with h | h; exact HOK.out m h; simp at h; subst h; exact HN.out) HZ.out).drop 1 (by simp)⟩
          · go_simp
            have hs := ((HY14.out.alloc n.cells NT).head (Φ' := notesO (.slice (some ⟨Y14.heap.size, 0, none⟩) 1 1) [n]) (fun F hF => out_one HNN.out.1 hF))
            obtain ⟨Y18, hY⟩ : ∃ Y18, Y14.alloc (.cells n.cells NT) = Y18 := ⟨_, rfl⟩
            obtain ⟨gn, hgn⟩ : ∃ x, Y14.heap.size = x := ⟨_, rfl⟩
            rw [hY, hgn] at hs
            have HY18 : Hid (Sep NoF w0 Y18 (notesO (.slice (some ⟨gn, 0, none⟩) 1 1) [n] :: notesO (.slice (some ⟨ge, 0, none⟩) 0 0) [] :: boxO rb (RnA c room hops a ns.length cap) RNT :: notesO (.slice a ns.length cap) ns :: boxO nb n.cells NT :: L)) := Lib.hid hs
            have HS : (fun X : World => (TNot.ld (.pointer (some ⟨nb, 0, none⟩))).run Try.prog X = .ok (.agg n.cells) X) Y18 := TNot.ld_at HNN.out (HY18.out.box 4 rfl).whole
            try simp only [hY, hgn]
            clear hs hY hgn
            refine hK.out _ _ HS (fun hHeld2 => ?_)
            clear hK hHeld2 hHeld; have hHeld := HS; clear HS
            try simp only [Act.put, rn1, rn2, rn3, rn4, rn5, rn6]
            refine reg_step (i := 6) (by kernel_rfl) rfl (by kernel_rfl) (fun K hK => ?_)
            obtain ⟨v6, Y19, hrun, hs⟩ := s_cat HY18.out 1 3 rfl rfl (fun m hm => (HOK.out m hm).isU) (by simp; omega)
            have HY19 : Hid (Sep NoF w0 Y19 (notesO (.slice (some ⟨gn, 0, none⟩) 1 1) [n] :: notesO v6 ns :: boxO rb (RnA c room hops a ns.length cap) RNT :: notesO (.slice a ns.length cap) ns :: boxO nb n.cells NT :: L)) := Lib.hid (by simpa using hs)
            refine oper_app _ _ NS rfl rfl rfl hrun ?_
            have HS : (fun X : World => (TNot.ld (.pointer (some ⟨nb, 0, none⟩))).run Try.prog X = .ok (.agg n.cells) X) Y19 := TNot.ld_at HNN.out (HY19.out.box 4 rfl).whole
            clear hs hrun
            refine hK.out _ _ HS (fun hHeld2 => ?_)
            clear hK hHeld2 hHeld; have hHeld := HS; clear HS
            try simp only [Act.put, rn1, rn2, rn3, rn4, rn5, rn6]
            refine reg_step (i := 9) (by kernel_rfl) rfl (by kernel_rfl) (fun K hK => ?_)
            obtain ⟨v9, Y20, hrun, hs⟩ := s_cat HY19.out 1 0 rfl rfl (fun m hm => by simp at hm; subst hm; exact HN.out.isU) (by simp; omega)
            obtain ⟨a9, c9, rfl, -⟩ := (hs.row 1 rfl).slice
            have HY20 : Hid (Sep NoF w0 Y20 (notesO (.slice (some ⟨gn, 0, none⟩) 1 1) [n] :: notesO (.slice a9 (ns ++ [n]).length c9) (ns ++ [n]) :: boxO rb (RnA c room hops a ns.length cap) RNT :: notesO (.slice a ns.length cap) ns :: boxO nb n.cells NT :: L)) := Lib.hid hs
            refine oper_app _ _ NS rfl rfl rfl hrun ?_
            have HS : (fun X : World => (TNot.ld (.pointer (some ⟨nb, 0, none⟩))).run Try.prog X = .ok (.agg n.cells) X) Y20 := TNot.ld_at HNN.out (HY20.out.box 4 rfl).whole
            clear hs hrun
            refine hK.out _ _ HS (fun hHeld2 => ?_)
            clear hK hHeld2 hHeld; have hHeld := HS; clear HS
            try simp only [Act.put, rn1, rn2, rn3, rn4, rn5, rn6]
            refine rgn 10 (v := ?vq14) hHeld ?yq14 ?_
            case yq14 => (intro w hSw; go_simp; try with_reducible rfl)
            simp only [Act.put, rn1, rn2, rn3, rn4, rn5, rn6]
            refine rgn 11 (v := ?vq15) hHeld ?yq15 ?_
            case yq15 => (intro w hSw; go_simp; try with_reducible rfl)
            simp only [Act.put, rn1, rn2, rn3, rn4, rn5, rn6]
            refine reg_step (i := 12) (by kernel_rfl) rfl (by kernel_rfl) (fun K hK => ?_)
            have f11 : Y20.cell? ⟨rb, 9, none⟩ = some (.slice a ns.length cap) := (HY20.out.box 2 rfl).cell 9
            have g11 := (HY20.out.box 2 rfl).frozen 9
            have hs := HY20.out.set 2 rfl 9 (.slice a9 (ns ++ [n]).length c9)
            obtain ⟨m9, hm9⟩ : ∃ x, (ns ++ [n]).length = x := ⟨_, rfl⟩
            rw [hm9] at hs ⊢
            go_simp
            obtain ⟨Z, hZ⟩ : ∃ Z, Y20.setCell ⟨rb, 9, none⟩ (.slice a9 m9 c9) = Z := ⟨_, rfl⟩
            rw [hZ] at hs
            rw [← hm9] at hs
            have hs2 := ((hs.drop 3 (by simp)).drop 0 (by simp)).swap
            have HZ : Hid (Sep NoF w0 Z (boxO rb (RnA c room hops a9 (ns ++ [n]).length c9) RNT :: notesO (.slice a9 (ns ++ [n]).length c9) (ns ++ [n]) :: boxO nb n.cells NT :: L)) := Lib.hid hs2
            have HS : (fun X : World => (TNot.ld (.pointer (some ⟨nb, 0, none⟩))).run Try.prog X = .ok (.agg n.cells) X) Z := TNot.ld_at HNN.out (HZ.out.box 2 rfl).whole
            try simp only [hZ]
            clear hs hs2 hZ f11 g11 hm9
            refine hK.out _ _ HS (fun hHeld2 => ?_)
            clear hK hHeld2 hHeld; have hHeld := HS; clear HS
            try simp only [Act.put, rn1, rn2, rn3, rn4, rn5, rn6]
            refine wpAnyH_done (by kernel_rfl) ?_ _
            clear hHeld
            go_wp2
            go_ret
            exact ⟨rfl, (rn_shut (fun m hm => by rcases List.mem_append.1 hm with h | h; exact HOK.out m h; simp at h; subst h; exact HN.out) HZ.out).drop 1 (by simp)⟩
        · go_simp
          have hs := ((HS5.out.alloc n.cells NT).head (Φ' := notesO (.slice (some ⟨w5.heap.size, 0, none⟩) 1 1) [n]) (fun F hF => out_one HNN.out.1 hF))
          obtain ⟨Y21, hY⟩ : ∃ Y21, w5.alloc (.cells n.cells NT) = Y21 := ⟨_, rfl⟩
          obtain ⟨gn, hgn⟩ : ∃ x, w5.heap.size = x := ⟨_, rfl⟩
          rw [hY, hgn] at hs
          have HY21 : Hid (Sep NoF w0 Y21 (notesO (.slice (some ⟨gn, 0, none⟩) 1 1) [n] :: boxO rb (RnA c room hops a ns.length cap) RNT :: notesO (.slice a ns.length cap) ns :: boxO nb n.cells NT :: L)) := Lib.hid hs
          have HS : (fun X : World => (TNot.ld (.pointer (some ⟨nb, 0, none⟩))).run Try.prog X = .ok (.agg n.cells) X) Y21 := TNot.ld_at HNN.out (HY21.out.box 3 rfl).whole
          try simp only [hY, hgn]
          clear hs hY hgn
          refine hK.out _ _ HS (fun hHeld2 => ?_)
          clear hK hHeld2 hHeld; have hHeld := HS; clear HS
          try simp only [Act.put, rn1, rn2, rn3, rn4, rn5, rn6]
          refine reg_step (i := 1) (by kernel_rfl) rfl (by kernel_rfl) (fun K hK => ?_)
          go_simp
          have hs := ((HY21.out.alloc #[] NT).head (Φ' := notesO (.slice (some ⟨Y21.heap.size, 0, none⟩) 0 0) []) (fun F hF => out_zero hF))
          obtain ⟨Y22, hY⟩ : ∃ Y22, Y21.alloc (.cells #[] NT) = Y22 := ⟨_, rfl⟩
          obtain ⟨ge, hge⟩ : ∃ x, Y21.heap.size = x := ⟨_, rfl⟩
          rw [hY, hge] at hs
          have HY22 : Hid (Sep NoF w0 Y22 (notesO (.slice (some ⟨ge, 0, none⟩) 0 0) [] :: notesO (.slice (some ⟨gn, 0, none⟩) 1 1) [n] :: boxO rb (RnA c room hops a ns.length cap) RNT :: notesO (.slice a ns.length cap) ns :: boxO nb n.cells NT :: L)) := Lib.hid hs
          have HS : (fun X : World => (TNot.ld (.pointer (some ⟨nb, 0, none⟩))).run Try.prog X = .ok (.agg n.cells) X) Y22 := TNot.ld_at HNN.out (HY22.out.box 4 rfl).whole
          try simp only [hY, hge]
          clear hs hY hge
          refine hK.out _ _ HS (fun hHeld2 => ?_)
          clear hK hHeld2 hHeld; have hHeld := HS; clear HS
          try simp only [Act.put, rn1, rn2, rn3, rn4, rn5, rn6]
          refine reg_step (i := 6) (by kernel_rfl) rfl (by kernel_rfl) (fun K hK => ?_)
          obtain ⟨v6, Y23, hrun, hs⟩ := s_cat HY22.out 0 3 rfl rfl (fun m hm => (HOK.out m hm).isU) (by simp; omega)
          have HY23 : Hid (Sep NoF w0 Y23 (notesO v6 ns :: notesO (.slice (some ⟨gn, 0, none⟩) 1 1) [n] :: boxO rb (RnA c room hops a ns.length cap) RNT :: notesO (.slice a ns.length cap) ns :: boxO nb n.cells NT :: L)) := Lib.hid (by simpa using hs)
          refine oper_app _ _ NS rfl rfl rfl hrun ?_
          have HS : (fun X : World => (TNot.ld (.pointer (some ⟨nb, 0, none⟩))).run Try.prog X = .ok (.agg n.cells) X) Y23 := TNot.ld_at HNN.out (HY23.out.box 4 rfl).whole
          clear hs hrun
          refine hK.out _ _ HS (fun hHeld2 => ?_)
          clear hK hHeld2 hHeld; have hHeld := HS; clear HS
          try simp only [Act.put, rn1, rn2, rn3, rn4, rn5, rn6]
          refine reg_step (i := 9) (by kernel_rfl) rfl (by kernel_rfl) (fun K hK => ?_)
          obtain ⟨v9, Y24, hrun, hs⟩ := s_cat HY23.out 0 1 rfl rfl (fun m hm => by simp at hm; subst hm; exact HN.out.isU) (by simp; omega)
          obtain ⟨a9, c9, rfl, -⟩ := (hs.row 0 rfl).slice
          have HY24 : Hid (Sep NoF w0 Y24 (notesO (.slice a9 (ns ++ [n]).length c9) (ns ++ [n]) :: notesO (.slice (some ⟨gn, 0, none⟩) 1 1) [n] :: boxO rb (RnA c room hops a ns.length cap) RNT :: notesO (.slice a ns.length cap) ns :: boxO nb n.cells NT :: L)) := Lib.hid hs
          refine oper_app _ _ NS rfl rfl rfl hrun ?_
          have HS : (fun X : World => (TNot.ld (.pointer (some ⟨nb, 0, none⟩))).run Try.prog X = .ok (.agg n.cells) X) Y24 := TNot.ld_at HNN.out (HY24.out.box 4 rfl).whole
          clear hs hrun
          refine hK.out _ _ HS (fun hHeld2 => ?_)
          clear hK hHeld2 hHeld; have hHeld := HS; clear HS
          try simp only [Act.put, rn1, rn2, rn3, rn4, rn5, rn6]
          refine rgn 10 (v := ?vq16) hHeld ?yq16 ?_
          case yq16 => (intro w hSw; go_simp; try with_reducible rfl)
          simp only [Act.put, rn1, rn2, rn3, rn4, rn5, rn6]
          refine rgn 11 (v := ?vq17) hHeld ?yq17 ?_
          case yq17 => (intro w hSw; go_simp; try with_reducible rfl)
          simp only [Act.put, rn1, rn2, rn3, rn4, rn5, rn6]
          refine reg_step (i := 12) (by kernel_rfl) rfl (by kernel_rfl) (fun K hK => ?_)
          have f11 : Y24.cell? ⟨rb, 9, none⟩ = some (.slice a ns.length cap) := (HY24.out.box 2 rfl).cell 9
          have g11 := (HY24.out.box 2 rfl).frozen 9
          have hs := HY24.out.set 2 rfl 9 (.slice a9 (ns ++ [n]).length c9)
          obtain ⟨m9, hm9⟩ : ∃ x, (ns ++ [n]).length = x := ⟨_, rfl⟩
          rw [hm9] at hs ⊢
          go_simp
          obtain ⟨Z, hZ⟩ : ∃ Z, Y24.setCell ⟨rb, 9, none⟩ (.slice a9 m9 c9) = Z := ⟨_, rfl⟩
          rw [hZ] at hs
          rw [← hm9] at hs
          have hs2 := ((hs.drop 3 (by simp)).drop 1 (by simp)).swap
          have HZ : Hid (Sep NoF w0 Z (boxO rb (RnA c room hops a9 (ns ++ [n]).length c9) RNT :: notesO (.slice a9 (ns ++ [n]).length c9) (ns ++ [n]) :: boxO nb n.cells NT :: L)) := Lib.hid hs2
          have HS : (fun X : World => (TNot.ld (.pointer (some ⟨nb, 0, none⟩))).run Try.prog X = .ok (.agg n.cells) X) Z := TNot.ld_at HNN.out (HZ.out.box 2 rfl).whole
          try simp only [hZ]
          clear hs hs2 hZ f11 g11 hm9
          refine hK.out _ _ HS (fun hHeld2 => ?_)
          clear hK hHeld2 hHeld; have hHeld := HS; clear HS
          try simp only [Act.put, rn1, rn2, rn3, rn4, rn5, rn6]
          refine wpAnyH_done (by kernel_rfl) ?_ _
          clear hHeld
          go_wp2
          go_ret
          exact ⟨rfl, (rn_shut (fun m hm => by rcases List.mem_append.1 hm with h | h; exact HOK.out m h; simp at h; subst h; exact HN.out) HZ.out).drop 1 (by simp)⟩
      · go_simp
        have hs := ((HS5.out.alloc n.cells NT).head (Φ' := notesO (.slice (some ⟨w5.heap.size, 0, none⟩) 1 1) [n]) (fun F hF => out_one HNN.out.1 hF))
        obtain ⟨Y25, hY⟩ : ∃ Y25, w5.alloc (.cells n.cells NT) = Y25 := ⟨_, rfl⟩
        obtain ⟨gn, hgn⟩ : ∃ x, w5.heap.size = x := ⟨_, rfl⟩
        rw [hY, hgn] at hs
        have HY25 : Hid (Sep NoF w0 Y25 (notesO (.slice (some ⟨gn, 0, none⟩) 1 1) [n] :: boxO rb (RnA c room hops a ns.length cap) RNT :: notesO (.slice a ns.length cap) ns :: boxO nb n.cells NT :: L)) := Lib.hid hs
        have HS : (fun X : World => (TNot.ld (.pointer (some ⟨nb, 0, none⟩))).run Try.prog X = .ok (.agg n.cells) X) Y25 := TNot.ld_at HNN.out (HY25.out.box 3 rfl).whole
        try simp only [hY, hgn]
        clear hs hY hgn
        refine hK.out _ _ HS (fun hHeld2 => ?_)
        clear hK hHeld2 hHeld; have hHeld := HS; clear HS
        try simp only [Act.put, rn1, rn2, rn3, rn4, rn5, rn6]
        refine reg_two (i := 1) (j := 5) (by kernel_rfl) rfl rfl (by kernel_rfl) (by kernel_rfl) (fun K hK => ?_) (fun K hK => ?_)
        · go_simp
          have hs := ((HY25.out.alloc #[] NT).head (Φ' := notesO (.slice (some ⟨Y25.heap.size, 0, none⟩) 0 0) []) (fun F hF => out_zero hF))
          obtain ⟨Y26, hY⟩ : ∃ Y26, Y25.alloc (.cells #[] NT) = Y26 := ⟨_, rfl⟩
          obtain ⟨ge, hge⟩ : ∃ x, Y25.heap.size = x := ⟨_, rfl⟩
          rw [hY, hge] at hs
          have HY26 : Hid (Sep NoF w0 Y26 (notesO (.slice (some ⟨ge, 0, none⟩) 0 0) [] :: notesO (.slice (some ⟨gn, 0, none⟩) 1 1) [n] :: boxO rb (RnA c room hops a ns.length cap) RNT :: notesO (.slice a ns.length cap) ns :: boxO nb n.cells NT :: L)) := Lib.hid hs
          have HS : (fun X : World => (TNot.ld (.pointer (some ⟨nb, 0, none⟩))).run Try.prog X = .ok (.agg n.cells) X) Y26 := TNot.ld_at HNN.out (HY26.out.box 4 rfl).whole
          try simp only [hY, hge]
          clear hs hY hge
          refine hK.out _ _ HS (fun hHeld2 => ?_)
          clear hK hHeld2 hHeld; have hHeld := HS; clear HS
          try simp only [Act.put, rn1, rn2, rn3, rn4, rn5, rn6]
          refine reg_step (i := 5) (by kernel_rfl) rfl (by kernel_rfl) (fun K hK => ?_)
          have f11 : Y26.cell? ⟨rb, 9, none⟩ = some (.slice a ns.length cap) := (HY26.out.box 2 rfl).cell 9
          go_simp
          clear f11
          have HS : (fun X : World => (TNot.ld (.pointer (some ⟨nb, 0, none⟩))).run Try.prog X = .ok (.agg n.cells) X) Y26 := hHeld
          refine hK.out _ _ HS (fun hHeld2 => ?_)
          clear hK hHeld2 hHeld; have hHeld := HS; clear HS
          try simp only [Act.put, rn1, rn2, rn3, rn4, rn5, rn6]
          refine reg_step (i := 6) (by kernel_rfl) rfl (by kernel_rfl) (fun K hK => ?_)
          obtain ⟨v6, Y28, hrun, hs⟩ := s_cat HY26.out 0 3 rfl rfl (fun m hm => (HOK.out m hm).isU) (by simp; omega)
          have HY28 : Hid (Sep NoF w0 Y28 (notesO v6 ns :: notesO (.slice (some ⟨gn, 0, none⟩) 1 1) [n] :: boxO rb (RnA c room hops a ns.length cap) RNT :: notesO (.slice a ns.length cap) ns :: boxO nb n.cells NT :: L)) := Lib.hid (by simpa using hs)
          refine oper_app _ _ NS rfl rfl rfl hrun ?_
          have HS : (fun X : World => (TNot.ld (.pointer (some ⟨nb, 0, none⟩))).run Try.prog X = .ok (.agg n.cells) X) Y28 := TNot.ld_at HNN.out (HY28.out.box 4 rfl).whole
          clear hs hrun
          refine hK.out _ _ HS (fun hHeld2 => ?_)
          clear hK hHeld2 hHeld; have hHeld := HS; clear HS
          try simp only [Act.put, rn1, rn2, rn3, rn4, rn5, rn6]
          refine reg_step (i := 9) (by kernel_rfl) rfl (by kernel_rfl) (fun K hK => ?_)
          obtain ⟨v9, Y29, hrun, hs⟩ := s_cat HY28.out 0 1 rfl rfl (fun m hm => by simp at hm; subst hm; exact HN.out.isU) (by simp; omega)
          obtain ⟨a9, c9, rfl, -⟩ := (hs.row 0 rfl).slice
          have HY29 : Hid (Sep NoF w0 Y29 (notesO (.slice a9 (ns ++ [n]).length c9) (ns ++ [n]) :: notesO (.slice (some ⟨gn, 0, none⟩) 1 1) [n] :: boxO rb (RnA c room hops a ns.length cap) RNT :: notesO (.slice a ns.length cap) ns :: boxO nb n.cells NT :: L)) := Lib.hid hs
          refine oper_app _ _ NS rfl rfl rfl hrun ?_
          have HS : (fun X : World => (TNot.ld (.pointer (some ⟨nb, 0, none⟩))).run Try.prog X = .ok (.agg n.cells) X) Y29 := TNot.ld_at HNN.out (HY29.out.box 4 rfl).whole
          clear hs hrun
          refine hK.out _ _ HS (fun hHeld2 => ?_)
          clear hK hHeld2 hHeld; have hHeld := HS; clear HS
          try simp only [Act.put, rn1, rn2, rn3, rn4, rn5, rn6]
          refine rgn 10 (v := ?vq18) hHeld ?yq18 ?_
          case yq18 => (intro w hSw; go_simp; try with_reducible rfl)
          simp only [Act.put, rn1, rn2, rn3, rn4, rn5, rn6]
          refine rgn 11 (v := ?vq19) hHeld ?yq19 ?_
          case yq19 => (intro w hSw; go_simp; try with_reducible rfl)
          simp only [Act.put, rn1, rn2, rn3, rn4, rn5, rn6]
          refine reg_step (i := 12) (by kernel_rfl) rfl (by kernel_rfl) (fun K hK => ?_)
          have f11 : Y29.cell? ⟨rb, 9, none⟩ = some (.slice a ns.length cap) := (HY29.out.box 2 rfl).cell 9
          have g11 := (HY29.out.box 2 rfl).frozen 9
          have hs := HY29.out.set 2 rfl 9 (.slice a9 (ns ++ [n]).length c9)
          obtain ⟨m9, hm9⟩ : ∃ x, (ns ++ [n]).length = x := ⟨_, rfl⟩
          rw [hm9] at hs ⊢
          go_simp
          obtain ⟨Z, hZ⟩ : ∃ Z, Y29.setCell ⟨rb, 9, none⟩ (.slice a9 m9 c9) = Z := ⟨_, rfl⟩
          rw [hZ] at hs
          rw [← hm9] at hs
          have hs2 := ((hs.drop 3 (by simp)).drop 1 (by simp)).swap
          have HZ : Hid (Sep NoF w0 Z (boxO rb (RnA c room hops a9 (ns ++ [n]).length c9) RNT :: notesO (.slice a9 (ns ++ [n]).length c9) (ns ++ [n]) :: boxO nb n.cells NT :: L)) := Lib.hid hs2
          have HS : (fun X : World => (TNot.ld (.pointer (some ⟨nb, 0, none⟩))).run Try.prog X = .ok (.agg n.cells) X) Z := TNot.ld_at HNN.out (HZ.out.box 2 rfl).whole
          try simp only [hZ]
          clear hs hs2 hZ f11 g11 hm9
          refine hK.out _ _ HS (fun hHeld2 => ?_)
          clear hK hHeld2 hHeld; have hHeld := HS; clear HS
          try simp only [Act.put, rn1, rn2, rn3, rn4, rn5, rn6]
          refine wpAnyH_done (by kernel_rfl) ?_ _
          clear hHeld
          go_wp2
          go_ret
          exact ⟨rfl, (rn_shut (fun m hm => by rcases List.mem_append.1 hm with h | h; exact HOK.out m h; simp at h; subst h; exact HN.out) HZ.out).drop 1 (by simp)⟩
        · have f11 : Y25.cell? ⟨rb, 9, none⟩ = some (.slice a ns.length cap) := (HY25.out.box 1 rfl).cell 9
          go_simp
          clear f11
          have HS : (fun X : World => (TNot.ld (.pointer (some ⟨nb, 0, none⟩))).run Try.prog X = .ok (.agg n.cells) X) Y25 := hHeld
          refine hK.out _ _ HS (fun hHeld2 => ?_)
          clear hK hHeld2 hHeld; have hHeld := HS; clear HS
          try simp only [Act.put, rn1, rn2, rn3, rn4, rn5, rn6]
          refine reg_step (i := 1) (by kernel_rfl) rfl (by kernel_rfl) (fun K hK => ?_)
          go_simp
          have hs := ((HY25.out.alloc #[] NT).head (Φ' := notesO (.slice (some ⟨Y25.heap.size, 0, none⟩) 0 0) []) (fun F hF => out_zero hF))
          obtain ⟨Y31, hY⟩ : ∃ Y31, Y25.alloc (.cells #[] NT) = Y31 := ⟨_, rfl⟩
          obtain ⟨ge, hge⟩ : ∃ x, Y25.heap.size = x := ⟨_, rfl⟩
          rw [hY, hge] at hs
          have HY31 : Hid (Sep NoF w0 Y31 (notesO (.slice (some ⟨ge, 0, none⟩) 0 0) [] :: notesO (.slice (some ⟨gn, 0, none⟩) 1 1) [n] :: boxO rb (RnA c room hops a ns.length cap) RNT :: notesO (.slice a ns.length cap) ns :: boxO nb n.cells NT :: L)) := Lib.hid hs
          have HS : (fun X : World => (TNot.ld (.pointer (some ⟨nb, 0, none⟩))).run Try.prog X = .ok (.agg n.cells) X) Y31 := TNot.ld_at HNN.out (HY31.out.box 4 rfl).whole
          try simp only [hY, hge]
          clear hs hY hge
          refine hK.out _ _ HS (fun hHeld2 => ?_)
          clear hK hHeld2 hHeld; have hHeld := HS; clear HS
          try simp only [Act.put, rn1, rn2, rn3, rn4, rn5, rn6]
          refine reg_step (i := 6) (by kernel_rfl) rfl (by kernel_rfl) (fun K hK => ?_)
          obtain ⟨v6, Y32, hrun, hs⟩ := s_cat HY31.out 0 3 rfl rfl (fun m hm => (HOK.out m hm).isU) (by simp; omega)
          have HY32 : Hid (Sep NoF w0 Y32 (notesO v6 ns :: notesO (.slice (some ⟨gn, 0, none⟩) 1 1) [n] :: boxO rb (RnA c room hops a ns.length cap) RNT :: notesO (.slice a ns.length cap) ns :: boxO nb n.cells NT :: L)) := Lib.hid (by simpa using hs)
          refine oper_app _ _ NS rfl rfl rfl hrun ?_
          have HS : (fun X : World => (TNot.ld (.pointer (some ⟨nb, 0, none⟩))).run Try.prog X = .ok (.agg n.cells) X) Y32 := TNot.ld_at HNN.out (HY32.out.box 4 rfl).whole
          clear hs hrun
          refine hK.out _ _ HS (fun hHeld2 => ?_)
          clear hK hHeld2 hHeld; have hHeld := HS; clear HS
          try simp only [Act.put, rn1, rn2, rn3, rn4, rn5, rn6]
          refine reg_step (i := 9) (by kernel_rfl) rfl (by kernel_rfl) (fun K hK => ?_)
          obtain ⟨v9, Y33, hrun, hs⟩ := s_cat HY32.out 0 1 rfl rfl (fun m hm => by simp at hm; subst hm; exact HN.out.isU) (by simp; omega)
          obtain ⟨a9, c9, rfl, -⟩ := (hs.row 0 rfl).slice
          have HY33 : Hid (Sep NoF w0 Y33 (notesO (.slice a9 (ns ++ [n]).length c9) (ns ++ [n]) :: notesO (.slice (some ⟨gn, 0, none⟩) 1 1) [n] :: boxO rb (RnA c room hops a ns.length cap) RNT :: notesO (.slice a ns.length cap) ns :: boxO nb n.cells NT :: L)) := Lib.hid hs
          refine oper_app _ _ NS rfl rfl rfl hrun ?_
          have HS : (fun X : World => (TNot.ld (.pointer (some ⟨nb, 0, none⟩))).run Try.prog X = .ok (.agg n.cells) X) Y33 := TNot.ld_at HNN.out (HY33.out.box 4 rfl).whole
          clear hs hrun
          refine hK.out _ _ HS (fun hHeld2 => ?_)
          clear hK hHeld2 hHeld; have hHeld := HS; clear HS
          try simp only [Act.put, rn1, rn2, rn3, rn4, rn5, rn6]
          refine rgn 10 (v := ?vq20) hHeld ?yq20 ?_
          case yq20 => (intro w hSw; go_simp; try with_reducible rfl)
          simp only [Act.put, rn1, rn2, rn3, rn4, rn5, rn6]
          refine rgn 11 (v := ?vq21) hHeld ?yq21 ?_
          case yq21 => (intro w hSw; go_simp; try with_reducible rfl)
          simp only [Act.put, rn1, rn2, rn3, rn4, rn5, rn6]
          refine reg_step (i := 12) (by kernel_rfl) rfl (by kernel_rfl) (fun K hK => ?_)
          have f11 : Y33.cell? ⟨rb, 9, none⟩ = some (.slice a ns.length cap) := (HY33.out.box 2 rfl).cell 9
          have g11 := (HY33.out.box 2 rfl).frozen 9
          have hs := HY33.out.set 2 rfl 9 (.slice a9 (ns ++ [n]).length c9)
          obtain ⟨m9, hm9⟩ : ∃ x, (ns ++ [n]).length = x := ⟨_, rfl⟩
          rw [hm9] at hs ⊢
          go_simp
          obtain ⟨Z, hZ⟩ : ∃ Z, Y33.setCell ⟨rb, 9, none⟩ (.slice a9 m9 c9) = Z := ⟨_, rfl⟩
          rw [hZ] at hs
          rw [← hm9] at hs
          have hs2 := ((hs.drop 3 (by simp)).drop 1 (by simp)).swap
          have HZ : Hid (Sep NoF w0 Z (boxO rb (RnA c room hops a9 (ns ++ [n]).length c9) RNT :: notesO (.slice a9 (ns ++ [n]).length c9) (ns ++ [n]) :: boxO nb n.cells NT :: L)) := Lib.hid hs2
          have HS : (fun X : World => (TNot.ld (.pointer (some ⟨nb, 0, none⟩))).run Try.prog X = .ok (.agg n.cells) X) Z := TNot.ld_at HNN.out (HZ.out.box 2 rfl).whole
          try simp only [hZ]
          clear hs hs2 hZ f11 g11 hm9
          refine hK.out _ _ HS (fun hHeld2 => ?_)
          clear hK hHeld2 hHeld; have hHeld := HS; clear HS
          try simp only [Act.put, rn1, rn2, rn3, rn4, rn5, rn6]
          refine wpAnyH_done (by kernel_rfl) ?_ _
          clear hHeld
          go_wp2
          go_ret
          exact ⟨rfl, (rn_shut (fun m hm => by rcases List.mem_append.1 hm with h | h; exact HOK.out m h; simp at h; subst h; exact HN.out) HZ.out).drop 1 (by simp)⟩
/-- What a build of a struct comes to. -/
theorem build_run {P : Program} {T : TypeId} {Z : Array Value} {fs : Array Field} {pl : List (Nat × Nat)} (hu : P.underlying T = some (.struct fs)) {n : Nat} (hz : (P.info? T).map (fun i => (i.zero, i.size)) = some (some (.agg Z), n))
    (hpl : ∀ w, (fs.mapM fun (f : Field) => do pure (f.offset, ← sizeOf f.type) : Sem (Array (Nat × Nat))).run P w = .ok pl.toArray w) (parts : Array (Nat × Value)) (cs : Array Value)
    (hf : Instr.fill (fun i => pl.toArray[i]?) Z parts.toList = some cs) (w : World) : (Instr.build T parts).run P w = .ok (.agg cs) w := by
  have h0 := agg_zero hz w
  unfold Instr.build
  simp only [Sem.run_bind, h0, Result.andThen_ok, run_underlying hu, hpl, Value.cells]
  rw [hf]
  rfl
set_option maxRecDepth 100000 in
theorem ntPl (w : World) : ((Try.prog.fieldsOf 37).mapM fun (f : Field) => do pure (f.offset, ← sizeOf f.type) : Sem (Array (Nat × Nat))).run Try.prog w = .ok #[(0, 1), (1, 1), (2, 1), (3, 1), (4, 1), (5, 1), (6, 1), (7, 1), (8, 16)] w := by
  have hf : (Try.prog.fieldsOf 37).toList = [{ name := "Kind", type := 5, offset := 0, embedded := false, tag := "", pkgPath := "", byteOffset := 0 },
        { name := "From", type := 3, offset := 1, embedded := false, tag := "", pkgPath := "", byteOffset := 8 },
        { name := "To", type := 3, offset := 2, embedded := false, tag := "", pkgPath := "", byteOffset := 16 },
        { name := "Block", type := 3, offset := 3, embedded := false, tag := "", pkgPath := "", byteOffset := 24 },
        { name := "Stamp", type := 31, offset := 4, embedded := false, tag := "", pkgPath := "", byteOffset := 32 },
        { name := "State", type := 32, offset := 5, embedded := false, tag := "", pkgPath := "", byteOffset := 40 },
        { name := "Has", type := 4, offset := 6, embedded := false, tag := "", pkgPath := "", byteOffset := 41 },
        { name := "Stick", type := 4, offset := 7, embedded := false, tag := "", pkgPath := "", byteOffset := 42 },
        { name := "Data", type := 35, offset := 8, embedded := false, tag := "", pkgPath := "", byteOffset := 44 }] := by kernel_rfl
  have e : Try.prog.fieldsOf 37 = (Try.prog.fieldsOf 37).toList.toArray := by simp
  rw [e, hf]
  simp [Try.sizeOf5, Try.sizeOf3, Try.sizeOf31, Try.sizeOf32, Try.sizeOf4, Try.sizeOf35]
def bdN (parts : Array (Nat × Value)) : Sem Value := Instr.build NT parts
theorem bdN_eq (parts : Array (Nat × Value)) : Instr.build NT parts = bdN parts := rfl
attribute [local go_sem ↓] bdN_eq
set_option maxRecDepth 100000 in
theorem bd_nil (w : World) : (bdN #[]).run Try.prog w = .ok (.agg TNot.Z) w :=
  build_run (pl := [(0, 1), (1, 1), (2, 1), (3, 1), (4, 1), (5, 1), (6, 1), (7, 1), (8, 16)]) Try.underlying37 TNot.infoZ ntPl _ _ rfl w
set_option maxRecDepth 100000 in
set_option maxHeartbeats 1000000 in
theorem rtake_bad (h : Sep NoF w0 W (Rn rb c room ns hops :: L)) (i : Int) (hi : i < 0 ∨ (ns.length : Int) ≤ i) : Calls Try.prog 28 #[ptr rb, .int .i64 i] W fun e W' =>
    e = .returned (.tuple #[.agg Nt.nil.cells, .int .i64 5]) ∧ Upd NoF W W' := by
  obtain ⟨a, cap, hN, hs⟩ := rn_open h
  have hs1 := hs.alloc TNot.Z NT
  have hu := Upd.alloc NoF W (.cells TNot.Z NT)
  obtain ⟨V, hV⟩ : ∃ V, W.alloc (.cells TNot.Z NT) = V := ⟨_, rfl⟩
  obtain ⟨xb, hxb⟩ : ∃ x, W.heap.size = x := ⟨_, rfl⟩
  rw [hV] at hs1 hu
  rw [hxb] at hs1
  have c9 : V.cell? ⟨rb, 9, none⟩ = some (.slice a ns.length cap) := (hs1.box 1 rfl).cell 9
  have hbn := fun w => bd_nil w
  obtain ⟨s1, q1⟩ := TNot.st_at TNot.isZ TNot.isZ (hs1.box 0 rfl)
  have HV := Lib.hid (And.intro hV hxb)
  have HLV := Lib.hid (TNot.ldV_at TNot.isZ q1.whole)
  have HUF := Lib.hid (hu.trans (upd_setCells (b := xb) TNot.Z.toList 0 _) (fun i hi h => by have : i = xb := h; omega))
  rw [Nt.nil_cells]
  clear hs hs1 hu hV hN h q1
  by_cases h1 : i < 0
  · have g1 : decide (i < 0) = true := by simpa using h1
    clear hi h1 hxb
    go_enter Try.func28, Try.ntmps28
    go_upto_region 1 with fail
    rw [HV.out.1, HV.out.2]
    go_wp2
    have hv := HLV.out
    refine bodyPost_ret (v := .tuple #[.agg TNot.Z, .int .i64 5]) ?_ ?_ ?_
    · simp [results, Try.f28, asAddr, hv]
    · rfl
    exact ⟨rfl, HUF.out⟩
  · have g1 : decide (i < 0) = false := by simp; omega
    have g2 : decide ((ns.length : Int) ≤ i) = true := by simp; omega
    clear hi h1 hxb
    go_enter Try.func28, Try.ntmps28
    go_upto_region 1 with fail
    rw [HV.out.1, HV.out.2]
    go_wp2
    have hv := HLV.out
    refine bodyPost_ret (v := .tuple #[.agg TNot.Z, .int .i64 5]) ?_ ?_ ?_
    · simp [results, Try.f28, asAddr, hv]
    · rfl
    exact ⟨rfl, HUF.out⟩
set_option maxRecDepth 100000 in
set_option maxHeartbeats 4000000 in
theorem rtake_ok (h : Sep NoF w0 W (Rn rb c room ns hops :: L)) (k : Nat) (n : Nt) (hk : ns[k]? = some n) (hm : MayN n = true) (hlen : ns.length ≤ 65536) (h0 : 0 ≤ hops) (h1 : hops ≤ 4611686018427387904) : Calls Try.prog 28 #[ptr rb, .int .i64 k] W fun e W' =>
    e = .returned (.tuple #[.agg n.cells, .int .i64 0]) ∧ Sep NoF w0 W' (Rn rb c room (ns.eraseIdx k) (hops + hopsN n.frm n.too) :: L) := by
  obtain ⟨a, cap, hN, hs⟩ := rn_open h
  have hkl : k < ns.length := (List.getElem?_eq_some_iff.1 hk).1
  have hno := hN n (List.mem_of_getElem? hk)
  have hnN := Nt.Ok.isN hno.isU
  have hhb := hopsN_le hm
  have hen := may_ends hm
  have hU : ∀ m ∈ ns, IsU m.D := fun m hm => (hN m hm).isU
  have hs1 := hs.alloc TNot.Z NT
  obtain ⟨V, hV⟩ : ∃ V, W.alloc (.cells TNot.Z NT) = V := ⟨_, rfl⟩
  obtain ⟨xb, hxb⟩ : ∃ x, W.heap.size = x := ⟨_, rfl⟩
  rw [hV, hxb] at hs1
  obtain ⟨a', cap', he, hcap, hcm, hat⟩ := s_row (hs1.row 2 rfl) hN
  cases he
  obtain ⟨g, rfl, hrg⟩ := hat k n hk
  unfold maxLen at hcm
  have c9 : V.cell? ⟨rb, 9, none⟩ = some (.slice (some ⟨g, 0, none⟩) ns.length cap) := (hs1.box 1 rfl).cell 9
  have l1 := TNot.ld_at hnN hrg
  have l2 := TNot.ld_at hnN (World.rangeAt_alloc hrg (.cells TNot.Z NT))
  have s1 := TNot.st_new hnN V
  have hs3 := hs1.alloc n.cells NT
  obtain ⟨X3, hX3⟩ : ∃ X, V.alloc (.cells n.cells NT) = X := ⟨_, rfl⟩
  obtain ⟨tb, htb⟩ : ∃ x, V.heap.size = x := ⟨_, rfl⟩
  rw [hX3, htb] at hs3
  -- [tb, xb, box, row]
  have t1 : X3.cell? ⟨tb, 1, none⟩ = some (.int .i64 n.frm) := ((hs3.box 0 rfl).cell 1).trans n.get1
  have t2 : X3.cell? ⟨tb, 2, none⟩ = some (.int .i64 n.too) := ((hs3.box 0 rfl).cell 2).trans n.get2
  have HP1 := Lib.hid (fun w => GR.rplace_any n.frm (by omega) w)
  have HP2 := Lib.hid (fun w => GR.rplace_any n.too (by omega) w)
  have HHP := Lib.hid (fun w => GR.rhops_any n.frm n.too (by omega) (by omega) w)
  have HV := Lib.hid (And.intro hV hxb); have HX3 := Lib.hid (And.intro hX3 htb); have HS3 := Lib.hid hs3; have HNN := Lib.hid hnN; have HUU := Lib.hid hU; have HOK := Lib.hid hN
  obtain ⟨hp, hhp⟩ : ∃ x, hopsN n.frm n.too = x := ⟨_, rfl⟩
  rw [hhp] at HHP hhb ⊢
  have hwh : IntKind.i64.wrap (hops + hp) = hops + hp := IntWalk.i64_in _ (by omega)
  obtain ⟨ns2, hns2⟩ : ∃ x, ns.eraseIdx k = x := ⟨_, rfl⟩
  rw [hns2]
  have HE := Lib.hid hns2
  have HOK2 := Lib.hid (show ∀ m ∈ ns2, m.Ok from fun m hm => hN m (by rw [← hns2] at hm; exact List.mem_of_mem_eraseIdx hm))
  generalize px n.frm = x1 at *
  generalize py n.frm = y1 at *
  generalize px n.too = x2 at *
  generalize py n.too = y2 at *
  have g1 : decide ((k : Int) < 0) = false := decide_eq_false (by omega)
  have g2 : decide ((ns.length : Int) ≤ (k : Int)) = false := decide_eq_false (by omega)
  have hqc : k ≤ cap := by omega
  have hq1 : k + 1 ≤ ns.length := hkl
  have hq2 : k + 1 ≤ cap := by omega
  have hb1 : (0 : Int) ≤ (k : Int) + 1 := by omega
  have hb2 : (k : Int) + 1 ≤ (ns.length : Int) := by omega
  have hwq : IntKind.i64.wrap ((k : Int) + 1) = (k : Int) + 1 := IntWalk.i64_in _ (by omega)
  obtain ⟨ad, hadr, had⟩ : ∃ ad : Addr, (if cap = k + 1 then some (⟨g, 0, none⟩ : Addr) else some ⟨g, (k + 1) * 24, none⟩) = some ad ∧ (ad = ⟨g, (k + 1) * 24, none⟩ ∨ ns.length = k + 1) := by
    by_cases e : cap = k + 1
    · exact ⟨_, if_pos e, .inr (by omega)⟩
    · exact ⟨_, if_neg e, .inl rfl⟩
  have HAD := Lib.hid had
  clear h hs hs1 hs3 hV hxb hX3 htb hN hk hno hnN hm hen hU hat hrg hhp hns2 had
  go_enter Try.func28, Try.ntmps28
  go_upto_region 1 with fail
  rw [HV.out.1, HV.out.2]
  go_upto_region 4 with fail
  rw [HX3.out.1, HX3.out.2]
  clear c9 l1 l2 s1 HX3 HV
  go_wp2_with fail
  refine (HP1.out _).mono ?_
  rintro e w4 ⟨rfl, rfl⟩
  go_wp2_with fail
  refine (HP2.out _).mono ?_
  rintro e w5 ⟨rfl, rfl⟩
  clear t1 t2 g1 g2
  have HS5 := Lib.hid (HS3.out.upd0 (Upd.drew NoF X3))
  go_wp2_with fail
  refine wp_region_held_drew (S := (fun _ : World => True)) (by kernel_rfl) (trivial) (fun hHeld => ?_)
  obtain ⟨w6, hw6⟩ : ∃ X, X3.drew = X := ⟨_, rfl⟩
  rw [hw6] at HS5 ⊢
  clear hw6
  refine rgn 0 (v := ?vq52) hHeld ?yq52 ?_
  case yq52 => (intro w hSw; go_simp; try with_reducible rfl)
  simp only [Act.put, rn1, rn2, rn3, rn4, rn5, rn6]
  refine rgn 1 (v := ?vq53) hHeld ?yq53 ?_
  case yq53 => (intro w hSw; go_simp; try with_reducible rfl)
  simp only [Act.put, rn1, rn2, rn3, rn4, rn5, rn6]
  refine rgn 2 (v := ?vq54) hHeld ?yq54 ?_
  case yq54 => (intro w hSw; go_simp; try with_reducible rfl)
  simp only [Act.put, rn1, rn2, rn3, rn4, rn5, rn6]
  refine rgn 3 (v := ?vq55) hHeld ?yq55 ?_
  case yq55 => (intro w hSw; go_simp; try with_reducible rfl)
  simp only [Act.put, rn1, rn2, rn3, rn4, rn5, rn6]
  refine rgn 5 (v := ?vq56) hHeld ?yq56 ?_
  case yq56 => (intro w hSw; go_simp; try with_reducible rfl)
  simp only [Act.put, rn1, rn2, rn3, rn4, rn5, rn6]
  refine rgn 6 (v := ?vq57) hHeld ?yq57 ?_
  case yq57 => (intro w hSw; go_simp; try with_reducible rfl)
  simp only [Act.put, rn1, rn2, rn3, rn4, rn5, rn6]
  refine rgn 7 (v := ?vq58) hHeld ?yq58 ?_
  case yq58 => (intro w hSw; go_simp; try with_reducible rfl)
  simp only [Act.put, rn1, rn2, rn3, rn4, rn5, rn6]
  refine rgn 8 (v := ?vq59) hHeld ?yq59 ?_
  case yq59 => (intro w hSw; go_simp; try with_reducible rfl)
  simp only [Act.put, rn1, rn2, rn3, rn4, rn5, rn6]
  refine reg_two (i := 4) (j := 9) (by kernel_rfl) rfl rfl (by kernel_rfl) (by kernel_rfl) (fun K hK => ?_) (fun K hK => ?_)
  · have k3 : w6.cell? ⟨rb, 10, none⟩ = some (.int .i64 hops) := (HS5.out.box 2 rfl).cell 10
    go_simp
    clear k3
    have HS : (fun _ : World => True) w6 := trivial
    refine hK.out _ _ HS (fun hHeld2 => ?_)
    clear hK hHeld2 hHeld; have hHeld := HS; clear HS
    try simp only [Act.put, rn1, rn2, rn3, rn4, rn5, rn6]
    refine reg_step (i := 9) (by kernel_rfl) rfl (by kernel_rfl) (fun K hK => ?_)
    go_simp
    refine (HHP.out _).mono ?_
    rintro e w7 ⟨rfl, rfl⟩
    have HS : (fun _ : World => True) w6 := trivial
    go_wp2_with fail
    refine hK.out _ _ HS (fun hHeld2 => ?_)
    clear hK hHeld2 hHeld; have hHeld := HS; clear HS
    try simp only [Act.put, rn1, rn2, rn3, rn4, rn5, rn6]
    refine rgn 10 (v := ?vq60) hHeld ?yq60 ?_
    case yq60 => (intro w hSw; go_simp; try with_reducible rfl)
    simp only [Act.put, rn1, rn2, rn3, rn4, rn5, rn6]
    refine rgn 11 (v := ?vq61) hHeld ?yq61 ?_
    case yq61 => (intro w hSw; go_simp; try with_reducible rfl)
    simp only [Act.put, rn1, rn2, rn3, rn4, rn5, rn6]
    refine rgn 12 (v := ?vq62) hHeld ?yq62 ?_
    case yq62 => (intro w hSw; go_simp; try with_reducible rfl)
    simp only [Act.put, rn1, rn2, rn3, rn4, rn5, rn6]
    refine reg_step (i := 13) (by kernel_rfl) rfl (by kernel_rfl) (fun K hK => ?_)
    have k3 : w6.cell? ⟨rb, 10, none⟩ = some (.int .i64 hops) := (HS5.out.box 2 rfl).cell 10
    have f3 := (HS5.out.box 2 rfl).frozen 10
    go_simp
    have HS : (fun _ : World => True) (w6.setCell ⟨rb, 10, none⟩ (.int .i64 (hops + hp))) := trivial
    clear k3 f3
    refine hK.out _ _ HS (fun hHeld2 => ?_)
    clear hK hHeld2 hHeld; have hHeld := HS; clear HS
    try simp only [Act.put, rn1, rn2, rn3, rn4, rn5, rn6]
    refine wpAnyH_done (by kernel_rfl) ?_ _
    clear hHeld
    have hs6 := HS5.out.set 2 rfl 10 (.int .i64 (hops + hp))
    obtain ⟨X8, hX8⟩ : ∃ X, w6.setCell ⟨rb, 10, none⟩ (.int .i64 (hops + hp)) = X := ⟨_, rfl⟩
    rw [hX8] at hs6 ⊢
    clear hX8
    have hs7 := hs6.push (Upd.refl NoF X8) (Φ := notesO (.slice none 0 0) []) ⟨Row.nil _ _ _, fun k hk => by simp [Value.ownBlock] at hk⟩
    have hs7 : Sep NoF w0 X8 (notesO (.slice none 0 0) [] :: boxO tb n.cells NT :: boxO xb TNot.Z NT :: boxO rb (RnA c room (hops + hp) (some ⟨g, 0, none⟩) ns.length cap) RNT :: notesO (.slice (some ⟨g, 0, none⟩) ns.length cap) ns :: L) := hs7
    obtain ⟨v9, X9, hr1, hs9⟩ := s_catr hs7 0 rfl (⟨g, 0, none⟩ : Addr) k cap (ms := ns.take k) (by rw [List.length_take]; omega) (fun m hm => HUU.out m (List.mem_of_mem_take hm)) (by simp; omega) (row_front (hs7.row 4 rfl) k)
    obtain ⟨v10, X10, hr2, hs10⟩ := s_catr hs9 0 rfl ad (ns.length - (k + 1)) (cap - (k + 1)) (ms := ns.drop (k + 1)) (by rw [List.length_drop]) (fun m hm => HUU.out m (List.mem_of_mem_drop hm)) (by simp; omega) (row_back (hs9.row 4 rfl) HUU.out hq1 HAD.out)
    have hs10 : Sep NoF w0 X10 (notesO v10 ns2 :: boxO tb n.cells NT :: boxO xb TNot.Z NT :: boxO rb (RnA c room (hops + hp) (some ⟨g, 0, none⟩) ns.length cap) RNT :: notesO (.slice (some ⟨g, 0, none⟩) ns.length cap) ns :: L) := by
      rw [← HE.out, List.eraseIdx_eq_take_drop_succ]; exact hs10
    obtain ⟨a8, c8, rfl, -⟩ := (hs10.row 0 rfl).slice
    have d9 : X8.cell? ⟨rb, 9, none⟩ = some (.slice (some ⟨g, 0, none⟩) ns.length cap) := (hs7.box 3 rfl).cell 9
    have e9 : X9.cell? ⟨rb, 9, none⟩ = some (.slice (some ⟨g, 0, none⟩) ns.length cap) := (hs9.box 3 rfl).cell 9
    have f9 : X10.cell? ⟨rb, 9, none⟩ = some (.slice (some ⟨g, 0, none⟩) ns.length cap) := (hs10.box 3 rfl).cell 9
    have z9 := (hs10.box 3 rfl).frozen 9
    have hs11 := hs10.set 3 rfl 9 (.slice a8 ns2.length c8)
    obtain ⟨X11, hX11⟩ : ∃ X, X10.setCell ⟨rb, 9, none⟩ (.slice a8 ns2.length c8) = X := ⟨_, rfl⟩
    rw [hX11] at hs11
    have l11 := TNot.ld_at HNN.out (hs11.box 1 rfl).whole
    obtain ⟨s12, q12⟩ := TNot.st_at TNot.isZ HNN.out (hs11.box 2 rfl)
    have hs12 := hs11.setMG 2 rfl 0 n.cells.toList
    have HR1 := Lib.hid hr1; have HR2 := Lib.hid hr2; have HX11 := Lib.hid hX11
    have HLV := Lib.hid (TNot.ldV_at HNN.out q12.whole)
    have hs13 : Sep NoF w0 (X11.setCells xb 0 n.cells.toList) (boxO rb (RnA c room (hops + hp) a8 ns2.length c8) RNT :: notesO (.slice a8 ns2.length c8) ns2 :: L) := (((hs12.drop 4 (by simp)).drop 2 (by simp)).drop 1 (by simp)).swap
    have HS13 := Lib.hid (rn_shut HOK2.out hs13)
    clear hs6 hs7 hs9 hs10 hs11 hs12 hs13 hr1 hr2 hX11 q12 HS5 HS3 HHP HP1 HP2
    go_upto_region 10 with (first | (at_builtin; refine wpList_append_run (w := X8) rfl _ _ NS rfl rfl rfl HR1.out ?_) | (at_builtin; refine wpList_append_run (w := X9) rfl _ _ NS rfl rfl rfl HR2.out ?_))
    rw [HX11.out]
    clear d9 e9 f9 z9 HX11 HR1 HR2
    go_wp2
    have hv := HLV.out
    refine bodyPost_ret (v := .tuple #[.agg n.cells, .int .i64 0]) ?_ ?_ ?_
    · simp [results, Try.f28, asAddr, hv]
    · rfl
    exact ⟨rfl, HS13.out⟩
  · go_simp
    refine (HHP.out _).mono ?_
    rintro e w7 ⟨rfl, rfl⟩
    have HS : (fun _ : World => True) w6 := trivial
    go_wp2_with fail
    refine hK.out _ _ HS (fun hHeld2 => ?_)
    clear hK hHeld2 hHeld; have hHeld := HS; clear HS
    try simp only [Act.put, rn1, rn2, rn3, rn4, rn5, rn6]
    refine reg_step (i := 4) (by kernel_rfl) rfl (by kernel_rfl) (fun K hK => ?_)
    have k3 : w6.cell? ⟨rb, 10, none⟩ = some (.int .i64 hops) := (HS5.out.box 2 rfl).cell 10
    go_simp
    clear k3
    have HS : (fun _ : World => True) w6 := trivial
    refine hK.out _ _ HS (fun hHeld2 => ?_)
    clear hK hHeld2 hHeld; have hHeld := HS; clear HS
    try simp only [Act.put, rn1, rn2, rn3, rn4, rn5, rn6]
    refine rgn 10 (v := ?vq63) hHeld ?yq63 ?_
    case yq63 => (intro w hSw; go_simp; try with_reducible rfl)
    simp only [Act.put, rn1, rn2, rn3, rn4, rn5, rn6]
    refine rgn 11 (v := ?vq64) hHeld ?yq64 ?_
    case yq64 => (intro w hSw; go_simp; try with_reducible rfl)
    simp only [Act.put, rn1, rn2, rn3, rn4, rn5, rn6]
    refine rgn 12 (v := ?vq65) hHeld ?yq65 ?_
    case yq65 => (intro w hSw; go_simp; try with_reducible rfl)
    simp only [Act.put, rn1, rn2, rn3, rn4, rn5, rn6]
    refine reg_step (i := 13) (by kernel_rfl) rfl (by kernel_rfl) (fun K hK => ?_)
    have k3 : w6.cell? ⟨rb, 10, none⟩ = some (.int .i64 hops) := (HS5.out.box 2 rfl).cell 10
    have f3 := (HS5.out.box 2 rfl).frozen 10
    go_simp
    have HS : (fun _ : World => True) (w6.setCell ⟨rb, 10, none⟩ (.int .i64 (hops + hp))) := trivial
    clear k3 f3
    refine hK.out _ _ HS (fun hHeld2 => ?_)
    clear hK hHeld2 hHeld; have hHeld := HS; clear HS
    try simp only [Act.put, rn1, rn2, rn3, rn4, rn5, rn6]
    refine wpAnyH_done (by kernel_rfl) ?_ _
    clear hHeld
    have hs6 := HS5.out.set 2 rfl 10 (.int .i64 (hops + hp))
    obtain ⟨X8, hX8⟩ : ∃ X, w6.setCell ⟨rb, 10, none⟩ (.int .i64 (hops + hp)) = X := ⟨_, rfl⟩
    rw [hX8] at hs6 ⊢
    clear hX8
    have hs7 := hs6.push (Upd.refl NoF X8) (Φ := notesO (.slice none 0 0) []) ⟨Row.nil _ _ _, fun k hk => by simp [Value.ownBlock] at hk⟩
    have hs7 : Sep NoF w0 X8 (notesO (.slice none 0 0) [] :: boxO tb n.cells NT :: boxO xb TNot.Z NT :: boxO rb (RnA c room (hops + hp) (some ⟨g, 0, none⟩) ns.length cap) RNT :: notesO (.slice (some ⟨g, 0, none⟩) ns.length cap) ns :: L) := hs7
    obtain ⟨v9, X9, hr1, hs9⟩ := s_catr hs7 0 rfl (⟨g, 0, none⟩ : Addr) k cap (ms := ns.take k) (by rw [List.length_take]; omega) (fun m hm => HUU.out m (List.mem_of_mem_take hm)) (by simp; omega) (row_front (hs7.row 4 rfl) k)
    obtain ⟨v10, X10, hr2, hs10⟩ := s_catr hs9 0 rfl ad (ns.length - (k + 1)) (cap - (k + 1)) (ms := ns.drop (k + 1)) (by rw [List.length_drop]) (fun m hm => HUU.out m (List.mem_of_mem_drop hm)) (by simp; omega) (row_back (hs9.row 4 rfl) HUU.out hq1 HAD.out)
    have hs10 : Sep NoF w0 X10 (notesO v10 ns2 :: boxO tb n.cells NT :: boxO xb TNot.Z NT :: boxO rb (RnA c room (hops + hp) (some ⟨g, 0, none⟩) ns.length cap) RNT :: notesO (.slice (some ⟨g, 0, none⟩) ns.length cap) ns :: L) := by
      rw [← HE.out, List.eraseIdx_eq_take_drop_succ]; exact hs10
    obtain ⟨a8, c8, rfl, -⟩ := (hs10.row 0 rfl).slice
    have d9 : X8.cell? ⟨rb, 9, none⟩ = some (.slice (some ⟨g, 0, none⟩) ns.length cap) := (hs7.box 3 rfl).cell 9
    have e9 : X9.cell? ⟨rb, 9, none⟩ = some (.slice (some ⟨g, 0, none⟩) ns.length cap) := (hs9.box 3 rfl).cell 9
    have f9 : X10.cell? ⟨rb, 9, none⟩ = some (.slice (some ⟨g, 0, none⟩) ns.length cap) := (hs10.box 3 rfl).cell 9
    have z9 := (hs10.box 3 rfl).frozen 9
    have hs11 := hs10.set 3 rfl 9 (.slice a8 ns2.length c8)
    obtain ⟨X11, hX11⟩ : ∃ X, X10.setCell ⟨rb, 9, none⟩ (.slice a8 ns2.length c8) = X := ⟨_, rfl⟩
    rw [hX11] at hs11
    have l11 := TNot.ld_at HNN.out (hs11.box 1 rfl).whole
    obtain ⟨s12, q12⟩ := TNot.st_at TNot.isZ HNN.out (hs11.box 2 rfl)
    have hs12 := hs11.setMG 2 rfl 0 n.cells.toList
    have HR1 := Lib.hid hr1; have HR2 := Lib.hid hr2; have HX11 := Lib.hid hX11
    have HLV := Lib.hid (TNot.ldV_at HNN.out q12.whole)
    have hs13 : Sep NoF w0 (X11.setCells xb 0 n.cells.toList) (boxO rb (RnA c room (hops + hp) a8 ns2.length c8) RNT :: notesO (.slice a8 ns2.length c8) ns2 :: L) := (((hs12.drop 4 (by simp)).drop 2 (by simp)).drop 1 (by simp)).swap
    have HS13 := Lib.hid (rn_shut HOK2.out hs13)
    clear hs6 hs7 hs9 hs10 hs11 hs12 hs13 hr1 hr2 hX11 q12 HS5 HS3 HHP HP1 HP2
    go_upto_region 10 with (first | (at_builtin; refine wpList_append_run (w := X8) rfl _ _ NS rfl rfl rfl HR1.out ?_) | (at_builtin; refine wpList_append_run (w := X9) rfl _ _ NS rfl rfl rfl HR2.out ?_))
    rw [HX11.out]
    clear d9 e9 f9 z9 HX11 HR1 HR2
    go_wp2
    have hv := HLV.out
    refine bodyPost_ret (v := .tuple #[.agg n.cells, .int .i64 0]) ?_ ?_ ?_
    · simp [results, Try.f28, asAddr, hv]
    · rfl
    exact ⟨rfl, HS13.out⟩
end
end Go.Proofs.Ytmfhbobjambgaaa.NE
