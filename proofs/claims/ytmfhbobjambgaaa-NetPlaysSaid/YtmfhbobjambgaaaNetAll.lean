/- The contracts of package net: All, and what slices.Collect makes of it. -/
import Derived.Test.YtmfhbobjambgaaaNetOrderW
import Derived.Test.YtmfhbobjambgaaaRangeB
set_option linter.unusedSimpArgs false
set_option linter.unusedVariables false
namespace Go.Proofs.Ytmfhbobjambgaaa.NE
open Go.RowKit
open BU (IsU words)
open PL (Cfg CC CV May)
attribute [local go_sem] Oper.semAt_some
attribute [local go_sem ↓] eqN_eq neN_eq eqB_eq neB_eq TNot.ld_eq TNot.st_eq TNot.al_eq TNot.bx_eq
attribute [local go_sem] TNot.al_run TNot.bx_run
theorem run_store_fn' {P : Program} {w : World} {a : Addr} {m : Mode} (fn : Fn) (x y : Array Value) : (store a (.func fn x y) m).run P w = stored P w a (.func fn x y) m := run_store P w a _ m rfl
attribute [local go_sem] run_store_fn'
theorem nall_any (tb : Nat) (w : World) : Calls Try.prog 24 #[ptr tb] w fun e w' => e = .returned (.func (.func 45) #[] #[ptr w.heap.size]) ∧ w.alloc (.cells #[ptr tb] 27) = w' := by
  go_enter Try.func24, Try.ntmps24
  go_wp2
  go_ret
  exact ⟨rfl, rfl⟩
set_option maxRecDepth 100000 in
set_option maxHeartbeats 2000000 in
theorem all1_seq (B tb : Nat) (c : Cfg) (room : Int) (ns : List Nt) (hops : Int) (F K : Nat → Prop) (w : World) (hFK : ∀ k, F k → ¬ K k) (hK : ∀ k, K k → k < w.heap.size)
    (hB0 : w.cell? ⟨B, 0, none⟩ = some (ptr tb)) (h : (To tb c room ns hops).is w F) :
    SeqB Try.prog 45 #[ptr B] (fun n : Nt => #[.agg n.cells]) ns K w := by
  intro l W hW
  refine ⟨W.heap.size + 2, by omega, fun J Jx hJk hXk hY h0 => ?_⟩
  have hWs := hW.size
  have cB0 := hW.cell hB0 (fun h => h)
  obtain ⟨F1, hT1, hF1⟩ := (To tb c room ns hops).tight ((To tb c room ns hops).keep h (hW.kept (fun _ _ _ h => h)))
  obtain ⟨p, F2, hN, hb, _, hF2, _, hp⟩ := open_to hT1
  obtain ⟨V, hV⟩ : ∃ V, W.alloc (.cells #[.func (.yield l) #[] #[]] 75) = V := ⟨_, rfl⟩
  have qY := Blk.new W #[.func (.yield l) #[] #[]] 75
  have hu := Upd.alloc NoF W (.cells #[.func (.yield l) #[] #[]] 75)
  have hsV : V.heap.size = W.heap.size + 1 := by rw [← hV]; simp
  rw [hV] at qY hu
  have cB := hu.cell cB0 (fun h => h)
  have tb9 : V.cell? ⟨tb, 9, none⟩ = some (ptr p) := (hb.upd hu (fun h => h)).cell 9
  have bB := Blk.new V #[ptr p] 70
  have hu2 := Upd.alloc NoF V (.cells #[ptr p] 70)
  rw [hsV] at bB
  have qY2 := qY.upd hu2 (fun h => h)
  have hp2 := ((PN.Po (ptr p) (ns.map Nt.cells) 52224).keep hp ((hu.trans hu2 (fun _ _ h => h)).kept (fun _ _ _ h => h)))
  have hb2 : Bk W.heap.size NoF W (V.alloc (.cells #[ptr p] 70)) := Bk.of_upd (hu.trans hu2 (fun _ _ h => h))
  have h2 := hJk 0 _ _ h0 hb2
  have HN := Lib.hid hN; have HY := Lib.hid hY; have HJk := Lib.hid hJk; have HXk := Lib.hid hXk; have HV := Lib.hid hV
  have HFK : Hid (∀ k, F2 k → ¬ K k ∧ k < W.heap.size) := Lib.hid (fun k hk => ⟨fun hk2 => by
    have := hF1 k (hF2 k hk)
    exact hFK k this.1 hk2, (hF1 k (hF2 k hk)).2⟩)
  have HK : Hid (∀ k, K k → k < W.heap.size) := Lib.hid (fun k hk => Nat.lt_of_lt_of_le (hK k hk) hWs)
  clear hN hY hJk hXk hV hFK hK hF1 hF2 hT1 h hB0 h0 cB0 hb qY hu hu2 hp hW hb2
  refine callsIn_wide.2 (calls_of_wp_marks Try.func45 rfl ?_)
  simp only [Try.ntmps45, List.size_toArray, List.length_cons, List.length_nil, Nat.reduceAdd, Nat.reduceSub, Array.replicate_succ, Array.replicate_zero, List.push_toArray, List.append_toArray, List.nil_append, List.cons_append]
  go_upto_region 1 with fail
  rw [HV.out]
  go_wp2_with fail
  refine (PN.all_any _ _).mono ?_
  rintro e w' ⟨rfl, rfl⟩
  go_wp2_with fail
  obtain ⟨U0, hU0⟩ : ∃ U0, V.alloc (.cells #[ptr p] 70) = U0 := ⟨_, rfl⟩
  have hsU : U0.heap.size = W.heap.size + 2 := by rw [← hU0]; simp [hsV]
  rw [hU0] at bB qY2 hp2 h2
  rw [hU0]
  clear hU0 cB tb9 hsV HV
  refine wp_rangeB (gf := 55) (lb := #[ptr (W.heap.size + 1)]) rfl (enters_of Try.func55 (by kernel_rfl) rfl)
    ((PN.all_seq (W.heap.size + 1) p (ns.map Nt.cells) 52224 F2 (fun i => K i ∨ W.heap.size + 2 ≤ i) (fun k hk hk2 => by have := HFK.out k hk; rcases hk2 with h | h; exact this.1 h; omega) (fun h => by rcases h with h | h; have := HK.out _ h; omega; omega) U0 (bB.cell 0) hp2 (fun k hk => .inr (by omega))).b (K0 := fun i => K i ∨ W.heap.size + 2 ≤ i) (fun _ h => h) (fun k hk => .inr (by omega)))
    (fun _ => rfl)
    (fun _ k X => J k X ∧ Blk X W.heap.size #[.func (.yield l) #[] #[]] 75 ∧ W.heap.size + 2 ≤ X.heap.size)
    (fun _ cc k X => cc = .ret ∧ Jx k X)
    (fun _ k A B hs hb => ⟨HJk.out k A B hs.1 (hb.anti (by omega)), hs.2.1.bk hb (fun h => h), Nat.le_trans hs.2.2 hb.size⟩)
    (fun _ cc k A B hs hb => ⟨hs.1, HXk.out k A B hs.2 (hb.anti (by omega))⟩)
    (fun _ _ => ⟨h2, qY2, by omega⟩) ?round ?done ?stop
  case round =>
    intro lp nn k x hnn hx U K' hK'
    rw [idxs_get, Option.map_eq_some_iff] at hx
    obtain ⟨z, hz, rfl⟩ := hx
    rw [List.getElem?_map, Option.map_eq_some_iff] at hz
    obtain ⟨n, hn, rfl⟩ := hz
    have hno := (HN.out n (List.mem_of_getElem? hn)).isU
    have s1 := TNot.st_new (Nt.Ok.isN hno) U
    have HK' := Lib.hid hK'
    have HNo := Lib.hid hno; have Hn := Lib.hid hn
    clear hK' hno hn
    gi_wp2
    refine HK'.out _ _ (Upd.alloc NoF U _) ?_
    rintro X ⟨hj, r0, hsX⟩ hnX hbk
    have q10 := (Blk.new U n.cells 37).bk hbk (fun h => h)
    have l10 := TNot.ld_at (Nt.Ok.isN HNo.out) q10.whole
    have c0 : X.cell? ⟨W.heap.size, 0, none⟩ = some (.func (.yield l) #[] #[]) := r0.cell 0
    obtain ⟨fn, tmps, assign, body, hy, hR⟩ := HY.out k n X hj hsX Hn.out
    have HR := Lib.hid hR
    have HR0 := Lib.hid r0
    clear hR s1 q10 hj r0 hbk
    gi_wp2
    refine (RoundIn.inner lp HR.out).mono ?_
    rintro e W3 (⟨rfl, hJ3, hk3⟩ | ⟨rfl, hJx3, hkf⟩)
    · gi_wp2
      exact ⟨hk3.mono (fun _ _ h => .inl h), hJ3, HR0.out.upd hk3 (fun h => by rcases h with h | h; have := HK.out _ h; omega; omega), Nat.le_trans hsX hk3.size⟩
    · gi_wp2
      exact ⟨keepsFrom_anti hkf (by omega), rfl, hJx3⟩
  case done =>
    rintro nn D X hD _ ⟨hj, r0, _⟩ hKD
    rw [idxs_length, List.length_map] at hj
    have HJ := Lib.hid (HJk.out _ _ _ hj (Bk.putObj (n := W.heap.size) (G := NoF) hKD rfl (by omega) (.deferred none)))
    have HKD := Lib.hid hKD
    clear hj r0 hKD
    go_wp2
    exact postM_ret1 HKD.out (results_none rfl _ _ _) ⟨⟨_, rfl⟩, .inl HJ.out⟩
  case stop =>
    rintro nn D cc k X hD _ hkl ⟨rfl, hj⟩ hKD
    rw [idxs_length, List.length_map] at hkl
    have HJ := Lib.hid (HXk.out _ _ _ hj (Bk.putObj (n := W.heap.size) (G := NoF) hKD rfl (by omega) (.deferred none)))
    have HKD := Lib.hid hKD
    clear hj hKD
    go_wp2
    exact postM_ret1 HKD.out (results_none rfl _ _ _) ⟨⟨_, rfl⟩, .inr ⟨k, hkl, HJ.out⟩⟩
theorem note_append {W W1 : World} {bo n : Nat} {v v' : Value} {z : Array Value} {xs ys : List Value} {lo : Nat} (hb : Blk W bo #[v] 24) (hbo : bo < lo) (hlo : lo ≤ W.heap.size) (hv : ∀ k, v.ownBlock = some k → lo ≤ k) (hr0 : Row W 37 24 v n xs)
    (hg : (W.alloc (.cells z 37)).grownBy W1 v.ownBlock) (hr : Row W1 37 24 v' (n + 1) ys) (hf : v'.ownBlock = v.ownBlock ∨ ∃ g, v'.ownBlock = some g ∧ (W.alloc (.cells z 37)).heap.size ≤ g) :
    W1.cell? ⟨bo, 0, none⟩ = some v ∧ W1.frozen? ⟨bo, 0, none⟩ = false ∧ Blk (W1.setCell ⟨bo, 0, none⟩ v') bo #[v'] 24 ∧ Row (W1.setCell ⟨bo, 0, none⟩ v') 37 24 v' (n + 1) ys ∧
      (∀ k, v'.ownBlock = some k → lo ≤ k) ∧ Upd (fun k => k = bo ∨ lo ≤ k) W (W1.setCell ⟨bo, 0, none⟩ v') := by
  have hu0 : Upd (fun k => lo ≤ k) W (W.alloc (.cells z 37)) := Upd.alloc _ _ _
  have hu1 : Upd (fun k => lo ≤ k) (W.alloc (.cells z 37)) W1 := Upd.grown hg (fun k hk _ => ⟨hv k hk, (hr0.alloc _).isCells k hk⟩)
  have hu := hu0.trans hu1 (fun _ _ h => h)
  have hb1 := hb.upd hu (by omega)
  have hv' : ∀ k, v'.ownBlock = some k → lo ≤ k := by
    intro k hk
    rcases hf with h | ⟨g, h, h'⟩
    · exact hv k (h ▸ hk)
    · rw [h] at hk; cases hk; simp at h'; omega
  refine ⟨hb1.cell 0, hb1.frozen 0, hb1.set 0 v', hr.upd (Upd.setCell (F := fun k => k = bo) W1 (p := ⟨bo, 0, none⟩) rfl v') (fun k hk h => by have := hv' k hk; omega), hv', ?_⟩
  exact (hu.mono (fun _ _ h => .inr h)).trans (Upd.setCell (F := fun k => k = bo ∨ lo ≤ k) W1 (p := ⟨bo, 0, none⟩) (.inl rfl) v') (fun _ _ h => h)
set_option maxRecDepth 100000 in
set_option maxHeartbeats 2000000 in
theorem appendSeq_any (w : World) (F0 : Nat → Prop) (tb B : Nat) (c : Cfg) (room : Int) (ns : List Nt) (hops : Int) (h : (To tb c room ns hops).is w F0) (hB : w.cell? ⟨B, 0, none⟩ = some (ptr tb)) (hl : ns.length ≤ 65536) :
    Calls Try.prog 44 #[.slice none 0 0, .func (.func 45) #[] #[ptr B]] w fun e w' =>
      ∃ v, e = .returned v ∧ Row w' 37 24 v ns.length (rowsOf (ns.map Nt.cells)).flatten ∧ (∀ k, v.ownBlock = some k → w.heap.size ≤ k) ∧ Upd NoF w w' := by
  obtain ⟨F, hF, hF1⟩ := (To tb c room ns hops).tight h
  obtain ⟨p, F2, hN, _⟩ := open_to h
  have hu := Upd.alloc NoF w (.cells #[.slice none 0 0] 24)
  have q0 := Blk.new w #[.slice none 0 0] 24
  obtain ⟨V, hV⟩ : ∃ V, w.alloc (.cells #[.slice none 0 0] 24) = V := ⟨_, rfl⟩
  have hsV : V.heap.size = w.heap.size + 1 := by rw [← hV]; simp
  rw [hV] at hu q0
  have hseq := all1_seq B tb c room ns hops F (fun i => i = w.heap.size) V (fun k hk e => by have := (hF1 k hk).2; omega) (fun k e => by omega) (hu.cell hB (fun h => h)) ((To tb c room ns hops).keep hF (hu.kept (fun _ _ _ h => h)))
  have HSEQ := Lib.hid hseq; have HV := Lib.hid hV; have HN := Lib.hid hN; have HU := Lib.hid hu; have HQ := Lib.hid q0
  clear hseq hV hN hu q0 hF hF1 h hB
  refine calls_of_wp_marks Try.func44 rfl ?_
  simp only [Try.ntmps44, List.size_toArray, List.length_cons, List.length_nil, Nat.reduceAdd, Nat.reduceSub, Array.replicate_succ, Array.replicate_zero, List.push_toArray, List.append_toArray, List.nil_append, List.cons_append]
  go_wp2_with fail
  rw [HV.out]
  refine wp_rangeB (gf := 45) (lb := #[ptr B]) rfl (enters_of Try.func45 (by kernel_rfl) rfl) HSEQ.out (fun _ => rfl)
    (fun n k X => ∃ v, Blk X w.heap.size #[v] 24 ∧ Row X 37 24 v k (rowsOf ((ns.take k).map Nt.cells)).flatten ∧ (∀ g, v.ownBlock = some g → n ≤ g) ∧ Upd NoF w X)
    (fun _ _ _ _ => False)
    (fun n k A B hs hb => by
      obtain ⟨v, h1, h2, h3, h4⟩ := hs
      exact ⟨v, h1.bk hb (fun h => h), h2.bk hb (fun b _ h => h), h3, h4.bk hb (by omega) (fun b hb' => hb'.elim)⟩)
    (fun _ _ _ _ _ h _ => h)
    (fun n hn => ⟨_, HQ.out, Row.nil _ _ _, fun k hk => by simp [Value.ownBlock] at hk, HU.out⟩)
    ?rnd ?dn ?stp
  case rnd =>
    intro lp n k x hn hx U K' hK'
    have hxo := HN.out x (List.mem_of_getElem? hx)
    have s1 := TNot.st_new (Nt.Ok.isN hxo.isU) U
    have HK' := Lib.hid hK'
    have Hx := Lib.hid hx
    have HXO := Lib.hid hxo
    have hk : k < ns.length := (List.getElem?_eq_some_iff.1 hx).1
    clear hK' hx hxo
    gi_wp2
    refine HK'.out _ _ (Upd.alloc NoF U _) ?_
    rintro X ⟨v, q1, q2, q3, q4⟩ hnX hbk
    have hz := Nt.Ok.isN HXO.out.isU
    have q10 := (Blk.new U x.cells 37).bk hbk (fun h => h)
    have l10 := TNot.ld_at hz q10.whole
    obtain ⟨a, cap, rfl, _⟩ := q2.slice
    obtain ⟨i0, hi, hz0, hz1, hz2⟩ := info_parts PN.infoE
    have qx := (Blk.new X x.cells 37).whole
    have e2 := PN.fold_x hz
    have e3 := hz.1
    obtain ⟨v', W1, hrun, hrow, hg, hf⟩ := run_append_row (P := Try.prog) (X.alloc (.cells x.cells 37)) 24 24 37 i0 (.agg TNot.Z) 24 112 Try.underlying24 hi hz0 hz1 hz2 PN.zsize (by decide) (.slice a k cap) k (rowsOf ((ns.take k).map Nt.cells)).flatten
      (q2.alloc _) ⟨X.heap.size, 0, none⟩ 1 1 x.cells.toList (by simp [hz.1]) (fun j u hu => by rw [Addr.add_lit]; simpa using qx j u hu) (fun u hu => hz.2 u (by simpa using hu)) (by unfold maxLen; omega) (by omega)
    obtain ⟨c1, f1, hb', hr', hv', hu'⟩ := note_append (lo := n) q1 (by omega) hnX q3 q2 hg hrow hf
    have c0 : X.cell? ⟨w.heap.size, 0, none⟩ = some (.slice a k cap) := q1.cell 0
    obtain ⟨a', cap', rfl, _⟩ := hrow.slice
    have HR := Lib.hid hrun
    have HUU := Lib.hid (And.intro hb' (And.intro hr' (And.intro hv' (And.intro hu' (q4.trans hu' (fun i hi h => by omega))))))
    clear hrun hrow hg hf hb' hr' hv' hu' q1 q2 q3 q4 hbk s1 q10 qx
    gi_wp2_with (gi_at_builtin; refine wpListIn_append_run (w := X.alloc (.cells x.cells 37)) rfl _ _ 24 rfl rfl rfl HR.out ?_)
    refine ⟨HUU.out.2.2.2.1, _, HUU.out.1, ?_, HUU.out.2.2.1, HUU.out.2.2.2.2⟩
    have e : ns.take (k + 1) = ns.take k ++ [x] := by
      obtain ⟨h1, h2⟩ := List.getElem?_eq_some_iff.1 Hx.out
      rw [List.take_succ_eq_append_getElem h1, h2]
    have e2 : (rowsOf ((ns.take k ++ [x]).map Nt.cells)).flatten = (rowsOf ((ns.take k).map Nt.cells)).flatten ++ x.cells.toList := by simp [rowsOf]
    rw [e, e2]
    exact HUU.out.2.1
  case dn =>
    rintro n D X hD hn ⟨v, q1, q2, q3, q4⟩ hK
    obtain ⟨a, cap, rfl, _⟩ := q2.slice
    have c0 : X.cell? ⟨w.heap.size, 0, none⟩ = some (.slice a ns.length cap) := q1.cell 0
    have HQ2 := Lib.hid (And.intro q2 (And.intro q3 q4))
    have HK := Lib.hid hK
    clear q1 q2 q3 q4 hK
    go_wp2
    refine postM_ret1 HK.out (v := .slice a ns.length cap) (by simp [results, Try.f44, go_sem]) ⟨_, rfl, ?_, fun b hb => by have := HQ2.out.2.1 b hb; omega, HQ2.out.2.2.bk (Bk.putObj (n := w.heap.size) (G := NoF) HK.out rfl (by omega) _) (Nat.le_refl _) (fun _ h => h.elim)⟩
    have := HQ2.out.1.bk (Bk.putObj (n := w.heap.size) (G := NoF) HK.out rfl (by omega) (.deferred none)) (fun _ _ h => h)
    rwa [List.take_of_length_le (Nat.le_refl _)] at this
  case stp =>
    rintro n D cc k X hD hn hkl h hK
    exact h.elim
theorem collect_any (w : World) (F0 : Nat → Prop) (tb B : Nat) (c : Cfg) (room : Int) (ns : List Nt) (hops : Int) (h : (To tb c room ns hops).is w F0) (hB : w.cell? ⟨B, 0, none⟩ = some (ptr tb)) (hl : ns.length ≤ 65536) :
    Calls Try.prog 23 #[.func (.func 45) #[] #[ptr B]] w fun e w' =>
      ∃ v, e = .returned v ∧ Row w' 37 24 v ns.length (rowsOf (ns.map Nt.cells)).flatten ∧ (∀ k, v.ownBlock = some k → w.heap.size ≤ k) ∧ Upd NoF w w' := by
  have HA := Lib.hid (appendSeq_any w F0 tb B c room ns hops h hB hl)
  clear h hB
  go_enter Try.func23, Try.ntmps23
  go_wp2_with fail
  refine HA.out.mono ?_
  rintro e w' ⟨v, rfl, hv⟩
  have HV := Lib.hid hv
  clear hv
  go_wp2
  go_ret
  exact ⟨_, rfl, HV.out⟩
set_option maxRecDepth 100000 in
set_option maxHeartbeats 1000000 in
theorem equal_same (w : World) (v1 v2 : Value) (ns : List Nt) (hN : ∀ n ∈ ns, n.Ok) (h1 : Row w 37 24 v1 ns.length (rowsOf (ns.map Nt.cells)).flatten) (h2 : Row w 37 24 v2 ns.length (rowsOf (ns.map Nt.cells)).flatten) :
    Calls Try.prog 25 #[v1, v2] w fun e w' => e = .returned (.bool true) ∧ Upd NoF w w' := by
  obtain ⟨a1, cap1, rfl, l1, m1, r1⟩ := s_row h1 hN
  obtain ⟨a2, cap2, rfl, l2, m2, r2⟩ := s_row h2 hN
  unfold maxLen at m1 m2
  have R1 := Lib.hid r1; have R2 := Lib.hid r2; have HN := Lib.hid hN
  clear r1 r2 h1 h2 hN
  go_enter Try.func25, Try.ntmps25
  go_wp2
  go_loopw [13] (fun i wr => ∃ k : Nat, k ≤ ns.length ∧ i = .int .i64 k ∧ Hid (Upd NoF w wr)) (fun i _ => ns.length - (intOf i).toNat)
  case atStart => exact ⟨0, Nat.zero_le _, rfl, Upd.refl _ _⟩
  case round =>
    obtain ⟨k, hk, rfl, HI⟩ := hrel
    by_cases hlt : k < ns.length
    · obtain ⟨n, hn⟩ : ∃ n, ns[k]? = some n := ⟨_, List.getElem?_eq_getElem hlt⟩
      have hno := (HN.out n (List.mem_of_getElem? hn)).isU
      obtain ⟨g1, rfl, hr1⟩ := R1.out k n hn
      obtain ⟨g2, rfl, hr2⟩ := R2.out k n hn
      have la : ∀ m, (TNot.ld (.pointer (some ⟨g1, k * 24, none⟩))).run Try.prog (wr.drewN m) = .ok (.agg n.cells) (wr.drewN m) := fun m => TNot.ld_at (Nt.Ok.isN hno) (show (wr.drewN m).rangeAt g1 (k * 24) n.cells.toList from fun j v hv => (HI.out.trans (Upd.drewN NoF wr m) (fun _ _ h => h)).cell (hr1 j v hv) (fun h => h))
      have lb : ∀ m, (TNot.ld (.pointer (some ⟨g2, k * 24, none⟩))).run Try.prog (wr.drewN m) = .ok (.agg n.cells) (wr.drewN m) := fun m => TNot.ld_at (Nt.Ok.isN hno) (show (wr.drewN m).rangeAt g2 (k * 24) n.cells.toList from fun j v hv => (HI.out.trans (Upd.drewN NoF wr m) (fun _ _ h => h)).cell (hr2 j v hv) (fun h => h))
      have hne : ∀ m, (neN (.agg n.cells) (.agg n.cells)).run Try.prog (wr.drewN m) = .ok (.bool false) (wr.drewN m) := fun m => by
        have := neN_run hno hno (wr.drewN m)
        rw [Nt.same_self] at this
        exact this
      clear hn hr1 hr2 hno
      go_wp2
      go_quiet (fail)
      have HU := Lib.hid (HI.out.trans (Upd.drewN NoF wr nq) (fun _ _ h => h))
      go_wp2
      go_roundw
      case rel => exact ⟨k + 1, by omega, by go_num, HU.out⟩
      case measure => simp [intOf]; omega
    · obtain rfl : ns.length = k := by omega
      go_wp2
      go_ret
      exact ⟨rfl, HI.out⟩
end Go.Proofs.Ytmfhbobjambgaaa.NE
