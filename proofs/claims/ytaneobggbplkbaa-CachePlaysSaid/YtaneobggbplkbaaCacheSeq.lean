/- Rows of lines: slices.AppendSeq, Collect, Equal; the reference's All (printed by tools/mkcseq.py). -/
import Derived.Test.YtaneobggbplkbaaCacheRE
set_option linter.unusedSimpArgs false
set_option linter.unusedVariables false
namespace Go.Proofs.Ytaneobggbplkbaa.KA
open Go.RowKit
open BU (IsU words)
open PL (Cfg CC CV May)
attribute [local go_sem] Oper.semAt_some
attribute [local go_sem ↓] TLin.ld_eq TLin.st_eq TLin.al_eq TLin.bx_eq eqL_eq neL_eq
attribute [local go_sem] TLin.al_run TLin.bx_run
theorem infoLE : (Try.prog.info? LT).map (fun i => (i.zero, i.size, i.bytes)) = some (some (.agg TLin.Z), 18, 80) := by kernel_rfl
theorem infoL : ∃ i, Try.prog.info? LT = some i ∧ i.zero = some (.agg TLin.Z) ∧ i.size = 18 ∧ i.bytes = 80 := by
  have h := infoLE
  cases hq : Try.prog.info? LT with
  | none => rw [hq] at h; cases h
  | some i =>
    rw [hq] at h
    simp at h
    exact ⟨i, rfl, h.1, h.2.1, h.2.2⟩
theorem fold_l {x : Array Value} (hx : IsN 18 x) : Array.foldl (fun cs (p : Value × Nat) => cs.setIfInBounds p.snd p.fst) #[.int .i64 0, .int .u8 0, .int .u32 0, .int .u32 0, .int .u32 0, .int .u32 0, .int .u32 0, .int .u32 0, .int .u32 0, .int .u32 0, .int .u32 0, .int .u32 0, .int .u32 0, .int .u32 0, .int .u32 0, .int .u32 0, .int .u32 0, .int .u32 0] x.zipIdx 0 18 = x := fold_all TLin.Z x (hx.1.trans TLin.size_Z.symm)
abbrev lnFlat (l : List Ln) : List Value := (rowsOf (l.map Ln.cells)).flatten
theorem flat_app (l : List Ln) (x : Ln) : lnFlat (l ++ [x]) = lnFlat l ++ x.cells.toList := by simp [lnFlat, rowsOf]
theorem row_ln {W : World} {v : Value} {ns : List Ln} (h : Row W LT 18 v ns.length (lnFlat ns)) (hN : ∀ n ∈ ns, n.Ok) :
    ∃ a cap, v = .slice a ns.length cap ∧ ns.length ≤ cap ∧ cap ≤ maxLen ∧ ∀ k n, ns[k]? = some n → ∃ g, a = some ⟨g, 0, none⟩ ∧ W.rangeAt g (k * 18) n.cells.toList := by
  obtain ⟨a, cap, rfl, hn, hm, hnil⟩ := h.slice
  refine ⟨a, cap, rfl, hn, hm, fun k n hk => ?_⟩
  have hkl : k < ns.length := (List.getElem?_eq_some_iff.1 hk).1
  cases a with
  | none => have := (hnil rfl).1; omega
  | some a =>
    obtain ⟨⟨g, rfl⟩, hcell⟩ := h.cells
    refine ⟨g, rfl, fun j v hv => ?_⟩
    have := hcell (k * 18 + j) v (flat_get (zs := ns.map Ln.cells) (fun x hx => by obtain ⟨m, hm, rfl⟩ := List.mem_map.1 hx; exact Ln.Ok.isN (hN m hm).isU) (by rw [List.getElem?_map, hk]; rfl) j v hv)
    simpa using this
theorem ln_append {W W1 : World} {bo n : Nat} {v v' : Value} {z : Array Value} {xs ys : List Value} {lo : Nat} (hb : Blk W bo #[v] 62) (hbo : bo < lo) (hlo : lo ≤ W.heap.size) (hv : ∀ k, v.ownBlock = some k → lo ≤ k) (hr0 : Row W LT 18 v n xs)
    (hg : (W.alloc (.cells z LT)).grownBy W1 v.ownBlock) (hr : Row W1 LT 18 v' (n + 1) ys) (hf : v'.ownBlock = v.ownBlock ∨ ∃ g, v'.ownBlock = some g ∧ (W.alloc (.cells z LT)).heap.size ≤ g) :
    W1.cell? ⟨bo, 0, none⟩ = some v ∧ W1.frozen? ⟨bo, 0, none⟩ = false ∧ Blk (W1.setCell ⟨bo, 0, none⟩ v') bo #[v'] 62 ∧ Row (W1.setCell ⟨bo, 0, none⟩ v') LT 18 v' (n + 1) ys ∧
      (∀ k, v'.ownBlock = some k → lo ≤ k) ∧ Upd (fun k => k = bo ∨ lo ≤ k) W (W1.setCell ⟨bo, 0, none⟩ v') := by
  have hu0 : Upd (fun k => lo ≤ k) W (W.alloc (.cells z LT)) := Upd.alloc _ _ _
  have hu1 : Upd (fun k => lo ≤ k) (W.alloc (.cells z LT)) W1 := Upd.grown hg (fun k hk _ => ⟨hv k hk, (hr0.alloc _).isCells k hk⟩)
  have hu := hu0.trans hu1 (fun _ _ h => h)
  have hb1 := hb.upd hu (by omega)
  have hv' : ∀ k, v'.ownBlock = some k → lo ≤ k := by
    intro k hk
    rcases hf with h | ⟨g, h, h'⟩
    · exact hv k (h ▸ hk)
    · rw [h] at hk; cases hk; simp at h'; omega
  refine ⟨hb1.cell 0, hb1.frozen 0, hb1.set 0 v', hr.upd (Upd.setCell (F := fun k => k = bo) W1 (p := ⟨bo, 0, none⟩) rfl v') (fun k hk h => by have := hv' k hk; omega), hv', ?_⟩
  exact (hu.mono (fun _ _ h => .inr h)).trans (Upd.setCell (F := fun k => k = bo ∨ lo ≤ k) W1 (p := ⟨bo, 0, none⟩) (.inl rfl) v') (fun _ _ h => h)
section
variable {w0 W W' : World} {p : Kp} {T : TypeId} {c : Cfg} {A : Nat → Ln} {M : Nat → Int} {L : List Obj}
set_option maxRecDepth 100000 in
set_option maxHeartbeats 2000000 in
theorem appendSeq_any (h : CIs T w0 W p c A M L) (B : Nat) (hB : W.cell? ⟨B, 0, none⟩ = some (ptr p.kb)) :
    Calls Try.prog 47 #[.slice none 0 0, .func (.func 38) #[] #[ptr B]] W fun e w' =>
      ∃ v, e = .returned v ∧ Row w' LT 18 v (lns (p.s * p.y) A).length (lnFlat (lns (p.s * p.y) A)) ∧ (∀ k, v.ownBlock = some k → W.heap.size ≤ k) ∧ Upd NoF W w' := by
  have hu := Upd.alloc NoF W (.cells #[.slice none 0 0] 62)
  have q0 := Blk.new W #[.slice none 0 0] 62
  have h1 := h.upd0 hu
  have hgl := h.bl.lt
  obtain ⟨V, hV⟩ : ∃ V, W.alloc (.cells #[.slice none 0 0] 62) = V := ⟨_, rfl⟩
  have hsV : V.heap.size = W.heap.size + 1 := by rw [← hV]; simp
  rw [hV] at hu q0 h1
  have hseq := all_seq (c := c) (T := T) B (fun k => k ≠ p.gl) V (hu.cell hB (fun h => h)) h1.bk h1.bl h1.ok.okA h1.fits (fun h => h rfl) (fun k hk => by omega)
  have hN : ∀ x ∈ lns (p.s * p.y) A, x.Ok := fun x hx => lns_ok h.ok.okA hx
  have hll := lns_len_le A (p.s * p.y)
  have hsm := (Kp.small h.fits).2.2.2.2.1
  generalize lns (p.s * p.y) A = ns at *
  have hl : ns.length ≤ 64 := by omega
  have HSEQ := Lib.hid hseq; have HV := Lib.hid hV; have HN := Lib.hid hN; have HU := Lib.hid hu; have HQ := Lib.hid q0
  clear hseq hV hN hu q0 h h1 hB hll hsm
  refine calls_of_wp_marks Try.func47 rfl ?_
  simp only [Try.ntmps47, List.size_toArray, List.length_cons, List.length_nil, Nat.reduceAdd, Nat.reduceSub, Array.replicate_succ, Array.replicate_zero, List.push_toArray, List.append_toArray, List.nil_append, List.cons_append]
  go_wp2_with fail
  rw [HV.out]
  refine wp_rangeA (gf := 38) (lb := #[ptr B]) rfl (enters_of Try.func38 (by kernel_rfl) rfl) HSEQ.out (fun _ => rfl) (fun _ h => h.elim) (fun k hk => by show k ≠ p.gl; omega)
    (fun k X => V.heap.size ≤ X.heap.size ∧ ∃ v, Blk X W.heap.size #[v] 62 ∧ Row X LT 18 v k (lnFlat (ns.take k)) ∧ (∀ g, v.ownBlock = some g → W.heap.size + 1 ≤ g) ∧ Upd NoF W X)
    (fun _ _ _ => False)
    (fun k A B hs hb => by
      obtain ⟨hz, v, h1, h2, h3, h4⟩ := hs
      exact ⟨Nat.le_trans hz hb.size, v, h1.bk hb (fun h => h), h2.bk hb (fun b _ h => h), h3, h4.bk hb (by omega) (fun b hb' => hb'.elim)⟩)
    (fun _ _ _ _ h _ => h)
    ⟨Nat.le_refl _, _, HQ.out, Row.nil _ _ _, fun k hk => by simp [Value.ownBlock] at hk, HU.out⟩
    ?rnd ?dn ?stp
  case rnd =>
    intro lp k x hx U K' hK'
    have hxo := HN.out x (List.mem_of_getElem? hx)
    have s1 := TLin.st_new (Ln.Ok.isN hxo.isU) U
    have HK' := Lib.hid hK'
    have Hx := Lib.hid hx
    have HXO := Lib.hid hxo
    have hk : k < ns.length := (List.getElem?_eq_some_iff.1 hx).1
    clear hK' hx hxo
    gi_wp2
    refine HK'.out _ _ (Upd.alloc NoF U _) ?_
    rintro X ⟨hnX, v, q1, q2, q3, q4⟩ hbk
    have hz := Ln.Ok.isN HXO.out.isU
    have q10 := (Blk.new U x.cells LT).bk hbk (fun h => h)
    have l10 := TLin.ld_at hz q10.whole
    obtain ⟨a, cap, rfl, _⟩ := q2.slice
    obtain ⟨i0, hi, hz0, hz1, hz2⟩ := infoL
    have qx := (Blk.new X x.cells LT).whole
    have e2 := fold_l hz
    have e3 := hz.1
    obtain ⟨v', W1, hrun, hrow, hg, hf⟩ := run_append_row (P := Try.prog) (X.alloc (.cells x.cells LT)) 62 62 LT i0 (.agg TLin.Z) 18 80 Try.underlying62 hi hz0 hz1 hz2 TLin.size_Z (by decide) (.slice a k cap) k (lnFlat (ns.take k))
      (q2.alloc _) ⟨X.heap.size, 0, none⟩ 1 1 x.cells.toList (by simp [hz.1]) (fun j u hu => by rw [Addr.add_lit]; simpa using qx j u hu) (fun u hu => hz.2 u (by simpa using hu)) (by unfold maxLen; omega) (by omega)
    obtain ⟨c1, f1, hb', hr', hv', hu'⟩ := ln_append (lo := W.heap.size + 1) q1 (by omega) (by omega) q3 q2 hg hrow hf
    have c0 : X.cell? ⟨W.heap.size, 0, none⟩ = some (.slice a k cap) := q1.cell 0
    obtain ⟨a', cap', rfl, _⟩ := hrow.slice
    have HR := Lib.hid hrun
    have hsz' := hu'.size
    have HUU := Lib.hid (And.intro hb' (And.intro hr' (And.intro hv' (And.intro (hu'.mono (G := fun k => k ≠ p.gl) (fun i _ h => by omega)) (And.intro (q4.trans hu' (fun i hi h => by omega)) (Nat.le_trans hnX hsz'))))))
    clear hrun hrow hg hf hb' hr' hv' hu' q1 q2 q3 q4 hbk s1 q10 qx hsz'
    gi_wp2_with (gi_at_builtin; refine wpListIn_append_run (w := X.alloc (.cells x.cells LT)) rfl _ _ 62 rfl rfl rfl HR.out ?_)
    refine ⟨HUU.out.2.2.2.1, HUU.out.2.2.2.2.2, _, HUU.out.1, ?_, HUU.out.2.2.1, HUU.out.2.2.2.2.1⟩
    rw [take_succ Hx.out, flat_app]
    exact HUU.out.2.1
  case dn =>
    rintro D X hD ⟨_, v, q1, q2, q3, q4⟩ hK
    obtain ⟨a, cap, rfl, _⟩ := q2.slice
    have c0 : X.cell? ⟨W.heap.size, 0, none⟩ = some (.slice a ns.length cap) := q1.cell 0
    have HQ2 := Lib.hid (And.intro q2 (And.intro q3 q4))
    have HK := Lib.hid hK
    clear q1 q2 q3 q4 hK
    go_wp2
    refine postM_ret1 HK.out (v := .slice a ns.length cap) (by simp [results, Try.f47, go_sem]) ⟨_, rfl, ?_, fun b hb => by have := HQ2.out.2.1 b hb; omega, HQ2.out.2.2.bk (Bk.putObj (n := W.heap.size) (G := NoF) HK.out rfl (by omega) _) (Nat.le_refl _) (fun _ h => h.elim)⟩
    have := HQ2.out.1.bk (Bk.putObj (n := W.heap.size) (G := NoF) HK.out rfl (by omega) (.deferred none)) (fun _ _ h => h)
    rwa [List.take_of_length_le (Nat.le_refl _)] at this
  case stp =>
    rintro D cc k X hD hkl h hK
    exact h.elim
theorem collect_any (h : CIs T w0 W p c A M L) (B : Nat) (hB : W.cell? ⟨B, 0, none⟩ = some (ptr p.kb)) :
    Calls Try.prog 27 #[.func (.func 38) #[] #[ptr B]] W fun e w' =>
      ∃ v, e = .returned v ∧ Row w' LT 18 v (lns (p.s * p.y) A).length (lnFlat (lns (p.s * p.y) A)) ∧ (∀ k, v.ownBlock = some k → W.heap.size ≤ k) ∧ Upd NoF W w' := by
  have HA := Lib.hid (appendSeq_any h B hB)
  clear h hB
  go_enter Try.func27, Try.ntmps27
  go_wp2_with fail
  refine HA.out.mono ?_
  rintro e w' ⟨v, rfl, hv⟩
  have HV := Lib.hid hv
  clear hv
  go_wp2
  go_ret
  exact ⟨_, rfl, HV.out⟩
end
set_option maxRecDepth 100000 in
set_option maxHeartbeats 1000000 in
theorem equal_same (w : World) (v1 v2 : Value) (ns : List Ln) (hN : ∀ n ∈ ns, n.Ok) (h1 : Row w LT 18 v1 ns.length (lnFlat ns)) (h2 : Row w LT 18 v2 ns.length (lnFlat ns)) :
    Calls Try.prog 26 #[v1, v2] w fun e w' => e = .returned (.bool true) ∧ Upd NoF w w' := by
  obtain ⟨a1, cap1, rfl, l1, m1, r1⟩ := row_ln h1 hN
  obtain ⟨a2, cap2, rfl, l2, m2, r2⟩ := row_ln h2 hN
  unfold maxLen at m1 m2
  have R1 := Lib.hid r1; have R2 := Lib.hid r2; have HN := Lib.hid hN
  clear r1 r2 h1 h2 hN
  go_enter Try.func26, Try.ntmps26
  go_wp2
  go_loopw [13] (fun i wr => ∃ k : Nat, k ≤ ns.length ∧ i = .int .i64 k ∧ Hid (Upd NoF w wr)) (fun i _ => ns.length - (intOf i).toNat)
  case atStart => exact ⟨0, Nat.zero_le _, rfl, Upd.refl _ _⟩
  case round =>
    obtain ⟨k, hk, rfl, HI⟩ := hrel
    by_cases hlt : k < ns.length
    · obtain ⟨n, hn⟩ : ∃ n, ns[k]? = some n := ⟨_, List.getElem?_eq_getElem hlt⟩
      have hno := (HN.out n (List.mem_of_getElem? hn)).isU
      obtain ⟨g1, rfl, hr1⟩ := R1.out k n hn
      obtain ⟨g2, rfl, hr2⟩ := R2.out k n hn
      have la : ∀ m, (TLin.ld (.pointer (some ⟨g1, k * 18, none⟩))).run Try.prog (wr.drewN m) = .ok (.agg n.cells) (wr.drewN m) := fun m => TLin.ld_at (Ln.Ok.isN hno) (show (wr.drewN m).rangeAt g1 (k * 18) n.cells.toList from fun j v hv => (HI.out.trans (Upd.drewN NoF wr m) (fun _ _ h => h)).cell (hr1 j v hv) (fun h => h))
      have lb : ∀ m, (TLin.ld (.pointer (some ⟨g2, k * 18, none⟩))).run Try.prog (wr.drewN m) = .ok (.agg n.cells) (wr.drewN m) := fun m => TLin.ld_at (Ln.Ok.isN hno) (show (wr.drewN m).rangeAt g2 (k * 18) n.cells.toList from fun j v hv => (HI.out.trans (Upd.drewN NoF wr m) (fun _ _ h => h)).cell (hr2 j v hv) (fun h => h))
      have hne : ∀ m, (neL (.agg n.cells) (.agg n.cells)).run Try.prog (wr.drewN m) = .ok (.bool false) (wr.drewN m) := fun m => by
        have := neL_run hno hno (wr.drewN m)
        rw [Ln.same_self] at this
        exact this
      clear hn hr1 hr2 hno
      go_wp2
      go_quiet (fail)
      have HU := Lib.hid (HI.out.trans (Upd.drewN NoF wr nq) (fun _ _ h => h))
      go_wp2
      go_roundw
      case rel => exact ⟨k + 1, by omega, by go_num, HU.out⟩
      case measure => simp [intOf]; omega
    · obtain rfl : ns.length = k := by omega
      go_wp2
      go_ret
      exact ⟨rfl, HI.out⟩
end Go.Proofs.Ytaneobggbplkbaa.KA
