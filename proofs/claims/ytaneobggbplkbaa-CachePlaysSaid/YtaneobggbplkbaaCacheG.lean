/- Package cache: All, as an iterator; Len. -/
import Derived.Test.YtaneobggbplkbaaCacheF
import Derived.Test.YtaneobggbplkbaaRangeA
set_option linter.unusedSimpArgs false
set_option linter.unusedVariables false
namespace Go.Proofs.Ytaneobggbplkbaa.KA
open Go.RowKit
open BU (IsU words)
open PL (Cfg CC CV May)
attribute [local go_sem] Oper.semAt_some
attribute [local go_sem ↓] TLin.ld_eq TLin.st_eq TLin.al_eq TLin.bx_eq
attribute [local go_sem] TLin.al_run TLin.bx_run
/-- The first n lines that are not free. -/
def lns (n : Nat) (A : Nat → Ln) : List Ln := ((List.range n).map A).filter (fun x => !freeB x)
theorem lns_succ (n : Nat) (A : Nat → Ln) : lns (n + 1) A = lns n A ++ (if freeB (A n) then [] else [A n]) := by
  unfold lns
  rw [List.range_succ, List.map_append, List.filter_append]
  congr 1
  simp only [List.map_cons, List.map_nil, List.filter_cons, List.filter_nil]
  cases freeB (A n) <;> rfl
theorem lns_pre (A : Nat → Ln) (k : Nat) : ∀ n, ∃ r, lns (k + n) A = lns k A ++ r
  | 0 => ⟨[], by simp⟩
  | n + 1 => by
    obtain ⟨r, h⟩ := lns_pre A k n
    exact ⟨r ++ (if freeB (A (k + n)) then [] else [A (k + n)]), by rw [← Nat.add_assoc, lns_succ, h, List.append_assoc]⟩
theorem lns_get {A : Nat → Ln} {k n : Nat} (hk : k < n) (hf : freeB (A k) = false) : (lns n A)[(lns k A).length]? = some (A k) := by
  obtain ⟨r, h⟩ := lns_pre A (k + 1) (n - (k + 1))
  rw [show k + 1 + (n - (k + 1)) = n by omega] at h
  rw [h, lns_succ, hf]
  simp
theorem lns_len_le (A : Nat → Ln) (n : Nat) : (lns n A).length ≤ n := by
  unfold lns
  refine Nat.le_trans (List.length_filter_le _ _) ?_
  simp
theorem lns_ok {A : Nat → Ln} (h : ∀ i, (A i).Ok) {n : Nat} {x : Ln} (hx : x ∈ lns n A) : x.Ok := by
  unfold lns at hx
  obtain ⟨i, _, rfl⟩ := List.mem_map.1 (List.mem_filter.1 hx).1
  exact h i
section
variable {w0 W W' : World} {p : Kp} {T : TypeId} {c : Cfg} {A : Nat → Ln} {M : Nat → Int} {L : List Obj}
theorem all_any (b : Nat) (w : World) : Calls Try.prog 19 #[ptr b] w fun e w' => e = .returned (.func (.func 38) #[] #[ptr w.heap.size]) ∧ w.alloc (.cells #[ptr b] 26) = w' := by
  go_enter Try.func19, Try.ntmps19
  go_wp2
  go_ret
  exact ⟨rfl, rfl⟩
set_option maxRecDepth 100000 in
set_option maxHeartbeats 2000000 in
theorem all_seq (B : Nat) (K : Nat → Prop) (w : World) (hB0 : w.cell? ⟨B, 0, none⟩ = some (ptr p.kb)) (hb : Blk w p.kb (p.cells c) T) (hl : Blk w p.gl (lnRow (p.s * p.y) A ++ p.tl) LT) (hA : ∀ i, (A i).Ok) (hf : p.Fits c) (hK : ¬ K p.gl) (hKn : ∀ k, w.heap.size ≤ k → K k) :
    SeqL Try.prog 38 #[ptr B] (fun x : Ln => #[.agg x.cells]) (lns (p.s * p.y) A) NoF K w := by
  intro l J Jx W hW hJk _ hY h0
  have hB := hW.cell hB0 (fun h => h)
  have hb2 := hb.upd hW (fun h => h)
  have hl2 := hl.upd hW (fun h => h)
  have c8 : W.cell? ⟨p.kb, 8, none⟩ = some (.slice (some ⟨p.gl, 0, none⟩) (p.s * p.y) p.cl) := hb2.cell 8
  have hsm := Kp.small hf
  have HR := Lib.hid (fun (i : Nat) (hi : i < p.s * p.y) => (lnRow_range hl2 (hA i).isU hi))
  have HA := Lib.hid hA
  have HK := Lib.hid hK
  have HJk := Lib.hid hJk
  have HY := Lib.hid hY
  have hn := hsm.2.2.2.2.1
  clear hB0 hb hl hA hf hK hKn hW hb2 hl2 hsm hJk hY
  generalize p.s * p.y = n at *
  refine callsIn_of_wp Try.func38 rfl trivial ?_ rfl
  simp only [Try.ntmps38, List.size_toArray, List.length_cons, List.length_nil, Nat.reduceAdd, Nat.reduceSub, Array.replicate_succ, Array.replicate_zero, List.push_toArray, List.append_toArray, List.nil_append, List.cons_append]
  gi_wp2
  gi_loopw [12] (fun i wr => ∃ k : Nat, k ≤ n ∧ i = .int .i64 k ∧ J (lns k A).length wr ∧ Hid (Upd K W wr))
    (fun i _ => n - (intOf i).toNat)
  case atStart => exact ⟨0, Nat.zero_le _, rfl, h0, Upd.refl _ _⟩
  case round =>
    obtain ⟨k, hk, rfl, hJs, hnx⟩ := hrel
    by_cases hlt : k < n
    · have hzN := Lib.hid (Ln.Ok.isN (HA.out k).isU)
      have hrx : wr.rangeAt p.gl (k * 18) (A k).cells.toList := fun j v hv => hnx.out.cell (HR.out k hlt j v hv) HK.out
      have l1 := TLin.ld_at hzN.out hrx
      have l1a := TLin.ld_at hzN.out (World.rangeAt_alloc hrx (.cells TLin.Z LT))
      have s1 := TLin.st_new hzN.out wr
      have l2 := TLin.ld_new hzN.out wr
      have hJa := HJk.out _ wr _ hJs (Upd.alloc NoF wr (.cells (A k).cells LT))
      have hna := Lib.hid (hnx.out.trans (Upd.alloc K wr (.cells (A k).cells LT)) (fun _ _ h => h))
      have q := Lib.hid (Blk.new wr (A k).cells LT)
      have HF := Lib.hid (free_any (A k) (wr.alloc (.cells (A k).cells LT)))
      have HG := Lib.hid (fun h => lns_get (A := A) (k := k) hlt h)
      have HS := Lib.hid (lns_succ k A)
      have HJa := Lib.hid hJa
      clear hrx hJa
      generalize A k = x at *
      cases hfr : freeB x
      · rw [hfr] at HF
        have hg := HG.out hfr
        clear hJs
        gi_wp2_with fail
        refine ⟨trivial, (callsIn_wide.2 HF.out).mono ?_⟩
        rintro e W3 ⟨rfl, hu⟩
        have l3 := TLin.ld_at hzN.out (q.out.upd hu (fun h => h)).whole
        obtain ⟨fn, tmps, assign, body, hy, hR⟩ := HY.out _ x W3 (HJk.out _ _ _ HJa.out hu) hg
        have HRR := Lib.hid hR
        have HU := Lib.hid (hna.out.trans hu (fun _ _ h => h.elim))
        clear hR hu HF HY HJk q HG
        gi_wp2
        refine HRR.out.mono ?_
        rintro e W4 (⟨rfl, hJ3, hk3⟩ | ⟨rfl, hJx3⟩)
        · have HJ3 := Lib.hid (show J (lns (k + 1) A).length W4 by rw [HS.out, hfr]; simpa using hJ3)
          have HU4 := Lib.hid (HU.out.trans hk3 (fun _ _ h => h))
          clear hJ3 hk3
          gi_wp2
          go_roundw
          case rel => exact ⟨k + 1, by omega, by simp, HJ3.out, HU4.out⟩
          case measure => simp [intOf]; omega
        · have HX := Lib.hid (And.intro (List.getElem?_eq_some_iff.1 hg).1 hJx3)
          clear hJx3
          gi_wp2
          refine bodyPost_ret (results_none rfl _ _ _) rfl ?_
          exact ⟨⟨_, rfl⟩, .inr ⟨_, HX.out⟩⟩
      · rw [hfr] at HF
        clear HY
        gi_wp2_with fail
        refine ⟨trivial, (callsIn_wide.2 HF.out).mono ?_⟩
        rintro e W3 ⟨rfl, hu⟩
        have HU := Lib.hid (hna.out.trans hu (fun _ _ h => h.elim))
        have HJ3 := Lib.hid (show J (lns (k + 1) A).length W3 by rw [HS.out, hfr]; simpa using HJk.out _ _ _ HJa.out hu)
        clear hu HF HJk q HG
        gi_wp2
        refine ⟨fun f h => (by cases h), ?_⟩
        gi_wp2
        go_roundw
        case rel => exact ⟨k + 1, by omega, by simp, HJ3.out, HU.out⟩
        case measure => simp [intOf]; omega
    · obtain rfl : k = n := by omega
      gi_wp2
      go_end0
      exact ⟨⟨_, rfl⟩, .inl hJs⟩
set_option maxRecDepth 100000 in
set_option maxHeartbeats 2000000 in
theorem len_is (h : CIs T w0 W p c A M L) : Calls Try.prog 21 #[ptr p.kb] W fun e W' =>
    e = .returned (.int .i64 ((lns (p.s * p.y) A).length : Nat)) ∧ Upd NoF W W' := by
  have hn := (Kp.small h.fits).2.2.2.2.1
  have hll := lns_len_le A (p.s * p.y)
  have HI := Lib.hid h
  have hgl := h.bl.lt
  clear h
  refine calls_of_wp_marks Try.func21 rfl ?_
  simp only [Try.ntmps21, List.size_toArray, List.length_cons, List.length_nil, Nat.reduceAdd, Nat.reduceSub, Array.replicate_succ, Array.replicate_zero, List.push_toArray, List.append_toArray, List.nil_append, List.cons_append]
  go_wp2_with fail
  have hu1 := Upd.alloc NoF W (.cells #[.int .i64 0] 3)
  have q1 := Blk.new W #[.int .i64 0] 3
  obtain ⟨V, hV⟩ : ∃ V, W.alloc (.cells #[.int .i64 0] 3) = V := ⟨_, rfl⟩
  rw [hV] at hu1 q1 ⊢
  have hsV : V.heap.size = W.heap.size + 1 := by rw [← hV]; simp
  refine (all_any p.kb V).mono ?_
  rintro e W2 ⟨rfl, hW2⟩
  have hu2 := Upd.alloc NoF V (.cells #[ptr p.kb] 26)
  have q2 := Blk.new V #[ptr p.kb] 26
  rw [hW2] at hu2 q2
  have hs2 : W2.heap.size = W.heap.size + 2 := by rw [← hW2]; simp [hsV]
  have h2 := HI.out.upd0 (hu1.trans hu2 (fun _ _ h => h))
  have q1b := q1.upd hu2 (fun h => h)
  rw [hsV] at q2 ⊢
  have hU2 := hu1.trans hu2 (fun _ _ h => h)
  generalize hN : lns (p.s * p.y) A = ns at *
  have hseq := all_seq (c := c) (T := T) (W.heap.size + 1) (fun k => k = W.heap.size ∨ W.heap.size + 2 ≤ k) W2 (q2.cell 0) h2.bk h2.bl h2.ok.okA h2.fits (by omega) (fun k hk => by omega)
  rw [hN] at hseq
  have hlen : ns.length ≤ 64 := by omega
  have HN := Lib.hid hN
  clear hW2 hV hu1 hu2 q1 q2 hN hsV h2
  go_wp2_with fail
  refine wp_rangeA (gf := 38) (lb := #[ptr (W.heap.size + 1)]) rfl (enters_of Try.func38 (by kernel_rfl) rfl)
    hseq (fun _ => rfl) (fun _ h => h.elim) (fun k hk => .inr (by omega))
    (fun k W' => Blk W' W.heap.size #[.int .i64 k] 3 ∧ Upd NoF W W')
    (fun _ _ _ => False)
    (fun k A B hs hb => ⟨hs.1.bk hb (fun h => h), hs.2.bk hb (by omega) (fun _ h => h.elim)⟩)
    (fun _ _ _ _ h _ => h)
    ⟨q1b, hU2⟩
    ?round ?done ?stop
  case round =>
    intro lp k x hx U K' hK'
    have hk : k < ns.length := (List.getElem?_eq_some_iff.1 hx).1
    have HK := Lib.hid hK'
    clear hK' hx hseq hU2 q1b
    gi_wp2
    refine HK.out _ _ (Upd.refl NoF U) ?_
    rintro X ⟨r1, hB⟩ hbk
    have c1 : X.cell? ⟨W.heap.size, 0, none⟩ = some (.int .i64 k) := r1.cell 0
    have z1 := r1.frozen 0
    have hw1 : IntKind.i64.wrap ((k : Int) + 1) = ((k + 1 : Nat) : Int) := by rw [IntWalk.i64_in _ (by omega)]; simp
    have R1 := Lib.hid r1; have HB := Lib.hid hB
    clear r1 hB hbk
    gi_wp2
    have hsw := Upd.setCell (F := fun i => i = W.heap.size) X (p := ⟨W.heap.size, 0, none⟩) rfl (.int .i64 ((k + 1 : Nat) : Int))
    exact ⟨hsw.mono (fun _ _ h => .inl h), by simpa using R1.out.set 0 (.int .i64 ((k + 1 : Nat) : Int)), HB.out.trans hsw (fun i hi e => by omega)⟩
  case done =>
    rintro D X hD ⟨r1, hB⟩ hKD
    have c1 : X.cell? ⟨W.heap.size, 0, none⟩ = some (.int .i64 ns.length) := r1.cell 0
    have HB := Lib.hid hB
    have HK := Lib.hid hKD
    clear r1 hB hKD hseq hU2 q1b
    obtain ⟨m, hm⟩ : ∃ m, ns.length = m := ⟨_, rfl⟩
    rw [hm] at c1
    have HM := Lib.hid hm
    clear hm hlen
    go_wp2
    refine postM_ret1 HK.out (v := .int .i64 m) (by simp [results, Try.f21, go_sem]) ⟨by rw [HN.out, HM.out], ?_⟩
    exact HB.out.bk (Bk.putObj (n := W.heap.size) (G := NoF) HK.out rfl (by omega) _) (Nat.le_refl _) (fun _ h => h.elim)
  case stop =>
    rintro D cc k W hD hkl h hK
    exact h.elim
end
end Go.Proofs.Ytaneobggbplkbaa.KA
