/- The reference of a core's side: Asks. -/
import Derived.Test.YtjgeflbhmhmjdaaGreatCacheRE
import Derived.Test.YtjgeflbhmhmjdaaGreatNearK
set_option linter.unusedSimpArgs false
set_option linter.unusedVariables false
namespace Go.Proofs.YtjgeflbhmhmjdaaGreat.NR
open Go.RowKit
open BU (IsU words)
open PL (Cfg CC CV May)
open KA (Kp CIs OkA LT UT)
open DL (DS CD stampE)
attribute [local go_sem] Oper.semAt_some
attribute [local go_sem ↓] TNot.ld_eq TNot.st_eq TNot.al_eq TNot.bx_eq TBlk.ld_eq TBlk.st_eq TBlk.al_eq TBlk.bx_eq TLin.ld_eq TLin.st_eq TLin.al_eq TLin.bx_eq bdN_eq bsN_eq bdL_eq
attribute [local go_sem] TNot.al_run TNot.bx_run TBlk.al_run TBlk.bx_run TLin.al_run TLin.bx_run
section
variable {ops : Array Oper} {o : Oper} {a : Act} {w : World} {K : Act → World → Prop} {Q : Exit → Act → World → Prop}
theorem oper_app (s x : Operand) (t : TypeId) (hop : o.op = Op.call { callee := Callee.builtin Builtin.append, args := #[s, x], argTypes := #[t, t] })
    {v vx v' : Value} {w' : World} (hs : a.eval s = v) (hx : a.eval x = vx) (hr : (Builtin.append_ #[t, t] o.type #[v, vx]).run Tryz.prog w = .ok v' w')
    (hK : K (a.put o.dst v') w') : Oper.wp Tryz.prog o a w K Q := by
  unfold Oper.wp
  simp [execOp, hop, resolve, invoke, builtin, hs, hx, hr, Result.andThen]
  exact hK
end
section
variable {w0 W W' V : World} {r : Rd} {S : Ns} {L : List Obj}
abbrev RAEnds (w0 : World) (r : Rd) (t : Ak) (L : List Obj) (e : Ending) (W' : World) : Prop := ∃ v, e = .returned (askV t v) ∧ RIs w0 W' r t.S (outO v t.out :: L)
set_option maxRecDepth 100000 in
theorem bd_ask (S : Ns) (b : Int) (w : World) : (bdN #[(0, .int .u8 1), (1, .int .i64 S.core), (2, .int .i64 (-1)), (3, .int .i64 b), (4, .int .u64 (stampE S.d))]).run Tryz.prog w = .ok (.agg (askN S b false).cells) w := by
  refine build_run (pl := [(0, 1), (1, 1), (2, 1), (3, 1), (4, 1), (5, 1), (6, 1), (7, 1), (8, 16)]) Tryz.underlying37 TNot.infoZ ntPl _ _ ?_ w
  rw [fill_step (off := 0) (size := 1) rfl rfl (by (repeat rw [size_setMany]); decide), fill_step (off := 1) (size := 1) rfl rfl (by (repeat rw [size_setMany]); decide), fill_step (off := 2) (size := 1) rfl rfl (by (repeat rw [size_setMany]); decide), fill_step (off := 3) (size := 1) rfl rfl (by (repeat rw [size_setMany]); decide), fill_step (off := 4) (size := 1) rfl rfl (by (repeat rw [size_setMany]); decide), fill_nil]
  exact congrArg some (by kernel_rfl)
set_option maxRecDepth 100000 in
theorem bd_put (S : Ns) (g : Ln) (hD : g.D.size = 16) (w : World) : (bdN #[(0, .int .u8 3), (1, .int .i64 S.core), (2, .int .i64 (-1)), (3, .int .i64 g.blk), (6, .bool true), (8, .agg g.D), (7, .bool ((S.f g.blk).1 || (S.f g.blk).2))]).run Tryz.prog w = .ok (.agg (putN S g).cells) w := by
  refine build_run (pl := [(0, 1), (1, 1), (2, 1), (3, 1), (4, 1), (5, 1), (6, 1), (7, 1), (8, 16)]) Tryz.underlying37 TNot.infoZ ntPl _ _ ?_ w
  rw [fill_step (off := 0) (size := 1) rfl rfl (by (repeat rw [size_setMany]); decide), fill_step (off := 1) (size := 1) rfl rfl (by (repeat rw [size_setMany]); decide), fill_step (off := 2) (size := 1) rfl rfl (by (repeat rw [size_setMany]); decide), fill_step (off := 3) (size := 1) rfl rfl (by (repeat rw [size_setMany]); decide), fill_step (off := 6) (size := 1) rfl rfl (by (repeat rw [size_setMany]); decide),
    fill_step (v := .agg g.D) (off := 8) (size := 16) rfl hD (by (repeat rw [size_setMany]); decide), fill_step (off := 7) (size := 1) rfl rfl (by (repeat rw [size_setMany]); decide), fill_nil]
  obtain ⟨st, hst⟩ : ∃ st, ((S.f g.blk).1 || (S.f g.blk).2) = st := ⟨_, rfl⟩
  have hpc : (putN S g).cells = #[.int .u8 3, .int .i64 S.core, .int .i64 (-1), .int .i64 g.blk, .int .u64 0, .int .u8 0, .bool true, .bool st] ++ g.D := by rw [← hst]; rfl
  rw [hpc, hst]
  have e1 : setMany (setMany (setMany (setMany (setMany TNot.Z 0 (Value.int .u8 3).cells.toList) 1 (Value.int .i64 S.core).cells.toList) 2 (Value.int .i64 (-1)).cells.toList) 3 (Value.int .i64 g.blk).cells.toList) 6 (Value.bool true).cells.toList
      = #[.int .u8 3, .int .i64 S.core, .int .i64 (-1), .int .i64 g.blk, .int .u64 0, .int .u8 0, .bool true, .bool false] ++ TBlk.Z := by kernel_rfl
  have e2 : setMany (#[.int .u8 3, .int .i64 S.core, .int .i64 (-1), .int .i64 g.blk, .int .u64 0, .int .u8 0, .bool true, .bool false] ++ TBlk.Z) 8 (Value.agg g.D).cells.toList = #[.int .u8 3, .int .i64 S.core, .int .i64 (-1), .int .i64 g.blk, .int .u64 0, .int .u8 0, .bool true, .bool false] ++ g.D := setMany_tail (A := #[.int .u8 3, .int .i64 S.core, .int .i64 (-1), .int .i64 g.blk, .int .u64 0, .int .u8 0, .bool true, .bool false]) (B := TBlk.Z) rfl hD
  rw [e1, e2]
  have e3 : setMany (#[.int .u8 3, .int .i64 S.core, .int .i64 (-1), .int .i64 g.blk, .int .u64 0, .int .u8 0, .bool true, .bool false] ++ g.D) 7 (Value.bool st).cells.toList = #[.int .u8 3, .int .i64 S.core, .int .i64 (-1), .int .i64 g.blk, .int .u64 0, .int .u8 0, .bool true, .bool st] ++ g.D := by
    apply Array.ext_getElem?
    intro j
    rw [get_setMany]
    by_cases h7 : j = 7
    · subst h7
      rw [if_pos ⟨by decide, by simp [Value.cells], by simp; omega⟩, Array.getElem?_append_left (by simp)]
      rfl
    · rw [if_neg (by simp [Value.cells]; omega)]
      by_cases h8 : j < 8
      · rw [Array.getElem?_append_left (by simpa using h8), Array.getElem?_append_left (by simpa using h8)]
        match j, h8, h7 with
        | 7, _, h => exact absurd rfl h
        | 0, _, _ => rfl
        | 1, _, _ => rfl
        | 2, _, _ => rfl
        | 3, _, _ => rfl
        | 4, _, _ => rfl
        | 5, _, _ => rfl
        | 6, _, _ => rfl
      · rw [Array.getElem?_append_right (by simpa using h8), Array.getElem?_append_right (by simpa using h8)]
        rfl
  rw [e3]
theorem RIs.app {v : Value} {ns : List Nt} (h : RIs w0 W r S (outO v ns :: L)) (n : Nt) (hn : IsU n.D) (hm : ns.length ≤ 65536) :
    ∃ v' W', (Builtin.append_ #[43, 43] 43 #[v, .slice (some ⟨W.heap.size, 0, none⟩) 1 1]).run Tryz.prog (W.alloc (.cells n.cells NT)) = .ok v' W' ∧ RIs w0 W' r S (outO v' (ns ++ [n]) :: L) := by
  have h1 := h.upd0 (Upd.alloc NoF W (.cells n.cells NT))
  obtain ⟨F, hF, hS⟩ := h1.sep.step 9 rfl
  have hz := Nt.Ok.isN hn
  obtain ⟨i0, hi0, hz0, hz1, hz2⟩ := info_parts infoN
  have qx := (Blk.new W n.cells NT).whole
  obtain ⟨v9, w9, hrun, hrow9, hg, hf⟩ := run_append_row (P := Tryz.prog) (W.alloc (.cells n.cells NT)) 43 43 NT i0 (.agg TNot.Z) 24 112 Tryz.underlying43 hi0 hz0 hz1 hz2 zsizeN (by decide) v ns.length (rowsOf (ns.map Nt.cells)).flatten
    hF.1 ⟨W.heap.size, 0, none⟩ 1 1 n.cells.toList (by simp [hz.1]) (fun j u hu => by rw [Addr.add_lit]; simpa using qx j u hu) (fun u hu => hz.2 u (by simpa using hu)) (by unfold maxLen; omega) (by omega)
  refine ⟨v9, w9, hrun, hS (outO v9 (ns ++ [n])) _ (Upd.grown (F := F) hg (fun k hk hlt => ⟨hF.2 k hk, hF.1.isCells k hk⟩)) ⟨?_, fun k hk => ?_⟩, h.ok⟩
  · have e : (rowsOf ((ns ++ [n]).map Nt.cells)).flatten = (rowsOf (ns.map Nt.cells)).flatten ++ n.cells.toList := by simp [rowsOf]
    rw [e, List.length_append]
    exact hrow9
  · rcases hf with e | ⟨g, e, hge⟩
    · rw [e] at hk; exact .inl (hF.2 k hk)
    · rw [e] at hk; cases hk; exact .inr hge
theorem fnd_st {p : Kp} (h : ROk p S) {b : Int} (hp : (p.place S.A b).isSome = true) : 1 ≤ (p.fnd S.A b).st := by
  obtain ⟨i, hi⟩ := Option.isSome_iff_exists.1 hp
  have := (mayX_k (mayX_at h.ok.fits h.good hi).1).2.1
  unfold KA.Kp.fnd
  rw [hi]
  exact this
theorem gone_st {p : Kp} (h : ROk p S) {b : Int} (hp : (p.goes S.A S.M b).isSome = true) : 1 ≤ (p.gone S.A S.M b).st :=
  (mayX_k (gone_at h.ok.fits h.good h.uniq hp).2.2.1).2.1
set_option maxRecDepth 100000 in
set_option maxHeartbeats 4000000 in
theorem rask_arg (h : RIs w0 W r S L) (b : Int) (wr : Bool) (hb : b < 0 ∨ S.data ≤ b) : Calls Tryz.prog 67 #[ptr r.nb, .int .i64 b, .bool wr] W (RAEnds w0 r ⟨false, [], 2, S⟩ L) := by
  have HD := Lib.hid (PL.rdata_any S.c h.ok.ok.may.1 h.ok.ok.may.2.2.1 h.ok.ok.may.2.1)
  have hdata : S.c.blocks - S.c.cores * S.c.logs = S.data := rfl
  rw [hdata] at HD
  have d0 : W.cell? ⟨r.nb, 0, none⟩ = some (.int .i64 S.c.cores) := h.hd (by decide)
  have d1 : W.cell? ⟨r.nb, 1, none⟩ = some (.int .i64 S.c.sets) := h.hd (by decide)
  have d2 : W.cell? ⟨r.nb, 2, none⟩ = some (.int .i64 S.c.ways) := h.hd (by decide)
  have d3 : W.cell? ⟨r.nb, 3, none⟩ = some (.int .i64 S.c.blocks) := h.hd (by decide)
  have d4 : W.cell? ⟨r.nb, 4, none⟩ = some (.int .i64 S.c.logs) := h.hd (by decide)
  have d5 : W.cell? ⟨r.nb, 5, none⟩ = some (.int .i64 S.c.backs) := h.hd (by decide)
  have d6 : W.cell? ⟨r.nb, 6, none⟩ = some (.int .i64 S.c.nest) := h.hd (by decide)
  have d7 : W.cell? ⟨r.nb, 7, none⟩ = some (.int .i64 S.c.tries) := h.hd (by decide)
  have HH := Lib.hid h
  clear h hdata
  generalize hdd : S.data = data at HD hb
  clear hdd
  by_cases h0 : b < 0
  · clear hb
    go_enter Tryz.func67, Tryz.ntmps67
    go_wp2_with fail
    go_ret3
    exact ⟨nilV, rfl, HH.out.outNil⟩
  · have hd : data ≤ b := by omega
    clear hb
    go_enter Tryz.func67, Tryz.ntmps67
    go_wp2_with fail
    refine (HD.out _).mono ?_
    rintro e W2 ⟨rfl, hu⟩
    have HH2 := Lib.hid (HH.out.upd0 hu)
    clear hu
    go_wp2_with fail
    go_ret3
    exact ⟨nilV, rfl, HH2.out.outNil⟩
set_option maxRecDepth 100000 in
set_option maxHeartbeats 4000000 in
theorem rask_state (h : RIs w0 W r S L) (b : Int) (wr : Bool) (hb : 0 ≤ b ∧ b < S.data) (hwa : S.wa = true) : Calls Tryz.prog 67 #[ptr r.nb, .int .i64 b, .bool wr] W (RAEnds w0 r ⟨false, [], 8, S⟩ L) := by
  have HD := Lib.hid (PL.rdata_any S.c h.ok.ok.may.1 h.ok.ok.may.2.2.1 h.ok.ok.may.2.1)
  have hdata : S.c.blocks - S.c.cores * S.c.logs = S.data := rfl
  rw [hdata] at HD
  have d0 : W.cell? ⟨r.nb, 0, none⟩ = some (.int .i64 S.c.cores) := h.hd (by decide)
  have d1 : W.cell? ⟨r.nb, 1, none⟩ = some (.int .i64 S.c.sets) := h.hd (by decide)
  have d2 : W.cell? ⟨r.nb, 2, none⟩ = some (.int .i64 S.c.ways) := h.hd (by decide)
  have d3 : W.cell? ⟨r.nb, 3, none⟩ = some (.int .i64 S.c.blocks) := h.hd (by decide)
  have d4 : W.cell? ⟨r.nb, 4, none⟩ = some (.int .i64 S.c.logs) := h.hd (by decide)
  have d5 : W.cell? ⟨r.nb, 5, none⟩ = some (.int .i64 S.c.backs) := h.hd (by decide)
  have d6 : W.cell? ⟨r.nb, 6, none⟩ = some (.int .i64 S.c.nest) := h.hd (by decide)
  have d7 : W.cell? ⟨r.nb, 7, none⟩ = some (.int .i64 S.c.tries) := h.hd (by decide)
  have HH := Lib.hid h
  obtain ⟨hb0, hb1⟩ := hb
  clear h hdata
  generalize hdd : S.data = data at HD hb1
  clear hdd
  go_enter Tryz.func67, Tryz.ntmps67
  go_wp2_with fail
  refine (HD.out _).mono ?_
  rintro e W2 ⟨rfl, hu⟩
  have HH2 := Lib.hid (HH.out.upd0 hu)
  clear hu d0 d1 d2 d3 d4 d5 d6 d7 HH HD
  have c37 := HH2.out.wc
  rw [hwa] at c37
  clear hwa
  go_wp2_with fail
  go_ret3
  exact ⟨nilV, rfl, HH2.out.outNil⟩
set_option maxRecDepth 100000 in
set_option maxHeartbeats 4000000 in
theorem rask_hit (h : RIs w0 W r S L) (b : Int) (wr : Bool) (hb : 0 ≤ b ∧ b < S.data) (hwa : S.wa = false) (hhit : hitB r.p S b wr = true) : Calls Tryz.prog 67 #[ptr r.nb, .int .i64 b, .bool wr] W (RAEnds w0 r ⟨true, [], 0, S⟩ L) := by
  have HD := Lib.hid (PL.rdata_any S.c h.ok.ok.may.1 h.ok.ok.may.2.2.1 h.ok.ok.may.2.1)
  have hdata : S.c.blocks - S.c.cores * S.c.logs = S.data := rfl
  rw [hdata] at HD
  have d0 : W.cell? ⟨r.nb, 0, none⟩ = some (.int .i64 S.c.cores) := h.hd (by decide)
  have d1 : W.cell? ⟨r.nb, 1, none⟩ = some (.int .i64 S.c.sets) := h.hd (by decide)
  have d2 : W.cell? ⟨r.nb, 2, none⟩ = some (.int .i64 S.c.ways) := h.hd (by decide)
  have d3 : W.cell? ⟨r.nb, 3, none⟩ = some (.int .i64 S.c.blocks) := h.hd (by decide)
  have d4 : W.cell? ⟨r.nb, 4, none⟩ = some (.int .i64 S.c.logs) := h.hd (by decide)
  have d5 : W.cell? ⟨r.nb, 5, none⟩ = some (.int .i64 S.c.backs) := h.hd (by decide)
  have d6 : W.cell? ⟨r.nb, 6, none⟩ = some (.int .i64 S.c.nest) := h.hd (by decide)
  have d7 : W.cell? ⟨r.nb, 7, none⟩ = some (.int .i64 S.c.tries) := h.hd (by decide)
  have HH := Lib.hid h
  obtain ⟨hb0, hb1⟩ := hb
  clear h hdata
  generalize hdd : S.data = data at HD hb1
  clear hdd
  go_enter Tryz.func67, Tryz.ntmps67
  go_wp2_with fail
  refine (HD.out _).mono ?_
  rintro e W2 ⟨rfl, hu⟩
  have HH2 := Lib.hid (HH.out.upd0 hu)
  clear hu d0 d1 d2 d3 d4 d5 d6 d7 HH HD
  have c37 := HH2.out.wc
  rw [hwa] at c37
  have c9 : W2.cell? ⟨r.nb, 9, none⟩ = some (ptr r.p.kb) := HH2.out.hd (by decide)
  have HF := Lib.hid (rcfind_is HH2.out b)
  have HFS := Lib.hid (fun hp => fnd_st HH2.out.ok (b := b) hp)
  have HLN := Lib.hid (Ln.Ok.isN (KA.fnd_ok (p := r.p) HH2.out.ok.ok.okA b).isU)
  unfold hitB at hhit
  have HHIT := Lib.hid hhit
  clear hwa hhit
  generalize r.p.fnd S.A b = l at *
  generalize (r.p.place S.A b).isSome = y at *
  go_wp2_with fail
  refine HF.out.mono ?_
  rintro e W3 ⟨rfl, hu⟩
  have s1 := TLin.st_new HLN.out W3
  have HH3 := Lib.hid ((HH2.out.upd0 hu).alloc l.cells LT)
  have c1 := (HH3.out.lb.cell 1).trans l.get1
  clear hu c9 c37 HH2 HF
  cases y
  · exact absurd HHIT.out (by simp)
  · cases wr
    · go_wp2_with fail
      go_ret3
      exact ⟨nilV, rfl, HH3.out.pop.outNil⟩
    · have hs : (2 : Int) ≤ l.st := by
        have h1 := HHIT.out
        have h2 := HFS.out rfl
        have h3 : l.st ≠ 1 := by simpa using h1
        omega
      go_wp2_with fail
      go_ret3
      exact ⟨nilV, rfl, HH3.out.pop.outNil⟩
set_option maxRecDepth 100000 in
set_option maxHeartbeats 4000000 in
theorem rask_busy (h : RIs w0 W r S L) (b : Int) (wr : Bool) (hb : 0 ≤ b ∧ b < S.data) (hwa : S.wa = false) (hhit : hitB r.p S b wr = false) (hbk : bkI S.zs b = true) : Calls Tryz.prog 67 #[ptr r.nb, .int .i64 b, .bool wr] W (RAEnds w0 r ⟨false, [], 110, S⟩ L) := by
  have HD := Lib.hid (PL.rdata_any S.c h.ok.ok.may.1 h.ok.ok.may.2.2.1 h.ok.ok.may.2.1)
  have hdata : S.c.blocks - S.c.cores * S.c.logs = S.data := rfl
  rw [hdata] at HD
  have d0 : W.cell? ⟨r.nb, 0, none⟩ = some (.int .i64 S.c.cores) := h.hd (by decide)
  have d1 : W.cell? ⟨r.nb, 1, none⟩ = some (.int .i64 S.c.sets) := h.hd (by decide)
  have d2 : W.cell? ⟨r.nb, 2, none⟩ = some (.int .i64 S.c.ways) := h.hd (by decide)
  have d3 : W.cell? ⟨r.nb, 3, none⟩ = some (.int .i64 S.c.blocks) := h.hd (by decide)
  have d4 : W.cell? ⟨r.nb, 4, none⟩ = some (.int .i64 S.c.logs) := h.hd (by decide)
  have d5 : W.cell? ⟨r.nb, 5, none⟩ = some (.int .i64 S.c.backs) := h.hd (by decide)
  have d6 : W.cell? ⟨r.nb, 6, none⟩ = some (.int .i64 S.c.nest) := h.hd (by decide)
  have d7 : W.cell? ⟨r.nb, 7, none⟩ = some (.int .i64 S.c.tries) := h.hd (by decide)
  have HH := Lib.hid h
  obtain ⟨hb0, hb1⟩ := hb
  clear h hdata
  generalize hdd : S.data = data at HD hb1
  clear hdd
  go_enter Tryz.func67, Tryz.ntmps67
  go_wp2_with fail
  refine (HD.out _).mono ?_
  rintro e W2 ⟨rfl, hu⟩
  have HH2 := Lib.hid (HH.out.upd0 hu)
  clear hu d0 d1 d2 d3 d4 d5 d6 d7 HH HD
  have c37 := HH2.out.wc
  rw [hwa] at c37
  have c9 : W2.cell? ⟨r.nb, 9, none⟩ = some (ptr r.p.kb) := HH2.out.hd (by decide)
  have HF := Lib.hid (rcfind_is HH2.out b)
  have HFS := Lib.hid (fun hp => fnd_st HH2.out.ok (b := b) hp)
  have HLN := Lib.hid (Ln.Ok.isN (KA.fnd_ok (p := r.p) HH2.out.ok.ok.okA b).isU)
  unfold hitB at hhit
  have HHIT := Lib.hid hhit
  clear hwa hhit
  generalize r.p.fnd S.A b = l at *
  generalize (r.p.place S.A b).isSome = y at *
  go_upto_region 5 with fail
  go_cut [9, 10] from 31 to 40 (fun s9 s10 wx => ∃ g9, s9 = ptr g9 ∧ s10 = .bool y ∧ Hid (RIs w0 wx r S (boxO g9 l.cells LT :: L)))
  case first =>
    go_wp2_with fail
    refine HF.out.mono ?_
    rintro e W3 ⟨rfl, hu⟩
    have s1 := TLin.st_new HLN.out W3
    have HH3 := Lib.hid ((HH2.out.upd0 hu).alloc l.cells LT)
    clear hu
    go_wp2_with fail
    go_meet
    exact ⟨_, rfl, rfl, HH3⟩
  case rest =>
  obtain ⟨g9, rfl, rfl, hN3⟩ := hcut
  clear c37 HH2 HF c9
  go_step
  go_step
  go_cut [10] from 40 to 50 (fun s10 wx => Hid (RIs w0 wx r S (boxO g9 l.cells LT :: L)))
  case first =>
    have c1 := (hN3.out.lb.cell 1).trans l.get1
    cases y
    · go_wp2_with fail
      go_meet
      exact hN3
    · have hx := HHIT.out
      cases wr
      · exact absurd hx (by simp)
      · have hs : ¬ (2 : Int) ≤ l.st := by
          have h3 : l.st = 1 := by simpa using hx
          omega
        clear hx
        go_wp2_with fail
        go_meet
        exact hN3
  case rest =>
  have HH4 := hcut
  clear hN3 hcut HHIT HFS
  have c10 : wc.cell? ⟨r.nb, 10, none⟩ = some (ptr r.bb) := HH4.out.hd (by decide)
  have HBF := Lib.hid (rbhas_is HH4.out b)
  go_wp2_with fail
  refine HBF.out.mono ?_
  rintro e W5 ⟨rfl, rfl⟩
  clear HBF c10
  rw [hbk]
  go_wp2_with fail
  go_ret3
  exact ⟨nilV, rfl, HH4.out.pop.outNil⟩
set_option maxRecDepth 100000 in
set_option maxHeartbeats 4000000 in
theorem rask_none (h : RIs w0 W r S L) (b : Int) (wr : Bool) (hb : 0 ≤ b ∧ b < S.data) (hwa : S.wa = false) (hhit : hitB r.p S b wr = false) (hbk : bkI S.zs b = false) (hg : (r.p.goes S.A S.M b).isSome = false) : Calls Tryz.prog 67 #[ptr r.nb, .int .i64 b, .bool wr] W (RAEnds w0 r (askQ S [] b wr) L) := by
  obtain ⟨g, hgg⟩ : ∃ x, r.p.gone S.A S.M b = x := ⟨_, rfl⟩
  have HD := Lib.hid (PL.rdata_any S.c h.ok.ok.may.1 h.ok.ok.may.2.2.1 h.ok.ok.may.2.1)
  have hdata : S.c.blocks - S.c.cores * S.c.logs = S.data := rfl
  rw [hdata] at HD
  have d0 : W.cell? ⟨r.nb, 0, none⟩ = some (.int .i64 S.c.cores) := h.hd (by decide)
  have d1 : W.cell? ⟨r.nb, 1, none⟩ = some (.int .i64 S.c.sets) := h.hd (by decide)
  have d2 : W.cell? ⟨r.nb, 2, none⟩ = some (.int .i64 S.c.ways) := h.hd (by decide)
  have d3 : W.cell? ⟨r.nb, 3, none⟩ = some (.int .i64 S.c.blocks) := h.hd (by decide)
  have d4 : W.cell? ⟨r.nb, 4, none⟩ = some (.int .i64 S.c.logs) := h.hd (by decide)
  have d5 : W.cell? ⟨r.nb, 5, none⟩ = some (.int .i64 S.c.backs) := h.hd (by decide)
  have d6 : W.cell? ⟨r.nb, 6, none⟩ = some (.int .i64 S.c.nest) := h.hd (by decide)
  have d7 : W.cell? ⟨r.nb, 7, none⟩ = some (.int .i64 S.c.tries) := h.hd (by decide)
  have HH := Lib.hid h
  obtain ⟨hb0, hb1⟩ := hb
  clear h hdata
  generalize hdd : S.data = data at HD hb1
  clear hdd
  go_enter Tryz.func67, Tryz.ntmps67
  go_wp2_with fail
  refine (HD.out _).mono ?_
  rintro e W2 ⟨rfl, hu⟩
  have HH2 := Lib.hid (HH.out.upd0 hu)
  clear hu d0 d1 d2 d3 d4 d5 d6 d7 HH HD
  have c37 := HH2.out.wc
  rw [hwa] at c37
  have c9 : W2.cell? ⟨r.nb, 9, none⟩ = some (ptr r.p.kb) := HH2.out.hd (by decide)
  have HF := Lib.hid (rcfind_is HH2.out b)
  have HFS := Lib.hid (fun hp => fnd_st HH2.out.ok (b := b) hp)
  have HLN := Lib.hid (Ln.Ok.isN (KA.fnd_ok (p := r.p) HH2.out.ok.ok.okA b).isU)
  unfold hitB at hhit
  have HHIT := Lib.hid hhit
  clear hwa hhit
  generalize r.p.fnd S.A b = l at *
  generalize (r.p.place S.A b).isSome = y at *
  go_upto_region 5 with fail
  go_cut [9, 10] from 31 to 40 (fun s9 s10 wx => ∃ g9, s9 = ptr g9 ∧ s10 = .bool y ∧ Hid (RIs w0 wx r S (boxO g9 l.cells LT :: L)))
  case first =>
    go_wp2_with fail
    refine HF.out.mono ?_
    rintro e W3 ⟨rfl, hu⟩
    have s1 := TLin.st_new HLN.out W3
    have HH3 := Lib.hid ((HH2.out.upd0 hu).alloc l.cells LT)
    clear hu
    go_wp2_with fail
    go_meet
    exact ⟨_, rfl, rfl, HH3⟩
  case rest =>
  obtain ⟨g9, rfl, rfl, hN3⟩ := hcut
  clear c37 HH2 HF c9
  go_step
  go_step
  go_cut [10] from 40 to 50 (fun s10 wx => Hid (RIs w0 wx r S (boxO g9 l.cells LT :: L)))
  case first =>
    have c1 := (hN3.out.lb.cell 1).trans l.get1
    cases y
    · go_wp2_with fail
      go_meet
      exact hN3
    · have hx := HHIT.out
      cases wr
      · exact absurd hx (by simp)
      · have hs : ¬ (2 : Int) ≤ l.st := by
          have h3 : l.st = 1 := by simpa using hx
          omega
        clear hx
        go_wp2_with fail
        go_meet
        exact hN3
  case rest =>
  have HH4 := hcut
  clear hN3 hcut HHIT HFS
  have c10 : wc.cell? ⟨r.nb, 10, none⟩ = some (ptr r.bb) := HH4.out.hd (by decide)
  have HBF := Lib.hid (rbhas_is HH4.out b)
  go_wp2_with fail
  refine HBF.out.mono ?_
  rintro e W5 ⟨rfl, rfl⟩
  clear HBF c10
  rw [hbk]
  have c9 : wc.cell? ⟨r.nb, 9, none⟩ = some (ptr r.p.kb) := HH4.out.hd (by decide)
  have HG := Lib.hid (rcgoes_is HH4.out b)
  have HGO := Lib.hid (gone_ok (p := r.p) HH4.out.ok.ok.okA (M := S.M) b)
  have HGS := Lib.hid (fun hp => gone_st HH4.out.ok (b := b) hp)
  go_wp2_with fail
  refine HG.out.mono ?_
  rintro e W5 ⟨rfl, hu⟩
  rw [hgg] at HGO HGS ⊢
  have s3 := TLin.st_new (Ln.Ok.isN HGO.out.isU) W5
  have HH6 := Lib.hid ((HH4.out.upd0 hu).alloc g.cells LT)
  clear hu c9 HG HH4
  obtain ⟨W6, hW6⟩ : ∃ X, W5.alloc (.cells g.cells LT) = X := ⟨_, rfl⟩
  obtain ⟨x12, hx12⟩ : ∃ X, W5.heap.size = X := ⟨_, rfl⟩
  rw [hW6, hx12] at HH6 s3
  have c1 : W6.cell? ⟨x12, 1, none⟩ = some (.int .u8 g.st) := (HH6.out.lb.cell 1).trans g.get1
  rw [hg]
  go_upto_region 20 with fail
  clear s3 c1 hW6 hx12
  have HT := Lib.hid (HH6.out.upd0 (Upd.drew NoF W6))
  have y5 := fun w => bd_ask (S) b w
  have hao := fun wr => askN_ok HH6.out.ok.ok.st b wr
  have HAO : Hid (∀ wr, (askN (S) b wr).Ok) := Lib.hid hao
  clear hao HH6
  go_upto_region 20 with fail
  refine wp_region_held_drew (S := (fun X : World => X.cell? ⟨r.nb, 8, none⟩ = some (.int .i64 (S).core) ∧ X.cell? ⟨r.nb, 12, none⟩ = some (ptr r.db))) (by kernel_rfl) (⟨HT.out.hd (by decide), HT.out.hd (by decide)⟩) (fun hHeld => ?_)
  obtain ⟨T0, hT0⟩ : ∃ X, W6.drew = X := ⟨_, rfl⟩
  rw [hT0] at hHeld HT ⊢
  clear hT0
  refine rgn 0 (v := ?vq1) hHeld ?yq1 ?_
  case yq1 => (intro w hSw; obtain ⟨k0, k1⟩ := hSw; go_simp; try with_reducible rfl)
  simp only [Act.put, rns]
  refine rgn 1 (v := ?vq2) hHeld ?yq2 ?_
  case yq2 => (intro w hSw; obtain ⟨k0, k1⟩ := hSw; go_simp; try with_reducible rfl)
  simp only [Act.put, rns]
  refine rgn 2 (v := ?vq3) hHeld ?yq3 ?_
  case yq3 => (intro w hSw; obtain ⟨k0, k1⟩ := hSw; go_simp; try with_reducible rfl)
  simp only [Act.put, rns]
  refine rgn 3 (v := ?vq4) hHeld ?yq4 ?_
  case yq4 => (intro w hSw; obtain ⟨k0, k1⟩ := hSw; go_simp; try with_reducible rfl)
  simp only [Act.put, rns]
  refine rgn 4 (v := ?vq5) hHeld ?yq5 ?_
  case yq5 => (intro w hSw; obtain ⟨k0, k1⟩ := hSw; go_simp; try with_reducible rfl)
  simp only [Act.put, rns]
  refine rgn 5 (v := ?vq6) hHeld ?yq6 ?_
  case yq6 => (intro w hSw; obtain ⟨k0, k1⟩ := hSw; go_simp; try with_reducible rfl)
  simp only [Act.put, rns]
  refine rgn 6 (v := ?vq7) hHeld ?yq7 ?_
  case yq7 => (intro w hSw; obtain ⟨k0, k1⟩ := hSw; go_simp; try with_reducible rfl)
  simp only [Act.put, rns]
  refine rgn 7 (v := ?vq8) hHeld ?yq8 ?_
  case yq8 => (intro w hSw; obtain ⟨k0, k1⟩ := hSw; go_simp; try with_reducible rfl)
  simp only [Act.put, rns]
  refine rgn 8 (v := ?vq9) hHeld ?yq9 ?_
  case yq9 => (intro w hSw; obtain ⟨k0, k1⟩ := hSw; go_simp; try with_reducible rfl)
  simp only [Act.put, rns]
  refine rgn 9 (v := ?vq10) hHeld ?yq10 ?_
  case yq10 => (intro w hSw; obtain ⟨k0, k1⟩ := hSw; go_simp; try with_reducible rfl)
  simp only [Act.put, rns]
  refine reg_step (i := 10) (by kernel_rfl) rfl (by kernel_rfl) (fun K hK => ?_)
  go_simp
  refine (rdstamp_is HT.out).mono ?_
  rintro e Wz ⟨rfl, rfl⟩
  have HS := hHeld
  go_wp2_with fail
  refine hK.out _ _ HS (fun hHeld2 => ?_)
  clear hK hHeld2 hHeld; have hHeld := HS; clear HS
  try simp only [Act.put, rns]
  refine rgn 11 (v := ?vq11) hHeld ?yq11 ?_
  case yq11 => (intro w hSw; go_simp; try with_reducible rfl)
  simp only [Act.put, rns]
  refine rgn 12 (v := ?vq12) hHeld ?yq12 ?_
  case yq12 => (intro w hSw; go_simp; try with_reducible rfl)
  simp only [Act.put, rns]
  refine rgn 13 (v := ?vq13) hHeld ?yq13 ?_
  case yq13 => (intro w hSw; go_simp; try with_reducible rfl)
  simp only [Act.put, rns]
  refine reg_step (i := 14) (by kernel_rfl) rfl (by kernel_rfl) (fun K hK => ?_)
  have s5 := rnst_mid HT.out (HAO.out false)
  have hT2 := HT.out.setq (HAO.out false)
  go_simp
  obtain ⟨T2, hY⟩ : ∃ X, T0.setCells r.nb 13 (askN (S) b false).cells.toList = X := ⟨_, rfl⟩
  rw [hY] at hT2 ⊢
  have HS : (fun X : World => X.cell? ⟨r.nb, 8, none⟩ = some (.int .i64 (S).core) ∧ X.cell? ⟨r.nb, 12, none⟩ = some (ptr r.db)) T2 := ⟨hT2.hd (by decide), hT2.hd (by decide)⟩
  have HT2 := Lib.hid hT2
  clear hT2 hY s5
  refine hK.out _ _ HS (fun hHeld2 => ?_)
  clear hK hHeld2 hHeld; have hHeld := HS; clear HS
  try simp only [Act.put, rns]
  refine wpAnyH_done (by kernel_rfl) ?_ _
  clear hHeld y5 HT
  cases wr
  · have c37 : (T2).cell? ⟨r.nb, 37, none⟩ = some (.bool (S).wa) := HT2.out.wc
    have f37 : (T2).frozen? ⟨r.nb, 37, none⟩ = false := HT2.out.box.frozen 37
    have HT9 := Lib.hid (HT2.out.setw true)
    have l13 : (TNot.ld (.pointer (some ⟨r.nb, 13, none⟩))).run Tryz.prog ((T2).setCell ⟨r.nb, 37, none⟩ (.bool true)) = .ok (.agg (askN (S) b false).cells) _ := HT9.out.ldq
    have y3 := fun w => bsN_run (Nt.Ok.isN (HAO.out false).isU).1 w
    obtain ⟨v', W12, hrun, hN12⟩ := RIs.app (ns := []) (HT9.out.outNil) (askN (S) b false) (HAO.out false).isU (by simp)
    have HR := Lib.hid hrun
    have HN12 := Lib.hid hN12
    clear hrun hN12 HT2 HT9
    generalize (askN (S) b false).cells = x at *
    obtain ⟨W11, hW11⟩ : ∃ X, (T2).setCell ⟨r.nb, 37, none⟩ (.bool true) = X := ⟨_, rfl⟩
    rw [hW11] at l13 HR
    have HW11 := Lib.hid hW11
    clear hW11
    go_upto_region 24 with fail
    rw [HW11.out]
    clear c37 f37
    go_wp2_with (at_builtin; refine wpList_append_run (w := W11.alloc (.cells x NT)) rfl _ _ 43 rfl rfl rfl HR.out ?_)
    go_ret3
    exact ⟨v', rfl, HN12.out.pop2.pop2⟩
  · have c13 : T2.cell? ⟨r.nb, 13, none⟩ = some (.int .u8 1) := HT2.out.qc (i := 0) (askN (S) b false).get0
    have f13 : T2.frozen? ⟨r.nb, 13, none⟩ = false := HT2.out.box.frozen 13
    have HT3 := Lib.hid (show RIs w0 (T2.setCell ⟨r.nb, 13, none⟩ (.int .u8 2)) r { (S) with q := askN (S) b true } _ from HT2.out.setqc (j := 0) (q := askN (S) b true) (by decide) (set_kind _ _) (HAO.out true))
    have c37 : (T2.setCell ⟨r.nb, 13, none⟩ (.int .u8 2)).cell? ⟨r.nb, 37, none⟩ = some (.bool (S).wa) := HT3.out.wc
    have f37 : (T2.setCell ⟨r.nb, 13, none⟩ (.int .u8 2)).frozen? ⟨r.nb, 37, none⟩ = false := HT3.out.box.frozen 37
    have HT9 := Lib.hid (HT3.out.setw true)
    have l13 : (TNot.ld (.pointer (some ⟨r.nb, 13, none⟩))).run Tryz.prog ((T2.setCell ⟨r.nb, 13, none⟩ (.int .u8 2)).setCell ⟨r.nb, 37, none⟩ (.bool true)) = .ok (.agg (askN (S) b true).cells) _ := HT9.out.ldq
    have y3 := fun w => bsN_run (Nt.Ok.isN (HAO.out true).isU).1 w
    obtain ⟨v', W12, hrun, hN12⟩ := RIs.app (ns := []) (HT9.out.outNil) (askN (S) b true) (HAO.out true).isU (by simp)
    have HR := Lib.hid hrun
    have HN12 := Lib.hid hN12
    clear hrun hN12 HT2 HT3 HT9
    generalize (askN (S) b true).cells = x at *
    obtain ⟨W11, hW11⟩ : ∃ X, (T2.setCell ⟨r.nb, 13, none⟩ (.int .u8 2)).setCell ⟨r.nb, 37, none⟩ (.bool true) = X := ⟨_, rfl⟩
    rw [hW11] at l13 HR
    have HW11 := Lib.hid hW11
    clear hW11
    go_upto_region 24 with fail
    rw [HW11.out]
    clear c13 f13 c37 f37
    go_wp2_with (at_builtin; refine wpList_append_run (w := W11.alloc (.cells x NT)) rfl _ _ 43 rfl rfl rfl HR.out ?_)
    go_ret3
    exact ⟨v', rfl, HN12.out.pop2.pop2⟩
set_option maxRecDepth 100000 in
set_option maxHeartbeats 4000000 in
theorem rask_shared (h : RIs w0 W r S L) (b : Int) (wr : Bool) (hb : 0 ≤ b ∧ b < S.data) (hwa : S.wa = false) (hhit : hitB r.p S b wr = false) (hbk : bkI S.zs b = false) (hg : (r.p.goes S.A S.M b).isSome = true) (hst : ((r.p.gone S.A S.M b).st != 1) = false) : Calls Tryz.prog 67 #[ptr r.nb, .int .i64 b, .bool wr] W (RAEnds w0 r (askQ (goneS r.p S (r.p.gone S.A S.M b)) [] b wr) L) := by
  obtain ⟨g, hgg⟩ : ∃ x, r.p.gone S.A S.M b = x := ⟨_, rfl⟩
  rw [hgg] at hst ⊢
  have HD := Lib.hid (PL.rdata_any S.c h.ok.ok.may.1 h.ok.ok.may.2.2.1 h.ok.ok.may.2.1)
  have hdata : S.c.blocks - S.c.cores * S.c.logs = S.data := rfl
  rw [hdata] at HD
  have d0 : W.cell? ⟨r.nb, 0, none⟩ = some (.int .i64 S.c.cores) := h.hd (by decide)
  have d1 : W.cell? ⟨r.nb, 1, none⟩ = some (.int .i64 S.c.sets) := h.hd (by decide)
  have d2 : W.cell? ⟨r.nb, 2, none⟩ = some (.int .i64 S.c.ways) := h.hd (by decide)
  have d3 : W.cell? ⟨r.nb, 3, none⟩ = some (.int .i64 S.c.blocks) := h.hd (by decide)
  have d4 : W.cell? ⟨r.nb, 4, none⟩ = some (.int .i64 S.c.logs) := h.hd (by decide)
  have d5 : W.cell? ⟨r.nb, 5, none⟩ = some (.int .i64 S.c.backs) := h.hd (by decide)
  have d6 : W.cell? ⟨r.nb, 6, none⟩ = some (.int .i64 S.c.nest) := h.hd (by decide)
  have d7 : W.cell? ⟨r.nb, 7, none⟩ = some (.int .i64 S.c.tries) := h.hd (by decide)
  have HH := Lib.hid h
  obtain ⟨hb0, hb1⟩ := hb
  clear h hdata
  generalize hdd : S.data = data at HD hb1
  clear hdd
  go_enter Tryz.func67, Tryz.ntmps67
  go_wp2_with fail
  refine (HD.out _).mono ?_
  rintro e W2 ⟨rfl, hu⟩
  have HH2 := Lib.hid (HH.out.upd0 hu)
  clear hu d0 d1 d2 d3 d4 d5 d6 d7 HH HD
  have c37 := HH2.out.wc
  rw [hwa] at c37
  have c9 : W2.cell? ⟨r.nb, 9, none⟩ = some (ptr r.p.kb) := HH2.out.hd (by decide)
  have HF := Lib.hid (rcfind_is HH2.out b)
  have HFS := Lib.hid (fun hp => fnd_st HH2.out.ok (b := b) hp)
  have HLN := Lib.hid (Ln.Ok.isN (KA.fnd_ok (p := r.p) HH2.out.ok.ok.okA b).isU)
  unfold hitB at hhit
  have HHIT := Lib.hid hhit
  clear hwa hhit
  generalize r.p.fnd S.A b = l at *
  generalize (r.p.place S.A b).isSome = y at *
  go_upto_region 5 with fail
  go_cut [9, 10] from 31 to 40 (fun s9 s10 wx => ∃ g9, s9 = ptr g9 ∧ s10 = .bool y ∧ Hid (RIs w0 wx r S (boxO g9 l.cells LT :: L)))
  case first =>
    go_wp2_with fail
    refine HF.out.mono ?_
    rintro e W3 ⟨rfl, hu⟩
    have s1 := TLin.st_new HLN.out W3
    have HH3 := Lib.hid ((HH2.out.upd0 hu).alloc l.cells LT)
    clear hu
    go_wp2_with fail
    go_meet
    exact ⟨_, rfl, rfl, HH3⟩
  case rest =>
  obtain ⟨g9, rfl, rfl, hN3⟩ := hcut
  clear c37 HH2 HF c9
  go_step
  go_step
  go_cut [10] from 40 to 50 (fun s10 wx => Hid (RIs w0 wx r S (boxO g9 l.cells LT :: L)))
  case first =>
    have c1 := (hN3.out.lb.cell 1).trans l.get1
    cases y
    · go_wp2_with fail
      go_meet
      exact hN3
    · have hx := HHIT.out
      cases wr
      · exact absurd hx (by simp)
      · have hs : ¬ (2 : Int) ≤ l.st := by
          have h3 : l.st = 1 := by simpa using hx
          omega
        clear hx
        go_wp2_with fail
        go_meet
        exact hN3
  case rest =>
  have HH4 := hcut
  clear hN3 hcut HHIT HFS
  have c10 : wc.cell? ⟨r.nb, 10, none⟩ = some (ptr r.bb) := HH4.out.hd (by decide)
  have HBF := Lib.hid (rbhas_is HH4.out b)
  go_wp2_with fail
  refine HBF.out.mono ?_
  rintro e W5 ⟨rfl, rfl⟩
  clear HBF c10
  rw [hbk]
  have c9 : wc.cell? ⟨r.nb, 9, none⟩ = some (ptr r.p.kb) := HH4.out.hd (by decide)
  have HG := Lib.hid (rcgoes_is HH4.out b)
  have HGO := Lib.hid (gone_ok (p := r.p) HH4.out.ok.ok.okA (M := S.M) b)
  have HGS := Lib.hid (fun hp => gone_st HH4.out.ok (b := b) hp)
  go_wp2_with fail
  refine HG.out.mono ?_
  rintro e W5 ⟨rfl, hu⟩
  rw [hgg] at HGO HGS ⊢
  have s3 := TLin.st_new (Ln.Ok.isN HGO.out.isU) W5
  have HH6 := Lib.hid ((HH4.out.upd0 hu).alloc g.cells LT)
  clear hu c9 HG HH4
  obtain ⟨W6, hW6⟩ : ∃ X, W5.alloc (.cells g.cells LT) = X := ⟨_, rfl⟩
  obtain ⟨x12, hx12⟩ : ∃ X, W5.heap.size = X := ⟨_, rfl⟩
  rw [hW6, hx12] at HH6 s3
  have c1 : W6.cell? ⟨x12, 1, none⟩ = some (.int .u8 g.st) := (HH6.out.lb.cell 1).trans g.get1
  rw [hg]
  have hs : ¬ (2 : Int) ≤ g.st := by
    have h3 : g.st = 1 := by simpa using hst
    omega
  go_upto_region 19 with fail
  clear s3 c1 hW6 hx12
  have HDD := Lib.hid (HH6.out.upd0 (Upd.drew NoF W6))
  go_upto_region 19 with fail
  refine wp_region_held_drew (S := (fun X : World => X.cell? ⟨r.nb, 9, none⟩ = some (ptr r.p.kb) ∧ X.cell? ⟨x12, 0, none⟩ = some (.int .i64 g.blk))) (by kernel_rfl) (⟨HDD.out.hd (by decide), ((HDD.out.sep.box 9 rfl).cell 0).trans g.get0⟩) (fun hHeld => ?_)
  obtain ⟨D0, hD0⟩ : ∃ X, W6.drew = X := ⟨_, rfl⟩
  rw [hD0] at hHeld HDD ⊢
  clear hD0
  refine rgn 0 (v := ?vq14) hHeld ?yq14 ?_
  case yq14 => (intro w hSw; obtain ⟨k0, k1⟩ := hSw; go_simp; try with_reducible rfl)
  simp only [Act.put, rns]
  refine rgn 1 (v := ?vq15) hHeld ?yq15 ?_
  case yq15 => (intro w hSw; obtain ⟨k0, k1⟩ := hSw; go_simp; try with_reducible rfl)
  simp only [Act.put, rns]
  refine rgn 2 (v := ?vq16) hHeld ?yq16 ?_
  case yq16 => (intro w hSw; obtain ⟨k0, k1⟩ := hSw; go_simp; try with_reducible rfl)
  simp only [Act.put, rns]
  refine rgn 3 (v := ?vq17) hHeld ?yq17 ?_
  case yq17 => (intro w hSw; obtain ⟨k0, k1⟩ := hSw; go_simp; try with_reducible rfl)
  simp only [Act.put, rns]
  refine rgn 4 (v := ?vq18) hHeld ?yq18 ?_
  case yq18 => (intro w hSw; obtain ⟨k0, k1⟩ := hSw; go_simp; try with_reducible rfl)
  simp only [Act.put, rns]
  refine rgn 5 (v := ?vq19) hHeld ?yq19 ?_
  case yq19 => (intro w hSw; obtain ⟨k0, k1⟩ := hSw; go_simp; try with_reducible rfl)
  simp only [Act.put, rns]
  refine reg_step (i := 6) (by kernel_rfl) rfl (by kernel_rfl) (fun K hK => ?_)
  go_simp
  refine (rcdrop_is HDD.out g.blk).mono ?_
  rintro e wb ⟨rfl, hN2⟩
  have HS : (fun X : World => X.cell? ⟨r.nb, 9, none⟩ = some (ptr r.p.kb) ∧ X.cell? ⟨x12, 0, none⟩ = some (.int .i64 g.blk)) wb := ⟨hN2.hd (by decide), ((hN2.sep.box 9 rfl).cell 0).trans g.get0⟩
  have HHB : Hid (RIs w0 wb r (goneS r.p S g) _) := Lib.hid hN2
  clear hN2
  go_wp2_with fail
  refine hK.out _ _ HS (fun hHeld2 => ?_)
  clear hK hHeld2 hHeld; have hHeld := HS; clear HS
  try simp only [Act.put, rns]
  refine wpAnyH_done (by kernel_rfl) ?_ _
  clear hHeld HDD HH6
  have HT := Lib.hid (HHB.out.upd0 (Upd.drew NoF wb))
  have y5 := fun w => bd_ask (goneS r.p S g) b w
  have hao := fun wr => askN_ok HHB.out.ok.ok.st b wr
  have HAO : Hid (∀ wr, (askN (goneS r.p S g) b wr).Ok) := Lib.hid hao
  clear hao HHB
  go_upto_region 20 with fail
  refine wp_region_held_drew (S := (fun X : World => X.cell? ⟨r.nb, 8, none⟩ = some (.int .i64 (goneS r.p S g).core) ∧ X.cell? ⟨r.nb, 12, none⟩ = some (ptr r.db))) (by kernel_rfl) (⟨HT.out.hd (by decide), HT.out.hd (by decide)⟩) (fun hHeld => ?_)
  obtain ⟨T0, hT0⟩ : ∃ X, wb.drew = X := ⟨_, rfl⟩
  rw [hT0] at hHeld HT ⊢
  clear hT0
  refine rgn 0 (v := ?vq20) hHeld ?yq20 ?_
  case yq20 => (intro w hSw; obtain ⟨k0, k1⟩ := hSw; go_simp; try with_reducible rfl)
  simp only [Act.put, rns]
  refine rgn 1 (v := ?vq21) hHeld ?yq21 ?_
  case yq21 => (intro w hSw; obtain ⟨k0, k1⟩ := hSw; go_simp; try with_reducible rfl)
  simp only [Act.put, rns]
  refine rgn 2 (v := ?vq22) hHeld ?yq22 ?_
  case yq22 => (intro w hSw; obtain ⟨k0, k1⟩ := hSw; go_simp; try with_reducible rfl)
  simp only [Act.put, rns]
  refine rgn 3 (v := ?vq23) hHeld ?yq23 ?_
  case yq23 => (intro w hSw; obtain ⟨k0, k1⟩ := hSw; go_simp; try with_reducible rfl)
  simp only [Act.put, rns]
  refine rgn 4 (v := ?vq24) hHeld ?yq24 ?_
  case yq24 => (intro w hSw; obtain ⟨k0, k1⟩ := hSw; go_simp; try with_reducible rfl)
  simp only [Act.put, rns]
  refine rgn 5 (v := ?vq25) hHeld ?yq25 ?_
  case yq25 => (intro w hSw; obtain ⟨k0, k1⟩ := hSw; go_simp; try with_reducible rfl)
  simp only [Act.put, rns]
  refine rgn 6 (v := ?vq26) hHeld ?yq26 ?_
  case yq26 => (intro w hSw; obtain ⟨k0, k1⟩ := hSw; go_simp; try with_reducible rfl)
  simp only [Act.put, rns]
  refine rgn 7 (v := ?vq27) hHeld ?yq27 ?_
  case yq27 => (intro w hSw; obtain ⟨k0, k1⟩ := hSw; go_simp; try with_reducible rfl)
  simp only [Act.put, rns]
  refine rgn 8 (v := ?vq28) hHeld ?yq28 ?_
  case yq28 => (intro w hSw; obtain ⟨k0, k1⟩ := hSw; go_simp; try with_reducible rfl)
  simp only [Act.put, rns]
  refine rgn 9 (v := ?vq29) hHeld ?yq29 ?_
  case yq29 => (intro w hSw; obtain ⟨k0, k1⟩ := hSw; go_simp; try with_reducible rfl)
  simp only [Act.put, rns]
  refine reg_step (i := 10) (by kernel_rfl) rfl (by kernel_rfl) (fun K hK => ?_)
  go_simp
  refine (rdstamp_is HT.out).mono ?_
  rintro e Wz ⟨rfl, rfl⟩
  have HS := hHeld
  go_wp2_with fail
  refine hK.out _ _ HS (fun hHeld2 => ?_)
  clear hK hHeld2 hHeld; have hHeld := HS; clear HS
  try simp only [Act.put, rns]
  refine rgn 11 (v := ?vq30) hHeld ?yq30 ?_
  case yq30 => (intro w hSw; go_simp; try with_reducible rfl)
  simp only [Act.put, rns]
  refine rgn 12 (v := ?vq31) hHeld ?yq31 ?_
  case yq31 => (intro w hSw; go_simp; try with_reducible rfl)
  simp only [Act.put, rns]
  refine rgn 13 (v := ?vq32) hHeld ?yq32 ?_
  case yq32 => (intro w hSw; go_simp; try with_reducible rfl)
  simp only [Act.put, rns]
  refine reg_step (i := 14) (by kernel_rfl) rfl (by kernel_rfl) (fun K hK => ?_)
  have s5 := rnst_mid HT.out (HAO.out false)
  have hT2 := HT.out.setq (HAO.out false)
  go_simp
  obtain ⟨T2, hY⟩ : ∃ X, T0.setCells r.nb 13 (askN (goneS r.p S g) b false).cells.toList = X := ⟨_, rfl⟩
  rw [hY] at hT2 ⊢
  have HS : (fun X : World => X.cell? ⟨r.nb, 8, none⟩ = some (.int .i64 (goneS r.p S g).core) ∧ X.cell? ⟨r.nb, 12, none⟩ = some (ptr r.db)) T2 := ⟨hT2.hd (by decide), hT2.hd (by decide)⟩
  have HT2 := Lib.hid hT2
  clear hT2 hY s5
  refine hK.out _ _ HS (fun hHeld2 => ?_)
  clear hK hHeld2 hHeld; have hHeld := HS; clear HS
  try simp only [Act.put, rns]
  refine wpAnyH_done (by kernel_rfl) ?_ _
  clear hHeld y5 HT
  cases wr
  · have c37 : (T2).cell? ⟨r.nb, 37, none⟩ = some (.bool (goneS r.p S g).wa) := HT2.out.wc
    have f37 : (T2).frozen? ⟨r.nb, 37, none⟩ = false := HT2.out.box.frozen 37
    have HT9 := Lib.hid (HT2.out.setw true)
    have l13 : (TNot.ld (.pointer (some ⟨r.nb, 13, none⟩))).run Tryz.prog ((T2).setCell ⟨r.nb, 37, none⟩ (.bool true)) = .ok (.agg (askN (goneS r.p S g) b false).cells) _ := HT9.out.ldq
    have y3 := fun w => bsN_run (Nt.Ok.isN (HAO.out false).isU).1 w
    obtain ⟨v', W12, hrun, hN12⟩ := RIs.app (ns := []) (HT9.out.outNil) (askN (goneS r.p S g) b false) (HAO.out false).isU (by simp)
    have HR := Lib.hid hrun
    have HN12 := Lib.hid hN12
    clear hrun hN12 HT2 HT9
    generalize (askN (goneS r.p S g) b false).cells = x at *
    obtain ⟨W11, hW11⟩ : ∃ X, (T2).setCell ⟨r.nb, 37, none⟩ (.bool true) = X := ⟨_, rfl⟩
    rw [hW11] at l13 HR
    have HW11 := Lib.hid hW11
    clear hW11
    go_upto_region 24 with fail
    rw [HW11.out]
    clear c37 f37
    go_wp2_with (at_builtin; refine wpList_append_run (w := W11.alloc (.cells x NT)) rfl _ _ 43 rfl rfl rfl HR.out ?_)
    go_ret3
    exact ⟨v', rfl, HN12.out.pop2.pop2⟩
  · have c13 : T2.cell? ⟨r.nb, 13, none⟩ = some (.int .u8 1) := HT2.out.qc (i := 0) (askN (goneS r.p S g) b false).get0
    have f13 : T2.frozen? ⟨r.nb, 13, none⟩ = false := HT2.out.box.frozen 13
    have HT3 := Lib.hid (show RIs w0 (T2.setCell ⟨r.nb, 13, none⟩ (.int .u8 2)) r { (goneS r.p S g) with q := askN (goneS r.p S g) b true } _ from HT2.out.setqc (j := 0) (q := askN (goneS r.p S g) b true) (by decide) (set_kind _ _) (HAO.out true))
    have c37 : (T2.setCell ⟨r.nb, 13, none⟩ (.int .u8 2)).cell? ⟨r.nb, 37, none⟩ = some (.bool (goneS r.p S g).wa) := HT3.out.wc
    have f37 : (T2.setCell ⟨r.nb, 13, none⟩ (.int .u8 2)).frozen? ⟨r.nb, 37, none⟩ = false := HT3.out.box.frozen 37
    have HT9 := Lib.hid (HT3.out.setw true)
    have l13 : (TNot.ld (.pointer (some ⟨r.nb, 13, none⟩))).run Tryz.prog ((T2.setCell ⟨r.nb, 13, none⟩ (.int .u8 2)).setCell ⟨r.nb, 37, none⟩ (.bool true)) = .ok (.agg (askN (goneS r.p S g) b true).cells) _ := HT9.out.ldq
    have y3 := fun w => bsN_run (Nt.Ok.isN (HAO.out true).isU).1 w
    obtain ⟨v', W12, hrun, hN12⟩ := RIs.app (ns := []) (HT9.out.outNil) (askN (goneS r.p S g) b true) (HAO.out true).isU (by simp)
    have HR := Lib.hid hrun
    have HN12 := Lib.hid hN12
    clear hrun hN12 HT2 HT3 HT9
    generalize (askN (goneS r.p S g) b true).cells = x at *
    obtain ⟨W11, hW11⟩ : ∃ X, (T2.setCell ⟨r.nb, 13, none⟩ (.int .u8 2)).setCell ⟨r.nb, 37, none⟩ (.bool true) = X := ⟨_, rfl⟩
    rw [hW11] at l13 HR
    have HW11 := Lib.hid hW11
    clear hW11
    go_upto_region 24 with fail
    rw [HW11.out]
    clear c13 f13 c37 f37
    go_wp2_with (at_builtin; refine wpList_append_run (w := W11.alloc (.cells x NT)) rfl _ _ 43 rfl rfl rfl HR.out ?_)
    go_ret3
    exact ⟨v', rfl, HN12.out.pop2.pop2⟩
set_option maxRecDepth 100000 in
set_option maxHeartbeats 4000000 in
theorem rask_full (h : RIs w0 W r S L) (b : Int) (wr : Bool) (hb : 0 ≤ b ∧ b < S.data) (hwa : S.wa = false) (hhit : hitB r.p S b wr = false) (hbk : bkI S.zs b = false) (hg : (r.p.goes S.A S.M b).isSome = true) (hst : ((r.p.gone S.A S.M b).st != 1) = true) (hr : S.c.backs - (S.zs.length : Int) = 0) : Calls Tryz.prog 67 #[ptr r.nb, .int .i64 b, .bool wr] W (RAEnds w0 r ⟨false, [], 110, S⟩ L) := by
  obtain ⟨g, hgg⟩ : ∃ x, r.p.gone S.A S.M b = x := ⟨_, rfl⟩
  rw [hgg] at hst
  have hfl : S.c.backs ≤ (S.zs.length : Int) := by omega
  have HD := Lib.hid (PL.rdata_any S.c h.ok.ok.may.1 h.ok.ok.may.2.2.1 h.ok.ok.may.2.1)
  have hdata : S.c.blocks - S.c.cores * S.c.logs = S.data := rfl
  rw [hdata] at HD
  have d0 : W.cell? ⟨r.nb, 0, none⟩ = some (.int .i64 S.c.cores) := h.hd (by decide)
  have d1 : W.cell? ⟨r.nb, 1, none⟩ = some (.int .i64 S.c.sets) := h.hd (by decide)
  have d2 : W.cell? ⟨r.nb, 2, none⟩ = some (.int .i64 S.c.ways) := h.hd (by decide)
  have d3 : W.cell? ⟨r.nb, 3, none⟩ = some (.int .i64 S.c.blocks) := h.hd (by decide)
  have d4 : W.cell? ⟨r.nb, 4, none⟩ = some (.int .i64 S.c.logs) := h.hd (by decide)
  have d5 : W.cell? ⟨r.nb, 5, none⟩ = some (.int .i64 S.c.backs) := h.hd (by decide)
  have d6 : W.cell? ⟨r.nb, 6, none⟩ = some (.int .i64 S.c.nest) := h.hd (by decide)
  have d7 : W.cell? ⟨r.nb, 7, none⟩ = some (.int .i64 S.c.tries) := h.hd (by decide)
  have HH := Lib.hid h
  obtain ⟨hb0, hb1⟩ := hb
  clear h hdata
  generalize hdd : S.data = data at HD hb1
  clear hdd
  go_enter Tryz.func67, Tryz.ntmps67
  go_wp2_with fail
  refine (HD.out _).mono ?_
  rintro e W2 ⟨rfl, hu⟩
  have HH2 := Lib.hid (HH.out.upd0 hu)
  clear hu d0 d1 d2 d3 d4 d5 d6 d7 HH HD
  have c37 := HH2.out.wc
  rw [hwa] at c37
  have c9 : W2.cell? ⟨r.nb, 9, none⟩ = some (ptr r.p.kb) := HH2.out.hd (by decide)
  have HF := Lib.hid (rcfind_is HH2.out b)
  have HFS := Lib.hid (fun hp => fnd_st HH2.out.ok (b := b) hp)
  have HLN := Lib.hid (Ln.Ok.isN (KA.fnd_ok (p := r.p) HH2.out.ok.ok.okA b).isU)
  unfold hitB at hhit
  have HHIT := Lib.hid hhit
  clear hwa hhit
  generalize r.p.fnd S.A b = l at *
  generalize (r.p.place S.A b).isSome = y at *
  go_upto_region 5 with fail
  go_cut [9, 10] from 31 to 40 (fun s9 s10 wx => ∃ g9, s9 = ptr g9 ∧ s10 = .bool y ∧ Hid (RIs w0 wx r S (boxO g9 l.cells LT :: L)))
  case first =>
    go_wp2_with fail
    refine HF.out.mono ?_
    rintro e W3 ⟨rfl, hu⟩
    have s1 := TLin.st_new HLN.out W3
    have HH3 := Lib.hid ((HH2.out.upd0 hu).alloc l.cells LT)
    clear hu
    go_wp2_with fail
    go_meet
    exact ⟨_, rfl, rfl, HH3⟩
  case rest =>
  obtain ⟨g9, rfl, rfl, hN3⟩ := hcut
  clear c37 HH2 HF c9
  go_step
  go_step
  go_cut [10] from 40 to 50 (fun s10 wx => Hid (RIs w0 wx r S (boxO g9 l.cells LT :: L)))
  case first =>
    have c1 := (hN3.out.lb.cell 1).trans l.get1
    cases y
    · go_wp2_with fail
      go_meet
      exact hN3
    · have hx := HHIT.out
      cases wr
      · exact absurd hx (by simp)
      · have hs : ¬ (2 : Int) ≤ l.st := by
          have h3 : l.st = 1 := by simpa using hx
          omega
        clear hx
        go_wp2_with fail
        go_meet
        exact hN3
  case rest =>
  have HH4 := hcut
  clear hN3 hcut HHIT HFS
  have c10 : wc.cell? ⟨r.nb, 10, none⟩ = some (ptr r.bb) := HH4.out.hd (by decide)
  have HBF := Lib.hid (rbhas_is HH4.out b)
  go_wp2_with fail
  refine HBF.out.mono ?_
  rintro e W5 ⟨rfl, rfl⟩
  clear HBF c10
  rw [hbk]
  have c9 : wc.cell? ⟨r.nb, 9, none⟩ = some (ptr r.p.kb) := HH4.out.hd (by decide)
  have HG := Lib.hid (rcgoes_is HH4.out b)
  have HGO := Lib.hid (gone_ok (p := r.p) HH4.out.ok.ok.okA (M := S.M) b)
  have HGS := Lib.hid (fun hp => gone_st HH4.out.ok (b := b) hp)
  go_wp2_with fail
  refine HG.out.mono ?_
  rintro e W5 ⟨rfl, hu⟩
  rw [hgg] at HGO HGS ⊢
  have s3 := TLin.st_new (Ln.Ok.isN HGO.out.isU) W5
  have HH6 := Lib.hid ((HH4.out.upd0 hu).alloc g.cells LT)
  clear hu c9 HG HH4
  obtain ⟨W6, hW6⟩ : ∃ X, W5.alloc (.cells g.cells LT) = X := ⟨_, rfl⟩
  obtain ⟨x12, hx12⟩ : ∃ X, W5.heap.size = X := ⟨_, rfl⟩
  rw [hW6, hx12] at HH6 s3
  have c1 : W6.cell? ⟨x12, 1, none⟩ = some (.int .u8 g.st) := (HH6.out.lb.cell 1).trans g.get1
  have hs : (2 : Int) ≤ g.st := by
    have h2 := HGS.out hg
    have h3 : g.st ≠ 1 := by simpa using hst
    omega
  rw [hg]
  have HDD := Lib.hid (HH6.out.upd0 (Upd.drew NoF W6))
  go_upto_region 13 with fail
  clear s3 c1 hW6 hx12
  refine wp_region_held_drew (S := (fun X : World => X.cell? ⟨r.nb, 10, none⟩ = some (ptr r.bb) ∧ X.cell? ⟨r.nb, 5, none⟩ = some (.int .i64 S.c.backs))) (by kernel_rfl) (⟨HDD.out.hd (by decide), HDD.out.hd (by decide)⟩) (fun hHeld => ?_)
  obtain ⟨D0, hD0⟩ : ∃ X, W6.drew = X := ⟨_, rfl⟩
  rw [hD0] at hHeld HDD ⊢
  clear hD0
  refine rgn 0 (v := ?vq33) hHeld ?yq33 ?_
  case yq33 => (intro w hSw; obtain ⟨k0, k1⟩ := hSw; go_simp; try with_reducible rfl)
  simp only [Act.put, rns]
  refine rgn 1 (v := ?vq34) hHeld ?yq34 ?_
  case yq34 => (intro w hSw; obtain ⟨k0, k1⟩ := hSw; go_simp; try with_reducible rfl)
  simp only [Act.put, rns]
  refine rgn 2 (v := ?vq35) hHeld ?yq35 ?_
  case yq35 => (intro w hSw; obtain ⟨k0, k1⟩ := hSw; go_simp; try with_reducible rfl)
  simp only [Act.put, rns]
  refine rgn 3 (v := ?vq36) hHeld ?yq36 ?_
  case yq36 => (intro w hSw; obtain ⟨k0, k1⟩ := hSw; go_simp; try with_reducible rfl)
  simp only [Act.put, rns]
  refine rgn 5 (v := ?vq37) hHeld ?yq37 ?_
  case yq37 => (intro w hSw; obtain ⟨k0, k1⟩ := hSw; go_simp; try with_reducible rfl)
  simp only [Act.put, rns]
  refine rgn 6 (v := ?vq38) hHeld ?yq38 ?_
  case yq38 => (intro w hSw; obtain ⟨k0, k1⟩ := hSw; go_simp; try with_reducible rfl)
  simp only [Act.put, rns]
  refine rgn 7 (v := ?vq39) hHeld ?yq39 ?_
  case yq39 => (intro w hSw; obtain ⟨k0, k1⟩ := hSw; go_simp; try with_reducible rfl)
  simp only [Act.put, rns]
  refine rgn 8 (v := ?vq40) hHeld ?yq40 ?_
  case yq40 => (intro w hSw; obtain ⟨k0, k1⟩ := hSw; go_simp; try with_reducible rfl)
  simp only [Act.put, rns]
  refine rgn 9 (v := ?vq41) hHeld ?yq41 ?_
  case yq41 => (intro w hSw; obtain ⟨k0, k1⟩ := hSw; go_simp; try with_reducible rfl)
  simp only [Act.put, rns]
  refine reg_step (i := 4) (by kernel_rfl) rfl (by kernel_rfl) (fun K hK => ?_)
  go_simp
  refine (rblen_is HDD.out).mono ?_
  rintro e Wz ⟨rfl, rfl⟩
  have HS := hHeld
  go_wp2_with fail
  refine hK.out _ _ HS (fun hHeld2 => ?_)
  clear hK hHeld2 hHeld; have hHeld := HS; clear HS
  try simp only [Act.put, rns]
  refine rgn 10 (v := .bool true) hHeld ?yq42 ?_
  case yq42 => (intro w hSw; go_simp; try with_reducible rfl)
  simp only [Act.put, rns]
  refine wpAnyH_done (by kernel_rfl) ?_ _
  clear hHeld HH6
  go_wp2_with fail
  go_ret3
  exact ⟨nilV, rfl, HDD.out.pop.pop.outNil⟩
set_option maxRecDepth 100000 in
set_option maxHeartbeats 4000000 in
theorem rask_put (h : RIs w0 W r S L) (b : Int) (wr : Bool) (hb : 0 ≤ b ∧ b < S.data) (hwa : S.wa = false) (hhit : hitB r.p S b wr = false) (hbk : bkI S.zs b = false) (hg : (r.p.goes S.A S.M b).isSome = true) (hst : ((r.p.gone S.A S.M b).st != 1) = true) (hr : ¬ S.c.backs - (S.zs.length : Int) = 0) : Calls Tryz.prog 67 #[ptr r.nb, .int .i64 b, .bool wr] W (RAEnds w0 r (askQ (goneS r.p (backS S (r.p.gone S.A S.M b)) (r.p.gone S.A S.M b)) [putN S (r.p.gone S.A S.M b)] b wr) L) := by
  obtain ⟨g, hgg⟩ : ∃ x, r.p.gone S.A S.M b = x := ⟨_, rfl⟩
  rw [hgg] at hst ⊢
  have hfl : ¬ S.c.backs ≤ (S.zs.length : Int) := by have := h.ok.ok.inv.few; omega
  have HD := Lib.hid (PL.rdata_any S.c h.ok.ok.may.1 h.ok.ok.may.2.2.1 h.ok.ok.may.2.1)
  have hdata : S.c.blocks - S.c.cores * S.c.logs = S.data := rfl
  rw [hdata] at HD
  have d0 : W.cell? ⟨r.nb, 0, none⟩ = some (.int .i64 S.c.cores) := h.hd (by decide)
  have d1 : W.cell? ⟨r.nb, 1, none⟩ = some (.int .i64 S.c.sets) := h.hd (by decide)
  have d2 : W.cell? ⟨r.nb, 2, none⟩ = some (.int .i64 S.c.ways) := h.hd (by decide)
  have d3 : W.cell? ⟨r.nb, 3, none⟩ = some (.int .i64 S.c.blocks) := h.hd (by decide)
  have d4 : W.cell? ⟨r.nb, 4, none⟩ = some (.int .i64 S.c.logs) := h.hd (by decide)
  have d5 : W.cell? ⟨r.nb, 5, none⟩ = some (.int .i64 S.c.backs) := h.hd (by decide)
  have d6 : W.cell? ⟨r.nb, 6, none⟩ = some (.int .i64 S.c.nest) := h.hd (by decide)
  have d7 : W.cell? ⟨r.nb, 7, none⟩ = some (.int .i64 S.c.tries) := h.hd (by decide)
  have HH := Lib.hid h
  obtain ⟨hb0, hb1⟩ := hb
  clear h hdata
  generalize hdd : S.data = data at HD hb1
  clear hdd
  go_enter Tryz.func67, Tryz.ntmps67
  go_wp2_with fail
  refine (HD.out _).mono ?_
  rintro e W2 ⟨rfl, hu⟩
  have HH2 := Lib.hid (HH.out.upd0 hu)
  clear hu d0 d1 d2 d3 d4 d5 d6 d7 HH HD
  have c37 := HH2.out.wc
  rw [hwa] at c37
  have c9 : W2.cell? ⟨r.nb, 9, none⟩ = some (ptr r.p.kb) := HH2.out.hd (by decide)
  have HF := Lib.hid (rcfind_is HH2.out b)
  have HFS := Lib.hid (fun hp => fnd_st HH2.out.ok (b := b) hp)
  have HLN := Lib.hid (Ln.Ok.isN (KA.fnd_ok (p := r.p) HH2.out.ok.ok.okA b).isU)
  unfold hitB at hhit
  have HHIT := Lib.hid hhit
  clear hwa hhit
  generalize r.p.fnd S.A b = l at *
  generalize (r.p.place S.A b).isSome = y at *
  go_upto_region 5 with fail
  go_cut [9, 10] from 31 to 40 (fun s9 s10 wx => ∃ g9, s9 = ptr g9 ∧ s10 = .bool y ∧ Hid (RIs w0 wx r S (boxO g9 l.cells LT :: L)))
  case first =>
    go_wp2_with fail
    refine HF.out.mono ?_
    rintro e W3 ⟨rfl, hu⟩
    have s1 := TLin.st_new HLN.out W3
    have HH3 := Lib.hid ((HH2.out.upd0 hu).alloc l.cells LT)
    clear hu
    go_wp2_with fail
    go_meet
    exact ⟨_, rfl, rfl, HH3⟩
  case rest =>
  obtain ⟨g9, rfl, rfl, hN3⟩ := hcut
  clear c37 HH2 HF c9
  go_step
  go_step
  go_cut [10] from 40 to 50 (fun s10 wx => Hid (RIs w0 wx r S (boxO g9 l.cells LT :: L)))
  case first =>
    have c1 := (hN3.out.lb.cell 1).trans l.get1
    cases y
    · go_wp2_with fail
      go_meet
      exact hN3
    · have hx := HHIT.out
      cases wr
      · exact absurd hx (by simp)
      · have hs : ¬ (2 : Int) ≤ l.st := by
          have h3 : l.st = 1 := by simpa using hx
          omega
        clear hx
        go_wp2_with fail
        go_meet
        exact hN3
  case rest =>
  have HH4 := hcut
  clear hN3 hcut HHIT HFS
  have c10 : wc.cell? ⟨r.nb, 10, none⟩ = some (ptr r.bb) := HH4.out.hd (by decide)
  have HBF := Lib.hid (rbhas_is HH4.out b)
  go_wp2_with fail
  refine HBF.out.mono ?_
  rintro e W5 ⟨rfl, rfl⟩
  clear HBF c10
  rw [hbk]
  have c9 : wc.cell? ⟨r.nb, 9, none⟩ = some (ptr r.p.kb) := HH4.out.hd (by decide)
  have HG := Lib.hid (rcgoes_is HH4.out b)
  have HGO := Lib.hid (gone_ok (p := r.p) HH4.out.ok.ok.okA (M := S.M) b)
  have HGS := Lib.hid (fun hp => gone_st HH4.out.ok (b := b) hp)
  go_wp2_with fail
  refine HG.out.mono ?_
  rintro e W5 ⟨rfl, hu⟩
  rw [hgg] at HGO HGS ⊢
  have s3 := TLin.st_new (Ln.Ok.isN HGO.out.isU) W5
  have HH6 := Lib.hid ((HH4.out.upd0 hu).alloc g.cells LT)
  clear hu c9 HG HH4
  obtain ⟨W6, hW6⟩ : ∃ X, W5.alloc (.cells g.cells LT) = X := ⟨_, rfl⟩
  obtain ⟨x12, hx12⟩ : ∃ X, W5.heap.size = X := ⟨_, rfl⟩
  rw [hW6, hx12] at HH6 s3
  have c1 : W6.cell? ⟨x12, 1, none⟩ = some (.int .u8 g.st) := (HH6.out.lb.cell 1).trans g.get1
  have hs : (2 : Int) ≤ g.st := by
    have h2 := HGS.out hg
    have h3 : g.st ≠ 1 := by simpa using hst
    omega
  rw [hg]
  have HDD := Lib.hid (HH6.out.upd0 (Upd.drew NoF W6))
  go_upto_region 13 with fail
  clear s3 c1 hW6 hx12
  refine wp_region_held_drew (S := (fun X : World => X.cell? ⟨r.nb, 10, none⟩ = some (ptr r.bb) ∧ X.cell? ⟨r.nb, 5, none⟩ = some (.int .i64 S.c.backs))) (by kernel_rfl) (⟨HDD.out.hd (by decide), HDD.out.hd (by decide)⟩) (fun hHeld => ?_)
  obtain ⟨D0, hD0⟩ : ∃ X, W6.drew = X := ⟨_, rfl⟩
  rw [hD0] at hHeld HDD ⊢
  clear hD0
  refine rgn 0 (v := ?vq43) hHeld ?yq43 ?_
  case yq43 => (intro w hSw; obtain ⟨k0, k1⟩ := hSw; go_simp; try with_reducible rfl)
  simp only [Act.put, rns]
  refine rgn 1 (v := ?vq44) hHeld ?yq44 ?_
  case yq44 => (intro w hSw; obtain ⟨k0, k1⟩ := hSw; go_simp; try with_reducible rfl)
  simp only [Act.put, rns]
  refine rgn 2 (v := ?vq45) hHeld ?yq45 ?_
  case yq45 => (intro w hSw; obtain ⟨k0, k1⟩ := hSw; go_simp; try with_reducible rfl)
  simp only [Act.put, rns]
  refine rgn 3 (v := ?vq46) hHeld ?yq46 ?_
  case yq46 => (intro w hSw; obtain ⟨k0, k1⟩ := hSw; go_simp; try with_reducible rfl)
  simp only [Act.put, rns]
  refine rgn 5 (v := ?vq47) hHeld ?yq47 ?_
  case yq47 => (intro w hSw; obtain ⟨k0, k1⟩ := hSw; go_simp; try with_reducible rfl)
  simp only [Act.put, rns]
  refine rgn 6 (v := ?vq48) hHeld ?yq48 ?_
  case yq48 => (intro w hSw; obtain ⟨k0, k1⟩ := hSw; go_simp; try with_reducible rfl)
  simp only [Act.put, rns]
  refine rgn 7 (v := ?vq49) hHeld ?yq49 ?_
  case yq49 => (intro w hSw; obtain ⟨k0, k1⟩ := hSw; go_simp; try with_reducible rfl)
  simp only [Act.put, rns]
  refine rgn 8 (v := ?vq50) hHeld ?yq50 ?_
  case yq50 => (intro w hSw; obtain ⟨k0, k1⟩ := hSw; go_simp; try with_reducible rfl)
  simp only [Act.put, rns]
  refine rgn 9 (v := ?vq51) hHeld ?yq51 ?_
  case yq51 => (intro w hSw; obtain ⟨k0, k1⟩ := hSw; go_simp; try with_reducible rfl)
  simp only [Act.put, rns]
  refine reg_step (i := 4) (by kernel_rfl) rfl (by kernel_rfl) (fun K hK => ?_)
  go_simp
  refine (rblen_is HDD.out).mono ?_
  rintro e Wz ⟨rfl, rfl⟩
  have HS := hHeld
  go_wp2_with fail
  refine hK.out _ _ HS (fun hHeld2 => ?_)
  clear hK hHeld2 hHeld; have hHeld := HS; clear HS
  try simp only [Act.put, rns]
  refine rgn 10 (v := .bool false) hHeld ?yq52 ?_
  case yq52 => (intro w hSw; go_simp; try with_reducible rfl)
  simp only [Act.put, rns]
  refine wpAnyH_done (by kernel_rfl) ?_ _
  clear hHeld HH6
  have HD2 := Lib.hid (HDD.out.upd0 (Upd.drew NoF D0))
  go_upto_region 15 with fail
  refine wp_region_held_drew (S := (fun X : World => X.cell? ⟨r.nb, 11, none⟩ = some (ptr r.rb) ∧ X.cell? ⟨x12, 0, none⟩ = some (.int .i64 g.blk))) (by kernel_rfl) (⟨HD2.out.hd (i := 11) (by decide), ((HD2.out.sep.box 9 rfl).cell 0).trans g.get0⟩) (fun hHeld => ?_)
  obtain ⟨E0, hE0⟩ : ∃ X, D0.drew = X := ⟨_, rfl⟩
  rw [hE0] at hHeld HD2 ⊢
  clear hE0 HDD
  refine rgn 0 (v := ?vq53) hHeld ?yq53 ?_
  case yq53 => (intro w hSw; obtain ⟨k0, k1⟩ := hSw; go_simp; try with_reducible rfl)
  simp only [Act.put, rns]
  refine rgn 1 (v := ?vq54) hHeld ?yq54 ?_
  case yq54 => (intro w hSw; obtain ⟨k0, k1⟩ := hSw; go_simp; try with_reducible rfl)
  simp only [Act.put, rns]
  refine rgn 2 (v := ?vq55) hHeld ?yq55 ?_
  case yq55 => (intro w hSw; obtain ⟨k0, k1⟩ := hSw; go_simp; try with_reducible rfl)
  simp only [Act.put, rns]
  refine rgn 3 (v := ?vq56) hHeld ?yq56 ?_
  case yq56 => (intro w hSw; obtain ⟨k0, k1⟩ := hSw; go_simp; try with_reducible rfl)
  simp only [Act.put, rns]
  refine rgn 4 (v := ?vq57) hHeld ?yq57 ?_
  case yq57 => (intro w hSw; obtain ⟨k0, k1⟩ := hSw; go_simp; try with_reducible rfl)
  simp only [Act.put, rns]
  refine rgn 5 (v := ?vq58) hHeld ?yq58 ?_
  case yq58 => (intro w hSw; obtain ⟨k0, k1⟩ := hSw; go_simp; try with_reducible rfl)
  simp only [Act.put, rns]
  refine reg_step (i := 6) (by kernel_rfl) rfl (by kernel_rfl) (fun K hK => ?_)
  go_simp
  refine (rmhas_is HD2.out g.blk).mono ?_
  rintro e E1 ⟨rfl, hu⟩
  have HD3 := Lib.hid (HD2.out.upd0 hu)
  have HS : (fun X : World => X.cell? ⟨r.nb, 11, none⟩ = some (ptr r.rb) ∧ X.cell? ⟨x12, 0, none⟩ = some (.int .i64 g.blk)) E1 := ⟨HD3.out.hd (i := 11) (by decide), ((HD3.out.sep.box 9 rfl).cell 0).trans g.get0⟩
  clear hu
  go_wp2_with fail
  refine hK.out _ _ HS (fun hHeld2 => ?_)
  clear hK hHeld2 hHeld; have hHeld := HS; clear HS
  try simp only [Act.put, rns]
  refine rgn 7 (v := ?vq59) hHeld ?yq59 ?_
  case yq59 => (intro w hSw; go_simp; try with_reducible rfl)
  simp only [Act.put, rns]
  refine rgn 8 (v := ?vq60) hHeld ?yq60 ?_
  case yq60 => (intro w hSw; go_simp; try with_reducible rfl)
  simp only [Act.put, rns]
  refine rgn 9 (v := ?vq61) hHeld ?yq61 ?_
  case yq61 => (intro w hSw; go_simp; try with_reducible rfl)
  simp only [Act.put, rns]
  refine rgn 10 (v := ?vq62) hHeld ?yq62 ?_
  case yq62 => (intro w hSw; go_simp; try with_reducible rfl)
  simp only [Act.put, rns]
  refine rgn 11 (v := ?vq63) hHeld ?yq63 ?_
  case yq63 => (intro w hSw; go_simp; try with_reducible rfl)
  simp only [Act.put, rns]
  refine wpAnyH_done (by kernel_rfl) ?_ _
  clear hHeld HD2
  have HE := Lib.hid ((HD3.out.upd0 (Upd.drew NoF E1)).outNil)
  have y7 := fun w => bd_put S g HGO.out.isU.1 w
  have HPN : Hid (IsU (putN S g).D) := Lib.hid HGO.out.isU
  have y8 := fun w => bsN_run (Nt.Ok.isN HPN.out).1 w
  obtain ⟨pn, hpn⟩ : ∃ x, putN S g = x := ⟨_, rfl⟩
  rw [hpn] at y7 y8 HPN ⊢
  go_upto_region 16 with fail
  cases hm1 : (S.f g.blk).1
  · refine wp_region_held_drew (S := (fun X : World => X.cell? ⟨r.nb, 8, none⟩ = some (.int .i64 S.core) ∧ X.cell? ⟨x12, 0, none⟩ = some (.int .i64 g.blk) ∧ (TBlk.ld (.pointer (some ⟨x12, 2, none⟩))).run Tryz.prog X = .ok (.agg g.D) X)) (by kernel_rfl) (⟨HE.out.hd (i := 8) (by decide), ((HE.out.sep.box 10 rfl).cell 0).trans g.get0, TBlk.ld_at (isU_N HGO.out.isU) ((HE.out.sep.box 10 rfl).range 2 _ (fun j v hv => (g.getD j).trans (by simpa using hv)))⟩) (fun hHeld => ?_)
    obtain ⟨G0, hG0⟩ : ∃ X, E1.drew = X := ⟨_, rfl⟩
    rw [hG0] at hHeld HE ⊢
    rw [hm1, Bool.false_or] at y7
    clear hG0 HD3
    refine rgn 0 (v := ?vq64) hHeld ?yq64 ?_
    case yq64 => (intro w hSw; obtain ⟨k0, k1, k2⟩ := hSw; go_simp; try with_reducible rfl)
    simp only [Act.put, rns]
    refine rgn 1 (v := ?vq65) hHeld ?yq65 ?_
    case yq65 => (intro w hSw; obtain ⟨k0, k1, k2⟩ := hSw; go_simp; try with_reducible rfl)
    simp only [Act.put, rns]
    refine rgn 2 (v := ?vq66) hHeld ?yq66 ?_
    case yq66 => (intro w hSw; obtain ⟨k0, k1, k2⟩ := hSw; go_simp; try with_reducible rfl)
    simp only [Act.put, rns]
    refine rgn 3 (v := ?vq67) hHeld ?yq67 ?_
    case yq67 => (intro w hSw; obtain ⟨k0, k1, k2⟩ := hSw; go_simp; try with_reducible rfl)
    simp only [Act.put, rns]
    refine rgn 4 (v := ?vq68) hHeld ?yq68 ?_
    case yq68 => (intro w hSw; obtain ⟨k0, k1, k2⟩ := hSw; go_simp; try with_reducible rfl)
    simp only [Act.put, rns]
    refine rgn 5 (v := ?vq69) hHeld ?yq69 ?_
    case yq69 => (intro w hSw; obtain ⟨k0, k1, k2⟩ := hSw; go_simp; try with_reducible rfl)
    simp only [Act.put, rns]
    refine rgn 6 (v := ?vq70) hHeld ?yq70 ?_
    case yq70 => (intro w hSw; obtain ⟨k0, k1, k2⟩ := hSw; go_simp; try with_reducible rfl)
    simp only [Act.put, rns]
    refine rgn 7 (v := ?vq71) hHeld ?yq71 ?_
    case yq71 => (intro w hSw; obtain ⟨k0, k1, k2⟩ := hSw; go_simp; try with_reducible rfl)
    simp only [Act.put, rns]
    refine rgn 8 (v := ?vq72) hHeld ?yq72 ?_
    case yq72 => (intro w hSw; obtain ⟨k0, k1, k2⟩ := hSw; go_simp; try with_reducible rfl)
    simp only [Act.put, rns]
    refine rgn 9 (v := ?vq73) hHeld ?yq73 ?_
    case yq73 => (intro w hSw; obtain ⟨k0, k1, k2⟩ := hSw; go_simp; try with_reducible rfl)
    simp only [Act.put, rns]
    refine rgn 10 (v := ?vq74) hHeld ?yq74 ?_
    case yq74 => (intro w hSw; obtain ⟨k0, k1, k2⟩ := hSw; go_simp; try with_reducible rfl)
    simp only [Act.put, rns]
    refine rgn 11 (v := ?vq75) hHeld ?yq75 ?_
    case yq75 => (intro w hSw; obtain ⟨k0, k1, k2⟩ := hSw; go_simp; try with_reducible rfl)
    simp only [Act.put, rns]
    refine rgn 12 (v := ?vq76) hHeld ?yq76 ?_
    case yq76 => (intro w hSw; obtain ⟨k0, k1, k2⟩ := hSw; go_simp; try with_reducible rfl)
    simp only [Act.put, rns]
    refine rgn 13 (v := .agg pn.cells) hHeld ?yq77 ?_
    case yq77 => (intro w hSw; obtain ⟨k0, k1, k2⟩ := hSw; go_simp; try with_reducible rfl)
    simp only [Act.put, rns]
    refine reg_step (i := 14) (by kernel_rfl) rfl (by kernel_rfl) (fun K hK => ?_)
    obtain ⟨v1, W14, hrun, hN14⟩ := RIs.app (ns := []) HE.out pn HPN.out (by simp)
    have HR := Lib.hid hrun
    have HN14 := Lib.hid hN14
    have hz := Nt.Ok.isN HPN.out
    go_simp
    have hgz := HE.out.upd0 (Upd.alloc NoF G0 (.cells pn.cells NT))
    have HS : (fun X : World => X.cell? ⟨r.nb, 8, none⟩ = some (.int .i64 S.core) ∧ X.cell? ⟨x12, 0, none⟩ = some (.int .i64 g.blk) ∧ (TBlk.ld (.pointer (some ⟨x12, 2, none⟩))).run Tryz.prog X = .ok (.agg g.D) X) (G0.alloc (.cells pn.cells NT)) := ⟨hgz.hd (i := 8) (by decide), ((hgz.sep.box 10 rfl).cell 0).trans g.get0, TBlk.ld_at (isU_N HGO.out.isU) ((hgz.sep.box 10 rfl).range 2 _ (fun j v hv => (g.getD j).trans (by simpa using hv)))⟩
    clear hrun hN14 hz hgz
    refine hK.out _ _ HS (fun hHeld2 => ?_)
    clear hK hHeld2 hHeld; have hHeld := HS; clear HS
    try simp only [Act.put, rns]
    refine reg_step (i := 15) (by kernel_rfl) rfl (by kernel_rfl) (fun K hK => ?_)
    refine oper_app _ _ 43 rfl rfl rfl HR.out ?_
    have HS : (fun X : World => X.cell? ⟨r.nb, 8, none⟩ = some (.int .i64 S.core) ∧ X.cell? ⟨x12, 0, none⟩ = some (.int .i64 g.blk) ∧ (TBlk.ld (.pointer (some ⟨x12, 2, none⟩))).run Tryz.prog X = .ok (.agg g.D) X) W14 := ⟨HN14.out.hd (i := 8) (by decide), ((HN14.out.sep.box 10 rfl).cell 0).trans g.get0, TBlk.ld_at (isU_N HGO.out.isU) ((HN14.out.sep.box 10 rfl).range 2 _ (fun j v hv => (g.getD j).trans (by simpa using hv)))⟩
    refine hK.out _ _ HS (fun hHeld2 => ?_)
    clear hK hHeld2 hHeld; have hHeld := HS; clear HS
    try simp only [Act.put, rns]
    refine rgn 16 (v := ?vq78) hHeld ?yq78 ?_
    case yq78 => (intro w hSw; go_simp; try with_reducible rfl)
    simp only [Act.put, rns]
    refine wpAnyH_done (by kernel_rfl) ?_ _
    clear hHeld HE HR y7 y8
    have HK := Lib.hid (HN14.out.upd0 (Upd.drew NoF W14))
    go_upto_region 17 with fail
    refine wp_region_held_drew (S := (fun X : World => X.cell? ⟨r.nb, 10, none⟩ = some (ptr r.bb) ∧ X.cell? ⟨x12, 0, none⟩ = some (.int .i64 g.blk) ∧ (TBlk.ld (.pointer (some ⟨x12, 2, none⟩))).run Tryz.prog X = .ok (.agg g.D) X)) (by kernel_rfl) (⟨HK.out.hd (i := 10) (by decide), ((HK.out.sep.box 10 rfl).cell 0).trans g.get0, TBlk.ld_at (isU_N HGO.out.isU) ((HK.out.sep.box 10 rfl).range 2 _ (fun j v hv => (g.getD j).trans (by simpa using hv)))⟩) (fun hHeld => ?_)
    obtain ⟨K0, hK0⟩ : ∃ X, W14.drew = X := ⟨_, rfl⟩
    rw [hK0] at hHeld HK ⊢
    clear hK0 HN14
    refine rgn 0 (v := ?vq79) hHeld ?yq79 ?_
    case yq79 => (intro w hSw; obtain ⟨k0, k1, k2⟩ := hSw; go_simp; try with_reducible rfl)
    simp only [Act.put, rns]
    refine rgn 1 (v := ?vq80) hHeld ?yq80 ?_
    case yq80 => (intro w hSw; obtain ⟨k0, k1, k2⟩ := hSw; go_simp; try with_reducible rfl)
    simp only [Act.put, rns]
    refine rgn 2 (v := ?vq81) hHeld ?yq81 ?_
    case yq81 => (intro w hSw; obtain ⟨k0, k1, k2⟩ := hSw; go_simp; try with_reducible rfl)
    simp only [Act.put, rns]
    refine rgn 3 (v := ?vq82) hHeld ?yq82 ?_
    case yq82 => (intro w hSw; obtain ⟨k0, k1, k2⟩ := hSw; go_simp; try with_reducible rfl)
    simp only [Act.put, rns]
    refine rgn 4 (v := ?vq83) hHeld ?yq83 ?_
    case yq83 => (intro w hSw; obtain ⟨k0, k1, k2⟩ := hSw; go_simp; try with_reducible rfl)
    simp only [Act.put, rns]
    refine rgn 5 (v := ?vq84) hHeld ?yq84 ?_
    case yq84 => (intro w hSw; obtain ⟨k0, k1, k2⟩ := hSw; go_simp; try with_reducible rfl)
    simp only [Act.put, rns]
    refine rgn 6 (v := ?vq85) hHeld ?yq85 ?_
    case yq85 => (intro w hSw; obtain ⟨k0, k1, k2⟩ := hSw; go_simp; try with_reducible rfl)
    simp only [Act.put, rns]
    refine rgn 7 (v := ?vq86) hHeld ?yq86 ?_
    case yq86 => (intro w hSw; obtain ⟨k0, k1, k2⟩ := hSw; go_simp; try with_reducible rfl)
    simp only [Act.put, rns]
    refine reg_step (i := 8) (by kernel_rfl) rfl (by kernel_rfl) (fun K hK => ?_)
    go_simp
    refine (rbput_is HK.out g.blk g.D HGO.out.isU).mono ?_
    rintro e K1 ⟨rfl, hN2⟩
    have HS : (fun X : World => X.cell? ⟨r.nb, 10, none⟩ = some (ptr r.bb) ∧ X.cell? ⟨x12, 0, none⟩ = some (.int .i64 g.blk) ∧ (TBlk.ld (.pointer (some ⟨x12, 2, none⟩))).run Tryz.prog X = .ok (.agg g.D) X) K1 := ⟨hN2.hd (i := 10) (by decide), ((hN2.sep.box 10 rfl).cell 0).trans g.get0, TBlk.ld_at (isU_N HGO.out.isU) ((hN2.sep.box 10 rfl).range 2 _ (fun j v hv => (g.getD j).trans (by simpa using hv)))⟩
    have HK1 : Hid (RIs w0 K1 r (backS S g) _) := Lib.hid hN2
    clear hN2
    go_wp2_with fail
    refine hK.out _ _ HS (fun hHeld2 => ?_)
    clear hK hHeld2 hHeld; have hHeld := HS; clear HS
    try simp only [Act.put, rns]
    refine wpAnyH_done (by kernel_rfl) ?_ _
    clear hHeld HK
    have HDD := Lib.hid (HK1.out.upd0 (Upd.drew NoF K1))
    go_upto_region 19 with fail
    refine wp_region_held_drew (S := (fun X : World => X.cell? ⟨r.nb, 9, none⟩ = some (ptr r.p.kb) ∧ X.cell? ⟨x12, 0, none⟩ = some (.int .i64 g.blk))) (by kernel_rfl) (⟨HDD.out.hd (by decide), ((HDD.out.sep.box 10 rfl).cell 0).trans g.get0⟩) (fun hHeld => ?_)
    obtain ⟨D0, hD0⟩ : ∃ X, K1.drew = X := ⟨_, rfl⟩
    rw [hD0] at hHeld HDD ⊢
    clear hD0
    refine rgn 0 (v := ?vq87) hHeld ?yq87 ?_
    case yq87 => (intro w hSw; obtain ⟨k0, k1⟩ := hSw; go_simp; try with_reducible rfl)
    simp only [Act.put, rns]
    refine rgn 1 (v := ?vq88) hHeld ?yq88 ?_
    case yq88 => (intro w hSw; obtain ⟨k0, k1⟩ := hSw; go_simp; try with_reducible rfl)
    simp only [Act.put, rns]
    refine rgn 2 (v := ?vq89) hHeld ?yq89 ?_
    case yq89 => (intro w hSw; obtain ⟨k0, k1⟩ := hSw; go_simp; try with_reducible rfl)
    simp only [Act.put, rns]
    refine rgn 3 (v := ?vq90) hHeld ?yq90 ?_
    case yq90 => (intro w hSw; obtain ⟨k0, k1⟩ := hSw; go_simp; try with_reducible rfl)
    simp only [Act.put, rns]
    refine rgn 4 (v := ?vq91) hHeld ?yq91 ?_
    case yq91 => (intro w hSw; obtain ⟨k0, k1⟩ := hSw; go_simp; try with_reducible rfl)
    simp only [Act.put, rns]
    refine rgn 5 (v := ?vq92) hHeld ?yq92 ?_
    case yq92 => (intro w hSw; obtain ⟨k0, k1⟩ := hSw; go_simp; try with_reducible rfl)
    simp only [Act.put, rns]
    refine reg_step (i := 6) (by kernel_rfl) rfl (by kernel_rfl) (fun K hK => ?_)
    go_simp
    refine (rcdrop_is HDD.out g.blk).mono ?_
    rintro e wb ⟨rfl, hN2⟩
    have HS : (fun X : World => X.cell? ⟨r.nb, 9, none⟩ = some (ptr r.p.kb) ∧ X.cell? ⟨x12, 0, none⟩ = some (.int .i64 g.blk)) wb := ⟨hN2.hd (by decide), ((hN2.sep.box 10 rfl).cell 0).trans g.get0⟩
    have HHB : Hid (RIs w0 wb r (goneS r.p (backS S g) g) _) := Lib.hid hN2
    clear hN2
    go_wp2_with fail
    refine hK.out _ _ HS (fun hHeld2 => ?_)
    clear hK hHeld2 hHeld; have hHeld := HS; clear HS
    try simp only [Act.put, rns]
    refine wpAnyH_done (by kernel_rfl) ?_ _
    clear hHeld HDD HK1
    have HT := Lib.hid (HHB.out.upd0 (Upd.drew NoF wb))
    have y5 := fun w => bd_ask (goneS r.p (backS S g) g) b w
    have hao := fun wr => askN_ok HHB.out.ok.ok.st b wr
    have HAO : Hid (∀ wr, (askN (goneS r.p (backS S g) g) b wr).Ok) := Lib.hid hao
    clear hao HHB
    go_upto_region 20 with fail
    refine wp_region_held_drew (S := (fun X : World => X.cell? ⟨r.nb, 8, none⟩ = some (.int .i64 (goneS r.p (backS S g) g).core) ∧ X.cell? ⟨r.nb, 12, none⟩ = some (ptr r.db))) (by kernel_rfl) (⟨HT.out.hd (by decide), HT.out.hd (by decide)⟩) (fun hHeld => ?_)
    obtain ⟨T0, hT0⟩ : ∃ X, wb.drew = X := ⟨_, rfl⟩
    rw [hT0] at hHeld HT ⊢
    clear hT0
    refine rgn 0 (v := ?vq93) hHeld ?yq93 ?_
    case yq93 => (intro w hSw; obtain ⟨k0, k1⟩ := hSw; go_simp; try with_reducible rfl)
    simp only [Act.put, rns]
    refine rgn 1 (v := ?vq94) hHeld ?yq94 ?_
    case yq94 => (intro w hSw; obtain ⟨k0, k1⟩ := hSw; go_simp; try with_reducible rfl)
    simp only [Act.put, rns]
    refine rgn 2 (v := ?vq95) hHeld ?yq95 ?_
    case yq95 => (intro w hSw; obtain ⟨k0, k1⟩ := hSw; go_simp; try with_reducible rfl)
    simp only [Act.put, rns]
    refine rgn 3 (v := ?vq96) hHeld ?yq96 ?_
    case yq96 => (intro w hSw; obtain ⟨k0, k1⟩ := hSw; go_simp; try with_reducible rfl)
    simp only [Act.put, rns]
    refine rgn 4 (v := ?vq97) hHeld ?yq97 ?_
    case yq97 => (intro w hSw; obtain ⟨k0, k1⟩ := hSw; go_simp; try with_reducible rfl)
    simp only [Act.put, rns]
    refine rgn 5 (v := ?vq98) hHeld ?yq98 ?_
    case yq98 => (intro w hSw; obtain ⟨k0, k1⟩ := hSw; go_simp; try with_reducible rfl)
    simp only [Act.put, rns]
    refine rgn 6 (v := ?vq99) hHeld ?yq99 ?_
    case yq99 => (intro w hSw; obtain ⟨k0, k1⟩ := hSw; go_simp; try with_reducible rfl)
    simp only [Act.put, rns]
    refine rgn 7 (v := ?vq100) hHeld ?yq100 ?_
    case yq100 => (intro w hSw; obtain ⟨k0, k1⟩ := hSw; go_simp; try with_reducible rfl)
    simp only [Act.put, rns]
    refine rgn 8 (v := ?vq101) hHeld ?yq101 ?_
    case yq101 => (intro w hSw; obtain ⟨k0, k1⟩ := hSw; go_simp; try with_reducible rfl)
    simp only [Act.put, rns]
    refine rgn 9 (v := ?vq102) hHeld ?yq102 ?_
    case yq102 => (intro w hSw; obtain ⟨k0, k1⟩ := hSw; go_simp; try with_reducible rfl)
    simp only [Act.put, rns]
    refine reg_step (i := 10) (by kernel_rfl) rfl (by kernel_rfl) (fun K hK => ?_)
    go_simp
    refine (rdstamp_is HT.out).mono ?_
    rintro e Wz ⟨rfl, rfl⟩
    have HS := hHeld
    go_wp2_with fail
    refine hK.out _ _ HS (fun hHeld2 => ?_)
    clear hK hHeld2 hHeld; have hHeld := HS; clear HS
    try simp only [Act.put, rns]
    refine rgn 11 (v := ?vq103) hHeld ?yq103 ?_
    case yq103 => (intro w hSw; go_simp; try with_reducible rfl)
    simp only [Act.put, rns]
    refine rgn 12 (v := ?vq104) hHeld ?yq104 ?_
    case yq104 => (intro w hSw; go_simp; try with_reducible rfl)
    simp only [Act.put, rns]
    refine rgn 13 (v := ?vq105) hHeld ?yq105 ?_
    case yq105 => (intro w hSw; go_simp; try with_reducible rfl)
    simp only [Act.put, rns]
    refine reg_step (i := 14) (by kernel_rfl) rfl (by kernel_rfl) (fun K hK => ?_)
    have s5 := rnst_mid HT.out (HAO.out false)
    have hT2 := HT.out.setq (HAO.out false)
    go_simp
    obtain ⟨T2, hY⟩ : ∃ X, T0.setCells r.nb 13 (askN (goneS r.p (backS S g) g) b false).cells.toList = X := ⟨_, rfl⟩
    rw [hY] at hT2 ⊢
    have HS : (fun X : World => X.cell? ⟨r.nb, 8, none⟩ = some (.int .i64 (goneS r.p (backS S g) g).core) ∧ X.cell? ⟨r.nb, 12, none⟩ = some (ptr r.db)) T2 := ⟨hT2.hd (by decide), hT2.hd (by decide)⟩
    have HT2 := Lib.hid hT2
    clear hT2 hY s5
    refine hK.out _ _ HS (fun hHeld2 => ?_)
    clear hK hHeld2 hHeld; have hHeld := HS; clear HS
    try simp only [Act.put, rns]
    refine wpAnyH_done (by kernel_rfl) ?_ _
    clear hHeld y5 HT
    cases wr
    · have c37 : (T2).cell? ⟨r.nb, 37, none⟩ = some (.bool (goneS r.p (backS S g) g).wa) := HT2.out.wc
      have f37 : (T2).frozen? ⟨r.nb, 37, none⟩ = false := HT2.out.box.frozen 37
      have HT9 := Lib.hid (HT2.out.setw true)
      have l13 : (TNot.ld (.pointer (some ⟨r.nb, 13, none⟩))).run Tryz.prog ((T2).setCell ⟨r.nb, 37, none⟩ (.bool true)) = .ok (.agg (askN (goneS r.p (backS S g) g) b false).cells) _ := HT9.out.ldq
      have y3 := fun w => bsN_run (Nt.Ok.isN (HAO.out false).isU).1 w
      obtain ⟨v', W12, hrun, hN12⟩ := RIs.app (ns := [pn]) (HT9.out) (askN (goneS r.p (backS S g) g) b false) (HAO.out false).isU (by simp)
      have HR := Lib.hid hrun
      have HN12 := Lib.hid hN12
      clear hrun hN12 HT2 HT9
      generalize (askN (goneS r.p (backS S g) g) b false).cells = x at *
      obtain ⟨W11, hW11⟩ : ∃ X, (T2).setCell ⟨r.nb, 37, none⟩ (.bool true) = X := ⟨_, rfl⟩
      rw [hW11] at l13 HR
      have HW11 := Lib.hid hW11
      clear hW11
      go_upto_region 24 with fail
      rw [HW11.out]
      clear c37 f37
      go_wp2_with (at_builtin; refine wpList_append_run (w := W11.alloc (.cells x NT)) rfl _ _ 43 rfl rfl rfl HR.out ?_)
      go_ret3
      exact ⟨v', rfl, HN12.out.pop2.pop2⟩
    · have c13 : T2.cell? ⟨r.nb, 13, none⟩ = some (.int .u8 1) := HT2.out.qc (i := 0) (askN (goneS r.p (backS S g) g) b false).get0
      have f13 : T2.frozen? ⟨r.nb, 13, none⟩ = false := HT2.out.box.frozen 13
      have HT3 := Lib.hid (show RIs w0 (T2.setCell ⟨r.nb, 13, none⟩ (.int .u8 2)) r { (goneS r.p (backS S g) g) with q := askN (goneS r.p (backS S g) g) b true } _ from HT2.out.setqc (j := 0) (q := askN (goneS r.p (backS S g) g) b true) (by decide) (set_kind _ _) (HAO.out true))
      have c37 : (T2.setCell ⟨r.nb, 13, none⟩ (.int .u8 2)).cell? ⟨r.nb, 37, none⟩ = some (.bool (goneS r.p (backS S g) g).wa) := HT3.out.wc
      have f37 : (T2.setCell ⟨r.nb, 13, none⟩ (.int .u8 2)).frozen? ⟨r.nb, 37, none⟩ = false := HT3.out.box.frozen 37
      have HT9 := Lib.hid (HT3.out.setw true)
      have l13 : (TNot.ld (.pointer (some ⟨r.nb, 13, none⟩))).run Tryz.prog ((T2.setCell ⟨r.nb, 13, none⟩ (.int .u8 2)).setCell ⟨r.nb, 37, none⟩ (.bool true)) = .ok (.agg (askN (goneS r.p (backS S g) g) b true).cells) _ := HT9.out.ldq
      have y3 := fun w => bsN_run (Nt.Ok.isN (HAO.out true).isU).1 w
      obtain ⟨v', W12, hrun, hN12⟩ := RIs.app (ns := [pn]) (HT9.out) (askN (goneS r.p (backS S g) g) b true) (HAO.out true).isU (by simp)
      have HR := Lib.hid hrun
      have HN12 := Lib.hid hN12
      clear hrun hN12 HT2 HT3 HT9
      generalize (askN (goneS r.p (backS S g) g) b true).cells = x at *
      obtain ⟨W11, hW11⟩ : ∃ X, (T2.setCell ⟨r.nb, 13, none⟩ (.int .u8 2)).setCell ⟨r.nb, 37, none⟩ (.bool true) = X := ⟨_, rfl⟩
      rw [hW11] at l13 HR
      have HW11 := Lib.hid hW11
      clear hW11
      go_upto_region 24 with fail
      rw [HW11.out]
      clear c13 f13 c37 f37
      go_wp2_with (at_builtin; refine wpList_append_run (w := W11.alloc (.cells x NT)) rfl _ _ 43 rfl rfl rfl HR.out ?_)
      go_ret3
      exact ⟨v', rfl, HN12.out.pop2.pop2⟩
  · refine wp_region_held_drew (S := (fun X : World => X.cell? ⟨r.nb, 8, none⟩ = some (.int .i64 S.core) ∧ X.cell? ⟨x12, 0, none⟩ = some (.int .i64 g.blk) ∧ (TBlk.ld (.pointer (some ⟨x12, 2, none⟩))).run Tryz.prog X = .ok (.agg g.D) X)) (by kernel_rfl) (⟨HE.out.hd (i := 8) (by decide), ((HE.out.sep.box 10 rfl).cell 0).trans g.get0, TBlk.ld_at (isU_N HGO.out.isU) ((HE.out.sep.box 10 rfl).range 2 _ (fun j v hv => (g.getD j).trans (by simpa using hv)))⟩) (fun hHeld => ?_)
    obtain ⟨G0, hG0⟩ : ∃ X, E1.drew = X := ⟨_, rfl⟩
    rw [hG0] at hHeld HE ⊢
    rw [hm1, Bool.true_or] at y7
    clear hG0 HD3
    refine rgn 0 (v := ?vq106) hHeld ?yq106 ?_
    case yq106 => (intro w hSw; obtain ⟨k0, k1, k2⟩ := hSw; go_simp; try with_reducible rfl)
    simp only [Act.put, rns]
    refine rgn 1 (v := ?vq107) hHeld ?yq107 ?_
    case yq107 => (intro w hSw; obtain ⟨k0, k1, k2⟩ := hSw; go_simp; try with_reducible rfl)
    simp only [Act.put, rns]
    refine rgn 2 (v := ?vq108) hHeld ?yq108 ?_
    case yq108 => (intro w hSw; obtain ⟨k0, k1, k2⟩ := hSw; go_simp; try with_reducible rfl)
    simp only [Act.put, rns]
    refine rgn 3 (v := ?vq109) hHeld ?yq109 ?_
    case yq109 => (intro w hSw; obtain ⟨k0, k1, k2⟩ := hSw; go_simp; try with_reducible rfl)
    simp only [Act.put, rns]
    refine rgn 4 (v := ?vq110) hHeld ?yq110 ?_
    case yq110 => (intro w hSw; obtain ⟨k0, k1, k2⟩ := hSw; go_simp; try with_reducible rfl)
    simp only [Act.put, rns]
    refine rgn 5 (v := ?vq111) hHeld ?yq111 ?_
    case yq111 => (intro w hSw; obtain ⟨k0, k1, k2⟩ := hSw; go_simp; try with_reducible rfl)
    simp only [Act.put, rns]
    refine rgn 6 (v := ?vq112) hHeld ?yq112 ?_
    case yq112 => (intro w hSw; obtain ⟨k0, k1, k2⟩ := hSw; go_simp; try with_reducible rfl)
    simp only [Act.put, rns]
    refine rgn 7 (v := ?vq113) hHeld ?yq113 ?_
    case yq113 => (intro w hSw; obtain ⟨k0, k1, k2⟩ := hSw; go_simp; try with_reducible rfl)
    simp only [Act.put, rns]
    refine rgn 8 (v := ?vq114) hHeld ?yq114 ?_
    case yq114 => (intro w hSw; obtain ⟨k0, k1, k2⟩ := hSw; go_simp; try with_reducible rfl)
    simp only [Act.put, rns]
    refine rgn 9 (v := ?vq115) hHeld ?yq115 ?_
    case yq115 => (intro w hSw; obtain ⟨k0, k1, k2⟩ := hSw; go_simp; try with_reducible rfl)
    simp only [Act.put, rns]
    refine rgn 10 (v := ?vq116) hHeld ?yq116 ?_
    case yq116 => (intro w hSw; obtain ⟨k0, k1, k2⟩ := hSw; go_simp; try with_reducible rfl)
    simp only [Act.put, rns]
    refine reg_off (i := 11) rfl (by kernel_rfl) (by kernel_rfl) (by kernel_rfl) (fun _ _ _ h => h) (by kernel_rfl) hHeld ?_
    simp only [Act.put, rns]
    refine rgn 12 (v := .bool true) hHeld ?yq117 ?_
    case yq117 => (intro w hSw; obtain ⟨k0, k1, k2⟩ := hSw; go_simp; try with_reducible rfl)
    simp only [Act.put, rns]
    refine rgn 13 (v := .agg pn.cells) hHeld ?yq118 ?_
    case yq118 => (intro w hSw; obtain ⟨k0, k1, k2⟩ := hSw; go_simp; try with_reducible rfl)
    simp only [Act.put, rns]
    refine reg_step (i := 14) (by kernel_rfl) rfl (by kernel_rfl) (fun K hK => ?_)
    obtain ⟨v1, W14, hrun, hN14⟩ := RIs.app (ns := []) HE.out pn HPN.out (by simp)
    have HR := Lib.hid hrun
    have HN14 := Lib.hid hN14
    have hz := Nt.Ok.isN HPN.out
    go_simp
    have hgz := HE.out.upd0 (Upd.alloc NoF G0 (.cells pn.cells NT))
    have HS : (fun X : World => X.cell? ⟨r.nb, 8, none⟩ = some (.int .i64 S.core) ∧ X.cell? ⟨x12, 0, none⟩ = some (.int .i64 g.blk) ∧ (TBlk.ld (.pointer (some ⟨x12, 2, none⟩))).run Tryz.prog X = .ok (.agg g.D) X) (G0.alloc (.cells pn.cells NT)) := ⟨hgz.hd (i := 8) (by decide), ((hgz.sep.box 10 rfl).cell 0).trans g.get0, TBlk.ld_at (isU_N HGO.out.isU) ((hgz.sep.box 10 rfl).range 2 _ (fun j v hv => (g.getD j).trans (by simpa using hv)))⟩
    clear hrun hN14 hz hgz
    refine hK.out _ _ HS (fun hHeld2 => ?_)
    clear hK hHeld2 hHeld; have hHeld := HS; clear HS
    try simp only [Act.put, rns]
    refine reg_step (i := 15) (by kernel_rfl) rfl (by kernel_rfl) (fun K hK => ?_)
    refine oper_app _ _ 43 rfl rfl rfl HR.out ?_
    have HS : (fun X : World => X.cell? ⟨r.nb, 8, none⟩ = some (.int .i64 S.core) ∧ X.cell? ⟨x12, 0, none⟩ = some (.int .i64 g.blk) ∧ (TBlk.ld (.pointer (some ⟨x12, 2, none⟩))).run Tryz.prog X = .ok (.agg g.D) X) W14 := ⟨HN14.out.hd (i := 8) (by decide), ((HN14.out.sep.box 10 rfl).cell 0).trans g.get0, TBlk.ld_at (isU_N HGO.out.isU) ((HN14.out.sep.box 10 rfl).range 2 _ (fun j v hv => (g.getD j).trans (by simpa using hv)))⟩
    refine hK.out _ _ HS (fun hHeld2 => ?_)
    clear hK hHeld2 hHeld; have hHeld := HS; clear HS
    try simp only [Act.put, rns]
    refine rgn 16 (v := ?vq119) hHeld ?yq119 ?_
    case yq119 => (intro w hSw; go_simp; try with_reducible rfl)
    simp only [Act.put, rns]
    refine wpAnyH_done (by kernel_rfl) ?_ _
    clear hHeld HE HR y7 y8
    have HK := Lib.hid (HN14.out.upd0 (Upd.drew NoF W14))
    go_upto_region 17 with fail
    refine wp_region_held_drew (S := (fun X : World => X.cell? ⟨r.nb, 10, none⟩ = some (ptr r.bb) ∧ X.cell? ⟨x12, 0, none⟩ = some (.int .i64 g.blk) ∧ (TBlk.ld (.pointer (some ⟨x12, 2, none⟩))).run Tryz.prog X = .ok (.agg g.D) X)) (by kernel_rfl) (⟨HK.out.hd (i := 10) (by decide), ((HK.out.sep.box 10 rfl).cell 0).trans g.get0, TBlk.ld_at (isU_N HGO.out.isU) ((HK.out.sep.box 10 rfl).range 2 _ (fun j v hv => (g.getD j).trans (by simpa using hv)))⟩) (fun hHeld => ?_)
    obtain ⟨K0, hK0⟩ : ∃ X, W14.drew = X := ⟨_, rfl⟩
    rw [hK0] at hHeld HK ⊢
    clear hK0 HN14
    refine rgn 0 (v := ?vq120) hHeld ?yq120 ?_
    case yq120 => (intro w hSw; obtain ⟨k0, k1, k2⟩ := hSw; go_simp; try with_reducible rfl)
    simp only [Act.put, rns]
    refine rgn 1 (v := ?vq121) hHeld ?yq121 ?_
    case yq121 => (intro w hSw; obtain ⟨k0, k1, k2⟩ := hSw; go_simp; try with_reducible rfl)
    simp only [Act.put, rns]
    refine rgn 2 (v := ?vq122) hHeld ?yq122 ?_
    case yq122 => (intro w hSw; obtain ⟨k0, k1, k2⟩ := hSw; go_simp; try with_reducible rfl)
    simp only [Act.put, rns]
    refine rgn 3 (v := ?vq123) hHeld ?yq123 ?_
    case yq123 => (intro w hSw; obtain ⟨k0, k1, k2⟩ := hSw; go_simp; try with_reducible rfl)
    simp only [Act.put, rns]
    refine rgn 4 (v := ?vq124) hHeld ?yq124 ?_
    case yq124 => (intro w hSw; obtain ⟨k0, k1, k2⟩ := hSw; go_simp; try with_reducible rfl)
    simp only [Act.put, rns]
    refine rgn 5 (v := ?vq125) hHeld ?yq125 ?_
    case yq125 => (intro w hSw; obtain ⟨k0, k1, k2⟩ := hSw; go_simp; try with_reducible rfl)
    simp only [Act.put, rns]
    refine rgn 6 (v := ?vq126) hHeld ?yq126 ?_
    case yq126 => (intro w hSw; obtain ⟨k0, k1, k2⟩ := hSw; go_simp; try with_reducible rfl)
    simp only [Act.put, rns]
    refine rgn 7 (v := ?vq127) hHeld ?yq127 ?_
    case yq127 => (intro w hSw; obtain ⟨k0, k1, k2⟩ := hSw; go_simp; try with_reducible rfl)
    simp only [Act.put, rns]
    refine reg_step (i := 8) (by kernel_rfl) rfl (by kernel_rfl) (fun K hK => ?_)
    go_simp
    refine (rbput_is HK.out g.blk g.D HGO.out.isU).mono ?_
    rintro e K1 ⟨rfl, hN2⟩
    have HS : (fun X : World => X.cell? ⟨r.nb, 10, none⟩ = some (ptr r.bb) ∧ X.cell? ⟨x12, 0, none⟩ = some (.int .i64 g.blk) ∧ (TBlk.ld (.pointer (some ⟨x12, 2, none⟩))).run Tryz.prog X = .ok (.agg g.D) X) K1 := ⟨hN2.hd (i := 10) (by decide), ((hN2.sep.box 10 rfl).cell 0).trans g.get0, TBlk.ld_at (isU_N HGO.out.isU) ((hN2.sep.box 10 rfl).range 2 _ (fun j v hv => (g.getD j).trans (by simpa using hv)))⟩
    have HK1 : Hid (RIs w0 K1 r (backS S g) _) := Lib.hid hN2
    clear hN2
    go_wp2_with fail
    refine hK.out _ _ HS (fun hHeld2 => ?_)
    clear hK hHeld2 hHeld; have hHeld := HS; clear HS
    try simp only [Act.put, rns]
    refine wpAnyH_done (by kernel_rfl) ?_ _
    clear hHeld HK
    have HDD := Lib.hid (HK1.out.upd0 (Upd.drew NoF K1))
    go_upto_region 19 with fail
    refine wp_region_held_drew (S := (fun X : World => X.cell? ⟨r.nb, 9, none⟩ = some (ptr r.p.kb) ∧ X.cell? ⟨x12, 0, none⟩ = some (.int .i64 g.blk))) (by kernel_rfl) (⟨HDD.out.hd (by decide), ((HDD.out.sep.box 10 rfl).cell 0).trans g.get0⟩) (fun hHeld => ?_)
    obtain ⟨D0, hD0⟩ : ∃ X, K1.drew = X := ⟨_, rfl⟩
    rw [hD0] at hHeld HDD ⊢
    clear hD0
    refine rgn 0 (v := ?vq128) hHeld ?yq128 ?_
    case yq128 => (intro w hSw; obtain ⟨k0, k1⟩ := hSw; go_simp; try with_reducible rfl)
    simp only [Act.put, rns]
    refine rgn 1 (v := ?vq129) hHeld ?yq129 ?_
    case yq129 => (intro w hSw; obtain ⟨k0, k1⟩ := hSw; go_simp; try with_reducible rfl)
    simp only [Act.put, rns]
    refine rgn 2 (v := ?vq130) hHeld ?yq130 ?_
    case yq130 => (intro w hSw; obtain ⟨k0, k1⟩ := hSw; go_simp; try with_reducible rfl)
    simp only [Act.put, rns]
    refine rgn 3 (v := ?vq131) hHeld ?yq131 ?_
    case yq131 => (intro w hSw; obtain ⟨k0, k1⟩ := hSw; go_simp; try with_reducible rfl)
    simp only [Act.put, rns]
    refine rgn 4 (v := ?vq132) hHeld ?yq132 ?_
    case yq132 => (intro w hSw; obtain ⟨k0, k1⟩ := hSw; go_simp; try with_reducible rfl)
    simp only [Act.put, rns]
    refine rgn 5 (v := ?vq133) hHeld ?yq133 ?_
    case yq133 => (intro w hSw; obtain ⟨k0, k1⟩ := hSw; go_simp; try with_reducible rfl)
    simp only [Act.put, rns]
    refine reg_step (i := 6) (by kernel_rfl) rfl (by kernel_rfl) (fun K hK => ?_)
    go_simp
    refine (rcdrop_is HDD.out g.blk).mono ?_
    rintro e wb ⟨rfl, hN2⟩
    have HS : (fun X : World => X.cell? ⟨r.nb, 9, none⟩ = some (ptr r.p.kb) ∧ X.cell? ⟨x12, 0, none⟩ = some (.int .i64 g.blk)) wb := ⟨hN2.hd (by decide), ((hN2.sep.box 10 rfl).cell 0).trans g.get0⟩
    have HHB : Hid (RIs w0 wb r (goneS r.p (backS S g) g) _) := Lib.hid hN2
    clear hN2
    go_wp2_with fail
    refine hK.out _ _ HS (fun hHeld2 => ?_)
    clear hK hHeld2 hHeld; have hHeld := HS; clear HS
    try simp only [Act.put, rns]
    refine wpAnyH_done (by kernel_rfl) ?_ _
    clear hHeld HDD HK1
    have HT := Lib.hid (HHB.out.upd0 (Upd.drew NoF wb))
    have y5 := fun w => bd_ask (goneS r.p (backS S g) g) b w
    have hao := fun wr => askN_ok HHB.out.ok.ok.st b wr
    have HAO : Hid (∀ wr, (askN (goneS r.p (backS S g) g) b wr).Ok) := Lib.hid hao
    clear hao HHB
    go_upto_region 20 with fail
    refine wp_region_held_drew (S := (fun X : World => X.cell? ⟨r.nb, 8, none⟩ = some (.int .i64 (goneS r.p (backS S g) g).core) ∧ X.cell? ⟨r.nb, 12, none⟩ = some (ptr r.db))) (by kernel_rfl) (⟨HT.out.hd (by decide), HT.out.hd (by decide)⟩) (fun hHeld => ?_)
    obtain ⟨T0, hT0⟩ : ∃ X, wb.drew = X := ⟨_, rfl⟩
    rw [hT0] at hHeld HT ⊢
    clear hT0
    refine rgn 0 (v := ?vq134) hHeld ?yq134 ?_
    case yq134 => (intro w hSw; obtain ⟨k0, k1⟩ := hSw; go_simp; try with_reducible rfl)
    simp only [Act.put, rns]
    refine rgn 1 (v := ?vq135) hHeld ?yq135 ?_
    case yq135 => (intro w hSw; obtain ⟨k0, k1⟩ := hSw; go_simp; try with_reducible rfl)
    simp only [Act.put, rns]
    refine rgn 2 (v := ?vq136) hHeld ?yq136 ?_
    case yq136 => (intro w hSw; obtain ⟨k0, k1⟩ := hSw; go_simp; try with_reducible rfl)
    simp only [Act.put, rns]
    refine rgn 3 (v := ?vq137) hHeld ?yq137 ?_
    case yq137 => (intro w hSw; obtain ⟨k0, k1⟩ := hSw; go_simp; try with_reducible rfl)
    simp only [Act.put, rns]
    refine rgn 4 (v := ?vq138) hHeld ?yq138 ?_
    case yq138 => (intro w hSw; obtain ⟨k0, k1⟩ := hSw; go_simp; try with_reducible rfl)
    simp only [Act.put, rns]
    refine rgn 5 (v := ?vq139) hHeld ?yq139 ?_
    case yq139 => (intro w hSw; obtain ⟨k0, k1⟩ := hSw; go_simp; try with_reducible rfl)
    simp only [Act.put, rns]
    refine rgn 6 (v := ?vq140) hHeld ?yq140 ?_
    case yq140 => (intro w hSw; obtain ⟨k0, k1⟩ := hSw; go_simp; try with_reducible rfl)
    simp only [Act.put, rns]
    refine rgn 7 (v := ?vq141) hHeld ?yq141 ?_
    case yq141 => (intro w hSw; obtain ⟨k0, k1⟩ := hSw; go_simp; try with_reducible rfl)
    simp only [Act.put, rns]
    refine rgn 8 (v := ?vq142) hHeld ?yq142 ?_
    case yq142 => (intro w hSw; obtain ⟨k0, k1⟩ := hSw; go_simp; try with_reducible rfl)
    simp only [Act.put, rns]
    refine rgn 9 (v := ?vq143) hHeld ?yq143 ?_
    case yq143 => (intro w hSw; obtain ⟨k0, k1⟩ := hSw; go_simp; try with_reducible rfl)
    simp only [Act.put, rns]
    refine reg_step (i := 10) (by kernel_rfl) rfl (by kernel_rfl) (fun K hK => ?_)
    go_simp
    refine (rdstamp_is HT.out).mono ?_
    rintro e Wz ⟨rfl, rfl⟩
    have HS := hHeld
    go_wp2_with fail
    refine hK.out _ _ HS (fun hHeld2 => ?_)
    clear hK hHeld2 hHeld; have hHeld := HS; clear HS
    try simp only [Act.put, rns]
    refine rgn 11 (v := ?vq144) hHeld ?yq144 ?_
    case yq144 => (intro w hSw; go_simp; try with_reducible rfl)
    simp only [Act.put, rns]
    refine rgn 12 (v := ?vq145) hHeld ?yq145 ?_
    case yq145 => (intro w hSw; go_simp; try with_reducible rfl)
    simp only [Act.put, rns]
    refine rgn 13 (v := ?vq146) hHeld ?yq146 ?_
    case yq146 => (intro w hSw; go_simp; try with_reducible rfl)
    simp only [Act.put, rns]
    refine reg_step (i := 14) (by kernel_rfl) rfl (by kernel_rfl) (fun K hK => ?_)
    have s5 := rnst_mid HT.out (HAO.out false)
    have hT2 := HT.out.setq (HAO.out false)
    go_simp
    obtain ⟨T2, hY⟩ : ∃ X, T0.setCells r.nb 13 (askN (goneS r.p (backS S g) g) b false).cells.toList = X := ⟨_, rfl⟩
    rw [hY] at hT2 ⊢
    have HS : (fun X : World => X.cell? ⟨r.nb, 8, none⟩ = some (.int .i64 (goneS r.p (backS S g) g).core) ∧ X.cell? ⟨r.nb, 12, none⟩ = some (ptr r.db)) T2 := ⟨hT2.hd (by decide), hT2.hd (by decide)⟩
    have HT2 := Lib.hid hT2
    clear hT2 hY s5
    refine hK.out _ _ HS (fun hHeld2 => ?_)
    clear hK hHeld2 hHeld; have hHeld := HS; clear HS
    try simp only [Act.put, rns]
    refine wpAnyH_done (by kernel_rfl) ?_ _
    clear hHeld y5 HT
    cases wr
    · have c37 : (T2).cell? ⟨r.nb, 37, none⟩ = some (.bool (goneS r.p (backS S g) g).wa) := HT2.out.wc
      have f37 : (T2).frozen? ⟨r.nb, 37, none⟩ = false := HT2.out.box.frozen 37
      have HT9 := Lib.hid (HT2.out.setw true)
      have l13 : (TNot.ld (.pointer (some ⟨r.nb, 13, none⟩))).run Tryz.prog ((T2).setCell ⟨r.nb, 37, none⟩ (.bool true)) = .ok (.agg (askN (goneS r.p (backS S g) g) b false).cells) _ := HT9.out.ldq
      have y3 := fun w => bsN_run (Nt.Ok.isN (HAO.out false).isU).1 w
      obtain ⟨v', W12, hrun, hN12⟩ := RIs.app (ns := [pn]) (HT9.out) (askN (goneS r.p (backS S g) g) b false) (HAO.out false).isU (by simp)
      have HR := Lib.hid hrun
      have HN12 := Lib.hid hN12
      clear hrun hN12 HT2 HT9
      generalize (askN (goneS r.p (backS S g) g) b false).cells = x at *
      obtain ⟨W11, hW11⟩ : ∃ X, (T2).setCell ⟨r.nb, 37, none⟩ (.bool true) = X := ⟨_, rfl⟩
      rw [hW11] at l13 HR
      have HW11 := Lib.hid hW11
      clear hW11
      go_upto_region 24 with fail
      rw [HW11.out]
      clear c37 f37
      go_wp2_with (at_builtin; refine wpList_append_run (w := W11.alloc (.cells x NT)) rfl _ _ 43 rfl rfl rfl HR.out ?_)
      go_ret3
      exact ⟨v', rfl, HN12.out.pop2.pop2⟩
    · have c13 : T2.cell? ⟨r.nb, 13, none⟩ = some (.int .u8 1) := HT2.out.qc (i := 0) (askN (goneS r.p (backS S g) g) b false).get0
      have f13 : T2.frozen? ⟨r.nb, 13, none⟩ = false := HT2.out.box.frozen 13
      have HT3 := Lib.hid (show RIs w0 (T2.setCell ⟨r.nb, 13, none⟩ (.int .u8 2)) r { (goneS r.p (backS S g) g) with q := askN (goneS r.p (backS S g) g) b true } _ from HT2.out.setqc (j := 0) (q := askN (goneS r.p (backS S g) g) b true) (by decide) (set_kind _ _) (HAO.out true))
      have c37 : (T2.setCell ⟨r.nb, 13, none⟩ (.int .u8 2)).cell? ⟨r.nb, 37, none⟩ = some (.bool (goneS r.p (backS S g) g).wa) := HT3.out.wc
      have f37 : (T2.setCell ⟨r.nb, 13, none⟩ (.int .u8 2)).frozen? ⟨r.nb, 37, none⟩ = false := HT3.out.box.frozen 37
      have HT9 := Lib.hid (HT3.out.setw true)
      have l13 : (TNot.ld (.pointer (some ⟨r.nb, 13, none⟩))).run Tryz.prog ((T2.setCell ⟨r.nb, 13, none⟩ (.int .u8 2)).setCell ⟨r.nb, 37, none⟩ (.bool true)) = .ok (.agg (askN (goneS r.p (backS S g) g) b true).cells) _ := HT9.out.ldq
      have y3 := fun w => bsN_run (Nt.Ok.isN (HAO.out true).isU).1 w
      obtain ⟨v', W12, hrun, hN12⟩ := RIs.app (ns := [pn]) (HT9.out) (askN (goneS r.p (backS S g) g) b true) (HAO.out true).isU (by simp)
      have HR := Lib.hid hrun
      have HN12 := Lib.hid hN12
      clear hrun hN12 HT2 HT3 HT9
      generalize (askN (goneS r.p (backS S g) g) b true).cells = x at *
      obtain ⟨W11, hW11⟩ : ∃ X, (T2.setCell ⟨r.nb, 13, none⟩ (.int .u8 2)).setCell ⟨r.nb, 37, none⟩ (.bool true) = X := ⟨_, rfl⟩
      rw [hW11] at l13 HR
      have HW11 := Lib.hid hW11
      clear hW11
      go_upto_region 24 with fail
      rw [HW11.out]
      clear c13 f13 c37 f37
      go_wp2_with (at_builtin; refine wpList_append_run (w := W11.alloc (.cells x NT)) rfl _ _ 43 rfl rfl rfl HR.out ?_)
      go_ret3
      exact ⟨v', rfl, HN12.out.pop2.pop2⟩
theorem rask_is (h : RIs w0 W r S L) (b : Int) (wr : Bool) : Calls Tryz.prog 67 #[ptr r.nb, .int .i64 b, .bool wr] W (RAEnds w0 r (askR r.p S b wr) L) := by
  unfold askR
  by_cases h1 : b < 0 ∨ S.data ≤ b
  · rw [if_pos h1]; exact rask_arg h b wr h1
  rw [if_neg h1]
  have hb : 0 ≤ b ∧ b < S.data := by omega
  by_cases h2 : S.wa = true
  · rw [if_pos h2]; exact rask_state h b wr hb h2
  rw [if_neg h2]
  have hwa : S.wa = false := by simpa using h2
  by_cases h3 : hitB r.p S b wr = true
  · rw [if_pos h3]; exact rask_hit h b wr hb hwa h3
  rw [if_neg h3]
  have hhit : hitB r.p S b wr = false := by simpa using h3
  by_cases h4 : bkI S.zs b = true
  · rw [if_pos h4]; exact rask_busy h b wr hb hwa hhit h4
  rw [if_neg h4]
  have hbk : bkI S.zs b = false := by simpa using h4
  by_cases h5 : (r.p.goes S.A S.M b).isSome = true
  · rw [if_pos h5]
    by_cases h6 : ((r.p.gone S.A S.M b).st != 1) = true
    · rw [if_pos h6]
      by_cases h7 : S.c.backs - (S.zs.length : Int) = 0
      · rw [if_pos h7]; exact rask_full h b wr hb hwa hhit hbk h5 h6 h7
      · rw [if_neg h7]; exact rask_put h b wr hb hwa hhit hbk h5 h6 h7
    · rw [if_neg h6]; exact rask_shared h b wr hb hwa hhit hbk h5 (by simpa using h6)
  · rw [if_neg h5]; exact rask_none h b wr hb hwa hhit hbk (by simpa using h5)
end
end Go.Proofs.YtjgeflbhmhmjdaaGreat.NR
