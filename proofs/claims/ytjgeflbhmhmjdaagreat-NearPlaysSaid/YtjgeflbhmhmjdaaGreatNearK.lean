/- A core's side: an ask. -/
import Derived.Test.YtjgeflbhmhmjdaaGreatNearG
import Derived.Deep.CutBlock
set_option linter.unusedSimpArgs false
set_option linter.unusedVariables false
namespace Go.Proofs.YtjgeflbhmhmjdaaGreat.NR
open Go.RowKit
open BU (IsU words)
open PL (Cfg CC CV May)
open KA (Kp CIs OkA LT UT KT)
open DL (DS CD stampE)
attribute [local go_sem] Oper.semAt_some
attribute [local go_sem ↓] TNot.ld_eq TNot.st_eq TNot.al_eq TNot.bx_eq TBlk.ld_eq TBlk.st_eq TBlk.al_eq TBlk.bx_eq TLin.ld_eq TLin.st_eq TLin.al_eq TLin.bx_eq bdN_eq bsN_eq bdL_eq
attribute [local go_sem] TNot.al_run TNot.bx_run TBlk.al_run TBlk.bx_run TLin.al_run TLin.bx_run
structure Ak where
  ready : Bool
  out : List Nt
  e : Int
  S : Ns
def askN (S : Ns) (b : Int) (wr : Bool) : Nt := { noteP S (if wr then 2 else 1) b with stamp := stampE S.d }
def askQ (S : Ns) (out : List Nt) (b : Int) (wr : Bool) : Ak := ⟨false, out ++ [askN S b wr], 0, { S with q := askN S b wr, wa := true }⟩
def putN (S : Ns) (g : Ln) : Nt := { noteP S 3 g.blk with has := true, D := g.D, stick := (S.f g.blk).1 || (S.f g.blk).2 }
def hitB (p : Kp) (S : Ns) (b : Int) (wr : Bool) : Bool := (p.place S.A b).isSome && (!wr || (p.fnd S.A b).st != 1)
def goneS (p : Kp) (S : Ns) (g : Ln) : Ns := { S with A := p.drpA S.A g.blk }
def backS (S : Ns) (g : Ln) : Ns := { S with zs := BK.putS S.data S.c.backs S.zs g.blk g.D }
def askR (p : Kp) (S : Ns) (b : Int) (wr : Bool) : Ak :=
  if b < 0 ∨ S.data ≤ b then ⟨false, [], 2, S⟩
  else if S.wa then ⟨false, [], 8, S⟩
  else if hitB p S b wr then ⟨true, [], 0, S⟩
  else if bkI S.zs b then ⟨false, [], 110, S⟩
  else if (p.goes S.A S.M b).isSome then
    (if (p.gone S.A S.M b).st != 1 then (if S.c.backs - S.zs.length = 0 then ⟨false, [], 110, S⟩ else askQ (goneS p (backS S (p.gone S.A S.M b)) (p.gone S.A S.M b)) [putN S (p.gone S.A S.M b)] b wr)
      else askQ (goneS p S (p.gone S.A S.M b)) [] b wr)
  else askQ S [] b wr
def askV (t : Ak) (v : Value) : Value := .tuple #[.bool t.ready, v, .int .i64 t.e]
abbrev AEnds (w0 : World) (a : Ad) (t : Ak) (L : List Obj) (e : Ending) (W' : World) : Prop := ∃ v, e = .returned (askV t v) ∧ NIs w0 W' a t.S (outO v t.out :: L)
section
variable {w0 W W' V : World} {a : Ad} {S : Ns} {L : List Obj}
theorem qcells_set {S : Ns} {p : Kp} (h : S.Ok p) (a : Ad) {j : Nat} {v : Value} (hj : j < 24) {q : Nt} (hq : S.q.cells.setIfInBounds j v = q.cells) : (S.cells a).setIfInBounds (13 + j) v = Ns.cells { S with q := q } a := by
  have hs := (Nt.Ok.isN h.q.isU).1
  have e0 : Ns.head { S with q := q } a = S.head a := rfl
  unfold Ns.cells
  rw [e0, Array.setIfInBounds_append_right (by rw [head_size]; omega), head_size, show 13 + j - 13 = j by omega, Array.setIfInBounds_append_left (by omega), hq]
theorem NIs.setqc (h : NIs w0 W a S L) {j : Nat} {v : Value} (hj : j < 24) {q : Nt} (hq : S.q.cells.setIfInBounds j v = q.cells) (hok : q.Ok) : NIs w0 (W.setCell ⟨a.nb, 13 + j, none⟩ v) a { S with q := q } L := by
  have h1 := h.sep.set 3 rfl (13 + j) v
  rw [qcells_set h.ok a hj hq] at h1
  exact ⟨h1, ⟨h.ok.fits, h.ok.okA, h.ok.inv, h.ok.allU, h.ok.dep, h.ok.ca, h.ok.st, hok⟩⟩
theorem qcells_many {S : Ns} {p : Kp} (h : S.Ok p) (a : Ad) {q : Nt} (hok : q.Ok) : setMany (S.cells a) 13 q.cells.toList = Ns.cells { S with q := q } a := by
  have hs := (Nt.Ok.isN h.q.isU).1
  have hs2 := (Nt.Ok.isN hok.isU).1
  have e0 : Ns.head { S with q := q } a = S.head a := rfl
  unfold Ns.cells
  rw [e0, ← Array.append_assoc, ← Array.append_assoc, setMany_app (by rw [Array.size_append, head_size, hs, Array.length_toList, hs2]; decide), setMany_tail (head_size S a) (by rw [hs, hs2])]
theorem NIs.setq (h : NIs w0 W a S L) {q : Nt} (hok : q.Ok) : NIs w0 (W.setCells a.nb 13 q.cells.toList) a { S with q := q } L := by
  obtain ⟨F, hF, hst⟩ := h.sep.step 3 rfl
  have h1 := blk_setCells q.cells.toList 13 W _ hF.1
  rw [qcells_many h.ok a hok] at h1
  exact ⟨hst (boxO a.nb (Ns.cells { S with q := q } a) NrT) _ ((upd_setCells (b := a.nb) q.cells.toList 13 W).mono (fun k _ (hk : k = a.nb) => hk ▸ hF.2)) ⟨h1, .inl hF.2⟩, ⟨h.ok.fits, h.ok.okA, h.ok.inv, h.ok.allU, h.ok.dep, h.ok.ca, h.ok.st, hok⟩⟩
theorem nst_mid (h : NIs w0 W a S L) {q : Nt} (hok : q.Ok) : (TNot.st (.pointer (some ⟨a.nb, 13, none⟩)) (.agg q.cells)).run Tryz.prog W = .ok () (W.setCells a.nb 13 q.cells.toList) :=
  run_storeAt_mid W a.nb 13 NT q.cells (there_of h.box (by
    have hs := (Nt.Ok.isN h.ok.q.isU).1
    have hs2 := (Nt.Ok.isN hok.isU).1
    unfold Ns.cells
    rw [Array.size_append, Array.size_append, head_size, hs, hs2]; exact (by decide : 13 + 24 ≤ 13 + (24 + 1)))) (by rw [TNot.infoS, (Nt.Ok.isN hok.isU).1]) (Nt.Ok.isN hok.isU).all
theorem gone_ok {p : Kp} {A : Nat → Ln} {M : Nat → Int} (h : OkA A M) (b : Int) : (p.gone A M b).Ok := by
  unfold KA.Kp.gone
  split
  · exact h.okA _
  · exact Ln.nil_ok
theorem askN_ok {S : Ns} (h : 0 ≤ S.d.st ∧ S.d.st ≤ 18446744073709551615) (b : Int) (wr : Bool) : (askN S b wr).Ok := by
  refine ⟨?_, ?_, ⟨Int.le_refl 0, (by decide : (0 : Int) ≤ 255)⟩, isUZ⟩
  · show 0 ≤ (if wr = true then (2 : Int) else 1) ∧ (if wr = true then (2 : Int) else 1) ≤ 255
    cases wr <;> decide
  · show 0 ≤ stampE S.d ∧ stampE S.d ≤ 18446744073709551615
    unfold stampE
    split
    · decide
    · exact h
theorem infoN : (Tryz.prog.info? NT).map (fun i => (i.zero, i.size, i.bytes)) = some (some (.agg TNot.Z), 24, 112) := by kernel_rfl
theorem zsizeN : (Value.agg TNot.Z).cells.size = 24 := TNot.size_Z
theorem NIs.app {v : Value} {ns : List Nt} (h : NIs w0 W a S (outO v ns :: L)) (n : Nt) (hn : IsU n.D) (hm : ns.length ≤ 65536) :
    ∃ v' W', (Builtin.append_ #[43, 43] 43 #[v, .slice (some ⟨W.heap.size, 0, none⟩) 1 1]).run Tryz.prog (W.alloc (.cells n.cells NT)) = .ok v' W' ∧ NIs w0 W' a S (outO v' (ns ++ [n]) :: L) := by
  have h1 := h.upd0 (Upd.alloc NoF W (.cells n.cells NT))
  obtain ⟨F, hF, hS⟩ := h1.sep.step 8 rfl
  have hz := Nt.Ok.isN hn
  obtain ⟨i0, hi0, hz0, hz1, hz2⟩ := info_parts infoN
  have qx := (Blk.new W n.cells NT).whole
  obtain ⟨v9, w9, hrun, hrow9, hg, hf⟩ := run_append_row (P := Tryz.prog) (W.alloc (.cells n.cells NT)) 43 43 NT i0 (.agg TNot.Z) 24 112 Tryz.underlying43 hi0 hz0 hz1 hz2 zsizeN (by decide) v ns.length (rowsOf (ns.map Nt.cells)).flatten
    hF.1 ⟨W.heap.size, 0, none⟩ 1 1 n.cells.toList (by simp [hz.1]) (fun j u hu => by rw [Addr.add_lit]; simpa using qx j u hu) (fun u hu => hz.2 u (by simpa using hu)) (by unfold maxLen; omega) (by omega)
  refine ⟨v9, w9, hrun, hS (outO v9 (ns ++ [n])) _ (Upd.grown (F := F) hg (fun k hk hlt => ⟨hF.2 k hk, hF.1.isCells k hk⟩)) ⟨?_, fun k hk => ?_⟩, h.ok⟩
  · have e : (rowsOf ((ns ++ [n]).map Nt.cells)).flatten = (rowsOf (ns.map Nt.cells)).flatten ++ n.cells.toList := by simp [rowsOf]
    rw [e, List.length_append]
    exact hrow9
  · rcases hf with e | ⟨g, e, hge⟩
    · rw [e] at hk; exact .inl (hF.2 k hk)
    · rw [e] at hk; cases hk; exact .inr hge
theorem NIs.setM {g : Nat} {cs : Array Value} {T : TypeId} (h : NIs w0 W a S (boxO g cs T :: L)) (j : Nat) (vs : List Value) : NIs w0 (W.setCells g j vs) a S (boxO g (setMany cs j vs) T :: L) := by
  obtain ⟨F, hF, hst⟩ := h.sep.step 8 rfl
  exact ⟨hst (boxO g (setMany cs j vs) T) _ ((upd_setCells (b := g) vs j W).mono (fun k _ (hk : k = g) => hk ▸ hF.2)) ⟨blk_setCells vs j W _ hF.1, .inl hF.2⟩, h.ok⟩
theorem bst_midK {x X : Array Value} (hx : IsN 16 x) {w : World} {b o : Nat} {T : TypeId} (h : Blk w b X T) (ho : o + 16 ≤ X.size) : (TBlk.st (.pointer (some ⟨b, o, none⟩)) (.agg x)).run Tryz.prog w = .ok () (w.setCells b o x.toList) :=
  run_storeAt_mid w b o BT x (there_of h (by rw [hx.1]; exact ho)) (by rw [TBlk.infoS, hx.1]) hx.all
theorem NIs.setA2 {Φ : Obj} {g : Nat} {cs : Array Value} {T : TypeId} (h : NIs w0 W a S (Φ :: boxO g cs T :: L)) {vs : Array Value} (hs : vs.size = cs.size) : NIs w0 (W.setCells g 0 vs.toList) a S (Φ :: boxO g vs T :: L) := by
  obtain ⟨F, hF, hst⟩ := h.sep.step 9 rfl
  have h1 := blk_setCells vs.toList 0 W _ hF.1
  rw [setMany_all cs vs hs] at h1
  exact ⟨hst (boxO g vs T) _ ((upd_setCells (b := g) vs.toList 0 W).mono (fun k _ (hk : k = g) => hk ▸ hF.2)) ⟨h1, .inl hF.2⟩, h.ok⟩
set_option maxRecDepth 100000 in
set_option maxHeartbeats 1000000 in
theorem ask_arg (h : NIs w0 W a S L) (b : Int) (wr : Bool) (hb : b < 0 ∨ S.data ≤ b) : Calls Tryz.prog 13 #[ptr a.nb, .int .i64 b, .bool wr] W (AEnds w0 a ⟨false, [], 2, S⟩ L) := by
  have h1 := h.alloc TLin.Z LT
  have HD := Lib.hid (fun w => PL.pData_yes S.c h.ok.may w)
  have hdata : S.c.blocks - S.c.cores * S.c.logs = S.data := rfl
  rw [hdata] at HD
  have d0 : (W.alloc (.cells TLin.Z LT)).cell? ⟨a.nb, 0, none⟩ = some (.int .i64 S.c.cores) := h1.hd (by decide)
  have d1 : (W.alloc (.cells TLin.Z LT)).cell? ⟨a.nb, 1, none⟩ = some (.int .i64 S.c.sets) := h1.hd (by decide)
  have d2 : (W.alloc (.cells TLin.Z LT)).cell? ⟨a.nb, 2, none⟩ = some (.int .i64 S.c.ways) := h1.hd (by decide)
  have d3 : (W.alloc (.cells TLin.Z LT)).cell? ⟨a.nb, 3, none⟩ = some (.int .i64 S.c.blocks) := h1.hd (by decide)
  have d4 : (W.alloc (.cells TLin.Z LT)).cell? ⟨a.nb, 4, none⟩ = some (.int .i64 S.c.logs) := h1.hd (by decide)
  have d5 : (W.alloc (.cells TLin.Z LT)).cell? ⟨a.nb, 5, none⟩ = some (.int .i64 S.c.backs) := h1.hd (by decide)
  have d6 : (W.alloc (.cells TLin.Z LT)).cell? ⟨a.nb, 6, none⟩ = some (.int .i64 S.c.nest) := h1.hd (by decide)
  have d7 : (W.alloc (.cells TLin.Z LT)).cell? ⟨a.nb, 7, none⟩ = some (.int .i64 S.c.tries) := h1.hd (by decide)
  have HH := Lib.hid h1
  clear h h1 hdata
  generalize S.data = data at *
  by_cases h0 : b < 0
  · clear hb
    go_enter Tryz.func13, Tryz.ntmps13
    go_wp2_with fail
    refine wp_scope_fwd 0 rfl ?_
    go_wp2_with fail
    go_ret3
    exact ⟨nilV, rfl, HH.out.pop.outNil⟩
  · have hd : data ≤ b := by omega
    clear hb
    go_enter Tryz.func13, Tryz.ntmps13
    go_wp2_with fail
    refine wp_scope_fwd 0 rfl ?_
    go_wp2_with fail
    refine (HD.out _).mono ?_
    rintro e W2 ⟨rfl, hu⟩
    have HU := Lib.hid hu
    clear hu
    go_wp2_with fail
    go_ret3
    exact ⟨nilV, rfl, (HH.out.upd0 HU.out).pop.outNil⟩
set_option maxRecDepth 100000 in
set_option maxHeartbeats 4000000 in
theorem ask_state (h : NIs w0 W a S L) (b : Int) (wr : Bool) (hb : 0 ≤ b ∧ b < S.data) (hwa : S.wa = true) : Calls Tryz.prog 13 #[ptr a.nb, .int .i64 b, .bool wr] W (AEnds w0 a ⟨false, [], 8, S⟩ L) := by
  have h1 := h.alloc TLin.Z LT
  have HD := Lib.hid (fun w => PL.pData_yes S.c h.ok.may w)
  have hdata : S.c.blocks - S.c.cores * S.c.logs = S.data := rfl
  rw [hdata] at HD
  have d0 : (W.alloc (.cells TLin.Z LT)).cell? ⟨a.nb, 0, none⟩ = some (.int .i64 S.c.cores) := h1.hd (by decide)
  have d1 : (W.alloc (.cells TLin.Z LT)).cell? ⟨a.nb, 1, none⟩ = some (.int .i64 S.c.sets) := h1.hd (by decide)
  have d2 : (W.alloc (.cells TLin.Z LT)).cell? ⟨a.nb, 2, none⟩ = some (.int .i64 S.c.ways) := h1.hd (by decide)
  have d3 : (W.alloc (.cells TLin.Z LT)).cell? ⟨a.nb, 3, none⟩ = some (.int .i64 S.c.blocks) := h1.hd (by decide)
  have d4 : (W.alloc (.cells TLin.Z LT)).cell? ⟨a.nb, 4, none⟩ = some (.int .i64 S.c.logs) := h1.hd (by decide)
  have d5 : (W.alloc (.cells TLin.Z LT)).cell? ⟨a.nb, 5, none⟩ = some (.int .i64 S.c.backs) := h1.hd (by decide)
  have d6 : (W.alloc (.cells TLin.Z LT)).cell? ⟨a.nb, 6, none⟩ = some (.int .i64 S.c.nest) := h1.hd (by decide)
  have d7 : (W.alloc (.cells TLin.Z LT)).cell? ⟨a.nb, 7, none⟩ = some (.int .i64 S.c.tries) := h1.hd (by decide)
  have HH := Lib.hid h1
  obtain ⟨hb0, hb1⟩ := hb
  clear h h1 hdata
  generalize hdd : S.data = data at HD hb1
  clear hdd
  go_enter Tryz.func13, Tryz.ntmps13
  go_wp2_with fail
  refine wp_scope_fwd 0 rfl ?_
  go_wp2_with fail
  refine (HD.out _).mono ?_
  rintro e W2 ⟨rfl, hu⟩
  have HH2 := Lib.hid (HH.out.upd0 hu)
  clear hu d0 d1 d2 d3 d4 d5 d6 d7 HH HD
  have c37 := HH2.out.wc
  rw [hwa] at c37
  clear hwa
  go_wp2_with fail
  go_ret3
  exact ⟨nilV, rfl, HH2.out.pop.outNil⟩
set_option maxRecDepth 100000 in
set_option maxHeartbeats 4000000 in
theorem ask_hit (h : NIs w0 W a S L) (b : Int) (wr : Bool) (hb : 0 ≤ b ∧ b < S.data) (hwa : S.wa = false) (hhit : hitB a.p S b wr = true) : Calls Tryz.prog 13 #[ptr a.nb, .int .i64 b, .bool wr] W (AEnds w0 a ⟨true, [], 0, S⟩ L) := by
  have h1 := h.alloc TLin.Z LT
  have HD := Lib.hid (fun w => PL.pData_yes S.c h.ok.may w)
  have hdata : S.c.blocks - S.c.cores * S.c.logs = S.data := rfl
  rw [hdata] at HD
  have d0 : (W.alloc (.cells TLin.Z LT)).cell? ⟨a.nb, 0, none⟩ = some (.int .i64 S.c.cores) := h1.hd (by decide)
  have d1 : (W.alloc (.cells TLin.Z LT)).cell? ⟨a.nb, 1, none⟩ = some (.int .i64 S.c.sets) := h1.hd (by decide)
  have d2 : (W.alloc (.cells TLin.Z LT)).cell? ⟨a.nb, 2, none⟩ = some (.int .i64 S.c.ways) := h1.hd (by decide)
  have d3 : (W.alloc (.cells TLin.Z LT)).cell? ⟨a.nb, 3, none⟩ = some (.int .i64 S.c.blocks) := h1.hd (by decide)
  have d4 : (W.alloc (.cells TLin.Z LT)).cell? ⟨a.nb, 4, none⟩ = some (.int .i64 S.c.logs) := h1.hd (by decide)
  have d5 : (W.alloc (.cells TLin.Z LT)).cell? ⟨a.nb, 5, none⟩ = some (.int .i64 S.c.backs) := h1.hd (by decide)
  have d6 : (W.alloc (.cells TLin.Z LT)).cell? ⟨a.nb, 6, none⟩ = some (.int .i64 S.c.nest) := h1.hd (by decide)
  have d7 : (W.alloc (.cells TLin.Z LT)).cell? ⟨a.nb, 7, none⟩ = some (.int .i64 S.c.tries) := h1.hd (by decide)
  have HH := Lib.hid h1
  obtain ⟨hb0, hb1⟩ := hb
  clear h h1 hdata
  generalize hdd : S.data = data at HD hb1
  clear hdd
  go_enter Tryz.func13, Tryz.ntmps13
  go_wp2_with fail
  refine wp_scope_fwd 0 rfl ?_
  go_wp2_with fail
  refine (HD.out _).mono ?_
  rintro e W2 ⟨rfl, hu⟩
  have HH2 := Lib.hid (HH.out.upd0 hu)
  clear hu d0 d1 d2 d3 d4 d5 d6 d7 HH HD
  have c37 := HH2.out.wc
  rw [hwa] at c37
  have c9 : W2.cell? ⟨a.nb, 9, none⟩ = some (ptr a.p.kb) := HH2.out.hd (by decide)
  have HF := Lib.hid (KA.find_is HH2.out.cache b)
  have hlO := KA.fnd_ok (p := a.p) HH2.out.ok.okA b
  have HLN := Lib.hid (Ln.Ok.isN hlO.isU)
  unfold hitB at hhit
  have HHIT := Lib.hid hhit
  clear hlO hwa hhit
  generalize a.p.fnd S.A b = l at *
  generalize (a.p.place S.A b).isSome = y at *
  go_wp2_with fail
  refine HF.out.mono ?_
  rintro e W3 ⟨rfl, hu⟩
  have s1 := TLin.st_new HLN.out W3
  have HH3 := Lib.hid ((HH2.out.upd0 hu).alloc l.cells LT)
  have c1 := (HH3.out.lb.cell 1).trans l.get1
  clear hu c9 c37 HH2 HF
  cases y
  · exact absurd HHIT.out (by simp)
  · cases wr
    · go_wp2_with fail
      go_ret3
      exact ⟨nilV, rfl, HH3.out.pop.pop.outNil⟩
    · have hs : (l.st != 1) = true := by have := HHIT.out; simpa using this
      go_wp2_with fail
      go_ret3
      exact ⟨nilV, rfl, HH3.out.pop.pop.outNil⟩
set_option maxRecDepth 100000 in
set_option maxHeartbeats 4000000 in
theorem ask_busy (h : NIs w0 W a S L) (b : Int) (wr : Bool) (hb : 0 ≤ b ∧ b < S.data) (hwa : S.wa = false) (hhit : hitB a.p S b wr = false) (hbk : bkI S.zs b = true) : Calls Tryz.prog 13 #[ptr a.nb, .int .i64 b, .bool wr] W (AEnds w0 a ⟨false, [], 110, S⟩ L) := by
  have h1 := h.alloc TLin.Z LT
  have HD := Lib.hid (fun w => PL.pData_yes S.c h.ok.may w)
  have hdata : S.c.blocks - S.c.cores * S.c.logs = S.data := rfl
  rw [hdata] at HD
  have d0 : (W.alloc (.cells TLin.Z LT)).cell? ⟨a.nb, 0, none⟩ = some (.int .i64 S.c.cores) := h1.hd (by decide)
  have d1 : (W.alloc (.cells TLin.Z LT)).cell? ⟨a.nb, 1, none⟩ = some (.int .i64 S.c.sets) := h1.hd (by decide)
  have d2 : (W.alloc (.cells TLin.Z LT)).cell? ⟨a.nb, 2, none⟩ = some (.int .i64 S.c.ways) := h1.hd (by decide)
  have d3 : (W.alloc (.cells TLin.Z LT)).cell? ⟨a.nb, 3, none⟩ = some (.int .i64 S.c.blocks) := h1.hd (by decide)
  have d4 : (W.alloc (.cells TLin.Z LT)).cell? ⟨a.nb, 4, none⟩ = some (.int .i64 S.c.logs) := h1.hd (by decide)
  have d5 : (W.alloc (.cells TLin.Z LT)).cell? ⟨a.nb, 5, none⟩ = some (.int .i64 S.c.backs) := h1.hd (by decide)
  have d6 : (W.alloc (.cells TLin.Z LT)).cell? ⟨a.nb, 6, none⟩ = some (.int .i64 S.c.nest) := h1.hd (by decide)
  have d7 : (W.alloc (.cells TLin.Z LT)).cell? ⟨a.nb, 7, none⟩ = some (.int .i64 S.c.tries) := h1.hd (by decide)
  have HH := Lib.hid h1
  obtain ⟨hb0, hb1⟩ := hb
  clear h h1 hdata
  generalize hdd : S.data = data at HD hb1
  clear hdd
  go_enter Tryz.func13, Tryz.ntmps13
  go_wp2_with fail
  refine wp_scope_fwd 0 rfl ?_
  go_wp2_with fail
  refine (HD.out _).mono ?_
  rintro e W2 ⟨rfl, hu⟩
  have HH2 := Lib.hid (HH.out.upd0 hu)
  clear hu d0 d1 d2 d3 d4 d5 d6 d7 HH HD
  have c37 := HH2.out.wc
  rw [hwa] at c37
  unfold hitB at hhit
  have HHIT := Lib.hid hhit
  clear hwa hhit
  go_upto_region 10 with fail
  go_cut [12, 13] from 40 to 49 (fun s12 s13 wx => ∃ (g12 : Nat), s12 = ptr g12 ∧ s13 = .bool (a.p.place S.A b).isSome ∧ Hid (NIs w0 wx a S (boxO g12 (a.p.fnd S.A b).cells LT :: boxO W.heap.size TLin.Z LT :: L)))
  case first =>
    have c9 : W2.cell? ⟨a.nb, 9, none⟩ = some (ptr a.p.kb) := HH2.out.hd (by decide)
    have HF := Lib.hid (KA.find_is HH2.out.cache b)
    have HLN := Lib.hid (Ln.Ok.isN (KA.fnd_ok (p := a.p) HH2.out.ok.okA b).isU)
    go_wp2_with fail
    refine HF.out.mono ?_
    rintro e W3 ⟨rfl, hu⟩
    have s1 := TLin.st_new HLN.out W3
    have HH3 := Lib.hid ((HH2.out.upd0 hu).alloc (a.p.fnd S.A b).cells LT)
    clear hu
    go_wp2_with fail
    go_meet
    exact ⟨_, rfl, rfl, HH3⟩
  case rest =>
  obtain ⟨g12, rfl, rfl, hN3⟩ := hcut
  clear c37 HH2
  go_step
  go_cut [12, 13] from 49 to 59 (fun s12 s13 wx => Hid (NIs w0 wx a S (boxO W.heap.size TLin.Z LT :: L)))
  case first =>
    have c1 := (hN3.out.lb.cell 1).trans (a.p.fnd S.A b).get1
    cases hp : (a.p.place S.A b).isSome
    · go_wp2_with fail
      go_meet
      exact Lib.hid hN3.out.pop
    · have hx := HHIT.out
      rw [hp] at hx
      cases wr
      · exact absurd hx (by simp)
      · have hs : ((a.p.fnd S.A b).st != 1) = false := by simpa using hx
        clear hx
        go_wp2_with fail
        go_meet
        exact Lib.hid hN3.out.pop
  case rest =>
  have HH3 := hcut
  clear hN3 hcut
  have c10 : wc.cell? ⟨a.nb, 10, none⟩ = some (ptr a.bb) := HH3.out.hd (by decide)
  have HBF := Lib.hid (s_findN HH3.out b)
  have HBN := Lib.hid (isU_N (bkD_isU HH3.out.ok.allU b))
  generalize hbd : bkD S.zs b = bd at *
  clear hbd
  go_wp2_with fail
  refine HBF.out.mono ?_
  rintro e W4 ⟨rfl, hu⟩
  have s2 := TBlk.st_new HBN.out W4
  have HH4 := Lib.hid ((HH3.out.upd0 hu).alloc bd BT)
  clear hu HBF HH3 c10
  rw [hbk]
  go_wp2_with fail
  go_ret3
  exact ⟨nilV, rfl, HH4.out.pop.pop.outNil⟩
set_option maxRecDepth 100000 in
set_option maxHeartbeats 4000000 in
theorem ask_none (h : NIs w0 W a S L) (b : Int) (wr : Bool) (hb : 0 ≤ b ∧ b < S.data) (hwa : S.wa = false) (hhit : hitB a.p S b wr = false) (hbk : bkI S.zs b = false) (hg : (a.p.goes S.A S.M b).isSome = false) : Calls Tryz.prog 13 #[ptr a.nb, .int .i64 b, .bool wr] W (AEnds w0 a (askQ S [] b wr) L) := by
  have h1 := h.alloc TLin.Z LT
  have HD := Lib.hid (fun w => PL.pData_yes S.c h.ok.may w)
  have hdata : S.c.blocks - S.c.cores * S.c.logs = S.data := rfl
  rw [hdata] at HD
  have d0 : (W.alloc (.cells TLin.Z LT)).cell? ⟨a.nb, 0, none⟩ = some (.int .i64 S.c.cores) := h1.hd (by decide)
  have d1 : (W.alloc (.cells TLin.Z LT)).cell? ⟨a.nb, 1, none⟩ = some (.int .i64 S.c.sets) := h1.hd (by decide)
  have d2 : (W.alloc (.cells TLin.Z LT)).cell? ⟨a.nb, 2, none⟩ = some (.int .i64 S.c.ways) := h1.hd (by decide)
  have d3 : (W.alloc (.cells TLin.Z LT)).cell? ⟨a.nb, 3, none⟩ = some (.int .i64 S.c.blocks) := h1.hd (by decide)
  have d4 : (W.alloc (.cells TLin.Z LT)).cell? ⟨a.nb, 4, none⟩ = some (.int .i64 S.c.logs) := h1.hd (by decide)
  have d5 : (W.alloc (.cells TLin.Z LT)).cell? ⟨a.nb, 5, none⟩ = some (.int .i64 S.c.backs) := h1.hd (by decide)
  have d6 : (W.alloc (.cells TLin.Z LT)).cell? ⟨a.nb, 6, none⟩ = some (.int .i64 S.c.nest) := h1.hd (by decide)
  have d7 : (W.alloc (.cells TLin.Z LT)).cell? ⟨a.nb, 7, none⟩ = some (.int .i64 S.c.tries) := h1.hd (by decide)
  have HH := Lib.hid h1
  obtain ⟨hb0, hb1⟩ := hb
  clear h h1 hdata
  generalize hdd : S.data = data at HD hb1
  clear hdd
  go_enter Tryz.func13, Tryz.ntmps13
  go_wp2_with fail
  refine wp_scope_fwd 0 rfl ?_
  go_wp2_with fail
  refine (HD.out _).mono ?_
  rintro e W2 ⟨rfl, hu⟩
  have HH2 := Lib.hid (HH.out.upd0 hu)
  clear hu d0 d1 d2 d3 d4 d5 d6 d7 HH HD
  have c37 := HH2.out.wc
  rw [hwa] at c37
  unfold hitB at hhit
  have HHIT := Lib.hid hhit
  clear hwa hhit
  go_upto_region 10 with fail
  go_cut [12, 13] from 40 to 49 (fun s12 s13 wx => ∃ (g12 : Nat), s12 = ptr g12 ∧ s13 = .bool (a.p.place S.A b).isSome ∧ Hid (NIs w0 wx a S (boxO g12 (a.p.fnd S.A b).cells LT :: boxO W.heap.size TLin.Z LT :: L)))
  case first =>
    have c9 : W2.cell? ⟨a.nb, 9, none⟩ = some (ptr a.p.kb) := HH2.out.hd (by decide)
    have HF := Lib.hid (KA.find_is HH2.out.cache b)
    have HLN := Lib.hid (Ln.Ok.isN (KA.fnd_ok (p := a.p) HH2.out.ok.okA b).isU)
    go_wp2_with fail
    refine HF.out.mono ?_
    rintro e W3 ⟨rfl, hu⟩
    have s1 := TLin.st_new HLN.out W3
    have HH3 := Lib.hid ((HH2.out.upd0 hu).alloc (a.p.fnd S.A b).cells LT)
    clear hu
    go_wp2_with fail
    go_meet
    exact ⟨_, rfl, rfl, HH3⟩
  case rest =>
  obtain ⟨g12, rfl, rfl, hN3⟩ := hcut
  clear c37 HH2
  go_step
  go_cut [12, 13] from 49 to 59 (fun s12 s13 wx => Hid (NIs w0 wx a S (boxO W.heap.size TLin.Z LT :: L)))
  case first =>
    have c1 := (hN3.out.lb.cell 1).trans (a.p.fnd S.A b).get1
    cases hp : (a.p.place S.A b).isSome
    · go_wp2_with fail
      go_meet
      exact Lib.hid hN3.out.pop
    · have hx := HHIT.out
      rw [hp] at hx
      cases wr
      · exact absurd hx (by simp)
      · have hs : ((a.p.fnd S.A b).st != 1) = false := by simpa using hx
        clear hx
        go_wp2_with fail
        go_meet
        exact Lib.hid hN3.out.pop
  case rest =>
  have HH3 := hcut
  clear hN3 hcut
  have c10 : wc.cell? ⟨a.nb, 10, none⟩ = some (ptr a.bb) := HH3.out.hd (by decide)
  have HBF := Lib.hid (s_findN HH3.out b)
  have HBN := Lib.hid (isU_N (bkD_isU HH3.out.ok.allU b))
  generalize hbd : bkD S.zs b = bd at *
  clear hbd
  go_wp2_with fail
  refine HBF.out.mono ?_
  rintro e W4 ⟨rfl, hu⟩
  have s2 := TBlk.st_new HBN.out W4
  have HH4 := Lib.hid ((HH3.out.upd0 hu).alloc bd BT)
  clear hu HBF HH3 c10
  rw [hbk]
  have c9 : (W4.alloc (.cells bd BT)).cell? ⟨a.nb, 9, none⟩ = some (ptr a.p.kb) := HH4.out.hd (by decide)
  have HG := Lib.hid (KA.goes_is HH4.out.cache b)
  have HGN := Lib.hid (Ln.Ok.isN (gone_ok (p := a.p) HH4.out.ok.okA b).isU)
  have HGO := Lib.hid (gone_ok (p := a.p) HH4.out.ok.okA b)
  go_wp2_with fail
  refine HG.out.mono ?_
  rintro e W5 ⟨rfl, hu⟩
  have HH5 := Lib.hid (HH4.out.upd0 hu)
  have s3 := (TLin.st_at TLin.isZ HGN.out HH5.out.lb2).1
  have HH6 := Lib.hid (HH5.out.setA2 (vs := (a.p.gone S.A S.M b).cells) (HGN.out.1.trans TLin.size_Z.symm))
  clear hu c9 HG HH4 HH5 s2
  obtain ⟨W6, hW6⟩ : ∃ X, W5.setCells W.heap.size 0 (a.p.gone S.A S.M b).cells.toList = X := ⟨_, rfl⟩
  rw [hW6] at s3 HH6
  clear hW6
  rw [hg]
  go_wp2_with fail
  go_step3
  go_wp2
  refine ⟨rfl, ?_⟩
  have c8 : W6.cell? ⟨a.nb, 8, none⟩ = some (.int .i64 (S).core) := HH6.out.hd (by decide)
  have HNA := Lib.hid (note_any 1 b (S).core a.nb (S) rfl W6 c8)
  go_wp2_with fail
  refine HNA.out.mono ?_
  rintro e W7 ⟨rfl, hu⟩
  have HH7 := Lib.hid (HH6.out.upd0 hu)
  have s4 := nst_mid HH7.out (noteP_ok (S) 1 b (by decide))
  have HH8 := Lib.hid (HH7.out.setq (noteP_ok (S) 1 b (by decide)))
  clear hu HNA c8 HH7 HH6
  obtain ⟨W8, hW8⟩ : ∃ X, W7.setCells a.nb 13 (noteP (S) 1 b).cells.toList = X := ⟨_, rfl⟩
  rw [hW8] at s4 HH8
  clear hW8
  cases wr
  · have c12 : W8.cell? ⟨a.nb, 12, none⟩ = some (ptr a.db) := HH8.out.hd (by decide)
    have HS := Lib.hid (DL.stamp_any a.db (S).c.nest (S).d _ HH8.out.deal)
    have c17 : W8.cell? ⟨a.nb, 17, none⟩ = some (.int .u64 0) := HH8.out.qc (i := 4) (noteP (S) 1 b).get4
    have f17 : W8.frozen? ⟨a.nb, 17, none⟩ = false := HH8.out.box.frozen 17
    have hao := askN_ok HH8.out.ok.st b false
    have HAO : Hid (askN (S) b false).Ok := Lib.hid hao
    have HH10 := Lib.hid (show NIs w0 (W8.setCell ⟨a.nb, 17, none⟩ (.int .u64 (stampE (S).d))) a { S with q := askN (S) b false } _ from HH8.out.setqc (j := 4) (q := askN (S) b false) (by decide) (set_stamp _ _) HAO.out)
    have c37 : (W8.setCell ⟨a.nb, 17, none⟩ (.int .u64 (stampE (S).d))).cell? ⟨a.nb, 37, none⟩ = some (.bool (S).wa) := HH10.out.wc
    have f37 : (W8.setCell ⟨a.nb, 17, none⟩ (.int .u64 (stampE (S).d))).frozen? ⟨a.nb, 37, none⟩ = false := HH10.out.box.frozen 37
    have HH11 := Lib.hid (HH10.out.setw true)
    have l13 : (TNot.ld (.pointer (some ⟨a.nb, 13, none⟩))).run Tryz.prog ((W8.setCell ⟨a.nb, 17, none⟩ (.int .u64 (stampE (S).d))).setCell ⟨a.nb, 37, none⟩ (.bool true)) = .ok (.agg (askN (S) b false).cells) _ := HH11.out.ldq
    have y3 := fun w => bsN_run (Nt.Ok.isN HAO.out.isU).1 w
    obtain ⟨v', W12, hrun, hN12⟩ := NIs.app (ns := []) (HH11.out.outNil) (askN (S) b false) HAO.out.isU (by simp)
    have HR := Lib.hid hrun
    have HN12 := Lib.hid hN12
    clear hrun hN12 hao HH8 HH10 HH11
    generalize (askN (S) b false).cells = x at *
    obtain ⟨W11, hW11⟩ : ∃ X, ((W8.setCell ⟨a.nb, 17, none⟩ (.int .u64 (stampE (S).d))).setCell ⟨a.nb, 37, none⟩ (.bool true)) = X := ⟨_, rfl⟩
    rw [hW11] at l13 HR
    have HW11 := Lib.hid hW11
    clear hW11
    go_upto_region 32 with (go_at_call 25; refine HS.out.mono ?_; rintro e Wz ⟨rfl, rfl⟩)
    rw [HW11.out]
    clear c12 c17 f17 c37 f37 HS
    go_wp2_with (at_builtin; refine wpList_append_run (w := W11.alloc (.cells x NT)) rfl _ _ 43 rfl rfl rfl HR.out ?_)
    go_ret3
    exact ⟨v', rfl, HN12.out.pop2.pop2⟩
  
  · have c13 : W8.cell? ⟨a.nb, 13, none⟩ = some (.int .u8 1) := HH8.out.qc (i := 0) (noteP (S) 1 b).get0
    have f13 : W8.frozen? ⟨a.nb, 13, none⟩ = false := HH8.out.box.frozen 13
    have HH9 := Lib.hid (show NIs w0 (W8.setCell ⟨a.nb, 13, none⟩ (.int .u8 2)) a { S with q := noteP (S) 2 b } _ from HH8.out.setqc (j := 0) (q := noteP (S) 2 b) (by decide) (set_kind _ _) (noteP_ok (S) 2 b (by decide)))
    have c12 : (W8.setCell ⟨a.nb, 13, none⟩ (.int .u8 2)).cell? ⟨a.nb, 12, none⟩ = some (ptr a.db) := HH9.out.hd (by decide)
    have HS := Lib.hid (DL.stamp_any a.db (S).c.nest (S).d _ HH9.out.deal)
    have c17 : (W8.setCell ⟨a.nb, 13, none⟩ (.int .u8 2)).cell? ⟨a.nb, 17, none⟩ = some (.int .u64 0) := HH9.out.qc (i := 4) (noteP (S) 2 b).get4
    have f17 : (W8.setCell ⟨a.nb, 13, none⟩ (.int .u8 2)).frozen? ⟨a.nb, 17, none⟩ = false := HH9.out.box.frozen 17
    have hao := askN_ok HH9.out.ok.st b true
    have HAO : Hid (askN (S) b true).Ok := Lib.hid hao
    have HH10 := Lib.hid (show NIs w0 ((W8.setCell ⟨a.nb, 13, none⟩ (.int .u8 2)).setCell ⟨a.nb, 17, none⟩ (.int .u64 (stampE (S).d))) a { S with q := askN (S) b true } _ from HH9.out.setqc (j := 4) (q := askN (S) b true) (by decide) (set_stamp _ _) HAO.out)
    have c37 : ((W8.setCell ⟨a.nb, 13, none⟩ (.int .u8 2)).setCell ⟨a.nb, 17, none⟩ (.int .u64 (stampE (S).d))).cell? ⟨a.nb, 37, none⟩ = some (.bool (S).wa) := HH10.out.wc
    have f37 : ((W8.setCell ⟨a.nb, 13, none⟩ (.int .u8 2)).setCell ⟨a.nb, 17, none⟩ (.int .u64 (stampE (S).d))).frozen? ⟨a.nb, 37, none⟩ = false := HH10.out.box.frozen 37
    have HH11 := Lib.hid (HH10.out.setw true)
    have l13 : (TNot.ld (.pointer (some ⟨a.nb, 13, none⟩))).run Tryz.prog (((W8.setCell ⟨a.nb, 13, none⟩ (.int .u8 2)).setCell ⟨a.nb, 17, none⟩ (.int .u64 (stampE (S).d))).setCell ⟨a.nb, 37, none⟩ (.bool true)) = .ok (.agg (askN (S) b true).cells) _ := HH11.out.ldq
    have y3 := fun w => bsN_run (Nt.Ok.isN HAO.out.isU).1 w
    obtain ⟨v', W12, hrun, hN12⟩ := NIs.app (ns := []) (HH11.out.outNil) (askN (S) b true) HAO.out.isU (by simp)
    have HR := Lib.hid hrun
    have HN12 := Lib.hid hN12
    clear hrun hN12 hao HH8 HH10 HH11
    generalize (askN (S) b true).cells = x at *
    obtain ⟨W11, hW11⟩ : ∃ X, (((W8.setCell ⟨a.nb, 13, none⟩ (.int .u8 2)).setCell ⟨a.nb, 17, none⟩ (.int .u64 (stampE (S).d))).setCell ⟨a.nb, 37, none⟩ (.bool true)) = X := ⟨_, rfl⟩
    rw [hW11] at l13 HR
    have HW11 := Lib.hid hW11
    clear hW11
    go_upto_region 32 with (go_at_call 25; refine HS.out.mono ?_; rintro e Wz ⟨rfl, rfl⟩)
    rw [HW11.out]
    clear c12 c17 f17 c37 f37 HS
    go_wp2_with (at_builtin; refine wpList_append_run (w := W11.alloc (.cells x NT)) rfl _ _ 43 rfl rfl rfl HR.out ?_)
    go_ret3
    exact ⟨v', rfl, HN12.out.pop2.pop2⟩
  
  
set_option maxRecDepth 100000 in
set_option maxHeartbeats 4000000 in
theorem ask_shared (h : NIs w0 W a S L) (b : Int) (wr : Bool) (hb : 0 ≤ b ∧ b < S.data) (hwa : S.wa = false) (hhit : hitB a.p S b wr = false) (hbk : bkI S.zs b = false) (hg : (a.p.goes S.A S.M b).isSome = true) (hst : ((a.p.gone S.A S.M b).st != 1) = false) : Calls Tryz.prog 13 #[ptr a.nb, .int .i64 b, .bool wr] W (AEnds w0 a (askQ (goneS a.p S (a.p.gone S.A S.M b)) [] b wr) L) := by
  obtain ⟨g, hgg⟩ : ∃ x, a.p.gone S.A S.M b = x := ⟨_, rfl⟩
  obtain ⟨S2, hS2⟩ : ∃ x, goneS a.p S g = x := ⟨_, rfl⟩
  rw [hgg] at hst ⊢
  rw [hS2]
  have HGG := Lib.hid hgg
  have HS2 := Lib.hid hS2
  clear hgg hS2
  have h1 := h.alloc TLin.Z LT
  have HD := Lib.hid (fun w => PL.pData_yes S.c h.ok.may w)
  have hdata : S.c.blocks - S.c.cores * S.c.logs = S.data := rfl
  rw [hdata] at HD
  have d0 : (W.alloc (.cells TLin.Z LT)).cell? ⟨a.nb, 0, none⟩ = some (.int .i64 S.c.cores) := h1.hd (by decide)
  have d1 : (W.alloc (.cells TLin.Z LT)).cell? ⟨a.nb, 1, none⟩ = some (.int .i64 S.c.sets) := h1.hd (by decide)
  have d2 : (W.alloc (.cells TLin.Z LT)).cell? ⟨a.nb, 2, none⟩ = some (.int .i64 S.c.ways) := h1.hd (by decide)
  have d3 : (W.alloc (.cells TLin.Z LT)).cell? ⟨a.nb, 3, none⟩ = some (.int .i64 S.c.blocks) := h1.hd (by decide)
  have d4 : (W.alloc (.cells TLin.Z LT)).cell? ⟨a.nb, 4, none⟩ = some (.int .i64 S.c.logs) := h1.hd (by decide)
  have d5 : (W.alloc (.cells TLin.Z LT)).cell? ⟨a.nb, 5, none⟩ = some (.int .i64 S.c.backs) := h1.hd (by decide)
  have d6 : (W.alloc (.cells TLin.Z LT)).cell? ⟨a.nb, 6, none⟩ = some (.int .i64 S.c.nest) := h1.hd (by decide)
  have d7 : (W.alloc (.cells TLin.Z LT)).cell? ⟨a.nb, 7, none⟩ = some (.int .i64 S.c.tries) := h1.hd (by decide)
  have HH := Lib.hid h1
  obtain ⟨hb0, hb1⟩ := hb
  clear h h1 hdata
  generalize hdd : S.data = data at HD hb1
  clear hdd
  go_enter Tryz.func13, Tryz.ntmps13
  go_wp2_with fail
  refine wp_scope_fwd 0 rfl ?_
  go_wp2_with fail
  refine (HD.out _).mono ?_
  rintro e W2 ⟨rfl, hu⟩
  have HH2 := Lib.hid (HH.out.upd0 hu)
  clear hu d0 d1 d2 d3 d4 d5 d6 d7 HH HD
  have c37 := HH2.out.wc
  rw [hwa] at c37
  unfold hitB at hhit
  have HHIT := Lib.hid hhit
  clear hwa hhit
  go_upto_region 10 with fail
  go_cut [12, 13] from 40 to 49 (fun s12 s13 wx => ∃ (g12 : Nat), s12 = ptr g12 ∧ s13 = .bool (a.p.place S.A b).isSome ∧ Hid (NIs w0 wx a S (boxO g12 (a.p.fnd S.A b).cells LT :: boxO W.heap.size TLin.Z LT :: L)))
  case first =>
    have c9 : W2.cell? ⟨a.nb, 9, none⟩ = some (ptr a.p.kb) := HH2.out.hd (by decide)
    have HF := Lib.hid (KA.find_is HH2.out.cache b)
    have HLN := Lib.hid (Ln.Ok.isN (KA.fnd_ok (p := a.p) HH2.out.ok.okA b).isU)
    go_wp2_with fail
    refine HF.out.mono ?_
    rintro e W3 ⟨rfl, hu⟩
    have s1 := TLin.st_new HLN.out W3
    have HH3 := Lib.hid ((HH2.out.upd0 hu).alloc (a.p.fnd S.A b).cells LT)
    clear hu
    go_wp2_with fail
    go_meet
    exact ⟨_, rfl, rfl, HH3⟩
  case rest =>
  obtain ⟨g12, rfl, rfl, hN3⟩ := hcut
  clear c37 HH2
  go_step
  go_cut [12, 13] from 49 to 59 (fun s12 s13 wx => Hid (NIs w0 wx a S (boxO W.heap.size TLin.Z LT :: L)))
  case first =>
    have c1 := (hN3.out.lb.cell 1).trans (a.p.fnd S.A b).get1
    cases hp : (a.p.place S.A b).isSome
    · go_wp2_with fail
      go_meet
      exact Lib.hid hN3.out.pop
    · have hx := HHIT.out
      rw [hp] at hx
      cases wr
      · exact absurd hx (by simp)
      · have hs : ((a.p.fnd S.A b).st != 1) = false := by simpa using hx
        clear hx
        go_wp2_with fail
        go_meet
        exact Lib.hid hN3.out.pop
  case rest =>
  have HH3 := hcut
  clear hN3 hcut
  have c10 : wc.cell? ⟨a.nb, 10, none⟩ = some (ptr a.bb) := HH3.out.hd (by decide)
  have HBF := Lib.hid (s_findN HH3.out b)
  have HBN := Lib.hid (isU_N (bkD_isU HH3.out.ok.allU b))
  generalize hbd : bkD S.zs b = bd at *
  clear hbd
  go_wp2_with fail
  refine HBF.out.mono ?_
  rintro e W4 ⟨rfl, hu⟩
  have s2 := TBlk.st_new HBN.out W4
  have HH4 := Lib.hid ((HH3.out.upd0 hu).alloc bd BT)
  clear hu HBF HH3 c10
  rw [hbk]
  have c9 : (W4.alloc (.cells bd BT)).cell? ⟨a.nb, 9, none⟩ = some (ptr a.p.kb) := HH4.out.hd (by decide)
  have HG := Lib.hid (KA.goes_is HH4.out.cache b)
  have HGN := Lib.hid (Ln.Ok.isN (gone_ok (p := a.p) HH4.out.ok.okA b).isU)
  have HGO := Lib.hid (gone_ok (p := a.p) HH4.out.ok.okA b)
  go_wp2_with fail
  refine HG.out.mono ?_
  rintro e W5 ⟨rfl, hu⟩
  have HH5 := Lib.hid (HH4.out.upd0 hu)
  have s3 := (TLin.st_at TLin.isZ HGN.out HH5.out.lb2).1
  have HH6 := Lib.hid (HH5.out.setA2 (vs := (a.p.gone S.A S.M b).cells) (HGN.out.1.trans TLin.size_Z.symm))
  clear hu c9 HG HH4 HH5 s2
  obtain ⟨W6, hW6⟩ : ∃ X, W5.setCells W.heap.size 0 (a.p.gone S.A S.M b).cells.toList = X := ⟨_, rfl⟩
  rw [hW6] at s3 HH6
  clear hW6
  have e5 := HGG.out
  rw [e5] at HH6 s3 HGO
  rw [hg, e5]
  clear e5 HGN
  have c1 : W6.cell? ⟨W.heap.size, 1, none⟩ = some (.int .u8 g.st) := (HH6.out.lb2.cell 1).trans g.get1
  clear hg hbk hb0 hb1 HHIT HBN
  go_upto_region 26 with fail
  clear s3 c1
  have hd := HH6.out.upd0 (Upd.drew NoF W6)
  have hS0 : (fun X => X.cell? ⟨a.nb, 9, none⟩ = some (ptr a.p.kb) ∧ X.cell? ⟨W.heap.size, 0, none⟩ = some (.int .i64 g.blk)) W6.drew := ⟨hd.hd (i := 9) (by decide), ((hd.sep.box 9 rfl).cell 0).trans g.get0⟩
  have HDC := Lib.hid (cdrop_is hd g.blk)
  clear hd
  go_region_held3 (fun X => X.cell? ⟨a.nb, 9, none⟩ = some (ptr a.p.kb) ∧ X.cell? ⟨W.heap.size, 0, none⟩ = some (.int .i64 g.blk)) (first | assumption | exact hS0) (first | (go_at_call 50; refine HDC.out.mono ?_; rintro e wb ⟨rfl, hN2⟩; have hS' : (fun X => X.cell? ⟨a.nb, 9, none⟩ = some (ptr a.p.kb) ∧ X.cell? ⟨W.heap.size, 0, none⟩ = some (.int .i64 g.blk)) wb := ⟨hN2.hd (i := 9) (by decide), ((hN2.sep.box 9 rfl).cell 0).trans g.get0⟩; have HN2 := Lib.hid hN2; clear hN2))
  all_goals
    clear hS' hS0 HDC
    have HHB : Hid (NIs w0 _ a S2 _) := Lib.hid (by have e := HN2.out; rw [← HS2.out]; exact e)
    clear HN2 HH6
    go_wp2_with fail
    go_step3
    have c8 : wb.cell? ⟨a.nb, 8, none⟩ = some (.int .i64 (S2).core) := HHB.out.hd (by decide)
    have HNA := Lib.hid (note_any 1 b (S2).core a.nb (S2) rfl wb c8)
    go_wp2_with fail
    refine HNA.out.mono ?_
    rintro e W7 ⟨rfl, hu⟩
    have HH7 := Lib.hid (HHB.out.upd0 hu)
    have s4 := nst_mid HH7.out (noteP_ok (S2) 1 b (by decide))
    have HH8 := Lib.hid (HH7.out.setq (noteP_ok (S2) 1 b (by decide)))
    clear hu HNA c8 HH7 HHB
    obtain ⟨W8, hW8⟩ : ∃ X, W7.setCells a.nb 13 (noteP (S2) 1 b).cells.toList = X := ⟨_, rfl⟩
    rw [hW8] at s4 HH8
    clear hW8
    cases wr
    · have c12 : W8.cell? ⟨a.nb, 12, none⟩ = some (ptr a.db) := HH8.out.hd (by decide)
      have HS2 := Lib.hid (DL.stamp_any a.db (S2).c.nest (S2).d _ HH8.out.deal)
      have c17 : W8.cell? ⟨a.nb, 17, none⟩ = some (.int .u64 0) := HH8.out.qc (i := 4) (noteP (S2) 1 b).get4
      have f17 : W8.frozen? ⟨a.nb, 17, none⟩ = false := HH8.out.box.frozen 17
      have hao := askN_ok HH8.out.ok.st b false
      have HAO : Hid (askN (S2) b false).Ok := Lib.hid hao
      have HH10 := Lib.hid (show NIs w0 (W8.setCell ⟨a.nb, 17, none⟩ (.int .u64 (stampE (S2).d))) a { S2 with q := askN (S2) b false } _ from HH8.out.setqc (j := 4) (q := askN (S2) b false) (by decide) (set_stamp _ _) HAO.out)
      have c37 : (W8.setCell ⟨a.nb, 17, none⟩ (.int .u64 (stampE (S2).d))).cell? ⟨a.nb, 37, none⟩ = some (.bool (S2).wa) := HH10.out.wc
      have f37 : (W8.setCell ⟨a.nb, 17, none⟩ (.int .u64 (stampE (S2).d))).frozen? ⟨a.nb, 37, none⟩ = false := HH10.out.box.frozen 37
      have HH11 := Lib.hid (HH10.out.setw true)
      have l13 : (TNot.ld (.pointer (some ⟨a.nb, 13, none⟩))).run Tryz.prog ((W8.setCell ⟨a.nb, 17, none⟩ (.int .u64 (stampE (S2).d))).setCell ⟨a.nb, 37, none⟩ (.bool true)) = .ok (.agg (askN (S2) b false).cells) _ := HH11.out.ldq
      have y3 := fun w => bsN_run (Nt.Ok.isN HAO.out.isU).1 w
      obtain ⟨v', W12, hrun, hN12⟩ := NIs.app (ns := []) (HH11.out.outNil) (askN (S2) b false) HAO.out.isU (by simp)
      have HR := Lib.hid hrun
      have HN12 := Lib.hid hN12
      clear hrun hN12 hao HH8 HH10 HH11
      generalize (askN (S2) b false).cells = x at *
      obtain ⟨W11, hW11⟩ : ∃ X, ((W8.setCell ⟨a.nb, 17, none⟩ (.int .u64 (stampE (S2).d))).setCell ⟨a.nb, 37, none⟩ (.bool true)) = X := ⟨_, rfl⟩
      rw [hW11] at l13 HR
      have HW11 := Lib.hid hW11
      clear hW11
      go_upto_region 32 with (go_at_call 25; refine HS2.out.mono ?_; rintro e Wz ⟨rfl, rfl⟩)
      rw [HW11.out]
      clear c12 c17 f17 c37 f37 HS2
      go_wp2_with (at_builtin; refine wpList_append_run (w := W11.alloc (.cells x NT)) rfl _ _ 43 rfl rfl rfl HR.out ?_)
      go_ret3
      exact ⟨v', rfl, HN12.out.pop2.pop2⟩
    
    · have c13 : W8.cell? ⟨a.nb, 13, none⟩ = some (.int .u8 1) := HH8.out.qc (i := 0) (noteP (S2) 1 b).get0
      have f13 : W8.frozen? ⟨a.nb, 13, none⟩ = false := HH8.out.box.frozen 13
      have HH9 := Lib.hid (show NIs w0 (W8.setCell ⟨a.nb, 13, none⟩ (.int .u8 2)) a { S2 with q := noteP (S2) 2 b } _ from HH8.out.setqc (j := 0) (q := noteP (S2) 2 b) (by decide) (set_kind _ _) (noteP_ok (S2) 2 b (by decide)))
      have c12 : (W8.setCell ⟨a.nb, 13, none⟩ (.int .u8 2)).cell? ⟨a.nb, 12, none⟩ = some (ptr a.db) := HH9.out.hd (by decide)
      have HS2 := Lib.hid (DL.stamp_any a.db (S2).c.nest (S2).d _ HH9.out.deal)
      have c17 : (W8.setCell ⟨a.nb, 13, none⟩ (.int .u8 2)).cell? ⟨a.nb, 17, none⟩ = some (.int .u64 0) := HH9.out.qc (i := 4) (noteP (S2) 2 b).get4
      have f17 : (W8.setCell ⟨a.nb, 13, none⟩ (.int .u8 2)).frozen? ⟨a.nb, 17, none⟩ = false := HH9.out.box.frozen 17
      have hao := askN_ok HH9.out.ok.st b true
      have HAO : Hid (askN (S2) b true).Ok := Lib.hid hao
      have HH10 := Lib.hid (show NIs w0 ((W8.setCell ⟨a.nb, 13, none⟩ (.int .u8 2)).setCell ⟨a.nb, 17, none⟩ (.int .u64 (stampE (S2).d))) a { S2 with q := askN (S2) b true } _ from HH9.out.setqc (j := 4) (q := askN (S2) b true) (by decide) (set_stamp _ _) HAO.out)
      have c37 : ((W8.setCell ⟨a.nb, 13, none⟩ (.int .u8 2)).setCell ⟨a.nb, 17, none⟩ (.int .u64 (stampE (S2).d))).cell? ⟨a.nb, 37, none⟩ = some (.bool (S2).wa) := HH10.out.wc
      have f37 : ((W8.setCell ⟨a.nb, 13, none⟩ (.int .u8 2)).setCell ⟨a.nb, 17, none⟩ (.int .u64 (stampE (S2).d))).frozen? ⟨a.nb, 37, none⟩ = false := HH10.out.box.frozen 37
      have HH11 := Lib.hid (HH10.out.setw true)
      have l13 : (TNot.ld (.pointer (some ⟨a.nb, 13, none⟩))).run Tryz.prog (((W8.setCell ⟨a.nb, 13, none⟩ (.int .u8 2)).setCell ⟨a.nb, 17, none⟩ (.int .u64 (stampE (S2).d))).setCell ⟨a.nb, 37, none⟩ (.bool true)) = .ok (.agg (askN (S2) b true).cells) _ := HH11.out.ldq
      have y3 := fun w => bsN_run (Nt.Ok.isN HAO.out.isU).1 w
      obtain ⟨v', W12, hrun, hN12⟩ := NIs.app (ns := []) (HH11.out.outNil) (askN (S2) b true) HAO.out.isU (by simp)
      have HR := Lib.hid hrun
      have HN12 := Lib.hid hN12
      clear hrun hN12 hao HH8 HH10 HH11
      generalize (askN (S2) b true).cells = x at *
      obtain ⟨W11, hW11⟩ : ∃ X, (((W8.setCell ⟨a.nb, 13, none⟩ (.int .u8 2)).setCell ⟨a.nb, 17, none⟩ (.int .u64 (stampE (S2).d))).setCell ⟨a.nb, 37, none⟩ (.bool true)) = X := ⟨_, rfl⟩
      rw [hW11] at l13 HR
      have HW11 := Lib.hid hW11
      clear hW11
      go_upto_region 32 with (go_at_call 25; refine HS2.out.mono ?_; rintro e Wz ⟨rfl, rfl⟩)
      rw [HW11.out]
      clear c12 c17 f17 c37 f37 HS2
      go_wp2_with (at_builtin; refine wpList_append_run (w := W11.alloc (.cells x NT)) rfl _ _ 43 rfl rfl rfl HR.out ?_)
      go_ret3
      exact ⟨v', rfl, HN12.out.pop2.pop2⟩
    
    
set_option maxRecDepth 100000 in
set_option maxHeartbeats 4000000 in
theorem ask_full (h : NIs w0 W a S L) (b : Int) (wr : Bool) (hb : 0 ≤ b ∧ b < S.data) (hwa : S.wa = false) (hhit : hitB a.p S b wr = false) (hbk : bkI S.zs b = false) (hg : (a.p.goes S.A S.M b).isSome = true) (hst : ((a.p.gone S.A S.M b).st != 1) = true) (hr : (S.c.backs - (S.zs.length : Int) == 0) = true) : Calls Tryz.prog 13 #[ptr a.nb, .int .i64 b, .bool wr] W (AEnds w0 a ⟨false, [], 110, S⟩ L) := by
  obtain ⟨g, hgg⟩ : ∃ x, a.p.gone S.A S.M b = x := ⟨_, rfl⟩
  obtain ⟨rm, hrm⟩ : ∃ x, S.c.backs - (S.zs.length : Int) = x := ⟨_, rfl⟩
  rw [hgg] at hst
  rw [hrm] at hr
  have HGG := Lib.hid hgg
  have HRM := Lib.hid hrm
  clear hgg hrm
  have h1 := h.alloc TLin.Z LT
  have HD := Lib.hid (fun w => PL.pData_yes S.c h.ok.may w)
  have hdata : S.c.blocks - S.c.cores * S.c.logs = S.data := rfl
  rw [hdata] at HD
  have d0 : (W.alloc (.cells TLin.Z LT)).cell? ⟨a.nb, 0, none⟩ = some (.int .i64 S.c.cores) := h1.hd (by decide)
  have d1 : (W.alloc (.cells TLin.Z LT)).cell? ⟨a.nb, 1, none⟩ = some (.int .i64 S.c.sets) := h1.hd (by decide)
  have d2 : (W.alloc (.cells TLin.Z LT)).cell? ⟨a.nb, 2, none⟩ = some (.int .i64 S.c.ways) := h1.hd (by decide)
  have d3 : (W.alloc (.cells TLin.Z LT)).cell? ⟨a.nb, 3, none⟩ = some (.int .i64 S.c.blocks) := h1.hd (by decide)
  have d4 : (W.alloc (.cells TLin.Z LT)).cell? ⟨a.nb, 4, none⟩ = some (.int .i64 S.c.logs) := h1.hd (by decide)
  have d5 : (W.alloc (.cells TLin.Z LT)).cell? ⟨a.nb, 5, none⟩ = some (.int .i64 S.c.backs) := h1.hd (by decide)
  have d6 : (W.alloc (.cells TLin.Z LT)).cell? ⟨a.nb, 6, none⟩ = some (.int .i64 S.c.nest) := h1.hd (by decide)
  have d7 : (W.alloc (.cells TLin.Z LT)).cell? ⟨a.nb, 7, none⟩ = some (.int .i64 S.c.tries) := h1.hd (by decide)
  have HH := Lib.hid h1
  obtain ⟨hb0, hb1⟩ := hb
  clear h h1 hdata
  generalize hdd : S.data = data at HD hb1
  clear hdd
  go_enter Tryz.func13, Tryz.ntmps13
  go_wp2_with fail
  refine wp_scope_fwd 0 rfl ?_
  go_wp2_with fail
  refine (HD.out _).mono ?_
  rintro e W2 ⟨rfl, hu⟩
  have HH2 := Lib.hid (HH.out.upd0 hu)
  clear hu d0 d1 d2 d3 d4 d5 d6 d7 HH HD
  have c37 := HH2.out.wc
  rw [hwa] at c37
  unfold hitB at hhit
  have HHIT := Lib.hid hhit
  clear hwa hhit
  go_upto_region 10 with fail
  go_cut [12, 13] from 40 to 49 (fun s12 s13 wx => ∃ (g12 : Nat), s12 = ptr g12 ∧ s13 = .bool (a.p.place S.A b).isSome ∧ Hid (NIs w0 wx a S (boxO g12 (a.p.fnd S.A b).cells LT :: boxO W.heap.size TLin.Z LT :: L)))
  case first =>
    have c9 : W2.cell? ⟨a.nb, 9, none⟩ = some (ptr a.p.kb) := HH2.out.hd (by decide)
    have HF := Lib.hid (KA.find_is HH2.out.cache b)
    have HLN := Lib.hid (Ln.Ok.isN (KA.fnd_ok (p := a.p) HH2.out.ok.okA b).isU)
    go_wp2_with fail
    refine HF.out.mono ?_
    rintro e W3 ⟨rfl, hu⟩
    have s1 := TLin.st_new HLN.out W3
    have HH3 := Lib.hid ((HH2.out.upd0 hu).alloc (a.p.fnd S.A b).cells LT)
    clear hu
    go_wp2_with fail
    go_meet
    exact ⟨_, rfl, rfl, HH3⟩
  case rest =>
  obtain ⟨g12, rfl, rfl, hN3⟩ := hcut
  clear c37 HH2
  go_step
  go_cut [12, 13] from 49 to 59 (fun s12 s13 wx => Hid (NIs w0 wx a S (boxO W.heap.size TLin.Z LT :: L)))
  case first =>
    have c1 := (hN3.out.lb.cell 1).trans (a.p.fnd S.A b).get1
    cases hp : (a.p.place S.A b).isSome
    · go_wp2_with fail
      go_meet
      exact Lib.hid hN3.out.pop
    · have hx := HHIT.out
      rw [hp] at hx
      cases wr
      · exact absurd hx (by simp)
      · have hs : ((a.p.fnd S.A b).st != 1) = false := by simpa using hx
        clear hx
        go_wp2_with fail
        go_meet
        exact Lib.hid hN3.out.pop
  case rest =>
  have HH3 := hcut
  clear hN3 hcut
  have c10 : wc.cell? ⟨a.nb, 10, none⟩ = some (ptr a.bb) := HH3.out.hd (by decide)
  have HBF := Lib.hid (s_findN HH3.out b)
  have HBN := Lib.hid (isU_N (bkD_isU HH3.out.ok.allU b))
  generalize hbd : bkD S.zs b = bd at *
  clear hbd
  go_wp2_with fail
  refine HBF.out.mono ?_
  rintro e W4 ⟨rfl, hu⟩
  have s2 := TBlk.st_new HBN.out W4
  have HH4 := Lib.hid ((HH3.out.upd0 hu).alloc bd BT)
  clear hu HBF HH3 c10
  rw [hbk]
  have c9 : (W4.alloc (.cells bd BT)).cell? ⟨a.nb, 9, none⟩ = some (ptr a.p.kb) := HH4.out.hd (by decide)
  have HG := Lib.hid (KA.goes_is HH4.out.cache b)
  have HGN := Lib.hid (Ln.Ok.isN (gone_ok (p := a.p) HH4.out.ok.okA b).isU)
  have HGO := Lib.hid (gone_ok (p := a.p) HH4.out.ok.okA b)
  go_wp2_with fail
  refine HG.out.mono ?_
  rintro e W5 ⟨rfl, hu⟩
  have HH5 := Lib.hid (HH4.out.upd0 hu)
  have s3 := (TLin.st_at TLin.isZ HGN.out HH5.out.lb2).1
  have HH6 := Lib.hid (HH5.out.setA2 (vs := (a.p.gone S.A S.M b).cells) (HGN.out.1.trans TLin.size_Z.symm))
  clear hu c9 HG HH4 HH5 s2
  obtain ⟨W6, hW6⟩ : ∃ X, W5.setCells W.heap.size 0 (a.p.gone S.A S.M b).cells.toList = X := ⟨_, rfl⟩
  rw [hW6] at s3 HH6
  clear hW6
  have e5 := HGG.out
  rw [e5] at HH6 s3 HGO
  rw [hg, e5]
  clear e5 HGN
  have c1 : W6.cell? ⟨W.heap.size, 1, none⟩ = some (.int .u8 g.st) := (HH6.out.lb2.cell 1).trans g.get1
  clear hg hbk hb0 hb1 HHIT HBN
  have c10 : W6.cell? ⟨a.nb, 10, none⟩ = some (ptr a.bb) := HH6.out.hd (by decide)
  have HR := Lib.hid (broom_is HH6.out)
  rw [HRM.out] at HR
  go_upto_region 19 with fail
  clear s3 c1
  go_wp2_with fail
  refine HR.out.mono ?_
  rintro e W7 ⟨rfl, hu⟩
  have HH7 := Lib.hid (HH6.out.upd0 hu)
  clear hu HR c10 HH6
  go_wp2_with fail
  go_ret3
  exact ⟨nilV, rfl, HH7.out.pop.pop.outNil⟩
set_option maxRecDepth 100000 in
set_option maxHeartbeats 4000000 in
theorem ask_put (h : NIs w0 W a S L) (b : Int) (wr : Bool) (hb : 0 ≤ b ∧ b < S.data) (hwa : S.wa = false) (hhit : hitB a.p S b wr = false) (hbk : bkI S.zs b = false) (hg : (a.p.goes S.A S.M b).isSome = true) (hst : ((a.p.gone S.A S.M b).st != 1) = true) (hr : (S.c.backs - (S.zs.length : Int) == 0) = false) (hfit : MM.fit (a.p.gone S.A S.M b).blk) : Calls Tryz.prog 13 #[ptr a.nb, .int .i64 b, .bool wr] W (AEnds w0 a (askQ (goneS a.p (backS S (a.p.gone S.A S.M b)) (a.p.gone S.A S.M b)) [putN S (a.p.gone S.A S.M b)] b wr) L) := by
  have HFIT := Lib.hid hfit
  clear hfit
  obtain ⟨g, hgg⟩ : ∃ x, a.p.gone S.A S.M b = x := ⟨_, rfl⟩
  obtain ⟨rm, hrm⟩ : ∃ x, S.c.backs - (S.zs.length : Int) = x := ⟨_, rfl⟩
  rw [hgg] at hst HFIT ⊢
  rw [hrm] at hr
  have HGG := Lib.hid hgg
  have HRM := Lib.hid hrm
  clear hgg hrm
  obtain ⟨S1, hS1⟩ : ∃ x, backS S g = x := ⟨_, rfl⟩
  rw [hS1]
  obtain ⟨S2, hS2⟩ : ∃ x, goneS a.p S1 g = x := ⟨_, rfl⟩
  rw [hS2]
  obtain ⟨pn, hpn⟩ : ∃ x, putN S g = x := ⟨_, rfl⟩
  rw [hpn]
  have HS1 := Lib.hid hS1
  have HS2 := Lib.hid hS2
  have HPN := Lib.hid hpn
  have eco : S1.core = S.core := by rw [← hS1]; rfl
  have ef : S1.f = S.f := by rw [← hS1]; rfl
  have EF := Lib.hid (And.intro eco ef)
  clear hS1 hS2 hpn eco ef
  have h1 := h.alloc TLin.Z LT
  have HD := Lib.hid (fun w => PL.pData_yes S.c h.ok.may w)
  have hdata : S.c.blocks - S.c.cores * S.c.logs = S.data := rfl
  rw [hdata] at HD
  have d0 : (W.alloc (.cells TLin.Z LT)).cell? ⟨a.nb, 0, none⟩ = some (.int .i64 S.c.cores) := h1.hd (by decide)
  have d1 : (W.alloc (.cells TLin.Z LT)).cell? ⟨a.nb, 1, none⟩ = some (.int .i64 S.c.sets) := h1.hd (by decide)
  have d2 : (W.alloc (.cells TLin.Z LT)).cell? ⟨a.nb, 2, none⟩ = some (.int .i64 S.c.ways) := h1.hd (by decide)
  have d3 : (W.alloc (.cells TLin.Z LT)).cell? ⟨a.nb, 3, none⟩ = some (.int .i64 S.c.blocks) := h1.hd (by decide)
  have d4 : (W.alloc (.cells TLin.Z LT)).cell? ⟨a.nb, 4, none⟩ = some (.int .i64 S.c.logs) := h1.hd (by decide)
  have d5 : (W.alloc (.cells TLin.Z LT)).cell? ⟨a.nb, 5, none⟩ = some (.int .i64 S.c.backs) := h1.hd (by decide)
  have d6 : (W.alloc (.cells TLin.Z LT)).cell? ⟨a.nb, 6, none⟩ = some (.int .i64 S.c.nest) := h1.hd (by decide)
  have d7 : (W.alloc (.cells TLin.Z LT)).cell? ⟨a.nb, 7, none⟩ = some (.int .i64 S.c.tries) := h1.hd (by decide)
  have HH := Lib.hid h1
  obtain ⟨hb0, hb1⟩ := hb
  clear h h1 hdata
  generalize hdd : S.data = data at HD hb1
  clear hdd
  go_enter Tryz.func13, Tryz.ntmps13
  go_wp2_with fail
  refine wp_scope_fwd 0 rfl ?_
  go_wp2_with fail
  refine (HD.out _).mono ?_
  rintro e W2 ⟨rfl, hu⟩
  have HH2 := Lib.hid (HH.out.upd0 hu)
  clear hu d0 d1 d2 d3 d4 d5 d6 d7 HH HD
  have c37 := HH2.out.wc
  rw [hwa] at c37
  unfold hitB at hhit
  have HHIT := Lib.hid hhit
  clear hwa hhit
  go_upto_region 10 with fail
  go_cut [12, 13] from 40 to 49 (fun s12 s13 wx => ∃ (g12 : Nat), s12 = ptr g12 ∧ s13 = .bool (a.p.place S.A b).isSome ∧ Hid (NIs w0 wx a S (boxO g12 (a.p.fnd S.A b).cells LT :: boxO W.heap.size TLin.Z LT :: L)))
  case first =>
    have c9 : W2.cell? ⟨a.nb, 9, none⟩ = some (ptr a.p.kb) := HH2.out.hd (by decide)
    have HF := Lib.hid (KA.find_is HH2.out.cache b)
    have HLN := Lib.hid (Ln.Ok.isN (KA.fnd_ok (p := a.p) HH2.out.ok.okA b).isU)
    go_wp2_with fail
    refine HF.out.mono ?_
    rintro e W3 ⟨rfl, hu⟩
    have s1 := TLin.st_new HLN.out W3
    have HH3 := Lib.hid ((HH2.out.upd0 hu).alloc (a.p.fnd S.A b).cells LT)
    clear hu
    go_wp2_with fail
    go_meet
    exact ⟨_, rfl, rfl, HH3⟩
  case rest =>
  obtain ⟨g12, rfl, rfl, hN3⟩ := hcut
  clear c37 HH2
  go_step
  go_cut [12, 13] from 49 to 59 (fun s12 s13 wx => Hid (NIs w0 wx a S (boxO W.heap.size TLin.Z LT :: L)))
  case first =>
    have c1 := (hN3.out.lb.cell 1).trans (a.p.fnd S.A b).get1
    cases hp : (a.p.place S.A b).isSome
    · go_wp2_with fail
      go_meet
      exact Lib.hid hN3.out.pop
    · have hx := HHIT.out
      rw [hp] at hx
      cases wr
      · exact absurd hx (by simp)
      · have hs : ((a.p.fnd S.A b).st != 1) = false := by simpa using hx
        clear hx
        go_wp2_with fail
        go_meet
        exact Lib.hid hN3.out.pop
  case rest =>
  have HH3 := hcut
  clear hN3 hcut
  have c10 : wc.cell? ⟨a.nb, 10, none⟩ = some (ptr a.bb) := HH3.out.hd (by decide)
  have HBF := Lib.hid (s_findN HH3.out b)
  have HBN := Lib.hid (isU_N (bkD_isU HH3.out.ok.allU b))
  generalize hbd : bkD S.zs b = bd at *
  clear hbd
  go_wp2_with fail
  refine HBF.out.mono ?_
  rintro e W4 ⟨rfl, hu⟩
  have s2 := TBlk.st_new HBN.out W4
  have HH4 := Lib.hid ((HH3.out.upd0 hu).alloc bd BT)
  clear hu HBF HH3 c10
  rw [hbk]
  have c9 : (W4.alloc (.cells bd BT)).cell? ⟨a.nb, 9, none⟩ = some (ptr a.p.kb) := HH4.out.hd (by decide)
  have HG := Lib.hid (KA.goes_is HH4.out.cache b)
  have HGN := Lib.hid (Ln.Ok.isN (gone_ok (p := a.p) HH4.out.ok.okA b).isU)
  have HGO := Lib.hid (gone_ok (p := a.p) HH4.out.ok.okA b)
  go_wp2_with fail
  refine HG.out.mono ?_
  rintro e W5 ⟨rfl, hu⟩
  have HH5 := Lib.hid (HH4.out.upd0 hu)
  have s3 := (TLin.st_at TLin.isZ HGN.out HH5.out.lb2).1
  have HH6 := Lib.hid (HH5.out.setA2 (vs := (a.p.gone S.A S.M b).cells) (HGN.out.1.trans TLin.size_Z.symm))
  clear hu c9 HG HH4 HH5 s2
  obtain ⟨W6, hW6⟩ : ∃ X, W5.setCells W.heap.size 0 (a.p.gone S.A S.M b).cells.toList = X := ⟨_, rfl⟩
  rw [hW6] at s3 HH6
  clear hW6
  have e5 := HGG.out
  rw [e5] at HH6 s3 HGO
  rw [hg, e5]
  clear e5 HGN
  have c1 : W6.cell? ⟨W.heap.size, 1, none⟩ = some (.int .u8 g.st) := (HH6.out.lb2.cell 1).trans g.get1
  clear hg hbk hb0 hb1 HHIT HBN
  have c10 : W6.cell? ⟨a.nb, 10, none⟩ = some (ptr a.bb) := HH6.out.hd (by decide)
  have HR := Lib.hid (broom_is HH6.out)
  rw [HRM.out] at HR
  go_upto_region 19 with fail
  clear s3 c1
  go_wp2_with fail
  refine HR.out.mono ?_
  rintro e W7 ⟨rfl, hu⟩
  have HH7 := Lib.hid (HH6.out.upd0 hu)
  clear hu HR c10 HH6
  go_upto_region 21 with fail
  clear hr hst
  have hd := HH7.out.upd0 (Upd.drew NoF W7)
  have hS0 : (fun X : World => X.cell? ⟨a.nb, 10, none⟩ = some (ptr a.bb) ∧ X.cell? ⟨W.heap.size, 0, none⟩ = some (.int .i64 g.blk) ∧ (TBlk.ld (.pointer (some ⟨W.heap.size, 2, none⟩))).run Tryz.prog X = .ok (.agg g.D) X) W7.drew := ⟨hd.hd (i := 10) (by decide), ((hd.sep.box 9 rfl).cell 0).trans g.get0, TBlk.ld_at (isU_N HGO.out.isU) ((hd.sep.box 9 rfl).range 2 _ (fun j v hv => (g.getD j).trans (by simpa using hv)))⟩
  have HBP := Lib.hid (bput_is hd g.blk g.D HGO.out.isU)
  clear hd
  refine wp_region_held_drew (S := (fun X : World => X.cell? ⟨a.nb, 10, none⟩ = some (ptr a.bb) ∧ X.cell? ⟨W.heap.size, 0, none⟩ = some (.int .i64 g.blk) ∧ (TBlk.ld (.pointer (some ⟨W.heap.size, 2, none⟩))).run Tryz.prog X = .ok (.agg g.D) X)) (by kernel_rfl) (hS0) (fun hHeld => ?_)
  clear hS0
  refine rgn 0 (v := ?vq1) hHeld ?yq1 ?_
  case yq1 => (intro w hSw; obtain ⟨k9, k0, kD⟩ := hSw; go_simp; try with_reducible rfl)
  simp only [Act.put, rns]
  refine rgn 1 (v := ?vq2) hHeld ?yq2 ?_
  case yq2 => (intro w hSw; obtain ⟨k9, k0, kD⟩ := hSw; go_simp; try with_reducible rfl)
  simp only [Act.put, rns]
  refine rgn 2 (v := ?vq3) hHeld ?yq3 ?_
  case yq3 => (intro w hSw; obtain ⟨k9, k0, kD⟩ := hSw; go_simp; try with_reducible rfl)
  simp only [Act.put, rns]
  refine rgn 3 (v := ?vq4) hHeld ?yq4 ?_
  case yq4 => (intro w hSw; obtain ⟨k9, k0, kD⟩ := hSw; go_simp; try with_reducible rfl)
  simp only [Act.put, rns]
  refine rgn 4 (v := ?vq5) hHeld ?yq5 ?_
  case yq5 => (intro w hSw; obtain ⟨k9, k0, kD⟩ := hSw; go_simp; try with_reducible rfl)
  simp only [Act.put, rns]
  refine rgn 5 (v := ?vq6) hHeld ?yq6 ?_
  case yq6 => (intro w hSw; obtain ⟨k9, k0, kD⟩ := hSw; go_simp; try with_reducible rfl)
  simp only [Act.put, rns]
  refine rgn 6 (v := ?vq7) hHeld ?yq7 ?_
  case yq7 => (intro w hSw; obtain ⟨k9, k0, kD⟩ := hSw; go_simp; try with_reducible rfl)
  simp only [Act.put, rns]
  refine rgn 7 (v := ?vq8) hHeld ?yq8 ?_
  case yq8 => (intro w hSw; obtain ⟨k9, k0, kD⟩ := hSw; go_simp; try with_reducible rfl)
  simp only [Act.put, rns]
  refine reg_step (i := 8) (by kernel_rfl) rfl (by kernel_rfl) (fun K hK => ?_)
  go_simp
  refine HBP.out.mono ?_
  rintro e W8 ⟨rfl, hN⟩
  have HH8 : Hid (NIs w0 W8 a S1 _) := Lib.hid (by rw [← HS1.out]; exact hN)
  have HS : (fun X : World => X.cell? ⟨a.nb, 10, none⟩ = some (ptr a.bb) ∧ X.cell? ⟨W.heap.size, 0, none⟩ = some (.int .i64 g.blk) ∧ (TBlk.ld (.pointer (some ⟨W.heap.size, 2, none⟩))).run Tryz.prog X = .ok (.agg g.D) X) W8 := ⟨HH8.out.hd (i := 10) (by decide), ((HH8.out.sep.box 9 rfl).cell 0).trans g.get0, TBlk.ld_at (isU_N HGO.out.isU) ((HH8.out.sep.box 9 rfl).range 2 _ (fun j v hv => (g.getD j).trans (by simpa using hv)))⟩
  clear hN HH7 HBP
  go_wp2_with fail
  refine hK.out _ _ HS (fun hHeld2 => ?_)
  clear hK hHeld2 hHeld; have hHeld := HS; clear HS
  try simp only [Act.put, rns]
  refine wpAnyH_done (by kernel_rfl) ?_ _
  clear hHeld
  go_upto_region 22 with fail
  have hd := HH8.out.upd0 (Upd.drew NoF W8)
  have hS0 : (fun X : World => X.cell? ⟨a.nb, 11, none⟩ = some (ptr a.xk) ∧ X.cell? ⟨W.heap.size, 0, none⟩ = some (.int .i64 g.blk)) W8.drew := ⟨hd.hd (i := 11) (by decide), ((hd.sep.box 9 rfl).cell 0).trans g.get0⟩
  have HMH := Lib.hid (MK.has_any hd.marks g.blk HFIT.out)
  rw [EF.out.2] at HMH
  have HDD := Lib.hid hd
  clear hd HH8
  refine wp_region_held_drew (S := (fun X : World => X.cell? ⟨a.nb, 11, none⟩ = some (ptr a.xk) ∧ X.cell? ⟨W.heap.size, 0, none⟩ = some (.int .i64 g.blk))) (by kernel_rfl) (hS0) (fun hHeld => ?_)
  clear hS0
  refine rgn 0 (v := ?vq9) hHeld ?yq9 ?_
  case yq9 => (intro w hSw; obtain ⟨k9, k0⟩ := hSw; go_simp; try with_reducible rfl)
  simp only [Act.put, rns]
  refine rgn 1 (v := ?vq10) hHeld ?yq10 ?_
  case yq10 => (intro w hSw; obtain ⟨k9, k0⟩ := hSw; go_simp; try with_reducible rfl)
  simp only [Act.put, rns]
  refine rgn 2 (v := ?vq11) hHeld ?yq11 ?_
  case yq11 => (intro w hSw; obtain ⟨k9, k0⟩ := hSw; go_simp; try with_reducible rfl)
  simp only [Act.put, rns]
  refine rgn 3 (v := ?vq12) hHeld ?yq12 ?_
  case yq12 => (intro w hSw; obtain ⟨k9, k0⟩ := hSw; go_simp; try with_reducible rfl)
  simp only [Act.put, rns]
  refine rgn 4 (v := ?vq13) hHeld ?yq13 ?_
  case yq13 => (intro w hSw; obtain ⟨k9, k0⟩ := hSw; go_simp; try with_reducible rfl)
  simp only [Act.put, rns]
  refine rgn 5 (v := ?vq14) hHeld ?yq14 ?_
  case yq14 => (intro w hSw; obtain ⟨k9, k0⟩ := hSw; go_simp; try with_reducible rfl)
  simp only [Act.put, rns]
  refine reg_step (i := 6) (by kernel_rfl) rfl (by kernel_rfl) (fun K hK => ?_)
  go_simp
  refine HMH.out.mono ?_
  rintro e W9 ⟨rfl, hu⟩
  have HH9 := Lib.hid (HDD.out.upd0 hu)
  have HS : (fun X : World => X.cell? ⟨a.nb, 11, none⟩ = some (ptr a.xk) ∧ X.cell? ⟨W.heap.size, 0, none⟩ = some (.int .i64 g.blk)) W9 := ⟨HH9.out.hd (i := 11) (by decide), ((HH9.out.sep.box 9 rfl).cell 0).trans g.get0⟩
  clear hu HDD HMH
  go_wp2_with fail
  refine hK.out _ _ HS (fun hHeld2 => ?_)
  clear hK hHeld2 hHeld; have hHeld := HS; clear HS
  try simp only [Act.put, rns]
  refine rgn 7 (v := ?vq15) hHeld ?yq15 ?_
  case yq15 => (intro w hSw; obtain ⟨k9, k0⟩ := hSw; go_simp; try with_reducible rfl)
  simp only [Act.put, rns]
  refine rgn 8 (v := ?vq16) hHeld ?yq16 ?_
  case yq16 => (intro w hSw; obtain ⟨k9, k0⟩ := hSw; go_simp; try with_reducible rfl)
  simp only [Act.put, rns]
  refine rgn 9 (v := ?vq17) hHeld ?yq17 ?_
  case yq17 => (intro w hSw; obtain ⟨k9, k0⟩ := hSw; go_simp; try with_reducible rfl)
  simp only [Act.put, rns]
  refine rgn 10 (v := ?vq18) hHeld ?yq18 ?_
  case yq18 => (intro w hSw; obtain ⟨k9, k0⟩ := hSw; go_simp; try with_reducible rfl)
  simp only [Act.put, rns]
  refine rgn 11 (v := ?vq19) hHeld ?yq19 ?_
  case yq19 => (intro w hSw; obtain ⟨k9, k0⟩ := hSw; go_simp; try with_reducible rfl)
  simp only [Act.put, rns]
  refine wpAnyH_done (by kernel_rfl) ?_ _
  clear hHeld
  go_upto_region 23 with fail
  have c8 : W9.cell? ⟨a.nb, 8, none⟩ = some (.int .i64 S.core) := (HH9.out.hd (i := 8) (by decide)).trans (show some (Value.int .i64 S1.core) = _ by rw [EF.out.1])
  have c0 : W9.cell? ⟨W.heap.size, 0, none⟩ = some (.int .i64 g.blk) := (HH9.out.lb2.cell 0).trans g.get0
  have HNA := Lib.hid (note_any 3 g.blk S.core a.nb S rfl W9 c8)
  obtain ⟨x0, hx0⟩ : ∃ x, noteP S 3 g.blk = x := ⟨_, rfl⟩
  have HX0 := Lib.hid hx0
  have HXO : Hid x0.Ok := Lib.hid (by rw [← hx0]; exact noteP_ok S 3 g.blk (by decide))
  have HPX : Hid ({ x0 with has := true, D := g.D, stick := (S.f g.blk).1 || (S.f g.blk).2 } = pn) := Lib.hid (by rw [← HPN.out, ← hx0]; rfl)
  rw [hx0] at HNA
  clear hx0
  go_wp2_with fail
  refine HNA.out.mono ?_
  rintro e W10 ⟨rfl, hu⟩
  have s10 := TNot.st_new (Nt.Ok.isN HXO.out.isU) W10
  have HH10 := Lib.hid ((HH9.out.upd0 hu).alloc x0.cells NT)
  clear hu HNA c8 c0 HH9
  go_upto_region 24 with fail
  obtain ⟨xb, hxb⟩ : ∃ x, W10.heap.size = x := ⟨_, rfl⟩
  obtain ⟨W11, hW11⟩ : ∃ X, W10.alloc (.cells x0.cells NT) = X := ⟨_, rfl⟩
  rw [hW11, hxb] at HH10 ⊢
  clear s10 hxb hW11
  have hd := HH10.out.upd0 (Upd.drew NoF W11)
  have hS0 : (fun X : World => (TBlk.ld (.pointer (some ⟨W.heap.size, 2, none⟩))).run Tryz.prog X = .ok (.agg g.D) X) W11.drew := TBlk.ld_at (isU_N HGO.out.isU) ((hd.sep.box 10 rfl).range 2 _ (fun j v hv => (g.getD j).trans (by simpa using hv)))
  have HD := Lib.hid hd
  obtain ⟨m1, hm1⟩ : ∃ x, (S.f g.blk).1 = x := ⟨_, rfl⟩
  obtain ⟨m2, hm2⟩ : ∃ x, (S.f g.blk).2 = x := ⟨_, rfl⟩
  rw [hm1, hm2] at HPX ⊢
  have HM12 := Lib.hid (And.intro hm1 hm2)
  clear hm1 hm2 hd HH10
  cases m1
  · refine wp_region_held_drew (S := (fun X : World => (TBlk.ld (.pointer (some ⟨W.heap.size, 2, none⟩))).run Tryz.prog X = .ok (.agg g.D) X)) (by kernel_rfl) (hS0) (fun hHeld => ?_)
    clear hS0
    obtain ⟨X0, hX0⟩ : ∃ X, W11.drew = X := ⟨_, rfl⟩
    rw [hX0] at hHeld HD ⊢
    clear hX0
    refine rgn 0 (v := ?vq20) hHeld ?yq20 ?_
    case yq20 => (intro w hSw; (try dsimp only at hSw); have kD := hSw; go_simp; try with_reducible rfl)
    simp only [Act.put, rns]
    refine rgn 1 (v := ?vq21) hHeld ?yq21 ?_
    case yq21 => (intro w hSw; (try dsimp only at hSw); have kD := hSw; go_simp; try with_reducible rfl)
    simp only [Act.put, rns]
    refine rgn 2 (v := .bool false) hHeld ?yq22 ?_
    case yq22 => (intro w hSw; (try dsimp only at hSw); have kD := hSw; go_simp; try with_reducible rfl)
    simp only [Act.put, rns]
    refine rgn 3 (v := .bool false) hHeld ?yq23 ?_
    case yq23 => (intro w hSw; (try dsimp only at hSw); have kD := hSw; go_simp; try with_reducible rfl)
    simp only [Act.put, rns]
    refine rgn 4 (v := .bool m2) hHeld ?yq24 ?_
    case yq24 => (intro w hSw; (try dsimp only at hSw); have kD := hSw; go_simp; try with_reducible rfl)
    simp only [Act.put, rns]
    refine rgn 5 (v := .bool m2) hHeld ?yq25 ?_
    case yq25 => (intro w hSw; (try dsimp only at hSw); have kD := hSw; go_simp; try with_reducible rfl)
    simp only [Act.put, rns]
    refine rgn 6 (v := ?vq26) hHeld ?yq26 ?_
    case yq26 => (intro w hSw; (try dsimp only at hSw); have kD := hSw; go_simp; try with_reducible rfl)
    simp only [Act.put, rns]
    refine reg_step (i := 7) (by kernel_rfl) rfl (by kernel_rfl) (fun K hK => ?_)
    have c6 := (HD.out.lb.cell 6).trans x0.get6
    have f6 : _ = false := HD.out.lb.frozen 6
    go_simp
    have hN1 := HD.out.setL 6 (.bool true)
    rw [set_has] at hN1
    obtain ⟨Wa, hWa⟩ : ∃ X, X0.setCell ⟨xb, 6, none⟩ (.bool true) = X := ⟨_, rfl⟩
    rw [hWa] at hN1 ⊢
    have HS : (fun X : World => (TBlk.ld (.pointer (some ⟨W.heap.size, 2, none⟩))).run Tryz.prog X = .ok (.agg g.D) X) Wa := TBlk.ld_at (isU_N HGO.out.isU) ((hN1.sep.box 10 rfl).range 2 _ (fun j v hv => (g.getD j).trans (by simpa using hv)))
    have HN1 := Lib.hid hN1
    clear hN1 hWa c6 f6 HD
    refine hK.out _ _ HS (fun hHeld2 => ?_)
    clear hK hHeld2 hHeld; have hHeld := HS; clear HS
    try simp only [Act.put, rns]
    refine rgn 8 (v := ?vq27) hHeld ?yq27 ?_
    case yq27 => (intro w hSw; (try dsimp only at hSw); have kD := hSw; go_simp; try with_reducible rfl)
    simp only [Act.put, rns]
    refine reg_step (i := 9) (by kernel_rfl) rfl (by kernel_rfl) (fun K hK => ?_)
    have s8 : (TBlk.st (.pointer (some ⟨xb, 8, none⟩)) (.agg g.D)).run Tryz.prog Wa = .ok () (Wa.setCells xb 8 g.D.toList) := bst_midK (isU_N HGO.out.isU) HN1.out.lb (o := 8) (by rw [(Nt.Ok.isN (n := { x0 with has := true }) HXO.out.isU).1]; decide)
    go_simp
    have hN2 := HN1.out.setM 8 g.D.toList
    rw [set_data { x0 with has := true } HXO.out.isU.1 HGO.out.isU.1] at hN2
    obtain ⟨Wb, hWb⟩ : ∃ X, Wa.setCells xb 8 g.D.toList = X := ⟨_, rfl⟩
    rw [hWb] at hN2 ⊢
    have HS : (fun X : World => (TBlk.ld (.pointer (some ⟨W.heap.size, 2, none⟩))).run Tryz.prog X = .ok (.agg g.D) X) Wb := TBlk.ld_at (isU_N HGO.out.isU) ((hN2.sep.box 10 rfl).range 2 _ (fun j v hv => (g.getD j).trans (by simpa using hv)))
    have HN2 := Lib.hid hN2
    clear hN2 hWb s8 HN1
    refine hK.out _ _ HS (fun hHeld2 => ?_)
    clear hK hHeld2 hHeld; have hHeld := HS; clear HS
    try simp only [Act.put, rns]
    refine rgn 10 (v := ?vq28) hHeld ?yq28 ?_
    case yq28 => (intro w hSw; (try dsimp only at hSw); have kD := hSw; go_simp; try with_reducible rfl)
    simp only [Act.put, rns]
    refine reg_step (i := 11) (by kernel_rfl) rfl (by kernel_rfl) (fun K hK => ?_)
    have c7 := (HN2.out.lb.cell 7).trans (Nt.get7 _)
    have f7 : _ = false := HN2.out.lb.frozen 7
    go_simp
    have hN3 := HN2.out.setL 7 (.bool m2)
    rw [set_stick] at hN3
    obtain ⟨Wd, hWd⟩ : ∃ X, Wb.setCell ⟨xb, 7, none⟩ (.bool m2) = X := ⟨_, rfl⟩
    rw [hWd] at hN3 ⊢
    have HS : (fun X : World => (TBlk.ld (.pointer (some ⟨W.heap.size, 2, none⟩))).run Tryz.prog X = .ok (.agg g.D) X) Wd := TBlk.ld_at (isU_N HGO.out.isU) ((hN3.sep.box 10 rfl).range 2 _ (fun j v hv => (g.getD j).trans (by simpa using hv)))
    have e9 : ({ { { x0 with has := true } with D := g.D } with stick := m2 } : Nt) = pn := HPX.out
    rw [e9] at hN3
    have HN3 := Lib.hid hN3
    clear hN3 hWd c7 f7 HN2 e9
    refine hK.out _ _ HS (fun hHeld2 => ?_)
    clear hK hHeld2 hHeld; have hHeld := HS; clear HS
    try simp only [Act.put, rns]
    refine wpAnyH_done (by kernel_rfl) ?_ _
    clear hHeld HPX HX0 HXO
    have HPO : Hid (IsU pn.D) := Lib.hid (by rw [← HPN.out]; exact HGO.out.isU)
    go_upto_region 25 with fail
    have l13 : (TNot.ld (.pointer (some ⟨xb, 0, none⟩))).run Tryz.prog Wd = .ok (.agg pn.cells) Wd := TNot.ld_at (Nt.Ok.isN HPO.out) HN3.out.lb.whole
    have y3 := fun w => bsN_run (Nt.Ok.isN HPO.out).1 w
    obtain ⟨v1, W14, hrun, hN14⟩ := NIs.app (ns := []) (HN3.out.outNil) pn HPO.out (by simp)
    have HR := Lib.hid hrun
    have HN14 : Hid (NIs w0 W14 a S1 (outO v1 [pn] :: boxO xb pn.cells NT :: boxO W4.heap.size bd BT :: boxO W.heap.size g.cells LT :: L)) := Lib.hid hN14
    clear hrun hN14 HN3
    obtain ⟨xc, hxc⟩ : ∃ x, pn.cells = x := ⟨_, rfl⟩
    rw [hxc] at l13 y3 HR
    have HXC := Lib.hid hxc
    clear hxc
    go_upto_region 26 with (at_builtin; refine wpList_append_run (w := Wd.alloc (.cells xc NT)) rfl _ _ 43 rfl rfl rfl HR.out ?_)
    clear l13 y3 HR HXC
    have hd := HN14.out.upd0 (Upd.drew NoF W14)
    have hS0 : (fun X => X.cell? ⟨a.nb, 9, none⟩ = some (ptr a.p.kb) ∧ X.cell? ⟨W.heap.size, 0, none⟩ = some (.int .i64 g.blk)) W14.drew := ⟨hd.hd (i := 9) (by decide), ((hd.sep.box 11 rfl).cell 0).trans g.get0⟩
    have HDC := Lib.hid (cdrop_is hd g.blk)
    clear hd
    go_region_held3 (fun X => X.cell? ⟨a.nb, 9, none⟩ = some (ptr a.p.kb) ∧ X.cell? ⟨W.heap.size, 0, none⟩ = some (.int .i64 g.blk)) (first | assumption | exact hS0) (first | (go_at_call 50; refine HDC.out.mono ?_; rintro e wb ⟨rfl, hN2⟩; have hS' : (fun X => X.cell? ⟨a.nb, 9, none⟩ = some (ptr a.p.kb) ∧ X.cell? ⟨W.heap.size, 0, none⟩ = some (.int .i64 g.blk)) wb := ⟨hN2.hd (i := 9) (by decide), ((hN2.sep.box 11 rfl).cell 0).trans g.get0⟩; have HN2 := Lib.hid hN2; clear hN2))
    all_goals
      clear hS' hS0 HDC
      have HHB : Hid (NIs w0 _ a S2 _) := Lib.hid (by have e := HN2.out; rw [← HS2.out]; exact e)
      clear HN2 HN14
      go_wp2_with fail
      go_step3
      have c8 : wb.cell? ⟨a.nb, 8, none⟩ = some (.int .i64 (S2).core) := HHB.out.hd (by decide)
      have HNA := Lib.hid (note_any 1 b (S2).core a.nb (S2) rfl wb c8)
      go_wp2_with fail
      refine HNA.out.mono ?_
      rintro e W7 ⟨rfl, hu⟩
      have HH7 := Lib.hid (HHB.out.upd0 hu)
      have s4 := nst_mid HH7.out (noteP_ok (S2) 1 b (by decide))
      have HH8 := Lib.hid (HH7.out.setq (noteP_ok (S2) 1 b (by decide)))
      clear hu HNA c8 HH7 HHB
      obtain ⟨W8, hW8⟩ : ∃ X, W7.setCells a.nb 13 (noteP (S2) 1 b).cells.toList = X := ⟨_, rfl⟩
      rw [hW8] at s4 HH8
      clear hW8
      cases wr
      · have c12 : W8.cell? ⟨a.nb, 12, none⟩ = some (ptr a.db) := HH8.out.hd (by decide)
        have HS2 := Lib.hid (DL.stamp_any a.db (S2).c.nest (S2).d _ HH8.out.deal)
        have c17 : W8.cell? ⟨a.nb, 17, none⟩ = some (.int .u64 0) := HH8.out.qc (i := 4) (noteP (S2) 1 b).get4
        have f17 : W8.frozen? ⟨a.nb, 17, none⟩ = false := HH8.out.box.frozen 17
        have hao := askN_ok HH8.out.ok.st b false
        have HAO : Hid (askN (S2) b false).Ok := Lib.hid hao
        have HH10 := Lib.hid (show NIs w0 (W8.setCell ⟨a.nb, 17, none⟩ (.int .u64 (stampE (S2).d))) a { S2 with q := askN (S2) b false } _ from HH8.out.setqc (j := 4) (q := askN (S2) b false) (by decide) (set_stamp _ _) HAO.out)
        have c37 : (W8.setCell ⟨a.nb, 17, none⟩ (.int .u64 (stampE (S2).d))).cell? ⟨a.nb, 37, none⟩ = some (.bool (S2).wa) := HH10.out.wc
        have f37 : (W8.setCell ⟨a.nb, 17, none⟩ (.int .u64 (stampE (S2).d))).frozen? ⟨a.nb, 37, none⟩ = false := HH10.out.box.frozen 37
        have HH11 := Lib.hid (HH10.out.setw true)
        have l13 : (TNot.ld (.pointer (some ⟨a.nb, 13, none⟩))).run Tryz.prog ((W8.setCell ⟨a.nb, 17, none⟩ (.int .u64 (stampE (S2).d))).setCell ⟨a.nb, 37, none⟩ (.bool true)) = .ok (.agg (askN (S2) b false).cells) _ := HH11.out.ldq
        have y3 := fun w => bsN_run (Nt.Ok.isN HAO.out.isU).1 w
        obtain ⟨v', W12, hrun, hN12⟩ := NIs.app (ns := [pn]) (HH11.out) (askN (S2) b false) HAO.out.isU (by simp)
        have HR := Lib.hid hrun
        have HN12 := Lib.hid hN12
        clear hrun hN12 hao HH8 HH10 HH11
        generalize (askN (S2) b false).cells = x at *
        obtain ⟨W11, hW11⟩ : ∃ X, ((W8.setCell ⟨a.nb, 17, none⟩ (.int .u64 (stampE (S2).d))).setCell ⟨a.nb, 37, none⟩ (.bool true)) = X := ⟨_, rfl⟩
        rw [hW11] at l13 HR
        have HW11 := Lib.hid hW11
        clear hW11
        go_upto_region 32 with (go_at_call 25; refine HS2.out.mono ?_; rintro e Wz ⟨rfl, rfl⟩)
        rw [HW11.out]
        clear c12 c17 f17 c37 f37 HS2
        go_wp2_with (at_builtin; refine wpList_append_run (w := W11.alloc (.cells x NT)) rfl _ _ 43 rfl rfl rfl HR.out ?_)
        go_ret3
        exact ⟨v', rfl, HN12.out.pop2.pop2.pop2⟩
      
      · have c13 : W8.cell? ⟨a.nb, 13, none⟩ = some (.int .u8 1) := HH8.out.qc (i := 0) (noteP (S2) 1 b).get0
        have f13 : W8.frozen? ⟨a.nb, 13, none⟩ = false := HH8.out.box.frozen 13
        have HH9 := Lib.hid (show NIs w0 (W8.setCell ⟨a.nb, 13, none⟩ (.int .u8 2)) a { S2 with q := noteP (S2) 2 b } _ from HH8.out.setqc (j := 0) (q := noteP (S2) 2 b) (by decide) (set_kind _ _) (noteP_ok (S2) 2 b (by decide)))
        have c12 : (W8.setCell ⟨a.nb, 13, none⟩ (.int .u8 2)).cell? ⟨a.nb, 12, none⟩ = some (ptr a.db) := HH9.out.hd (by decide)
        have HS2 := Lib.hid (DL.stamp_any a.db (S2).c.nest (S2).d _ HH9.out.deal)
        have c17 : (W8.setCell ⟨a.nb, 13, none⟩ (.int .u8 2)).cell? ⟨a.nb, 17, none⟩ = some (.int .u64 0) := HH9.out.qc (i := 4) (noteP (S2) 2 b).get4
        have f17 : (W8.setCell ⟨a.nb, 13, none⟩ (.int .u8 2)).frozen? ⟨a.nb, 17, none⟩ = false := HH9.out.box.frozen 17
        have hao := askN_ok HH9.out.ok.st b true
        have HAO : Hid (askN (S2) b true).Ok := Lib.hid hao
        have HH10 := Lib.hid (show NIs w0 ((W8.setCell ⟨a.nb, 13, none⟩ (.int .u8 2)).setCell ⟨a.nb, 17, none⟩ (.int .u64 (stampE (S2).d))) a { S2 with q := askN (S2) b true } _ from HH9.out.setqc (j := 4) (q := askN (S2) b true) (by decide) (set_stamp _ _) HAO.out)
        have c37 : ((W8.setCell ⟨a.nb, 13, none⟩ (.int .u8 2)).setCell ⟨a.nb, 17, none⟩ (.int .u64 (stampE (S2).d))).cell? ⟨a.nb, 37, none⟩ = some (.bool (S2).wa) := HH10.out.wc
        have f37 : ((W8.setCell ⟨a.nb, 13, none⟩ (.int .u8 2)).setCell ⟨a.nb, 17, none⟩ (.int .u64 (stampE (S2).d))).frozen? ⟨a.nb, 37, none⟩ = false := HH10.out.box.frozen 37
        have HH11 := Lib.hid (HH10.out.setw true)
        have l13 : (TNot.ld (.pointer (some ⟨a.nb, 13, none⟩))).run Tryz.prog (((W8.setCell ⟨a.nb, 13, none⟩ (.int .u8 2)).setCell ⟨a.nb, 17, none⟩ (.int .u64 (stampE (S2).d))).setCell ⟨a.nb, 37, none⟩ (.bool true)) = .ok (.agg (askN (S2) b true).cells) _ := HH11.out.ldq
        have y3 := fun w => bsN_run (Nt.Ok.isN HAO.out.isU).1 w
        obtain ⟨v', W12, hrun, hN12⟩ := NIs.app (ns := [pn]) (HH11.out) (askN (S2) b true) HAO.out.isU (by simp)
        have HR := Lib.hid hrun
        have HN12 := Lib.hid hN12
        clear hrun hN12 hao HH8 HH10 HH11
        generalize (askN (S2) b true).cells = x at *
        obtain ⟨W11, hW11⟩ : ∃ X, (((W8.setCell ⟨a.nb, 13, none⟩ (.int .u8 2)).setCell ⟨a.nb, 17, none⟩ (.int .u64 (stampE (S2).d))).setCell ⟨a.nb, 37, none⟩ (.bool true)) = X := ⟨_, rfl⟩
        rw [hW11] at l13 HR
        have HW11 := Lib.hid hW11
        clear hW11
        go_upto_region 32 with (go_at_call 25; refine HS2.out.mono ?_; rintro e Wz ⟨rfl, rfl⟩)
        rw [HW11.out]
        clear c12 c17 f17 c37 f37 HS2
        go_wp2_with (at_builtin; refine wpList_append_run (w := W11.alloc (.cells x NT)) rfl _ _ 43 rfl rfl rfl HR.out ?_)
        go_ret3
        exact ⟨v', rfl, HN12.out.pop2.pop2.pop2⟩
      
      
  · refine wp_region_held_drew (S := (fun X : World => (TBlk.ld (.pointer (some ⟨W.heap.size, 2, none⟩))).run Tryz.prog X = .ok (.agg g.D) X)) (by kernel_rfl) (hS0) (fun hHeld => ?_)
    clear hS0
    obtain ⟨X0, hX0⟩ : ∃ X, W11.drew = X := ⟨_, rfl⟩
    rw [hX0] at hHeld HD ⊢
    clear hX0
    refine rgn 0 (v := ?vq29) hHeld ?yq29 ?_
    case yq29 => (intro w hSw; (try dsimp only at hSw); have kD := hSw; go_simp; try with_reducible rfl)
    simp only [Act.put, rns]
    refine rgn 1 (v := ?vq30) hHeld ?yq30 ?_
    case yq30 => (intro w hSw; (try dsimp only at hSw); have kD := hSw; go_simp; try with_reducible rfl)
    simp only [Act.put, rns]
    refine rgn 2 (v := .bool true) hHeld ?yq31 ?_
    case yq31 => (intro w hSw; (try dsimp only at hSw); have kD := hSw; go_simp; try with_reducible rfl)
    simp only [Act.put, rns]
    refine rgn 3 (v := .bool true) hHeld ?yq32 ?_
    case yq32 => (intro w hSw; (try dsimp only at hSw); have kD := hSw; go_simp; try with_reducible rfl)
    simp only [Act.put, rns]
    refine reg_off (i := 4) rfl (by kernel_rfl) (by kernel_rfl) (by kernel_rfl) (fun _ _ _ h => h) (by kernel_rfl) hHeld ?_
    simp only [Act.put, rns]
    refine rgn 5 (v := .bool true) hHeld ?yq33 ?_
    case yq33 => (intro w hSw; (try dsimp only at hSw); have kD := hSw; go_simp; try with_reducible rfl)
    simp only [Act.put, rns]
    refine rgn 6 (v := ?vq34) hHeld ?yq34 ?_
    case yq34 => (intro w hSw; (try dsimp only at hSw); have kD := hSw; go_simp; try with_reducible rfl)
    simp only [Act.put, rns]
    refine reg_step (i := 7) (by kernel_rfl) rfl (by kernel_rfl) (fun K hK => ?_)
    have c6 := (HD.out.lb.cell 6).trans x0.get6
    have f6 : _ = false := HD.out.lb.frozen 6
    go_simp
    have hN1 := HD.out.setL 6 (.bool true)
    rw [set_has] at hN1
    obtain ⟨Wa, hWa⟩ : ∃ X, X0.setCell ⟨xb, 6, none⟩ (.bool true) = X := ⟨_, rfl⟩
    rw [hWa] at hN1 ⊢
    have HS : (fun X : World => (TBlk.ld (.pointer (some ⟨W.heap.size, 2, none⟩))).run Tryz.prog X = .ok (.agg g.D) X) Wa := TBlk.ld_at (isU_N HGO.out.isU) ((hN1.sep.box 10 rfl).range 2 _ (fun j v hv => (g.getD j).trans (by simpa using hv)))
    have HN1 := Lib.hid hN1
    clear hN1 hWa c6 f6 HD
    refine hK.out _ _ HS (fun hHeld2 => ?_)
    clear hK hHeld2 hHeld; have hHeld := HS; clear HS
    try simp only [Act.put, rns]
    refine rgn 8 (v := ?vq35) hHeld ?yq35 ?_
    case yq35 => (intro w hSw; (try dsimp only at hSw); have kD := hSw; go_simp; try with_reducible rfl)
    simp only [Act.put, rns]
    refine reg_step (i := 9) (by kernel_rfl) rfl (by kernel_rfl) (fun K hK => ?_)
    have s8 : (TBlk.st (.pointer (some ⟨xb, 8, none⟩)) (.agg g.D)).run Tryz.prog Wa = .ok () (Wa.setCells xb 8 g.D.toList) := bst_midK (isU_N HGO.out.isU) HN1.out.lb (o := 8) (by rw [(Nt.Ok.isN (n := { x0 with has := true }) HXO.out.isU).1]; decide)
    go_simp
    have hN2 := HN1.out.setM 8 g.D.toList
    rw [set_data { x0 with has := true } HXO.out.isU.1 HGO.out.isU.1] at hN2
    obtain ⟨Wb, hWb⟩ : ∃ X, Wa.setCells xb 8 g.D.toList = X := ⟨_, rfl⟩
    rw [hWb] at hN2 ⊢
    have HS : (fun X : World => (TBlk.ld (.pointer (some ⟨W.heap.size, 2, none⟩))).run Tryz.prog X = .ok (.agg g.D) X) Wb := TBlk.ld_at (isU_N HGO.out.isU) ((hN2.sep.box 10 rfl).range 2 _ (fun j v hv => (g.getD j).trans (by simpa using hv)))
    have HN2 := Lib.hid hN2
    clear hN2 hWb s8 HN1
    refine hK.out _ _ HS (fun hHeld2 => ?_)
    clear hK hHeld2 hHeld; have hHeld := HS; clear HS
    try simp only [Act.put, rns]
    refine rgn 10 (v := ?vq36) hHeld ?yq36 ?_
    case yq36 => (intro w hSw; (try dsimp only at hSw); have kD := hSw; go_simp; try with_reducible rfl)
    simp only [Act.put, rns]
    refine reg_step (i := 11) (by kernel_rfl) rfl (by kernel_rfl) (fun K hK => ?_)
    have c7 := (HN2.out.lb.cell 7).trans (Nt.get7 _)
    have f7 : _ = false := HN2.out.lb.frozen 7
    go_simp
    have hN3 := HN2.out.setL 7 (.bool true)
    rw [set_stick] at hN3
    obtain ⟨Wd, hWd⟩ : ∃ X, Wb.setCell ⟨xb, 7, none⟩ (.bool true) = X := ⟨_, rfl⟩
    rw [hWd] at hN3 ⊢
    have HS : (fun X : World => (TBlk.ld (.pointer (some ⟨W.heap.size, 2, none⟩))).run Tryz.prog X = .ok (.agg g.D) X) Wd := TBlk.ld_at (isU_N HGO.out.isU) ((hN3.sep.box 10 rfl).range 2 _ (fun j v hv => (g.getD j).trans (by simpa using hv)))
    have e9 : ({ { { x0 with has := true } with D := g.D } with stick := true } : Nt) = pn := HPX.out
    rw [e9] at hN3
    have HN3 := Lib.hid hN3
    clear hN3 hWd c7 f7 HN2 e9
    refine hK.out _ _ HS (fun hHeld2 => ?_)
    clear hK hHeld2 hHeld; have hHeld := HS; clear HS
    try simp only [Act.put, rns]
    refine wpAnyH_done (by kernel_rfl) ?_ _
    clear hHeld HPX HX0 HXO
    have HPO : Hid (IsU pn.D) := Lib.hid (by rw [← HPN.out]; exact HGO.out.isU)
    go_upto_region 25 with fail
    have l13 : (TNot.ld (.pointer (some ⟨xb, 0, none⟩))).run Tryz.prog Wd = .ok (.agg pn.cells) Wd := TNot.ld_at (Nt.Ok.isN HPO.out) HN3.out.lb.whole
    have y3 := fun w => bsN_run (Nt.Ok.isN HPO.out).1 w
    obtain ⟨v1, W14, hrun, hN14⟩ := NIs.app (ns := []) (HN3.out.outNil) pn HPO.out (by simp)
    have HR := Lib.hid hrun
    have HN14 : Hid (NIs w0 W14 a S1 (outO v1 [pn] :: boxO xb pn.cells NT :: boxO W4.heap.size bd BT :: boxO W.heap.size g.cells LT :: L)) := Lib.hid hN14
    clear hrun hN14 HN3
    obtain ⟨xc, hxc⟩ : ∃ x, pn.cells = x := ⟨_, rfl⟩
    rw [hxc] at l13 y3 HR
    have HXC := Lib.hid hxc
    clear hxc
    go_upto_region 26 with (at_builtin; refine wpList_append_run (w := Wd.alloc (.cells xc NT)) rfl _ _ 43 rfl rfl rfl HR.out ?_)
    clear l13 y3 HR HXC
    have hd := HN14.out.upd0 (Upd.drew NoF W14)
    have hS0 : (fun X => X.cell? ⟨a.nb, 9, none⟩ = some (ptr a.p.kb) ∧ X.cell? ⟨W.heap.size, 0, none⟩ = some (.int .i64 g.blk)) W14.drew := ⟨hd.hd (i := 9) (by decide), ((hd.sep.box 11 rfl).cell 0).trans g.get0⟩
    have HDC := Lib.hid (cdrop_is hd g.blk)
    clear hd
    go_region_held3 (fun X => X.cell? ⟨a.nb, 9, none⟩ = some (ptr a.p.kb) ∧ X.cell? ⟨W.heap.size, 0, none⟩ = some (.int .i64 g.blk)) (first | assumption | exact hS0) (first | (go_at_call 50; refine HDC.out.mono ?_; rintro e wb ⟨rfl, hN2⟩; have hS' : (fun X => X.cell? ⟨a.nb, 9, none⟩ = some (ptr a.p.kb) ∧ X.cell? ⟨W.heap.size, 0, none⟩ = some (.int .i64 g.blk)) wb := ⟨hN2.hd (i := 9) (by decide), ((hN2.sep.box 11 rfl).cell 0).trans g.get0⟩; have HN2 := Lib.hid hN2; clear hN2))
    all_goals
      clear hS' hS0 HDC
      have HHB : Hid (NIs w0 _ a S2 _) := Lib.hid (by have e := HN2.out; rw [← HS2.out]; exact e)
      clear HN2 HN14
      go_wp2_with fail
      go_step3
      have c8 : wb.cell? ⟨a.nb, 8, none⟩ = some (.int .i64 (S2).core) := HHB.out.hd (by decide)
      have HNA := Lib.hid (note_any 1 b (S2).core a.nb (S2) rfl wb c8)
      go_wp2_with fail
      refine HNA.out.mono ?_
      rintro e W7 ⟨rfl, hu⟩
      have HH7 := Lib.hid (HHB.out.upd0 hu)
      have s4 := nst_mid HH7.out (noteP_ok (S2) 1 b (by decide))
      have HH8 := Lib.hid (HH7.out.setq (noteP_ok (S2) 1 b (by decide)))
      clear hu HNA c8 HH7 HHB
      obtain ⟨W8, hW8⟩ : ∃ X, W7.setCells a.nb 13 (noteP (S2) 1 b).cells.toList = X := ⟨_, rfl⟩
      rw [hW8] at s4 HH8
      clear hW8
      cases wr
      · have c12 : W8.cell? ⟨a.nb, 12, none⟩ = some (ptr a.db) := HH8.out.hd (by decide)
        have HS2 := Lib.hid (DL.stamp_any a.db (S2).c.nest (S2).d _ HH8.out.deal)
        have c17 : W8.cell? ⟨a.nb, 17, none⟩ = some (.int .u64 0) := HH8.out.qc (i := 4) (noteP (S2) 1 b).get4
        have f17 : W8.frozen? ⟨a.nb, 17, none⟩ = false := HH8.out.box.frozen 17
        have hao := askN_ok HH8.out.ok.st b false
        have HAO : Hid (askN (S2) b false).Ok := Lib.hid hao
        have HH10 := Lib.hid (show NIs w0 (W8.setCell ⟨a.nb, 17, none⟩ (.int .u64 (stampE (S2).d))) a { S2 with q := askN (S2) b false } _ from HH8.out.setqc (j := 4) (q := askN (S2) b false) (by decide) (set_stamp _ _) HAO.out)
        have c37 : (W8.setCell ⟨a.nb, 17, none⟩ (.int .u64 (stampE (S2).d))).cell? ⟨a.nb, 37, none⟩ = some (.bool (S2).wa) := HH10.out.wc
        have f37 : (W8.setCell ⟨a.nb, 17, none⟩ (.int .u64 (stampE (S2).d))).frozen? ⟨a.nb, 37, none⟩ = false := HH10.out.box.frozen 37
        have HH11 := Lib.hid (HH10.out.setw true)
        have l13 : (TNot.ld (.pointer (some ⟨a.nb, 13, none⟩))).run Tryz.prog ((W8.setCell ⟨a.nb, 17, none⟩ (.int .u64 (stampE (S2).d))).setCell ⟨a.nb, 37, none⟩ (.bool true)) = .ok (.agg (askN (S2) b false).cells) _ := HH11.out.ldq
        have y3 := fun w => bsN_run (Nt.Ok.isN HAO.out.isU).1 w
        obtain ⟨v', W12, hrun, hN12⟩ := NIs.app (ns := [pn]) (HH11.out) (askN (S2) b false) HAO.out.isU (by simp)
        have HR := Lib.hid hrun
        have HN12 := Lib.hid hN12
        clear hrun hN12 hao HH8 HH10 HH11
        generalize (askN (S2) b false).cells = x at *
        obtain ⟨W11, hW11⟩ : ∃ X, ((W8.setCell ⟨a.nb, 17, none⟩ (.int .u64 (stampE (S2).d))).setCell ⟨a.nb, 37, none⟩ (.bool true)) = X := ⟨_, rfl⟩
        rw [hW11] at l13 HR
        have HW11 := Lib.hid hW11
        clear hW11
        go_upto_region 32 with (go_at_call 25; refine HS2.out.mono ?_; rintro e Wz ⟨rfl, rfl⟩)
        rw [HW11.out]
        clear c12 c17 f17 c37 f37 HS2
        go_wp2_with (at_builtin; refine wpList_append_run (w := W11.alloc (.cells x NT)) rfl _ _ 43 rfl rfl rfl HR.out ?_)
        go_ret3
        exact ⟨v', rfl, HN12.out.pop2.pop2.pop2⟩
      
      · have c13 : W8.cell? ⟨a.nb, 13, none⟩ = some (.int .u8 1) := HH8.out.qc (i := 0) (noteP (S2) 1 b).get0
        have f13 : W8.frozen? ⟨a.nb, 13, none⟩ = false := HH8.out.box.frozen 13
        have HH9 := Lib.hid (show NIs w0 (W8.setCell ⟨a.nb, 13, none⟩ (.int .u8 2)) a { S2 with q := noteP (S2) 2 b } _ from HH8.out.setqc (j := 0) (q := noteP (S2) 2 b) (by decide) (set_kind _ _) (noteP_ok (S2) 2 b (by decide)))
        have c12 : (W8.setCell ⟨a.nb, 13, none⟩ (.int .u8 2)).cell? ⟨a.nb, 12, none⟩ = some (ptr a.db) := HH9.out.hd (by decide)
        have HS2 := Lib.hid (DL.stamp_any a.db (S2).c.nest (S2).d _ HH9.out.deal)
        have c17 : (W8.setCell ⟨a.nb, 13, none⟩ (.int .u8 2)).cell? ⟨a.nb, 17, none⟩ = some (.int .u64 0) := HH9.out.qc (i := 4) (noteP (S2) 2 b).get4
        have f17 : (W8.setCell ⟨a.nb, 13, none⟩ (.int .u8 2)).frozen? ⟨a.nb, 17, none⟩ = false := HH9.out.box.frozen 17
        have hao := askN_ok HH9.out.ok.st b true
        have HAO : Hid (askN (S2) b true).Ok := Lib.hid hao
        have HH10 := Lib.hid (show NIs w0 ((W8.setCell ⟨a.nb, 13, none⟩ (.int .u8 2)).setCell ⟨a.nb, 17, none⟩ (.int .u64 (stampE (S2).d))) a { S2 with q := askN (S2) b true } _ from HH9.out.setqc (j := 4) (q := askN (S2) b true) (by decide) (set_stamp _ _) HAO.out)
        have c37 : ((W8.setCell ⟨a.nb, 13, none⟩ (.int .u8 2)).setCell ⟨a.nb, 17, none⟩ (.int .u64 (stampE (S2).d))).cell? ⟨a.nb, 37, none⟩ = some (.bool (S2).wa) := HH10.out.wc
        have f37 : ((W8.setCell ⟨a.nb, 13, none⟩ (.int .u8 2)).setCell ⟨a.nb, 17, none⟩ (.int .u64 (stampE (S2).d))).frozen? ⟨a.nb, 37, none⟩ = false := HH10.out.box.frozen 37
        have HH11 := Lib.hid (HH10.out.setw true)
        have l13 : (TNot.ld (.pointer (some ⟨a.nb, 13, none⟩))).run Tryz.prog (((W8.setCell ⟨a.nb, 13, none⟩ (.int .u8 2)).setCell ⟨a.nb, 17, none⟩ (.int .u64 (stampE (S2).d))).setCell ⟨a.nb, 37, none⟩ (.bool true)) = .ok (.agg (askN (S2) b true).cells) _ := HH11.out.ldq
        have y3 := fun w => bsN_run (Nt.Ok.isN HAO.out.isU).1 w
        obtain ⟨v', W12, hrun, hN12⟩ := NIs.app (ns := [pn]) (HH11.out) (askN (S2) b true) HAO.out.isU (by simp)
        have HR := Lib.hid hrun
        have HN12 := Lib.hid hN12
        clear hrun hN12 hao HH8 HH10 HH11
        generalize (askN (S2) b true).cells = x at *
        obtain ⟨W11, hW11⟩ : ∃ X, (((W8.setCell ⟨a.nb, 13, none⟩ (.int .u8 2)).setCell ⟨a.nb, 17, none⟩ (.int .u64 (stampE (S2).d))).setCell ⟨a.nb, 37, none⟩ (.bool true)) = X := ⟨_, rfl⟩
        rw [hW11] at l13 HR
        have HW11 := Lib.hid hW11
        clear hW11
        go_upto_region 32 with (go_at_call 25; refine HS2.out.mono ?_; rintro e Wz ⟨rfl, rfl⟩)
        rw [HW11.out]
        clear c12 c17 f17 c37 f37 HS2
        go_wp2_with (at_builtin; refine wpList_append_run (w := W11.alloc (.cells x NT)) rfl _ _ 43 rfl rfl rfl HR.out ?_)
        go_ret3
        exact ⟨v', rfl, HN12.out.pop2.pop2.pop2⟩
      
      
theorem ask_is (h : NIs w0 W a S L) (b : Int) (wr : Bool) (hfit : (a.p.goes S.A S.M b).isSome = true → MM.fit (a.p.gone S.A S.M b).blk) : Calls Tryz.prog 13 #[ptr a.nb, .int .i64 b, .bool wr] W (AEnds w0 a (askR a.p S b wr) L) := by
  unfold askR
  by_cases h1 : b < 0 ∨ S.data ≤ b
  · rw [if_pos h1]; exact ask_arg h b wr h1
  rw [if_neg h1]
  have hb : 0 ≤ b ∧ b < S.data := by omega
  by_cases h2 : S.wa = true
  · rw [if_pos h2]; exact ask_state h b wr hb h2
  rw [if_neg h2]
  have hwa : S.wa = false := by simpa using h2
  by_cases h3 : hitB a.p S b wr = true
  · rw [if_pos h3]; exact ask_hit h b wr hb hwa h3
  rw [if_neg h3]
  have hhit : hitB a.p S b wr = false := by simpa using h3
  by_cases h4 : bkI S.zs b = true
  · rw [if_pos h4]; exact ask_busy h b wr hb hwa hhit h4
  rw [if_neg h4]
  have hbk : bkI S.zs b = false := by simpa using h4
  by_cases h5 : (a.p.goes S.A S.M b).isSome = true
  · rw [if_pos h5]
    by_cases h6 : ((a.p.gone S.A S.M b).st != 1) = true
    · rw [if_pos h6]
      by_cases h7 : S.c.backs - (S.zs.length : Int) = 0
      · rw [if_pos h7]; exact ask_full h b wr hb hwa hhit hbk h5 h6 (by simpa using h7)
      · rw [if_neg h7]; exact ask_put h b wr hb hwa hhit hbk h5 h6 (by simpa using h7) (hfit h5)
    · rw [if_neg h6]; exact ask_shared h b wr hb hwa hhit hbk h5 (by simpa using h6)
  · rw [if_neg h5]; exact ask_none h b wr hb hwa hhit hbk (by simpa using h5)
end
end Go.Proofs.YtjgeflbhmhmjdaaGreat.NR
