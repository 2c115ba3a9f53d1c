/- The reference of a core's side: Load, Store. -/
import Derived.Test.YtjgeflbhmhmjdaaGreatCacheRE
import Derived.Test.YtjgeflbhmhmjdaaGreatNearI
import Derived.Test.YtjgeflbhmhmjdaaGreatSep
import Derived.Test.YtjgeflbhmhmjdaaGreatAggNear
set_option linter.unusedSimpArgs false
set_option linter.unusedVariables false
namespace Go.Proofs.YtjgeflbhmhmjdaaGreat.NR
open Go.RowKit
open BU (IsU words)
open PL (Cfg CC CV May)
open KA (Kp CIs OkA LT UT)
open DL (DS CD stampE)
attribute [local go_sem] Oper.semAt_some
attribute [local go_sem ↓] TNot.ld_eq TNot.st_eq TNot.al_eq TNot.bx_eq TBlk.ld_eq TBlk.st_eq TBlk.al_eq TBlk.bx_eq TLin.ld_eq TLin.st_eq TLin.al_eq TLin.bx_eq bdN_eq bsN_eq bdL_eq
attribute [local go_sem] TNot.al_run TNot.bx_run TBlk.al_run TBlk.bx_run TLin.al_run TLin.bx_run
section
variable {w0 W W' V : World} {r : Rd} {S : Ns} {L : List Obj}
set_option maxRecDepth 100000 in
set_option maxHeartbeats 1000000 in
theorem rload_is (h : RIs w0 W r S L) (b w : Int) : Calls Tryz.prog 68 #[ptr r.nb, .int .i64 b, .int .i64 w] W fun e W' =>
    e = .returned (.tuple #[.int .u32 (loadX r.p S b w), .int .i64 (loadE r.p S b w)]) ∧ RIs w0 W' r (loadS r.p S b w) L := by
  have c9 : W.cell? ⟨r.nb, 9, none⟩ = some (ptr r.p.kb) := h.hd (by decide)
  have HF := Lib.hid (rcfind_is h b)
  have hlO := KA.fnd_ok (p := r.p) h.ok.ok.okA b
  have HLN := Lib.hid (Ln.Ok.isN hlO.isU)
  have HH := Lib.hid h
  have HE := Lib.hid (show loadE r.p S b w = if (r.p.place S.A b).isSome then (if 0 ≤ w ∧ w < 16 then 0 else 5) else 4 from rfl)
  have HX := Lib.hid (show loadX r.p S b w = if loadE r.p S b w = 0 then wordZ (r.p.fnd S.A b).D w else 0 from rfl)
  have HS := Lib.hid (show loadS r.p S b w = if loadE r.p S b w = 0 then markS { S with M := r.p.useM S.A S.M b } b true false else S from rfl)
  have HW := Lib.hid (fun (h0 : 0 ≤ w) (h1 : w < 16) => wordZ_get hlO.isU h0 h1)
  clear h hlO
  generalize loadE r.p S b w = le at *
  generalize loadX r.p S b w = lx at *
  generalize loadS r.p S b w = ls at *
  generalize r.p.fnd S.A b = l at *
  go_enter Tryz.func68, Tryz.ntmps68
  go_wp2_with fail
  refine HF.out.mono ?_
  rintro e W2 ⟨rfl, hu⟩
  have s1 := TLin.st_new HLN.out W2
  have HH2 := Lib.hid ((HH.out.upd0 hu).alloc l.cells LT)
  clear hu HH HF
  generalize hy : (r.p.place S.A b).isSome = y at HE ⊢
  clear hy c9
  cases y
  · have e4 : le = 4 := by rw [HE.out]; rfl
    subst e4
    have ex : lx = 0 := by rw [HX.out]; rfl
    subst ex
    have es : ls = S := by rw [HS.out]; rfl
    go_wp2_with fail
    go_ret2
    rw [es]
    exact ⟨rfl, HH2.out.pop⟩
  · by_cases hw : 0 ≤ w ∧ w < 16
    · have e0 : le = 0 := by rw [HE.out]; simp [hw]
      subst e0
      have ex : lx = wordZ l.D w := by rw [HX.out]; rfl
      subst ex
      have es : ls = markS { S with M := r.p.useM S.A S.M b } b true false := by rw [HS.out]; rfl
      subst es
      obtain ⟨hw0, hw1⟩ := hw
      have hw15 : ¬ (15 : Int) < w := by omega
      have hwD : decide ((15 : Int) < w) = false := decide_eq_false hw15
      have c9 : (W2.alloc (.cells l.cells LT)).cell? ⟨r.nb, 9, none⟩ = some (ptr r.p.kb) := HH2.out.hd (by decide)
      have HUS := Lib.hid (rcuse_is HH2.out b)
      have HWV := Lib.hid (HW.out hw0 hw1)
      clear HH2 HE HX HS
      go_wp2_with fail
      refine HUS.out.mono ?_
      rintro e W3 ⟨rfl, hN3⟩
      have c12 : W3.cell? ⟨r.nb, 12, none⟩ = some (ptr r.db) := hN3.hd (by decide)
      have d1 : W3.cell? ⟨r.db, 1, none⟩ = some (.int .i64 S.d.depth) := hN3.deal.cell 1
      have HN3 := Lib.hid hN3
      clear hN3 HUS s1 c9
      obtain ⟨wn, rfl⟩ : ∃ wn : Nat, w = wn := ⟨w.toNat, by omega⟩
      have hwn : wn < 16 := by omega
      by_cases hd : 0 < S.d.depth
      · have em : markS { S with M := r.p.useM S.A S.M b } b true false = { S with M := r.p.useM S.A S.M b, n := S.n + 1, f := MK.putF S.data S.f b true false } := if_pos hd
        have HEM := Lib.hid em
        have HMR := Lib.hid (rmread_is HN3.out b (S.n + 1))
        have c11 : W3.cell? ⟨r.nb, 11, none⟩ = some (ptr r.rb) := HN3.out.hd (by decide)
        clear em
        go_wp2_with fail
        refine HMR.out.mono ?_
        rintro e W5 ⟨rfl, hN5⟩
        have cw := (hN5.lb.cell (2 + wn)).trans ((l.getD wn).trans HWV.out)
        have HN5 := Lib.hid hN5
        clear hN5 HMR c11
        go_wp2_with fail
        go_ret2
        rw [HEM.out]
        exact ⟨rfl, HN5.out.pop⟩
      · have em : markS { S with M := r.p.useM S.A S.M b } b true false = { S with M := r.p.useM S.A S.M b } := if_neg hd
        have HEM := Lib.hid em
        have cw := (HN3.out.lb.cell (2 + wn)).trans ((l.getD wn).trans HWV.out)
        clear em
        go_wp2_with fail
        go_ret2
        rw [HEM.out]
        exact ⟨rfl, HN3.out.pop⟩
    · have e5 : le = 5 := by rw [HE.out]; simp [hw]
      subst e5
      have ex : lx = 0 := by rw [HX.out]; rfl
      subst ex
      have es : ls = S := by rw [HS.out]; rfl
      by_cases h0 : w < 0
      · go_wp2_with fail
        go_ret2
        rw [es]
        exact ⟨rfl, HH2.out.pop⟩
      · have h1 : 15 < w := by omega
        go_wp2_with fail
        go_ret2
        rw [es]
        exact ⟨rfl, HH2.out.pop⟩
theorem wr_none {p : Kp} {A : Nat → Ln} {M : Nat → Int} {b w z : Int} (h : (p.place A b).isSome = false) : p.wrE A b w = 4 ∧ p.wrA A b w z = A ∧ p.wrM A M b w = M := by
  have hp : p.place A b = none := by cases hq : p.place A b with | none => rfl | some i => rw [hq] at h; cases h
  unfold KA.Kp.wrE KA.Kp.wrA KA.Kp.wrM
  rw [hp]
  exact ⟨rfl, rfl, rfl⟩
set_option maxRecDepth 100000 in
set_option maxHeartbeats 1000000 in
theorem rstore_is (h : RIs w0 W r S L) (b w z : Int) : Calls Tryz.prog 69 #[ptr r.nb, .int .i64 b, .int .i64 w, .int .u32 z] W fun e W' =>
    e = .returned (.tuple #[.int .u32 (storeX r.p S b w), .int .i64 (r.p.wrE S.A b w)]) ∧ RIs w0 W' r (storeS r.p S b w z) L := by
  have c9 : W.cell? ⟨r.nb, 9, none⟩ = some (ptr r.p.kb) := h.hd (by decide)
  have HF := Lib.hid (rcfind_is h b)
  have hlO := KA.fnd_ok (p := r.p) h.ok.ok.okA b
  have HLN := Lib.hid (Ln.Ok.isN hlO.isU)
  have HH := Lib.hid h
  have HX := Lib.hid (show storeX r.p S b w = if r.p.wrE S.A b w = 0 then wordZ (r.p.fnd S.A b).D w else 0 from rfl)
  have HS := Lib.hid (show storeS r.p S b w z = if r.p.wrE S.A b w = 0 then markS (wroteS r.p S b w z) b false true else wroteS r.p S b w z from rfl)
  have HW := Lib.hid (fun (h0 : 0 ≤ w) (h1 : w < 16) => wordZ_get hlO.isU h0 h1)
  have HWE := Lib.hid (fun h => wrE_word (p := r.p) (A := S.A) (b := b) (w := w) h)
  have HNO := Lib.hid (fun (h : (r.p.place S.A b).isSome = false) => (show r.p.wrE S.A b w = 4 ∧ wroteS r.p S b w z = S from by
    obtain ⟨h1, h2, h3⟩ := wr_none (w := w) (z := z) (M := S.M) h
    exact ⟨h1, by unfold wroteS; rw [h2, h3]⟩))
  have HWR := Lib.hid (fun X (L' : List Obj) (hx : RIs w0 X r S L') => (show Calls Tryz.prog 115 #[ptr r.p.kb, .int .i64 b, .int .i64 w, .int .u32 z] X fun e W' => e = .returned (.int .i64 (r.p.wrE S.A b w)) ∧ RIs w0 W' r (wroteS r.p S b w z) L' from rcwrite_is hx b w z))
  have EH := Lib.hid (show (wroteS r.p S b w z).rhead r = S.rhead r from rfl)
  have ED := Lib.hid (show (wroteS r.p S b w z).d = S.d from rfl)
  clear h hlO
  generalize wroteS r.p S b w z = S1 at *
  generalize r.p.wrE S.A b w = le at *
  generalize storeX r.p S b w = lx at *
  generalize storeS r.p S b w z = ls at *
  generalize r.p.fnd S.A b = l at *
  generalize (r.p.place S.A b).isSome = y at *
  go_enter Tryz.func69, Tryz.ntmps69
  go_wp2_with fail
  refine HF.out.mono ?_
  rintro e W2 ⟨rfl, hu⟩
  have s1 := TLin.st_new HLN.out W2
  have HH2 := Lib.hid ((HH.out.upd0 hu).alloc l.cells LT)
  clear hu HH HF c9
  have c9 : (W2.alloc (.cells l.cells LT)).cell? ⟨r.nb, 9, none⟩ = some (ptr r.p.kb) := HH2.out.hd (by decide)
  have HWC := Lib.hid (HWR.out _ _ HH2.out)
  clear HWR
  cases y
  · obtain ⟨e4, es⟩ := HNO.out rfl
    subst e4
    have EX : Hid (lx = 0) := Lib.hid (HX.out.trans (if_neg (by decide)))
    have ES : Hid (ls = S) := Lib.hid ((HS.out.trans (if_neg (by decide))).trans es)
    clear es HX HS HNO HWC c9
    go_wp2_with fail
    go_ret2
    rw [ES.out, EX.out]
    exact ⟨rfl, HH2.out.pop⟩
  clear HH2 HNO
  go_wp2_with fail
  refine HWC.out.mono ?_
  rintro e W3 ⟨rfl, hN3⟩
  have HN3 := Lib.hid hN3
  clear hN3 HWC c9 s1
  by_cases h0 : le = 0
  · have ew : 0 ≤ w ∧ w < 16 := HWE.out h0
    subst h0
    obtain ⟨hw0, hw1⟩ := ew
    have HWV := Lib.hid (HW.out hw0 hw1)
    have EX : Hid (lx = wordZ l.D w) := Lib.hid (HX.out.trans (if_pos rfl))
    have ES : Hid (ls = markS S1 b false true) := Lib.hid (HS.out.trans (if_pos rfl))
    have c12 : W3.cell? ⟨r.nb, 12, none⟩ = some (ptr r.db) := (HN3.out.hd (by decide)).trans (show (S1.rhead r)[12]? = some (ptr r.db) by rw [EH.out]; rfl)
    have d1 : W3.cell? ⟨r.db, 1, none⟩ = some (.int .i64 S1.d.depth) := HN3.out.deal.cell 1
    clear HX HS HW HWE
    obtain ⟨wn, rfl⟩ : ∃ wn : Nat, w = wn := ⟨w.toNat, by omega⟩
    have hwn : wn < 16 := by omega
    by_cases hd : 0 < S1.d.depth
    · have em : markS S1 b false true = { S1 with n := S1.n + 1, f := MK.putF S1.data S1.f b false true } := if_pos hd
      have HEM := Lib.hid em
      have HMR := Lib.hid (rmwrite_is HN3.out b (S1.n + 1))
      have c11 : W3.cell? ⟨r.nb, 11, none⟩ = some (ptr r.rb) := (HN3.out.hd (by decide)).trans (show (S1.rhead r)[11]? = some (ptr r.rb) by rw [EH.out]; rfl)
      clear em
      go_wp2_with fail
      refine HMR.out.mono ?_
      rintro e W5 ⟨rfl, hN5⟩
      have cw := (hN5.lb.cell (2 + wn)).trans ((l.getD wn).trans HWV.out)
      have HN5 := Lib.hid hN5
      clear hN5 HMR c11
      go_wp2_with fail
      go_ret2
      rw [ES.out, HEM.out, EX.out]
      exact ⟨rfl, HN5.out.pop⟩
    · have em : markS S1 b false true = S1 := if_neg hd
      have HEM := Lib.hid em
      have cw := (HN3.out.lb.cell (2 + wn)).trans ((l.getD wn).trans HWV.out)
      clear em
      go_wp2_with fail
      go_ret2
      rw [ES.out, HEM.out, EX.out]
      exact ⟨rfl, HN3.out.pop⟩
  · have EX : Hid (lx = 0) := Lib.hid (HX.out.trans (if_neg h0))
    have ES : Hid (ls = S1) := Lib.hid (HS.out.trans (if_neg h0))
    have hb0 : (le != 0) = true := by simp [h0]
    clear h0 HX HS
    go_wp2_with fail
    go_ret2
    rw [ES.out, EX.out]
    exact ⟨rfl, HN3.out.pop⟩
end
end Go.Proofs.YtjgeflbhmhmjdaaGreat.NR
namespace Go.Proofs.YtjgeflbhmhmjdaaGreat.TRnr
open Go.RowKit
def Z : Array Value := #[.int .i64 0, .int .i64 0, .int .i64 0, .int .i64 0, .int .i64 0, .int .i64 0, .int .i64 0, .int .i64 0, .int .i64 0, .pointer none, .pointer none, .pointer none, .pointer none, .int .u8 0, .int .i64 0, .int .i64 0, .int .i64 0, .int .u64 0, .int .u8 0, .bool false, .bool false, .int .u32 0, .int .u32 0, .int .u32 0, .int .u32 0, .int .u32 0, .int .u32 0, .int .u32 0, .int .u32 0, .int .u32 0, .int .u32 0, .int .u32 0, .int .u32 0, .int .u32 0, .int .u32 0, .int .u32 0, .int .u32 0, .bool false]
theorem size_Z : Z.size = 38 := by kernel_rfl
theorem infoZ : (Tryz.prog.info? 73).map (fun i => (i.zero, i.size)) = some (some (.agg Z), 38) := by kernel_rfl
theorem infoS : (Tryz.prog.info? 73).map (·.size) = some 38 := by kernel_rfl
theorem infoSZ : (Tryz.prog.info? 73).map (·.size) = some Z.size := by kernel_rfl
def ld (v : Value) : Sem Value := Instr.loadAt 73 v
def st (p v : Value) : Sem Unit := Instr.storeAt 73 p v
def bx (v : Value) : Sem Value := Instr.box 73 v
def al : Sem Value := Instr.alloc 73 true (.tuple #[])
theorem ld_eq (v : Value) : Instr.loadAt 73 v = ld v := rfl
theorem st_eq (p v : Value) : Instr.storeAt 73 p v = st p v := rfl
theorem bx_eq (v : Value) : Instr.box 73 v = bx v := rfl
theorem al_eq : Instr.alloc 73 true (.tuple #[]) = al := rfl
theorem al_run (w : World) : al.run Tryz.prog w = .ok (.pointer (some ⟨w.heap.size, 0, none⟩)) (w.alloc (.cells Z 73)) := agg_alloc (agg_zero infoZ) w
theorem bx_run (x : Array Value) (w : World) : (bx (.agg x)).run Tryz.prog w = .ok (.pointer (some ⟨w.heap.size, 0, none⟩)) (w.alloc (.cells x 73)) := agg_box x w
end Go.Proofs.YtjgeflbhmhmjdaaGreat.TRnr
namespace Go.Proofs.YtjgeflbhmhmjdaaGreat.TRdl
open Go.RowKit
def Z : Array Value := #[.int .i64 0, .int .i64 0, .int .u32 0, .int .u32 0, .int .u32 0, .int .u32 0, .int .u32 0, .int .u32 0, .int .u32 0, .int .u32 0, .int .u32 0, .int .u32 0, .int .u32 0, .int .u32 0, .int .u32 0, .int .u32 0, .int .u32 0, .int .u32 0, .int .i64 0, .int .u64 0, .bool false, .bool false, .int .u32 0]
theorem size_Z : Z.size = 23 := by kernel_rfl
theorem infoZ : (Tryz.prog.info? 78).map (fun i => (i.zero, i.size)) = some (some (.agg Z), 23) := by kernel_rfl
theorem infoS : (Tryz.prog.info? 78).map (·.size) = some 23 := by kernel_rfl
theorem infoSZ : (Tryz.prog.info? 78).map (·.size) = some Z.size := by kernel_rfl
def ld (v : Value) : Sem Value := Instr.loadAt 78 v
def st (p v : Value) : Sem Unit := Instr.storeAt 78 p v
def bx (v : Value) : Sem Value := Instr.box 78 v
def al : Sem Value := Instr.alloc 78 true (.tuple #[])
theorem ld_eq (v : Value) : Instr.loadAt 78 v = ld v := rfl
theorem st_eq (p v : Value) : Instr.storeAt 78 p v = st p v := rfl
theorem bx_eq (v : Value) : Instr.box 78 v = bx v := rfl
theorem al_eq : Instr.alloc 78 true (.tuple #[]) = al := rfl
theorem al_run (w : World) : al.run Tryz.prog w = .ok (.pointer (some ⟨w.heap.size, 0, none⟩)) (w.alloc (.cells Z 78)) := agg_alloc (agg_zero infoZ) w
theorem bx_run (x : Array Value) (w : World) : (bx (.agg x)).run Tryz.prog w = .ok (.pointer (some ⟨w.heap.size, 0, none⟩)) (w.alloc (.cells x 78)) := agg_box x w
end Go.Proofs.YtjgeflbhmhmjdaaGreat.TRdl
namespace Go.Proofs.YtjgeflbhmhmjdaaGreat.NR
open Go.RowKit
open BU (IsU words)
open PL (Cfg CC CV May)
open KA (Kp CIs OkA LT UT)
open DL (DS CD stampE)
attribute [local go_sem] Oper.semAt_some
def bdRn (parts : Array (Nat × Value)) : Sem Value := Instr.build RnT parts
theorem bdRn_eq (parts : Array (Nat × Value)) : Instr.build RnT parts = bdRn parts := rfl
def bdRd (parts : Array (Nat × Value)) : Sem Value := Instr.build RdT parts
theorem bdRd_eq (parts : Array (Nat × Value)) : Instr.build RdT parts = bdRd parts := rfl
attribute [local go_sem ↓] TRnr.ld_eq TRnr.st_eq TRnr.al_eq TRnr.bx_eq TRdl.ld_eq TRdl.st_eq TRdl.al_eq TRdl.bx_eq TCfg.ld_eq TCfg.st_eq TCfg.al_eq TCfg.bx_eq bdRn_eq bdRd_eq
attribute [local go_sem] TRnr.al_run TRnr.bx_run TRdl.al_run TRdl.bx_run TCfg.al_run TCfg.bx_run
set_option maxRecDepth 100000 in
theorem rnPl (w : World) : ((Tryz.prog.fieldsOf RnT).mapM fun (f : Field) => do pure (f.offset, ← sizeOf f.type) : Sem (Array (Nat × Nat))).run Tryz.prog w = .ok #[(0, 8), (8, 1), (9, 1), (10, 1), (11, 1), (12, 1), (13, 24), (37, 1)] w := by
  have hf : ((Tryz.prog.fieldsOf RnT).toList.map fun f => (f.offset, f.type)) = [(0, 27), (8, 3), (9, 68), (10, 69), (11, 70), (12, 71), (13, 37), (37, 4)] := by kernel_rfl
  have e : Tryz.prog.fieldsOf RnT = (Tryz.prog.fieldsOf RnT).toList.toArray := by simp
  rw [e]
  generalize (Tryz.prog.fieldsOf RnT).toList = l at *
  match l, hf with
  | [f0, f1, f2, f3, f4, f5, f6, f7], hf =>
    simp only [List.map_cons, List.map_nil, List.cons.injEq, Prod.mk.injEq, and_true] at hf
    obtain ⟨⟨a0, b0⟩, ⟨a1, b1⟩, ⟨a2, b2⟩, ⟨a3, b3⟩, ⟨a4, b4⟩, ⟨a5, b5⟩, ⟨a6, b6⟩, a7, b7⟩ := hf
    simp [a0, a1, a2, a3, a4, a5, a6, a7, b0, b1, b2, b3, b4, b5, b6, b7, Tryz.sizeOf27, Tryz.sizeOf3, Tryz.sizeOf68, Tryz.sizeOf69, Tryz.sizeOf70, Tryz.sizeOf71, Tryz.sizeOf37, Tryz.sizeOf4]
set_option maxRecDepth 100000 in
theorem rdPl (w : World) : ((Tryz.prog.fieldsOf RdT).mapM fun (f : Field) => do pure (f.offset, ← sizeOf f.type) : Sem (Array (Nat × Nat))).run Tryz.prog w = .ok #[(0, 1), (1, 1), (2, 17), (19, 1), (20, 1), (21, 1), (22, 1)] w := by
  have hf : ((Tryz.prog.fieldsOf RdT).toList.map fun f => (f.offset, f.type)) = [(0, 3), (1, 3), (2, 76), (19, 31), (20, 4), (21, 4), (22, 33)] := by kernel_rfl
  have e : Tryz.prog.fieldsOf RdT = (Tryz.prog.fieldsOf RdT).toList.toArray := by simp
  rw [e]
  generalize (Tryz.prog.fieldsOf RdT).toList = l at *
  match l, hf with
  | [f0, f1, f2, f3, f4, f5, f6], hf =>
    simp only [List.map_cons, List.map_nil, List.cons.injEq, Prod.mk.injEq, and_true] at hf
    obtain ⟨⟨a0, b0⟩, ⟨a1, b1⟩, ⟨a2, b2⟩, ⟨a3, b3⟩, ⟨a4, b4⟩, ⟨a5, b5⟩, a6, b6⟩ := hf
    simp [a0, a1, a2, a3, a4, a5, a6, b0, b1, b2, b3, b4, b5, b6, Tryz.sizeOf3, Tryz.sizeOf76, Tryz.sizeOf31, Tryz.sizeOf4, Tryz.sizeOf33]
set_option maxRecDepth 100000 in
theorem bd_rnear (c : Cfg) (core : Int) (a1 a2 a3 a4 : Nat) (w : World) : (bdRn #[(0, CV c), (1, .int .i64 core), (2, ptr a1), (3, ptr a2), (4, ptr a3), (5, ptr a4)]).run Tryz.prog w = .ok (.agg (nrC c core (ptr a1) (ptr a2) (ptr a3) (ptr a4))) w := by
  refine build_run (pl := [(0, 8), (8, 1), (9, 1), (10, 1), (11, 1), (12, 1), (13, 24), (37, 1)]) Tryz.underlying73 TRnr.infoZ rnPl _ _ ?_ w
  rw [fill_step (off := 0) (size := 8) rfl rfl (by (repeat rw [size_setMany]); decide), fill_step (off := 8) (size := 1) rfl rfl (by (repeat rw [size_setMany]); decide), fill_step (off := 9) (size := 1) rfl rfl (by (repeat rw [size_setMany]); decide), fill_step (off := 10) (size := 1) rfl rfl (by (repeat rw [size_setMany]); decide),
    fill_step (off := 11) (size := 1) rfl rfl (by (repeat rw [size_setMany]); decide), fill_step (off := 12) (size := 1) rfl rfl (by (repeat rw [size_setMany]); decide), fill_nil]
  exact congrArg some (by kernel_rfl)
set_option maxRecDepth 100000 in
theorem bd_rdeal (nest : Int) (w : World) : (bdRd #[(0, .int .i64 nest)]).run Tryz.prog w = .ok (.agg (CD nest ⟨0, 0, 0, false, false, 0⟩)) w := by
  refine build_run (pl := [(0, 1), (1, 1), (2, 17), (19, 1), (20, 1), (21, 1), (22, 1)]) Tryz.underlying78 TRdl.infoZ rdPl _ _ ?_ w
  rw [fill_step (off := 0) (size := 1) rfl rfl (by decide), fill_nil]
  exact congrArg some (by kernel_rfl)
section
variable {w0 W W' V : World} {r : Rd} {S : Ns} {L : List Obj}
set_option maxRecDepth 100000 in
set_option maxHeartbeats 2000000 in
theorem rnear_no (c : Cfg) (core : Int) (hm : ¬ May c) (W : World) : Calls Tryz.prog 23 #[CV c, .int .i64 core] W fun e W' => e = .returned (.tuple #[.pointer none, .int .i64 2]) ∧ Upd NoF W W' := by
  have l1 := TCfg.ld_new (CC_isN c) W
  have HM := Lib.hid (fun w => PL.rMay_any c w)
  rw [decide_eq_false hm] at HM
  have HU1 := Lib.hid (Upd.alloc NoF W (.cells (CC c) CT))
  clear hm
  go_enter Tryz.func23, Tryz.ntmps23
  go_wp2_with fail
  refine (HM.out _).mono ?_
  rintro e W2 ⟨rfl, hu⟩
  have HU2 := Lib.hid (HU1.out.trans hu (fun _ _ h => h))
  clear hu
  go_wp2_with fail
  go_ret2
  exact ⟨rfl, HU2.out⟩
set_option maxRecDepth 100000 in
set_option maxHeartbeats 2000000 in
theorem rnear_range (c : Cfg) (core : Int) (hm : May c) (hc : ¬ (0 ≤ core ∧ core < c.cores)) (W : World) : Calls Tryz.prog 23 #[CV c, .int .i64 core] W fun e W' => e = .returned (.tuple #[.pointer none, .int .i64 5]) ∧ Upd NoF W W' := by
  have l1 := TCfg.ld_new (CC_isN c) W
  have HM := Lib.hid (fun w => PL.rMay_any c w)
  rw [decide_eq_true hm] at HM
  have HU1 := Lib.hid (Upd.alloc NoF W (.cells (CC c) CT))
  have HQ := Lib.hid (Blk.new W (CC c) CT)
  clear hm
  by_cases h0 : core < 0
  · have hb0 : decide (core < 0) = true := by simp [h0]
    clear h0 hc
    go_enter Tryz.func23, Tryz.ntmps23
    go_wp2_with fail
    refine (HM.out _).mono ?_
    rintro e W2 ⟨rfl, hu⟩
    have HU2 := Lib.hid (HU1.out.trans hu (fun _ _ h => h))
    clear hu
    go_wp2_with fail
    go_ret2
    exact ⟨rfl, HU2.out⟩
  · have hb0 : decide (core < 0) = false := by simp [h0]
    have hb1 : decide (c.cores ≤ core) = true := by simp; omega
    clear h0 hc
    go_enter Tryz.func23, Tryz.ntmps23
    go_wp2_with fail
    refine (HM.out _).mono ?_
    rintro e W2 ⟨rfl, hu⟩
    have HU2 := Lib.hid (HU1.out.trans hu (fun _ _ h => h))
    have d0 : W2.cell? ⟨W.heap.size, 0, none⟩ = some (.int .i64 c.cores) := (HQ.out.upd hu (fun h => h)).cell 0
    clear hu
    go_wp2_with fail
    go_ret2
    exact ⟨rfl, HU2.out⟩
set_option maxRecDepth 100000 in
set_option maxHeartbeats 4000000 in
theorem rnear_new (h : Sep NoF w0 W L) (c : Cfg) (hc : May c) (core : Int) (h0 : 0 ≤ core) (h9 : core < c.cores) : Calls Tryz.prog 23 #[CV c, .int .i64 core] W fun e W' =>
    ∃ r : Rd, e = .returned (.tuple #[ptr r.nb, .int .i64 0]) ∧ RIs w0 W' r (Ns.new c core) L := by
  have h1 := h.alloc (CC c) CT
  have l1 := TCfg.ld_new (CC_isN c) W
  obtain ⟨W1, hW1⟩ : ∃ X, W.alloc (.cells (CC c) CT) = X := ⟨_, rfl⟩
  obtain ⟨cb, hcb⟩ : ∃ x, W.heap.size = x := ⟨_, rfl⟩
  rw [hW1, hcb] at h1 l1
  have HS1 := Lib.hid h1
  have HM := Lib.hid (fun w => PL.rMay_any c w)
  rw [decide_eq_true hc] at HM
  have HC := Lib.hid hc
  have hb0 : decide (core < 0) = false := by simp; omega
  have hb1 : decide (c.cores ≤ core) = false := by simp; omega
  have y1 := fun a1 a2 a3 a4 w => bd_rnear c core a1 a2 a3 a4 w
  have y2 := fun w => bd_rdeal c.nest w
  obtain ⟨d, hd⟩ : ∃ d : Nat, c.blocks - c.cores * c.logs = (d : Int) := ⟨(c.blocks - c.cores * c.logs).toNat, by have := hc; unfold May at this; omega⟩
  have HD := Lib.hid hd
  clear h1 h h0 h9 hc hd
  go_enter Tryz.func23, Tryz.ntmps23
  go_upto_region 1 with fail
  clear hW1 hcb
  go_wp2_with fail
  refine (HM.out _).mono ?_
  rintro e W2 ⟨rfl, hu⟩
  have HS2 := Lib.hid (HS1.out.upd0 hu)
  clear hu l1 HS1
  have d0 : W2.cell? ⟨cb, 0, none⟩ = some (.int .i64 c.cores) := (HS2.out.box 0 rfl).cell 0
  have l1 : (TCfg.ld (.pointer (some ⟨cb, 0, none⟩))).run Tryz.prog W2 = .ok (.agg (CC c)) W2 := TCfg.ld_at (CC_isN c) (HS2.out.box 0 rfl).whole
  go_wp2_with fail
  refine (KA.rnew_yes HS2.out c HC.out).mono ?_
  rintro e W3 ⟨p, rfl, hk, _⟩
  have HKF := Lib.hid (And.intro hk.fits hk.ok)
  have HS3 := Lib.hid (hk.sep.upd0 (Upd.drew NoF W3))
  clear hk l1 d0 HS2
  go_upto_region 6 with fail
  refine wp_region_held_drew (S := (fun X : World => (TCfg.ld (.pointer (some ⟨cb, 0, none⟩))).run Tryz.prog X = .ok (.agg (CC c)) X ∧ X.cell? ⟨cb, 6, none⟩ = some (.int .i64 c.nest))) (by kernel_rfl) (⟨TCfg.ld_at (CC_isN c) (HS3.out.box 3 rfl).whole, (HS3.out.box 3 rfl).cell 6⟩) (fun hHeld => ?_)
  obtain ⟨z0, hz0⟩ : ∃ X, W3.drew = X := ⟨_, rfl⟩
  rw [hz0] at hHeld HS3 ⊢
  clear hz0
  refine rgn 0 (v := ?vq21) hHeld ?yq21 ?_
  case yq21 => (intro w hSw; obtain ⟨k0, k1⟩ := hSw; go_simp; try with_reducible rfl)
  simp only [Act.put, rns]
  refine rgn 1 (v := ?vq22) hHeld ?yq22 ?_
  case yq22 => (intro w hSw; obtain ⟨k0, k1⟩ := hSw; go_simp; try with_reducible rfl)
  simp only [Act.put, rns]
  refine rgn 2 (v := ?vq23) hHeld ?yq23 ?_
  case yq23 => (intro w hSw; obtain ⟨k0, k1⟩ := hSw; go_simp; try with_reducible rfl)
  simp only [Act.put, rns]
  refine rgn 3 (v := ?vq24) hHeld ?yq24 ?_
  case yq24 => (intro w hSw; obtain ⟨k0, k1⟩ := hSw; go_simp; try with_reducible rfl)
  simp only [Act.put, rns]
  refine rgn 5 (v := ?vq25) hHeld ?yq25 ?_
  case yq25 => (intro w hSw; obtain ⟨k0, k1⟩ := hSw; go_simp; try with_reducible rfl)
  simp only [Act.put, rns]
  refine rgn 7 (v := ?vq26) hHeld ?yq26 ?_
  case yq26 => (intro w hSw; obtain ⟨k0, k1⟩ := hSw; go_simp; try with_reducible rfl)
  simp only [Act.put, rns]
  refine rgn 8 (v := ?vq27) hHeld ?yq27 ?_
  case yq27 => (intro w hSw; obtain ⟨k0, k1⟩ := hSw; go_simp; try with_reducible rfl)
  simp only [Act.put, rns]
  refine rgn 9 (v := .agg (CD c.nest ⟨0, 0, 0, false, false, 0⟩)) hHeld ?yq28 ?_
  case yq28 => (intro w hSw; obtain ⟨k0, k1⟩ := hSw; go_simp; try with_reducible rfl)
  simp only [Act.put, rns]
  refine reg_two (i := 4) (j := 10) (by kernel_rfl) rfl rfl (by kernel_rfl) (by kernel_rfl) (fun K hK => ?_) (fun K hK => ?_)
  · go_simp
    refine (BK.rnew_any c HC.out d HD.out.symm _).mono ?_
    rintro e z1 ⟨b2, rfl, hu, ho⟩
    have hx := HS3.out.push hu ho
    have HSq1 := Lib.hid hx
    have HS : (fun X : World => (TCfg.ld (.pointer (some ⟨cb, 0, none⟩))).run Tryz.prog X = .ok (.agg (CC c)) X ∧ X.cell? ⟨cb, 6, none⟩ = some (.int .i64 c.nest)) z1 := ⟨TCfg.ld_at (CC_isN c) (HSq1.out.box 4 rfl).whole, (HSq1.out.box 4 rfl).cell 6⟩
    clear hx hu ho
    go_wp2_with fail
    refine hK.out _ _ HS (fun hHeld2 => ?_)
    clear hK hHeld2 hHeld; have hHeld := HS; clear HS
    try simp only [Act.put, rns]
    refine reg_two (i := 6) (j := 10) (by kernel_rfl) rfl rfl (by kernel_rfl) (by kernel_rfl) (fun K hK => ?_) (fun K hK => ?_)
    · go_simp
      refine (MK.rnew_any HSq1.out c HC.out HD.out).mono ?_
      rintro e z2 ⟨xb, xr, xw, rfl, hx, _⟩
      have HSq2 := Lib.hid hx
      have HS : (fun X : World => (TCfg.ld (.pointer (some ⟨cb, 0, none⟩))).run Tryz.prog X = .ok (.agg (CC c)) X ∧ X.cell? ⟨cb, 6, none⟩ = some (.int .i64 c.nest)) z2 := ⟨TCfg.ld_at (CC_isN c) (HSq2.out.box 7 rfl).whole, (HSq2.out.box 7 rfl).cell 6⟩
      clear hx
      go_wp2_with fail
      refine hK.out _ _ HS (fun hHeld2 => ?_)
      clear hK hHeld2 hHeld; have hHeld := HS; clear HS
      try simp only [Act.put, rns]
      refine reg_step (i := 10) (by kernel_rfl) rfl (by kernel_rfl) (fun K hK => ?_)
      have hx := HSq2.out.alloc (CD c.nest ⟨0, 0, 0, false, false, 0⟩) RdT
      go_simp
      obtain ⟨z3, hY⟩ : ∃ Y, (z2).alloc (.cells (CD c.nest ⟨0, 0, 0, false, false, 0⟩) RdT) = Y := ⟨_, rfl⟩
      obtain ⟨d2, hd2⟩ : ∃ d2, (z2).heap.size = d2 := ⟨_, rfl⟩
      rw [hY, hd2] at hx
      rw [hY, hd2]
      have HSq3 := Lib.hid hx
      have HS : (fun X : World => (TCfg.ld (.pointer (some ⟨cb, 0, none⟩))).run Tryz.prog X = .ok (.agg (CC c)) X ∧ X.cell? ⟨cb, 6, none⟩ = some (.int .i64 c.nest)) z3 := ⟨TCfg.ld_at (CC_isN c) (HSq3.out.box 8 rfl).whole, (HSq3.out.box 8 rfl).cell 6⟩
      clear hx hY hd2
      refine hK.out _ _ HS (fun hHeld2 => ?_)
      clear hK hHeld2 hHeld; have hHeld := HS; clear HS
      try simp only [Act.put, rns]
      refine rgn 11 (v := .agg (nrC c core (ptr p.kb) (ptr b2) (ptr xb) (ptr d2))) hHeld ?yq29 ?_
      case yq29 => (intro w hSw; obtain ⟨k0, k1⟩ := hSw; go_simp; try with_reducible rfl)
      simp only [Act.put, rns]
      refine reg_step (i := 12) (by kernel_rfl) rfl (by kernel_rfl) (fun K hK => ?_)
      have hx := HSq3.out.alloc (nrC c core (ptr p.kb) (ptr b2) (ptr xb) (ptr d2)) RnT
      go_simp
      obtain ⟨z4, hY⟩ : ∃ Y, (z3).alloc (.cells (nrC c core (ptr p.kb) (ptr b2) (ptr xb) (ptr d2)) RnT) = Y := ⟨_, rfl⟩
      obtain ⟨n2, hn2⟩ : ∃ d2, (z3).heap.size = d2 := ⟨_, rfl⟩
      rw [hY, hn2] at hx
      rw [hY, hn2]
      have HSq4 := Lib.hid hx
      have HS : (fun X : World => (TCfg.ld (.pointer (some ⟨cb, 0, none⟩))).run Tryz.prog X = .ok (.agg (CC c)) X ∧ X.cell? ⟨cb, 6, none⟩ = some (.int .i64 c.nest)) z4 := ⟨TCfg.ld_at (CC_isN c) (HSq4.out.box 9 rfl).whole, (HSq4.out.box 9 rfl).cell 6⟩
      clear hx hY hn2
      refine hK.out _ _ HS (fun hHeld2 => ?_)
      clear hK hHeld2 hHeld; have hHeld := HS; clear HS
      try simp only [Act.put, rns]
      refine rgn 13 (v := ?vq30) hHeld ?yq30 ?_
      case yq30 => (intro w hSw; go_simp; try with_reducible rfl)
      simp only [Act.put, rns]
      refine rgn 14 (v := ?vq31) hHeld ?yq31 ?_
      case yq31 => (intro w hSw; go_simp; try with_reducible rfl)
      simp only [Act.put, rns]
      refine wpAnyH_done (by kernel_rfl) ?_ _
      clear hHeld
      go_wp2_with fail
      go_ret2
      have hx := ((((((((((HSq4.out.pickN 1 rfl).pickN 4 rfl).pickN 4 rfl).pickN 4 rfl).pickN 5 rfl).pickN 5 rfl).pickN 8 rfl).pickN 8 rfl).pickN 8 rfl)).drop 9 (by simp)
      have hdn : (Ns.new c core).dn = d := by
        show (c.blocks - c.cores * c.logs).toNat = d
        rw [HD.out]; rfl
      have hm := HC.out
      have hdat := PL.mul_small HC.out.1 HC.out.2.2.1
      refine ⟨⟨p, n2, b2, xb, xr, xw, d2⟩, rfl, ?_, ⟨⟨HKF.out.1, HKF.out.2, BK.Inv.nil _ _ (by unfold May at hm; show 0 ≤ c.backs; omega), (fun z hz => by cases hz), ⟨Int.le_refl 0, by unfold May at hm; show 0 ≤ c.nest; omega⟩, ⟨Int.le_refl 0, (by decide : (0 : Int) ≤ 4294967295)⟩, ⟨Int.le_refl 0, (by decide : (0 : Int) ≤ 18446744073709551615)⟩, Nt.nil_ok⟩, KA.Good.nil, KA.Uniq.nil, fun b hb => (by cases hb)⟩⟩
      unfold Rd.objs Rd.tail
      rw [hdn]
      exact hx
    · have hx := HSq1.out.alloc (CD c.nest ⟨0, 0, 0, false, false, 0⟩) RdT
      go_simp
      obtain ⟨z5, hY⟩ : ∃ Y, (z1).alloc (.cells (CD c.nest ⟨0, 0, 0, false, false, 0⟩) RdT) = Y := ⟨_, rfl⟩
      obtain ⟨d2, hd2⟩ : ∃ d2, (z1).heap.size = d2 := ⟨_, rfl⟩
      rw [hY, hd2] at hx
      rw [hY, hd2]
      have HSq5 := Lib.hid hx
      have HS : (fun X : World => (TCfg.ld (.pointer (some ⟨cb, 0, none⟩))).run Tryz.prog X = .ok (.agg (CC c)) X ∧ X.cell? ⟨cb, 6, none⟩ = some (.int .i64 c.nest)) z5 := ⟨TCfg.ld_at (CC_isN c) (HSq5.out.box 5 rfl).whole, (HSq5.out.box 5 rfl).cell 6⟩
      clear hx hY hd2
      refine hK.out _ _ HS (fun hHeld2 => ?_)
      clear hK hHeld2 hHeld; have hHeld := HS; clear HS
      try simp only [Act.put, rns]
      refine reg_step (i := 6) (by kernel_rfl) rfl (by kernel_rfl) (fun K hK => ?_)
      go_simp
      refine (MK.rnew_any HSq5.out c HC.out HD.out).mono ?_
      rintro e z6 ⟨xb, xr, xw, rfl, hx, _⟩
      have HSq6 := Lib.hid hx
      have HS : (fun X : World => (TCfg.ld (.pointer (some ⟨cb, 0, none⟩))).run Tryz.prog X = .ok (.agg (CC c)) X ∧ X.cell? ⟨cb, 6, none⟩ = some (.int .i64 c.nest)) z6 := ⟨TCfg.ld_at (CC_isN c) (HSq6.out.box 8 rfl).whole, (HSq6.out.box 8 rfl).cell 6⟩
      clear hx
      go_wp2_with fail
      refine hK.out _ _ HS (fun hHeld2 => ?_)
      clear hK hHeld2 hHeld; have hHeld := HS; clear HS
      try simp only [Act.put, rns]
      refine rgn 11 (v := .agg (nrC c core (ptr p.kb) (ptr b2) (ptr xb) (ptr d2))) hHeld ?yq32 ?_
      case yq32 => (intro w hSw; obtain ⟨k0, k1⟩ := hSw; go_simp; try with_reducible rfl)
      simp only [Act.put, rns]
      refine reg_step (i := 12) (by kernel_rfl) rfl (by kernel_rfl) (fun K hK => ?_)
      have hx := HSq6.out.alloc (nrC c core (ptr p.kb) (ptr b2) (ptr xb) (ptr d2)) RnT
      go_simp
      obtain ⟨z7, hY⟩ : ∃ Y, (z6).alloc (.cells (nrC c core (ptr p.kb) (ptr b2) (ptr xb) (ptr d2)) RnT) = Y := ⟨_, rfl⟩
      obtain ⟨n2, hn2⟩ : ∃ d2, (z6).heap.size = d2 := ⟨_, rfl⟩
      rw [hY, hn2] at hx
      rw [hY, hn2]
      have HSq7 := Lib.hid hx
      have HS : (fun X : World => (TCfg.ld (.pointer (some ⟨cb, 0, none⟩))).run Tryz.prog X = .ok (.agg (CC c)) X ∧ X.cell? ⟨cb, 6, none⟩ = some (.int .i64 c.nest)) z7 := ⟨TCfg.ld_at (CC_isN c) (HSq7.out.box 9 rfl).whole, (HSq7.out.box 9 rfl).cell 6⟩
      clear hx hY hn2
      refine hK.out _ _ HS (fun hHeld2 => ?_)
      clear hK hHeld2 hHeld; have hHeld := HS; clear HS
      try simp only [Act.put, rns]
      refine rgn 13 (v := ?vq33) hHeld ?yq33 ?_
      case yq33 => (intro w hSw; go_simp; try with_reducible rfl)
      simp only [Act.put, rns]
      refine rgn 14 (v := ?vq34) hHeld ?yq34 ?_
      case yq34 => (intro w hSw; go_simp; try with_reducible rfl)
      simp only [Act.put, rns]
      refine wpAnyH_done (by kernel_rfl) ?_ _
      clear hHeld
      go_wp2_with fail
      go_ret2
      have hx := ((((((((((HSq7.out.pickN 4 rfl).pickN 4 rfl).pickN 4 rfl).pickN 4 rfl).pickN 5 rfl).pickN 5 rfl).pickN 8 rfl).pickN 8 rfl).pickN 8 rfl)).drop 9 (by simp)
      have hdn : (Ns.new c core).dn = d := by
        show (c.blocks - c.cores * c.logs).toNat = d
        rw [HD.out]; rfl
      have hm := HC.out
      have hdat := PL.mul_small HC.out.1 HC.out.2.2.1
      refine ⟨⟨p, n2, b2, xb, xr, xw, d2⟩, rfl, ?_, ⟨⟨HKF.out.1, HKF.out.2, BK.Inv.nil _ _ (by unfold May at hm; show 0 ≤ c.backs; omega), (fun z hz => by cases hz), ⟨Int.le_refl 0, by unfold May at hm; show 0 ≤ c.nest; omega⟩, ⟨Int.le_refl 0, (by decide : (0 : Int) ≤ 4294967295)⟩, ⟨Int.le_refl 0, (by decide : (0 : Int) ≤ 18446744073709551615)⟩, Nt.nil_ok⟩, KA.Good.nil, KA.Uniq.nil, fun b hb => (by cases hb)⟩⟩
      unfold Rd.objs Rd.tail
      rw [hdn]
      exact hx
  · have hx := HS3.out.alloc (CD c.nest ⟨0, 0, 0, false, false, 0⟩) RdT
    go_simp
    obtain ⟨z8, hY⟩ : ∃ Y, (z0).alloc (.cells (CD c.nest ⟨0, 0, 0, false, false, 0⟩) RdT) = Y := ⟨_, rfl⟩
    obtain ⟨d2, hd2⟩ : ∃ d2, (z0).heap.size = d2 := ⟨_, rfl⟩
    rw [hY, hd2] at hx
    rw [hY, hd2]
    have HSq8 := Lib.hid hx
    have HS : (fun X : World => (TCfg.ld (.pointer (some ⟨cb, 0, none⟩))).run Tryz.prog X = .ok (.agg (CC c)) X ∧ X.cell? ⟨cb, 6, none⟩ = some (.int .i64 c.nest)) z8 := ⟨TCfg.ld_at (CC_isN c) (HSq8.out.box 4 rfl).whole, (HSq8.out.box 4 rfl).cell 6⟩
    clear hx hY hd2
    refine hK.out _ _ HS (fun hHeld2 => ?_)
    clear hK hHeld2 hHeld; have hHeld := HS; clear HS
    try simp only [Act.put, rns]
    refine reg_step (i := 4) (by kernel_rfl) rfl (by kernel_rfl) (fun K hK => ?_)
    go_simp
    refine (BK.rnew_any c HC.out d HD.out.symm _).mono ?_
    rintro e z9 ⟨b2, rfl, hu, ho⟩
    have hx := HSq8.out.push hu ho
    have HSq9 := Lib.hid hx
    have HS : (fun X : World => (TCfg.ld (.pointer (some ⟨cb, 0, none⟩))).run Tryz.prog X = .ok (.agg (CC c)) X ∧ X.cell? ⟨cb, 6, none⟩ = some (.int .i64 c.nest)) z9 := ⟨TCfg.ld_at (CC_isN c) (HSq9.out.box 5 rfl).whole, (HSq9.out.box 5 rfl).cell 6⟩
    clear hx hu ho
    go_wp2_with fail
    refine hK.out _ _ HS (fun hHeld2 => ?_)
    clear hK hHeld2 hHeld; have hHeld := HS; clear HS
    try simp only [Act.put, rns]
    refine reg_step (i := 6) (by kernel_rfl) rfl (by kernel_rfl) (fun K hK => ?_)
    go_simp
    refine (MK.rnew_any HSq9.out c HC.out HD.out).mono ?_
    rintro e z10 ⟨xb, xr, xw, rfl, hx, _⟩
    have HSq10 := Lib.hid hx
    have HS : (fun X : World => (TCfg.ld (.pointer (some ⟨cb, 0, none⟩))).run Tryz.prog X = .ok (.agg (CC c)) X ∧ X.cell? ⟨cb, 6, none⟩ = some (.int .i64 c.nest)) z10 := ⟨TCfg.ld_at (CC_isN c) (HSq10.out.box 8 rfl).whole, (HSq10.out.box 8 rfl).cell 6⟩
    clear hx
    go_wp2_with fail
    refine hK.out _ _ HS (fun hHeld2 => ?_)
    clear hK hHeld2 hHeld; have hHeld := HS; clear HS
    try simp only [Act.put, rns]
    refine rgn 11 (v := .agg (nrC c core (ptr p.kb) (ptr b2) (ptr xb) (ptr d2))) hHeld ?yq35 ?_
    case yq35 => (intro w hSw; obtain ⟨k0, k1⟩ := hSw; go_simp; try with_reducible rfl)
    simp only [Act.put, rns]
    refine reg_step (i := 12) (by kernel_rfl) rfl (by kernel_rfl) (fun K hK => ?_)
    have hx := HSq10.out.alloc (nrC c core (ptr p.kb) (ptr b2) (ptr xb) (ptr d2)) RnT
    go_simp
    obtain ⟨z11, hY⟩ : ∃ Y, (z10).alloc (.cells (nrC c core (ptr p.kb) (ptr b2) (ptr xb) (ptr d2)) RnT) = Y := ⟨_, rfl⟩
    obtain ⟨n2, hn2⟩ : ∃ d2, (z10).heap.size = d2 := ⟨_, rfl⟩
    rw [hY, hn2] at hx
    rw [hY, hn2]
    have HSq11 := Lib.hid hx
    have HS : (fun X : World => (TCfg.ld (.pointer (some ⟨cb, 0, none⟩))).run Tryz.prog X = .ok (.agg (CC c)) X ∧ X.cell? ⟨cb, 6, none⟩ = some (.int .i64 c.nest)) z11 := ⟨TCfg.ld_at (CC_isN c) (HSq11.out.box 9 rfl).whole, (HSq11.out.box 9 rfl).cell 6⟩
    clear hx hY hn2
    refine hK.out _ _ HS (fun hHeld2 => ?_)
    clear hK hHeld2 hHeld; have hHeld := HS; clear HS
    try simp only [Act.put, rns]
    refine rgn 13 (v := ?vq36) hHeld ?yq36 ?_
    case yq36 => (intro w hSw; go_simp; try with_reducible rfl)
    simp only [Act.put, rns]
    refine rgn 14 (v := ?vq37) hHeld ?yq37 ?_
    case yq37 => (intro w hSw; go_simp; try with_reducible rfl)
    simp only [Act.put, rns]
    refine wpAnyH_done (by kernel_rfl) ?_ _
    clear hHeld
    go_wp2_with fail
    go_ret2
    have hx := ((((((((((HSq11.out.pickN 5 rfl).pickN 4 rfl).pickN 4 rfl).pickN 4 rfl).pickN 5 rfl).pickN 5 rfl).pickN 8 rfl).pickN 8 rfl).pickN 8 rfl)).drop 9 (by simp)
    have hdn : (Ns.new c core).dn = d := by
      show (c.blocks - c.cores * c.logs).toNat = d
      rw [HD.out]; rfl
    have hm := HC.out
    have hdat := PL.mul_small HC.out.1 HC.out.2.2.1
    refine ⟨⟨p, n2, b2, xb, xr, xw, d2⟩, rfl, ?_, ⟨⟨HKF.out.1, HKF.out.2, BK.Inv.nil _ _ (by unfold May at hm; show 0 ≤ c.backs; omega), (fun z hz => by cases hz), ⟨Int.le_refl 0, by unfold May at hm; show 0 ≤ c.nest; omega⟩, ⟨Int.le_refl 0, (by decide : (0 : Int) ≤ 4294967295)⟩, ⟨Int.le_refl 0, (by decide : (0 : Int) ≤ 18446744073709551615)⟩, Nt.nil_ok⟩, KA.Good.nil, KA.Uniq.nil, fun b hb => (by cases hb)⟩⟩
    unfold Rd.objs Rd.tail
    rw [hdn]
    exact hx
end
end Go.Proofs.YtjgeflbhmhmjdaaGreat.NR
namespace Go.Proofs.YtjgeflbhmhmjdaaGreat.NR
open Go.RowKit
open BU (IsU words)
open PL (Cfg CC CV May)
open KA (Kp CIs OkA LT UT KT)
open DL (DS CD stampE)
attribute [local go_sem] Oper.semAt_some
attribute [local go_sem ↓] TNer.ld_eq TNer.st_eq TNer.al_eq TNer.bx_eq
attribute [local go_sem] TNer.al_run TNer.bx_run
section
variable {w0 W W' V : World} {a : Ad} {S : Ns} {L : List Obj}
theorem cells_isN {p : Kp} (h : S.Ok p) (a : Ad) : IsN 38 (S.cells a) := by
  have hq := Nt.Ok.isN h.q.isU
  refine ⟨by unfold Ns.cells; rw [Array.size_append, Array.size_append, head_size, hq.1]; rfl, fun u hu => ?_⟩
  unfold Ns.cells at hu
  rw [Array.mem_append, Array.mem_append] at hu
  rcases hu with hu | hu | hu
  · simp [Ns.head] at hu
    rcases hu with rfl | rfl | rfl | rfl | rfl | rfl | rfl | rfl | rfl | rfl | rfl | rfl | rfl <;> rfl
  · exact hq.2 u hu
  · simp at hu; subst hu; rfl
theorem cells_ch (S : Ns) (a a' : Ad) : ((((S.cells a).setIfInBounds 9 (ptr a'.p.kb)).setIfInBounds 10 (ptr a'.bb)).setIfInBounds 11 (ptr a'.xk)).setIfInBounds 12 (ptr a'.db) = S.cells a' := by
  unfold Ns.cells
  rw [Array.setIfInBounds_append_left (by rw [head_size]; decide), Array.setIfInBounds_append_left (by rw [Array.size_setIfInBounds, head_size]; decide), Array.setIfInBounds_append_left (by rw [Array.size_setIfInBounds, Array.size_setIfInBounds, head_size]; decide), Array.setIfInBounds_append_left (by rw [Array.size_setIfInBounds, Array.size_setIfInBounds, Array.size_setIfInBounds, head_size]; decide)]
  rfl
theorem ldN (h : NIs w0 W a S L) : (TNer.ld (.pointer (some ⟨a.nb, 0, none⟩))).run Tryz.prog W = .ok (.agg (S.cells a)) W := TNer.ld_at (cells_isN h.ok a) h.box.whole
set_option maxRecDepth 100000 in
set_option maxHeartbeats 4000000 in
theorem ncopy_is (h : NIs w0 W a S L) : Calls Tryz.prog 22 #[ptr a.nb] W fun e W' => ∃ a' : Ad, e = .returned (ptr a'.nb) ∧ NIs w0 W' a' S (a.objs S L) ∧ a'.p.s = a.p.s ∧ a'.p.y = a.p.y := by
  have l0 := ldN h
  have HN := Lib.hid (cells_isN h.ok a)
  have s0 := TNer.st_new HN.out W
  have h1 := h.sep.alloc (S.cells a) NrT
  obtain ⟨xo, hxo⟩ : ∃ x, W.heap.size = x := ⟨_, rfl⟩
  obtain ⟨V, hV⟩ : ∃ V, W.alloc (.cells (S.cells a) NrT) = V := ⟨_, rfl⟩
  rw [hxo, hV] at h1 s0
  have HS0 := Lib.hid (h1.upd0 (Upd.drew NoF V))
  have HOK := Lib.hid h.ok
  obtain ⟨cs, hcs⟩ : ∃ x, S.cells a = x := ⟨_, rfl⟩
  rw [hcs] at l0 s0
  have HCS := Lib.hid hcs
  clear h h1 hcs HN
  go_enter Tryz.func22, Tryz.ntmps22
  go_upto_region 4 with fail
  clear l0 s0 hxo
  refine wp_region_held_drew (S := (fun X : World => X.cell? ⟨a.nb, 9, none⟩ = some (ptr a.p.kb) ∧ X.cell? ⟨a.nb, 10, none⟩ = some (ptr a.bb) ∧ X.cell? ⟨a.nb, 11, none⟩ = some (ptr a.xk) ∧ X.cell? ⟨a.nb, 12, none⟩ = some (ptr a.db))) (by kernel_rfl) (⟨((HS0.out.box 4 rfl).cell 9).trans (cells_head S a (by decide)), ((HS0.out.box 4 rfl).cell 10).trans (cells_head S a (by decide)), ((HS0.out.box 4 rfl).cell 11).trans (cells_head S a (by decide)), ((HS0.out.box 4 rfl).cell 12).trans (cells_head S a (by decide))⟩) (fun hHeld => ?_)
  obtain ⟨z0, hz0⟩ : ∃ X, V.drew = X := ⟨_, rfl⟩
  rw [hz0] at hHeld HS0 ⊢
  clear hz0 hV
  refine rgn 0 (v := ?vq1) hHeld ?yq1 ?_
  case yq1 => (intro w hSw; obtain ⟨k0, k1, k2, k3⟩ := hSw; go_simp; try with_reducible rfl)
  simp only [Act.put, rns]
  refine rgn 1 (v := ?vq2) hHeld ?yq2 ?_
  case yq2 => (intro w hSw; obtain ⟨k0, k1, k2, k3⟩ := hSw; go_simp; try with_reducible rfl)
  simp only [Act.put, rns]
  refine rgn 2 (v := ?vq3) hHeld ?yq3 ?_
  case yq3 => (intro w hSw; obtain ⟨k0, k1, k2, k3⟩ := hSw; go_simp; try with_reducible rfl)
  simp only [Act.put, rns]
  refine rgn 3 (v := ?vq4) hHeld ?yq4 ?_
  case yq4 => (intro w hSw; obtain ⟨k0, k1, k2, k3⟩ := hSw; go_simp; try with_reducible rfl)
  simp only [Act.put, rns]
  refine rgn 5 (v := ?vq5) hHeld ?yq5 ?_
  case yq5 => (intro w hSw; obtain ⟨k0, k1, k2, k3⟩ := hSw; go_simp; try with_reducible rfl)
  simp only [Act.put, rns]
  refine rgn 6 (v := ?vq6) hHeld ?yq6 ?_
  case yq6 => (intro w hSw; obtain ⟨k0, k1, k2, k3⟩ := hSw; go_simp; try with_reducible rfl)
  simp only [Act.put, rns]
  refine rgn 7 (v := ?vq7) hHeld ?yq7 ?_
  case yq7 => (intro w hSw; obtain ⟨k0, k1, k2, k3⟩ := hSw; go_simp; try with_reducible rfl)
  simp only [Act.put, rns]
  refine rgn 8 (v := ?vq8) hHeld ?yq8 ?_
  case yq8 => (intro w hSw; obtain ⟨k0, k1, k2, k3⟩ := hSw; go_simp; try with_reducible rfl)
  simp only [Act.put, rns]
  refine rgn 10 (v := ?vq9) hHeld ?yq9 ?_
  case yq9 => (intro w hSw; obtain ⟨k0, k1, k2, k3⟩ := hSw; go_simp; try with_reducible rfl)
  simp only [Act.put, rns]
  refine rgn 11 (v := ?vq10) hHeld ?yq10 ?_
  case yq10 => (intro w hSw; obtain ⟨k0, k1, k2, k3⟩ := hSw; go_simp; try with_reducible rfl)
  simp only [Act.put, rns]
  refine rgn 12 (v := ?vq11) hHeld ?yq11 ?_
  case yq11 => (intro w hSw; obtain ⟨k0, k1, k2, k3⟩ := hSw; go_simp; try with_reducible rfl)
  simp only [Act.put, rns]
  refine rgn 13 (v := ?vq12) hHeld ?yq12 ?_
  case yq12 => (intro w hSw; obtain ⟨k0, k1, k2, k3⟩ := hSw; go_simp; try with_reducible rfl)
  simp only [Act.put, rns]
  refine rgn 15 (v := ?vq13) hHeld ?yq13 ?_
  case yq13 => (intro w hSw; obtain ⟨k0, k1, k2, k3⟩ := hSw; go_simp; try with_reducible rfl)
  simp only [Act.put, rns]
  refine rgn 16 (v := ?vq14) hHeld ?yq14 ?_
  case yq14 => (intro w hSw; obtain ⟨k0, k1, k2, k3⟩ := hSw; go_simp; try with_reducible rfl)
  simp only [Act.put, rns]
  refine rgn 17 (v := ?vq15) hHeld ?yq15 ?_
  case yq15 => (intro w hSw; obtain ⟨k0, k1, k2, k3⟩ := hSw; go_simp; try with_reducible rfl)
  simp only [Act.put, rns]
  refine rgn 18 (v := ?vq16) hHeld ?yq16 ?_
  case yq16 => (intro w hSw; obtain ⟨k0, k1, k2, k3⟩ := hSw; go_simp; try with_reducible rfl)
  simp only [Act.put, rns]
  refine reg_step (i := 4) (by kernel_rfl) rfl (by kernel_rfl) (fun K hK => ?_)
  go_simp
  refine (KA.copy_is (L := boxO xo (S.cells a) NrT :: boxO a.nb (S.cells a) NrT :: BK.Bo a.bb S.data S.zs S.c.backs :: MK.marksO a.xk a.mb S.data :: MK.mmO a.mb S.n S.f :: boxO a.db (CD S.c.nest S.d) DT :: L) ⟨HS0.out.sink 3, HOK.out.fits, HOK.out.okA⟩).mono ?_
  rintro e z1 ⟨p2, rfl, hc, hp1, hp2, _⟩
  have HPS := Lib.hid (And.intro hp1 hp2)
  have HPF := Lib.hid (And.intro hc.fits hc.ok)
  have HSq1 := Lib.hid hc.sep
  have HS : (fun X : World => X.cell? ⟨a.nb, 9, none⟩ = some (ptr a.p.kb) ∧ X.cell? ⟨a.nb, 10, none⟩ = some (ptr a.bb) ∧ X.cell? ⟨a.nb, 11, none⟩ = some (ptr a.xk) ∧ X.cell? ⟨a.nb, 12, none⟩ = some (ptr a.db)) z1 := ⟨((HSq1.out.box 7 rfl).cell 9).trans (cells_head S a (by decide)), ((HSq1.out.box 7 rfl).cell 10).trans (cells_head S a (by decide)), ((HSq1.out.box 7 rfl).cell 11).trans (cells_head S a (by decide)), ((HSq1.out.box 7 rfl).cell 12).trans (cells_head S a (by decide))⟩
  clear hc hp1 hp2
  go_wp2_with fail
  refine hK.out _ _ HS (fun hHeld2 => ?_)
  clear hK hHeld2 hHeld; have hHeld := HS; clear HS
  try simp only [Act.put, rns]
  refine reg_step (i := 9) (by kernel_rfl) rfl (by kernel_rfl) (fun K hK => ?_)
  go_simp
  refine (BK.s_copy HSq1.out 8 rfl HOK.out.inv HOK.out.room).mono ?_
  rintro e z2 ⟨b2, rfl, hc⟩
  have HSq2 := Lib.hid hc
  have HS : (fun X : World => X.cell? ⟨a.nb, 9, none⟩ = some (ptr a.p.kb) ∧ X.cell? ⟨a.nb, 10, none⟩ = some (ptr a.bb) ∧ X.cell? ⟨a.nb, 11, none⟩ = some (ptr a.xk) ∧ X.cell? ⟨a.nb, 12, none⟩ = some (ptr a.db)) z2 := ⟨((HSq2.out.box 8 rfl).cell 9).trans (cells_head S a (by decide)), ((HSq2.out.box 8 rfl).cell 10).trans (cells_head S a (by decide)), ((HSq2.out.box 8 rfl).cell 11).trans (cells_head S a (by decide)), ((HSq2.out.box 8 rfl).cell 12).trans (cells_head S a (by decide))⟩
  clear hc
  go_wp2_with fail
  refine hK.out _ _ HS (fun hHeld2 => ?_)
  clear hK hHeld2 hHeld; have hHeld := HS; clear HS
  try simp only [Act.put, rns]
  refine reg_step (i := 14) (by kernel_rfl) rfl (by kernel_rfl) (fun K hK => ?_)
  go_simp
  refine (MK.copy_any (⟨(HSq2.out.pickN 11 rfl).pickN 11 rfl⟩ : MK.KIs w0 _ a.xk a.mb S.n S.data S.f _)).mono ?_
  rintro e z3 ⟨x2, m2, rfl, hc⟩
  have HSq3 := Lib.hid hc.sep
  have HS : (fun X : World => X.cell? ⟨a.nb, 9, none⟩ = some (ptr a.p.kb) ∧ X.cell? ⟨a.nb, 10, none⟩ = some (ptr a.bb) ∧ X.cell? ⟨a.nb, 11, none⟩ = some (ptr a.xk) ∧ X.cell? ⟨a.nb, 12, none⟩ = some (ptr a.db)) z3 := ⟨((HSq3.out.box 12 rfl).cell 9).trans (cells_head S a (by decide)), ((HSq3.out.box 12 rfl).cell 10).trans (cells_head S a (by decide)), ((HSq3.out.box 12 rfl).cell 11).trans (cells_head S a (by decide)), ((HSq3.out.box 12 rfl).cell 12).trans (cells_head S a (by decide))⟩
  clear hc
  go_wp2_with fail
  refine hK.out _ _ HS (fun hHeld2 => ?_)
  clear hK hHeld2 hHeld; have hHeld := HS; clear HS
  try simp only [Act.put, rns]
  refine reg_step (i := 19) (by kernel_rfl) rfl (by kernel_rfl) (fun K hK => ?_)
  go_simp
  refine (DL.copy_any a.db S.c.nest S.d _ (HSq3.out.box 14 rfl)).mono ?_
  rintro e z4 ⟨rfl, hd, hu⟩
  obtain ⟨d2, hd2⟩ : ∃ d2, z3.heap.size = d2 := ⟨_, rfl⟩
  have hc := HSq3.out.push (Φ := boxO z3.heap.size (CD S.c.nest S.d) DT) hu ⟨hd, Nat.le_refl _⟩
  rw [hd2] at hc ⊢
  have HSq4 := Lib.hid hc
  have HS : (fun X : World => X.cell? ⟨a.nb, 9, none⟩ = some (ptr a.p.kb) ∧ X.cell? ⟨a.nb, 10, none⟩ = some (ptr a.bb) ∧ X.cell? ⟨a.nb, 11, none⟩ = some (ptr a.xk) ∧ X.cell? ⟨a.nb, 12, none⟩ = some (ptr a.db)) z4 := ⟨((HSq4.out.box 13 rfl).cell 9).trans (cells_head S a (by decide)), ((HSq4.out.box 13 rfl).cell 10).trans (cells_head S a (by decide)), ((HSq4.out.box 13 rfl).cell 11).trans (cells_head S a (by decide)), ((HSq4.out.box 13 rfl).cell 12).trans (cells_head S a (by decide))⟩
  clear hc hd hu
  simp only [hd2]
  clear hd2
  go_wp2_with fail
  refine hK.out _ _ HS (fun hHeld2 => ?_)
  clear hK hHeld2 hHeld; have hHeld := HS; clear HS
  try simp only [Act.put, rns]
  refine rgn 20 (v := ?vq17) hHeld ?yq17 ?_
  case yq17 => (intro w hSw; obtain ⟨k0, k1, k2, k3⟩ := hSw; go_simp; try with_reducible rfl)
  simp only [Act.put, rns]
  refine reg_step (i := 21) (by kernel_rfl) rfl (by kernel_rfl) (fun K hK => ?_)
  have ck : z4.cell? ⟨xo, 9, none⟩ = some (ptr a.p.kb) := ((HSq4.out.box 12 rfl).cell 9).trans (by skip; exact cells_head S a (by decide))
  have fk : z4.frozen? ⟨xo, 9, none⟩ = false := (HSq4.out.box 12 rfl).frozen 9
  have hc := HSq4.out.set 12 rfl 9 (ptr p2.kb)
  go_simp
  obtain ⟨z5, hY⟩ : ∃ X, z4.setCell ⟨xo, 9, none⟩ (ptr p2.kb) = X := ⟨_, rfl⟩
  rw [hY] at hc
  have HSq5 := Lib.hid hc
  try simp only [hY]
  have HS : (fun X : World => X.cell? ⟨a.nb, 9, none⟩ = some (ptr a.p.kb) ∧ X.cell? ⟨a.nb, 10, none⟩ = some (ptr a.bb) ∧ X.cell? ⟨a.nb, 11, none⟩ = some (ptr a.xk) ∧ X.cell? ⟨a.nb, 12, none⟩ = some (ptr a.db)) z5 := ⟨((HSq5.out.box 13 rfl).cell 9).trans (cells_head S a (by decide)), ((HSq5.out.box 13 rfl).cell 10).trans (cells_head S a (by decide)), ((HSq5.out.box 13 rfl).cell 11).trans (cells_head S a (by decide)), ((HSq5.out.box 13 rfl).cell 12).trans (cells_head S a (by decide))⟩
  clear hc hY ck fk
  refine hK.out _ _ HS (fun hHeld2 => ?_)
  clear hK hHeld2 hHeld; have hHeld := HS; clear HS
  try simp only [Act.put, rns]
  refine rgn 22 (v := ?vq18) hHeld ?yq18 ?_
  case yq18 => (intro w hSw; obtain ⟨k0, k1, k2, k3⟩ := hSw; go_simp; try with_reducible rfl)
  simp only [Act.put, rns]
  refine reg_step (i := 23) (by kernel_rfl) rfl (by kernel_rfl) (fun K hK => ?_)
  have ck : z5.cell? ⟨xo, 10, none⟩ = some (ptr a.bb) := ((HSq5.out.box 12 rfl).cell 10).trans (by skip; rw [Array.getElem?_setIfInBounds_ne (by decide)]; exact cells_head S a (by decide))
  have fk : z5.frozen? ⟨xo, 10, none⟩ = false := (HSq5.out.box 12 rfl).frozen 10
  have hc := HSq5.out.set 12 rfl 10 (ptr b2)
  go_simp
  obtain ⟨z6, hY⟩ : ∃ X, z5.setCell ⟨xo, 10, none⟩ (ptr b2) = X := ⟨_, rfl⟩
  rw [hY] at hc
  have HSq6 := Lib.hid hc
  try simp only [hY]
  have HS : (fun X : World => X.cell? ⟨a.nb, 9, none⟩ = some (ptr a.p.kb) ∧ X.cell? ⟨a.nb, 10, none⟩ = some (ptr a.bb) ∧ X.cell? ⟨a.nb, 11, none⟩ = some (ptr a.xk) ∧ X.cell? ⟨a.nb, 12, none⟩ = some (ptr a.db)) z6 := ⟨((HSq6.out.box 13 rfl).cell 9).trans (cells_head S a (by decide)), ((HSq6.out.box 13 rfl).cell 10).trans (cells_head S a (by decide)), ((HSq6.out.box 13 rfl).cell 11).trans (cells_head S a (by decide)), ((HSq6.out.box 13 rfl).cell 12).trans (cells_head S a (by decide))⟩
  clear hc hY ck fk
  refine hK.out _ _ HS (fun hHeld2 => ?_)
  clear hK hHeld2 hHeld; have hHeld := HS; clear HS
  try simp only [Act.put, rns]
  refine rgn 24 (v := ?vq19) hHeld ?yq19 ?_
  case yq19 => (intro w hSw; obtain ⟨k0, k1, k2, k3⟩ := hSw; go_simp; try with_reducible rfl)
  simp only [Act.put, rns]
  refine reg_step (i := 25) (by kernel_rfl) rfl (by kernel_rfl) (fun K hK => ?_)
  have ck : z6.cell? ⟨xo, 11, none⟩ = some (ptr a.xk) := ((HSq6.out.box 12 rfl).cell 11).trans (by skip; rw [Array.getElem?_setIfInBounds_ne (by decide)]; rw [Array.getElem?_setIfInBounds_ne (by decide)]; exact cells_head S a (by decide))
  have fk : z6.frozen? ⟨xo, 11, none⟩ = false := (HSq6.out.box 12 rfl).frozen 11
  have hc := HSq6.out.set 12 rfl 11 (ptr x2)
  go_simp
  obtain ⟨z7, hY⟩ : ∃ X, z6.setCell ⟨xo, 11, none⟩ (ptr x2) = X := ⟨_, rfl⟩
  rw [hY] at hc
  have HSq7 := Lib.hid hc
  try simp only [hY]
  have HS : (fun X : World => X.cell? ⟨a.nb, 9, none⟩ = some (ptr a.p.kb) ∧ X.cell? ⟨a.nb, 10, none⟩ = some (ptr a.bb) ∧ X.cell? ⟨a.nb, 11, none⟩ = some (ptr a.xk) ∧ X.cell? ⟨a.nb, 12, none⟩ = some (ptr a.db)) z7 := ⟨((HSq7.out.box 13 rfl).cell 9).trans (cells_head S a (by decide)), ((HSq7.out.box 13 rfl).cell 10).trans (cells_head S a (by decide)), ((HSq7.out.box 13 rfl).cell 11).trans (cells_head S a (by decide)), ((HSq7.out.box 13 rfl).cell 12).trans (cells_head S a (by decide))⟩
  clear hc hY ck fk
  refine hK.out _ _ HS (fun hHeld2 => ?_)
  clear hK hHeld2 hHeld; have hHeld := HS; clear HS
  try simp only [Act.put, rns]
  refine rgn 26 (v := ?vq20) hHeld ?yq20 ?_
  case yq20 => (intro w hSw; obtain ⟨k0, k1, k2, k3⟩ := hSw; go_simp; try with_reducible rfl)
  simp only [Act.put, rns]
  refine reg_step (i := 27) (by kernel_rfl) rfl (by kernel_rfl) (fun K hK => ?_)
  have ck : z7.cell? ⟨xo, 12, none⟩ = some (ptr a.db) := ((HSq7.out.box 12 rfl).cell 12).trans (by skip; rw [Array.getElem?_setIfInBounds_ne (by decide)]; rw [Array.getElem?_setIfInBounds_ne (by decide)]; rw [Array.getElem?_setIfInBounds_ne (by decide)]; exact cells_head S a (by decide))
  have fk : z7.frozen? ⟨xo, 12, none⟩ = false := (HSq7.out.box 12 rfl).frozen 12
  have hc := HSq7.out.set 12 rfl 12 (ptr d2)
  go_simp
  obtain ⟨z8, hY⟩ : ∃ X, z7.setCell ⟨xo, 12, none⟩ (ptr d2) = X := ⟨_, rfl⟩
  rw [hY] at hc
  have HSq8 := Lib.hid hc
  try simp only [hY]
  have HS : (fun X : World => X.cell? ⟨a.nb, 9, none⟩ = some (ptr a.p.kb) ∧ X.cell? ⟨a.nb, 10, none⟩ = some (ptr a.bb) ∧ X.cell? ⟨a.nb, 11, none⟩ = some (ptr a.xk) ∧ X.cell? ⟨a.nb, 12, none⟩ = some (ptr a.db)) z8 := ⟨((HSq8.out.box 13 rfl).cell 9).trans (cells_head S a (by decide)), ((HSq8.out.box 13 rfl).cell 10).trans (cells_head S a (by decide)), ((HSq8.out.box 13 rfl).cell 11).trans (cells_head S a (by decide)), ((HSq8.out.box 13 rfl).cell 12).trans (cells_head S a (by decide))⟩
  clear hc hY ck fk
  refine hK.out _ _ HS (fun hHeld2 => ?_)
  clear hK hHeld2 hHeld; have hHeld := HS; clear HS
  try simp only [Act.put, rns]
  refine wpAnyH_done (by kernel_rfl) ?_ _
  clear hHeld
  go_wp2
  go_ret
  have hc := (((((((((((((((HSq8.out.pickN 4 rfl).pickN 4 rfl).pickN 14 rfl).pickN 14 rfl).pickN 13 rfl).pickN 13 rfl).pickN 13 rfl).pickN 7 rfl).pickN 9 rfl).pickN 9 rfl).pickN 10 rfl).pickN 14 rfl).pickN 14 rfl).pickN 14 rfl).pickN 14 rfl)
  have e1 := cells_ch S a ⟨p2, xo, b2, x2, m2, d2⟩
  have e1 : ((((S.cells a).setIfInBounds 9 (ptr p2.kb)).setIfInBounds 10 (ptr b2)).setIfInBounds 11 (ptr x2)).setIfInBounds 12 (ptr d2) = S.cells ⟨p2, xo, b2, x2, m2, d2⟩ := e1
  rw [e1] at hc
  exact ⟨⟨p2, xo, b2, x2, m2, d2⟩, rfl, ⟨hc, ⟨HPF.out.1, HPF.out.2, HOK.out.inv, HOK.out.allU, HOK.out.dep, HOK.out.ca, HOK.out.st, HOK.out.q⟩⟩, HPS.out.1, HPS.out.2⟩
end
end Go.Proofs.YtjgeflbhmhmjdaaGreat.NR
