/- The contracts of package net: way, Room. -/
import Derived.Test.YtmfhbobjambgaaaNetF
set_option linter.unusedSimpArgs false
set_option linter.unusedVariables false
namespace Go.Proofs.Ytmfhbobjambgaaa.NE
open Go.RowKit
open BU (IsU words)
open PL (Cfg CC CV May)
open GR (plc hopsN)
attribute [local go_sem] Oper.semAt_some
attribute [local go_sem ↓] eqN_eq neN_eq eqB_eq neB_eq TNot.ld_eq TNot.st_eq TNot.al_eq TNot.bx_eq
attribute [local go_sem] TNot.al_run TNot.bx_run
theorem run_store_complex {P : Program} {w : World} {a : Addr} {m : Mode} (k : FloatKind) (x y : Nat) : (store a (.complex k x y) m).run P w = stored P w a (.complex k x y) m := run_store P w a _ m rfl
attribute [local go_sem] run_store_complex
theorem run_index_arr {P : Program} {t e : TypeId} {n : Nat} (h : P.underlying t = some (.array n e)) (ha : ∀ w, (isAgg e).run P w = .ok false w) (hs : ∀ w, (sizeOf e).run P w = .ok 1 w) (w : World) (k : IntKind) (cs : Array Value) (i : Nat) (hi : i < n) (v : Value) (hv : cs[i]? = some v) :
    (Instr.index t (.agg cs) (.int k i)).run P w = .ok v w := by
  have hi' : (i : Int) < (n : Int) := by omega
  simp [Instr.index, run_underlying h, asIntOf, go_sem, hi', hs, part, ha, hv]
  intro h; omega
set_option maxRecDepth 100000 in
set_option maxHeartbeats 1000000 in
theorem way_any (n : Nt) (hn : n.Ok) (hm : MayN n = true) (w : World) : Calls Try.prog 41 #[.agg n.cells] w fun e w' => e = .returned (.int .i64 (hopsN n.frm n.too)) ∧ Upd NoF w w' := by
  have hen := may_ends hm
  have HP1 := GR.place_any n.frm (by omega)
  have HP2 := GR.place_any n.too (by omega)
  have HH := GR.hops_any n.frm n.too (by omega)
  obtain ⟨a1, a2, ha⟩ : ∃ a1 a2, plc n.frm = .complex .f64 a1 a2 := ⟨_, _, rfl⟩
  obtain ⟨b1, b2, hb⟩ : ∃ b1 b2, plc n.too = .complex .f64 b1 b2 := ⟨_, _, rfl⟩
  rw [ha] at HP1 HH
  rw [hb] at HP2 HH
  generalize hopsN n.frm n.too = hh at *
  have HP1h := Lib.hid HP1; have HP2h := Lib.hid HP2; have HHh := Lib.hid HH
  clear HP1 HP2 HH ha hb hen hm
  have ix0 : ∀ w, (Instr.index 46 (.agg #[.int .i64 n.frm, .int .i64 n.too]) (.int .i64 0)).run Try.prog w = .ok (.int .i64 n.frm) w := fun (w : World) => run_index_arr (P := Try.prog) Try.underlying46 Try.isAgg3 Try.sizeOf3 w .i64 #[.int .i64 n.frm, .int .i64 n.too] 0 (by omega) (.int .i64 n.frm) rfl
  have ix1 : ∀ w, (Instr.index 46 (.agg #[.int .i64 n.frm, .int .i64 n.too]) (.int .i64 1)).run Try.prog w = .ok (.int .i64 n.too) w := fun (w : World) => run_index_arr (P := Try.prog) Try.underlying46 Try.isAgg3 Try.sizeOf3 w .i64 #[.int .i64 n.frm, .int .i64 n.too] 1 (by omega) (.int .i64 n.too) rfl
  have e1 := n.get1; have e2 := n.get2
  have hu := Upd.alloc NoF w (.cells n.cells 37)
  have q := Blk.new w n.cells 37
  obtain ⟨V, hV⟩ : ∃ V, w.alloc (.cells n.cells 37) = V := ⟨_, rfl⟩
  rw [hV] at hu q
  have hlt := q.lt
  have hu2 := hu.trans (Upd.alloc NoF V (.cells #[.complex .f64 0 0, .complex .f64 0 0] 92)) (fun _ _ h => h)
  have q2 := Blk.new V #[.complex .f64 0 0, .complex .f64 0 0] 92
  have f1 : (V.alloc (.cells #[.complex .f64 0 0, .complex .f64 0 0] 92)).cell? ⟨w.heap.size, 1, none⟩ = some (.int .i64 n.frm) := ((q.alloc _).cell 1).trans n.get1
  have f2 : (V.alloc (.cells #[.complex .f64 0 0, .complex .f64 0 0] 92)).cell? ⟨w.heap.size, 2, none⟩ = some (.int .i64 n.too) := ((q.alloc _).cell 2).trans n.get2
  obtain ⟨U, hU⟩ : ∃ U, V.alloc (.cells #[.complex .f64 0 0, .complex .f64 0 0] 92) = U := ⟨_, rfl⟩
  rw [hU] at hu2 q2 f1 f2
  have HV := Lib.hid hV; have HU := Lib.hid hU; have HU2 := Lib.hid hu2; have HQ2 := Lib.hid q2
  have hvs : w.heap.size ≤ V.heap.size := by omega
  clear hV hU hu q hu2 q2 hlt
  go_enter Try.func41, Try.ntmps41
  go_upto_region 1 with fail
  rw [HV.out]
  clear e1 e2
  go_upto_region 2 with fail
  rw [HU.out]
  obtain ⟨eb, heb⟩ : ∃ b, V.heap.size = b := ⟨_, rfl⟩
  rw [heb] at HQ2 hvs ⊢
  go_wp2_with fail
  go_loopw [13] (fun i wr => ∃ k : Nat, k ≤ 2 ∧ i = .int .i64 k ∧ Hid (Blk wr eb (if k = 0 then #[.complex .f64 0 0, .complex .f64 0 0] else if k = 1 then #[.complex .f64 a1 a2, .complex .f64 0 0] else #[.complex .f64 a1 a2, .complex .f64 b1 b2]) 92 ∧ Upd NoF w wr)) (fun i _ => 2 - (intOf i).toNat)
  case atStart => exact ⟨0, by omega, rfl, HQ2.out, HU2.out⟩
  case round =>
    obtain ⟨k, hk, rfl, HI⟩ := hrel
    have : k = 0 ∨ k = 1 ∨ k = 2 := by omega
    rcases this with rfl | rfl | rfl
    · have hb0 := HI.out.1
      rw [if_pos rfl] at hb0
      have z0 := hb0.frozen 0
      have c0 : wr.cell? ⟨eb, 0, none⟩ = some (.complex .f64 0 0) := hb0.cell 0
      have HN := Lib.hid (And.intro (hb0.set 0 (.complex .f64 a1 a2)) (HI.out.2.trans (Upd.setCell (F := fun i => i = eb) wr (p := ⟨eb, 0, none⟩) rfl (.complex .f64 a1 a2)) (fun i hi h => by have e : i = eb := h; omega)))
      clear hb0
      go_wp2_with fail
      refine (HP1h.out _).mono ?_
      rintro e w9 ⟨rfl, rfl⟩
      go_wp2_with fail
      exact ⟨⟨1, by omega, by go_num, HN.out⟩, by simp [intOf]⟩
    · have hb0 := HI.out.1
      rw [if_neg (by decide), if_pos rfl] at hb0
      have z0 := hb0.frozen 1
      have c0 : wr.cell? ⟨eb, 1, none⟩ = some (.complex .f64 0 0) := hb0.cell 1
      have HN := Lib.hid (And.intro (hb0.set 1 (.complex .f64 b1 b2)) (HI.out.2.trans (Upd.setCell (F := fun i => i = eb) wr (p := ⟨eb, 1, none⟩) rfl (.complex .f64 b1 b2)) (fun i hi h => by have e : i = eb := h; omega)))
      clear hb0
      go_wp2_with fail
      refine (HP2h.out _).mono ?_
      rintro e w9 ⟨rfl, rfl⟩
      go_wp2_with fail
      exact ⟨⟨2, by omega, by go_num, HN.out⟩, by simp [intOf]⟩
    · have hb0 := HI.out.1
      rw [if_neg (by decide), if_neg (by decide)] at hb0
      have c0 : wr.cell? ⟨eb, 0, none⟩ = some (.complex .f64 a1 a2) := hb0.cell 0
      have c1 : wr.cell? ⟨eb, 1, none⟩ = some (.complex .f64 b1 b2) := hb0.cell 1
      clear hb0
      go_wp2_with fail
      refine (HHh.out _).mono ?_
      rintro e w9 ⟨rfl, rfl⟩
      go_wp2
      go_ret
      exact ⟨rfl, HI.out.2⟩
end Go.Proofs.Ytmfhbobjambgaaa.NE
