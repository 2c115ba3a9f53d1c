/- undertow/near.Near: made, loaded and stored at one stroke. -/
import Derived.Test.YtjgeflbhmhmjdaaGreatSep
import Derived.Test.YtjgeflbhmhmjdaaGreatNearF
import Derived.Test.YtjgeflbhmhmjdaaGreatDealOps
import Derived.Deep.QuietTactic
import Derived.BigQuiet
import Derived.Test.YtjgeflbhmhmjdaaGreatNearI
import Derived.Test.YtjgeflbhmhmjdaaGreatNearK
set_option linter.unusedSimpArgs false
set_option linter.unusedVariables false
namespace Go.Proofs.YtjgeflbhmhmjdaaGreat.TNer
open Go.RowKit
def Z : Array Value := #[.int .i64 0, .int .i64 0, .int .i64 0, .int .i64 0, .int .i64 0, .int .i64 0, .int .i64 0, .int .i64 0, .int .i64 0, .pointer none, .pointer none, .pointer none, .pointer none, .int .u8 0, .int .i64 0, .int .i64 0, .int .i64 0, .int .u64 0, .int .u8 0, .bool false, .bool false, .int .u32 0, .int .u32 0, .int .u32 0, .int .u32 0, .int .u32 0, .int .u32 0, .int .u32 0, .int .u32 0, .int .u32 0, .int .u32 0, .int .u32 0, .int .u32 0, .int .u32 0, .int .u32 0, .int .u32 0, .int .u32 0, .bool false]
theorem size_Z : Z.size = 38 := by kernel_rfl
theorem infoZ : (Tryz.prog.info? 88).map (fun i => (i.zero, i.size)) = some (some (.agg Z), 38) := by kernel_rfl
theorem infoS : (Tryz.prog.info? 88).map (·.size) = some 38 := by kernel_rfl
theorem infoSZ : (Tryz.prog.info? 88).map (·.size) = some Z.size := by kernel_rfl
def ld (v : Value) : Sem Value := Instr.loadAt 88 v
def st (p v : Value) : Sem Unit := Instr.storeAt 88 p v
def bx (v : Value) : Sem Value := Instr.box 88 v
def al : Sem Value := Instr.alloc 88 true (.tuple #[])
theorem ld_eq (v : Value) : Instr.loadAt 88 v = ld v := rfl
theorem st_eq (p v : Value) : Instr.storeAt 88 p v = st p v := rfl
theorem bx_eq (v : Value) : Instr.box 88 v = bx v := rfl
theorem al_eq : Instr.alloc 88 true (.tuple #[]) = al := rfl
theorem al_run (w : World) : al.run Tryz.prog w = .ok (.pointer (some ⟨w.heap.size, 0, none⟩)) (w.alloc (.cells Z 88)) := agg_alloc (agg_zero infoZ) w
theorem bx_run (x : Array Value) (w : World) : (bx (.agg x)).run Tryz.prog w = .ok (.pointer (some ⟨w.heap.size, 0, none⟩)) (w.alloc (.cells x 88)) := agg_box x w
theorem st_new {x : Array Value} (hx : IsN 38 x) (w : World) : (st (.pointer (some ⟨w.heap.size, 0, none⟩)) (.agg x)).run Tryz.prog (w.alloc (.cells Z 88)) = .ok () (w.alloc (.cells x 88)) := agg_st_new infoSZ size_Z hx w
theorem ld_at {x : Array Value} (hx : IsN 38 x) {w : World} {b o : Nat} (h : w.rangeAt b o x.toList) : (ld (.pointer (some ⟨b, o, none⟩))).run Tryz.prog w = .ok (.agg x) w := agg_ld Tryz.underlying88 rfl infoS hx h
end Go.Proofs.YtjgeflbhmhmjdaaGreat.TNer
namespace Go.Proofs.YtjgeflbhmhmjdaaGreat.TCfg
open Go.RowKit
def Z : Array Value := #[.int .i64 0, .int .i64 0, .int .i64 0, .int .i64 0, .int .i64 0, .int .i64 0, .int .i64 0, .int .i64 0]
theorem size_Z : Z.size = 8 := by kernel_rfl
theorem infoZ : (Tryz.prog.info? 27).map (fun i => (i.zero, i.size)) = some (some (.agg Z), 8) := by kernel_rfl
theorem infoS : (Tryz.prog.info? 27).map (·.size) = some 8 := by kernel_rfl
theorem infoSZ : (Tryz.prog.info? 27).map (·.size) = some Z.size := by kernel_rfl
def ld (v : Value) : Sem Value := Instr.loadAt 27 v
def st (p v : Value) : Sem Unit := Instr.storeAt 27 p v
def bx (v : Value) : Sem Value := Instr.box 27 v
def al : Sem Value := Instr.alloc 27 true (.tuple #[])
theorem ld_eq (v : Value) : Instr.loadAt 27 v = ld v := rfl
theorem st_eq (p v : Value) : Instr.storeAt 27 p v = st p v := rfl
theorem bx_eq (v : Value) : Instr.box 27 v = bx v := rfl
theorem al_eq : Instr.alloc 27 true (.tuple #[]) = al := rfl
theorem al_run (w : World) : al.run Tryz.prog w = .ok (.pointer (some ⟨w.heap.size, 0, none⟩)) (w.alloc (.cells Z 27)) := agg_alloc (agg_zero infoZ) w
theorem bx_run (x : Array Value) (w : World) : (bx (.agg x)).run Tryz.prog w = .ok (.pointer (some ⟨w.heap.size, 0, none⟩)) (w.alloc (.cells x 27)) := agg_box x w
theorem ld_at {x : Array Value} (hx : IsN 8 x) {w : World} {b o : Nat} (h : w.rangeAt b o x.toList) : (ld (.pointer (some ⟨b, o, none⟩))).run Tryz.prog w = .ok (.agg x) w := agg_ld Tryz.underlying27 rfl infoS hx h
theorem ld_new {x : Array Value} (hx : IsN 8 x) (w : World) : (ld (.pointer (some ⟨w.heap.size, 0, none⟩))).run Tryz.prog (w.alloc (.cells x 27)) = .ok (.agg x) (w.alloc (.cells x 27)) := ld_at hx (Blk.new w x _).whole
end Go.Proofs.YtjgeflbhmhmjdaaGreat.TCfg
namespace Go.Proofs.YtjgeflbhmhmjdaaGreat.NR
open Go.RowKit
open BU (IsU words)
open PL (Cfg CC CV May)
open KA (Kp CIs OkA LT UT KT)
open DL (DS CD stampE)
abbrev CT : TypeId := 27
attribute [local go_sem] Oper.semAt_some
def bdR (parts : Array (Nat × Value)) : Sem Value := Instr.build NrT parts
theorem bdR_eq (parts : Array (Nat × Value)) : Instr.build NrT parts = bdR parts := rfl
attribute [local go_sem ↓] TNer.ld_eq TNer.st_eq TNer.al_eq TNer.bx_eq TCfg.ld_eq TCfg.st_eq TCfg.al_eq TCfg.bx_eq bdR_eq
attribute [local go_sem] TNer.al_run TNer.bx_run TCfg.al_run TCfg.bx_run
theorem CC_isN (c : Cfg) : IsN 8 (CC c) := ⟨rfl, fun u hu => by simp [CC] at hu; rcases hu with rfl | rfl | rfl | rfl | rfl | rfl | rfl | rfl <;> rfl⟩
def nrC (c : Cfg) (core : Int) (v1 v2 v3 v4 : Value) : Array Value := #[.int .i64 c.cores, .int .i64 c.sets, .int .i64 c.ways, .int .i64 c.blocks, .int .i64 c.logs, .int .i64 c.backs, .int .i64 c.nest, .int .i64 c.tries,
  .int .i64 core, v1, v2, v3, v4] ++ (Nt.nil.cells ++ #[.bool false])
theorem nrC_set9 (c : Cfg) (core : Int) (v1 v2 v3 v4 x : Value) : (nrC c core v1 v2 v3 v4).setIfInBounds 9 x = nrC c core x v2 v3 v4 := by unfold nrC; rw [Array.setIfInBounds_append_left (by show 9 < 13; decide)]; rfl
theorem nrC_get9 (c : Cfg) (core : Int) (v1 v2 v3 v4 : Value) : (nrC c core v1 v2 v3 v4)[9]? = some v1 := by unfold nrC; rw [Array.getElem?_append_left (by show 9 < 13; decide)]; rfl
theorem nrC_set10 (c : Cfg) (core : Int) (v1 v2 v3 v4 x : Value) : (nrC c core v1 v2 v3 v4).setIfInBounds 10 x = nrC c core v1 x v3 v4 := by unfold nrC; rw [Array.setIfInBounds_append_left (by show 10 < 13; decide)]; rfl
theorem nrC_get10 (c : Cfg) (core : Int) (v1 v2 v3 v4 : Value) : (nrC c core v1 v2 v3 v4)[10]? = some v2 := by unfold nrC; rw [Array.getElem?_append_left (by show 10 < 13; decide)]; rfl
theorem nrC_set11 (c : Cfg) (core : Int) (v1 v2 v3 v4 x : Value) : (nrC c core v1 v2 v3 v4).setIfInBounds 11 x = nrC c core v1 v2 x v4 := by unfold nrC; rw [Array.setIfInBounds_append_left (by show 11 < 13; decide)]; rfl
theorem nrC_get11 (c : Cfg) (core : Int) (v1 v2 v3 v4 : Value) : (nrC c core v1 v2 v3 v4)[11]? = some v3 := by unfold nrC; rw [Array.getElem?_append_left (by show 11 < 13; decide)]; rfl
theorem nrC_set12 (c : Cfg) (core : Int) (v1 v2 v3 v4 x : Value) : (nrC c core v1 v2 v3 v4).setIfInBounds 12 x = nrC c core v1 v2 v3 x := by unfold nrC; rw [Array.setIfInBounds_append_left (by show 12 < 13; decide)]; rfl
theorem nrC_get12 (c : Cfg) (core : Int) (v1 v2 v3 v4 : Value) : (nrC c core v1 v2 v3 v4)[12]? = some v4 := by unfold nrC; rw [Array.getElem?_append_left (by show 12 < 13; decide)]; rfl
set_option maxRecDepth 100000 in
theorem nrPl (w : World) : ((Tryz.prog.fieldsOf 88).mapM fun (f : Field) => do pure (f.offset, ← sizeOf f.type) : Sem (Array (Nat × Nat))).run Tryz.prog w = .ok #[(0, 8), (8, 1), (9, 1), (10, 1), (11, 1), (12, 1), (13, 24), (37, 1)] w := by
  have hf : (Tryz.prog.fieldsOf 88).toList = [{ name := "c", type := 27, offset := 0, embedded := false, tag := "", pkgPath := "undertow/near", byteOffset := 0 }, { name := "core", type := 3, offset := 8, embedded := false, tag := "", pkgPath := "undertow/near", byteOffset := 64 }, { name := "cache", type := 84, offset := 9, embedded := false, tag := "", pkgPath := "undertow/near", byteOffset := 72 }, { name := "backs", type := 85, offset := 10, embedded := false, tag := "", pkgPath := "undertow/near", byteOffset := 80 }, { name := "marks", type := 86, offset := 11, embedded := false, tag := "", pkgPath := "undertow/near", byteOffset := 88 }, { name := "deal", type := 57, offset := 12, embedded := false, tag := "", pkgPath := "undertow/near", byteOffset := 96 }, { name := "ask", type := 37, offset := 13, embedded := false, tag := "", pkgPath := "undertow/near", byteOffset := 104 }, { name := "waits", type := 4, offset := 37, embedded := false, tag := "", pkgPath := "undertow/near", byteOffset := 216 }] := by kernel_rfl
  have e : Tryz.prog.fieldsOf 88 = (Tryz.prog.fieldsOf 88).toList.toArray := by simp
  rw [e, hf]
  simp [Tryz.sizeOf85, Tryz.sizeOf84, Tryz.sizeOf57, Tryz.sizeOf86, Tryz.sizeOf27, Tryz.sizeOf4, Tryz.sizeOf3, Tryz.sizeOf37]
set_option maxRecDepth 100000 in
theorem bd_near (c : Cfg) (core : Int) (w : World) : (bdR #[(0, CV c), (1, .int .i64 core)]).run Tryz.prog w = .ok (.agg (nrC c core (.pointer none) (.pointer none) (.pointer none) (.pointer none))) w := by
  refine build_run (pl := [(0, 8), (8, 1), (9, 1), (10, 1), (11, 1), (12, 1), (13, 24), (37, 1)]) Tryz.underlying88 TNer.infoZ nrPl _ _ ?_ w
  rw [fill_step (off := 0) (size := 8) rfl rfl (by (repeat rw [size_setMany]); decide), fill_step (off := 8) (size := 1) rfl rfl (by (repeat rw [size_setMany]); decide), fill_nil]
  exact congrArg some (by kernel_rfl)
set_option maxRecDepth 100000 in
theorem eqE4 (w : World) : (Op.equalIn 10000 89 (.agg #[.int .i64 0, .int .i64 0, .int .i64 0, .int .i64 0]) (.agg #[.int .i64 0, .int .i64 0, .int .i64 0, .int .i64 0])).run Tryz.prog w = .ok true w := by
  have hi : (Tryz.prog.info? 23).isSome = true := by kernel_rfl
  obtain ⟨i, hi⟩ := Option.isSome_iff_exists.1 hi
  have hc : Tryz.prog.cellsOf 23 = 1 := by kernel_rfl
  have hA := fun xs ys => run_equalIn_array (P := Tryz.prog) (w := w) 9999 xs ys Tryz.underlying89 hi
  simp [go_sem, hA, hc, Op.eqItems]
def Ns.new (c : Cfg) (core : Int) : Ns := ⟨c, core, fun _ => Ln.nil, fun _ => 0, [], 0, MK.none2, ⟨0, 0, 0, false, false, 0⟩, Nt.nil, false⟩
section
variable {w0 W W' V : World} {a : Ad} {S : Ns} {L : List Obj}
theorem new_objs {db mo mm bo kb gl gm eb nb cb : Obj} (h : Sep NoF w0 W (db :: mo :: mm :: bo :: kb :: gl :: gm :: eb :: nb :: cb :: L)) : Sep NoF w0 W (kb :: gl :: gm :: nb :: bo :: mo :: mm :: db :: L) :=
  ((((((((h.pickN 2 rfl).pickN 2 rfl).pickN 3 rfl).pickN 8 rfl).pickN 7 rfl).pickN 7 rfl).pickN 7 rfl).drop 8 (by simp)).drop 8 (by simp)
set_option maxRecDepth 100000 in
set_option maxHeartbeats 4000000 in
theorem new_no (h : Sep NoF w0 W L) (c : Cfg) (hc : ¬ May c) (core : Int) : Calls Tryz.prog 5 #[CV c, .int .i64 core] W fun e W' => e = .returned (.tuple #[.pointer none, .int .i64 2]) ∧ Upd NoF W W' := by
  have l1 := TCfg.ld_new (CC_isN c) W
  have HM := Lib.hid (PL.pMay_no c hc)
  have hu1 := Upd.alloc NoF W (.cells (CC c) CT)
  have HU1 := Lib.hid hu1
  clear hc hu1 h
  go_enter Tryz.func5, Tryz.ntmps5
  go_wp2_with fail
  refine (HM.out _).mono ?_
  rintro e W2 ⟨rfl, hu⟩
  have HU2 := Lib.hid (HU1.out.trans hu (fun _ _ h => h))
  clear hu
  go_wp2_with fail
  go_ret2
  exact ⟨rfl, HU2.out⟩
set_option maxRecDepth 100000 in
set_option maxHeartbeats 4000000 in
theorem new_low (c : Cfg) (hc : May c) (core : Int) (h : core < 0) (W : World) : Calls Tryz.prog 5 #[CV c, .int .i64 core] W fun e W' => e = .returned (.tuple #[.pointer none, .int .i64 5]) ∧ Upd NoF W W' := by
  have l1 := TCfg.ld_new (CC_isN c) W
  have HM := Lib.hid (PL.pMay_yes c hc)
  have hq := Blk.new W (CC c) CT
  have hu1 := Upd.alloc NoF W (.cells (CC c) CT)
  have HU1 := Lib.hid hu1
  have HQ := Lib.hid hq
  have hb0 : decide (core < 0) = true := by simp [h]
  clear h
  clear hc hu1 hq
  go_enter Tryz.func5, Tryz.ntmps5
  go_wp2_with fail
  refine (HM.out _).mono ?_
  rintro e W2 ⟨rfl, hu⟩
  have HU2 := Lib.hid (HU1.out.trans hu (fun _ _ h => h))
  have d0 : W2.cell? ⟨W.heap.size, 0, none⟩ = some (.int .i64 c.cores) := (HQ.out.upd hu (fun h => h)).cell 0
  clear hu HU1 HQ
  go_wp2_with fail
  go_ret2
  exact ⟨rfl, HU2.out⟩
set_option maxRecDepth 100000 in
set_option maxHeartbeats 4000000 in
theorem new_high (c : Cfg) (hc : May c) (core : Int) (h0 : 0 ≤ core) (h : c.cores ≤ core) (W : World) : Calls Tryz.prog 5 #[CV c, .int .i64 core] W fun e W' => e = .returned (.tuple #[.pointer none, .int .i64 5]) ∧ Upd NoF W W' := by
  have l1 := TCfg.ld_new (CC_isN c) W
  have HM := Lib.hid (PL.pMay_yes c hc)
  have hq := Blk.new W (CC c) CT
  have hu1 := Upd.alloc NoF W (.cells (CC c) CT)
  have HU1 := Lib.hid hu1
  have HQ := Lib.hid hq
  have hb0 : decide (core < 0) = false := by simp; omega
  have hb1 : decide (c.cores ≤ core) = true := by simp [h]
  clear h h0
  clear hc hu1 hq
  go_enter Tryz.func5, Tryz.ntmps5
  go_wp2_with fail
  refine (HM.out _).mono ?_
  rintro e W2 ⟨rfl, hu⟩
  have HU2 := Lib.hid (HU1.out.trans hu (fun _ _ h => h))
  have d0 : W2.cell? ⟨W.heap.size, 0, none⟩ = some (.int .i64 c.cores) := (HQ.out.upd hu (fun h => h)).cell 0
  clear hu HU1 HQ
  go_wp2_with fail
  go_ret2
  exact ⟨rfl, HU2.out⟩
theorem new_range (c : Cfg) (hc : May c) (core : Int) (h : ¬ (0 ≤ core ∧ core < c.cores)) (W : World) : Calls Tryz.prog 5 #[CV c, .int .i64 core] W fun e W' => e = .returned (.tuple #[.pointer none, .int .i64 5]) ∧ Upd NoF W W' := by
  by_cases h0 : core < 0
  · exact new_low c hc core h0 W
  · exact new_high c hc core (by omega) (by omega) W
set_option maxRecDepth 100000 in
set_option maxHeartbeats 4000000 in
theorem near_new (h : Sep NoF w0 W L) (c : Cfg) (hc : May c) (core : Int) (h0 : 0 ≤ core) (h9 : core < c.cores) : Calls Tryz.prog 5 #[CV c, .int .i64 core] W fun e W' =>
    ∃ a : Ad, e = .returned (.tuple #[ptr a.nb, .int .i64 0]) ∧ NIs w0 W' a (Ns.new c core) L := by
  have h1 := h.alloc (CC c) CT
  have l1 := TCfg.ld_new (CC_isN c) W
  obtain ⟨W1, hW1⟩ : ∃ X, W.alloc (.cells (CC c) CT) = X := ⟨_, rfl⟩
  obtain ⟨cb, hcb⟩ : ∃ x, W.heap.size = x := ⟨_, rfl⟩
  rw [hW1, hcb] at h1 l1
  have HS1 := Lib.hid h1
  have HW1 := Lib.hid (And.intro hW1 hcb)
  have HM := Lib.hid (PL.pMay_yes c hc)
  have HC := Lib.hid hc
  have hb0 : decide (core < 0) = false := by simp; omega
  have hb1 : decide (c.cores ≤ core) = false := by simp; omega
  have y1 := fun w => bd_near c core w
  clear h1 h h0 h9 hW1 hcb hc
  go_enter Tryz.func5, Tryz.ntmps5
  go_upto_region 1 with fail
  rw [HW1.out.1, HW1.out.2]
  go_wp2_with fail
  refine (HM.out _).mono ?_
  rintro e W2 ⟨rfl, hu⟩
  have HS2 := Lib.hid (HS1.out.upd0 hu)
  clear hu l1 HS1
  have d0 : W2.cell? ⟨cb, 0, none⟩ = some (.int .i64 c.cores) := (HS2.out.box 0 rfl).cell 0
  have l1 : (TCfg.ld (.pointer (some ⟨cb, 0, none⟩))).run Tryz.prog W2 = .ok (.agg (CC c)) W2 := TCfg.ld_at (CC_isN c) (HS2.out.box 0 rfl).whole
  have hs3 := (HS2.out.alloc (nrC c core (.pointer none) (.pointer none) (.pointer none) (.pointer none)) NrT).alloc #[.int .i64 0, .int .i64 0, .int .i64 0, .int .i64 0] 89
  go_upto_region 8 with fail
  obtain ⟨W3, hW3⟩ : ∃ X, (W2.alloc (.cells (nrC c core (.pointer none) (.pointer none) (.pointer none) (.pointer none)) NrT)).alloc (.cells #[.int .i64 0, .int .i64 0, .int .i64 0, .int .i64 0] 89) = X := ⟨_, rfl⟩
  obtain ⟨nb, hnb⟩ : ∃ x, W2.heap.size = x := ⟨_, rfl⟩
  rw [World.size_alloc] at hs3
  rw [hW3, hnb] at hs3 ⊢
  obtain ⟨eb, heb⟩ : ∃ x, nb + 1 = x := ⟨_, rfl⟩
  rw [heb] at hs3 ⊢
  have HS3 := Lib.hid hs3
  clear hs3 hW3 hnb heb d0 l1 y1 HS2
  have l1 : (TCfg.ld (.pointer (some ⟨cb, 0, none⟩))).run Tryz.prog W3 = .ok (.agg (CC c)) W3 := TCfg.ld_at (CC_isN c) (HS3.out.box 2 rfl).whole
  go_wp2_with fail
  refine (KA.new_yes HS3.out c HC.out).mono ?_
  rintro e W4 ⟨p, rfl, hk, hu⟩
  have HKF := Lib.hid (And.intro hk.fits hk.ok)
  have HS4 := Lib.hid hk.sep
  clear hk hu l1 HS3
  have cN : W4.cell? ⟨nb, 9, none⟩ = some (.pointer none) := ((HS4.out.box 4 rfl).cell 9).trans (nrC_get9 ..)
  have fN : W4.frozen? ⟨nb, 9, none⟩ = false := (HS4.out.box 4 rfl).frozen 9
  have hsa := HS4.out.set 4 rfl 9 (ptr p.kb)
  have cE : (W4.setCell ⟨nb, 9, none⟩ (ptr p.kb)).cell? ⟨eb, 0, none⟩ = some (.int .i64 0) := (hsa.box 3 rfl).cell 0
  have fE : (W4.setCell ⟨nb, 9, none⟩ (ptr p.kb)).frozen? ⟨eb, 0, none⟩ = false := (hsa.box 3 rfl).frozen 0
  have hsb := hsa.set 3 rfl 0 (.int .i64 0)
  rw [nrC_set9] at hsb
  go_upto_region 9 with fail
  obtain ⟨W5, hW5⟩ : ∃ X, (W4.setCell ⟨nb, 9, none⟩ (ptr p.kb)).setCell ⟨eb, 0, none⟩ (.int .i64 0) = X := ⟨_, rfl⟩
  rw [hW5] at hsb ⊢
  have HS5 := Lib.hid hsb
  clear hsb hsa hW5 cN fN cE fE HS4
  have l1 : (TCfg.ld (.pointer (some ⟨cb, 0, none⟩))).run Tryz.prog W5 = .ok (.agg (CC c)) W5 := TCfg.ld_at (CC_isN c) (HS5.out.box 5 rfl).whole
  go_wp2_with fail
  refine (BK.new_yes c HC.out _).mono ?_
  rintro e W6 ⟨bb, rfl, hu, ho⟩
  have HS6 := Lib.hid (HS5.out.push hu ho)
  clear hu ho l1 HS5
  have cN : W6.cell? ⟨nb, 10, none⟩ = some (.pointer none) := ((HS6.out.box 5 rfl).cell 10).trans (nrC_get10 ..)
  have fN : W6.frozen? ⟨nb, 10, none⟩ = false := (HS6.out.box 5 rfl).frozen 10
  have hsa := HS6.out.set 5 rfl 10 (ptr bb)
  have cE : (W6.setCell ⟨nb, 10, none⟩ (ptr bb)).cell? ⟨eb, 1, none⟩ = some (.int .i64 0) := (hsa.box 4 rfl).cell 1
  have fE : (W6.setCell ⟨nb, 10, none⟩ (ptr bb)).frozen? ⟨eb, 1, none⟩ = false := (hsa.box 4 rfl).frozen 1
  have hsb := hsa.set 4 rfl 1 (.int .i64 0)
  rw [nrC_set10] at hsb
  go_upto_region 10 with fail
  obtain ⟨W7, hW7⟩ : ∃ X, (W6.setCell ⟨nb, 10, none⟩ (ptr bb)).setCell ⟨eb, 1, none⟩ (.int .i64 0) = X := ⟨_, rfl⟩
  rw [hW7] at hsb ⊢
  have HS7 := Lib.hid hsb
  clear hsb hsa hW7 cN fN cE fE HS6
  have l1 : (TCfg.ld (.pointer (some ⟨cb, 0, none⟩))).run Tryz.prog W7 = .ok (.agg (CC c)) W7 := TCfg.ld_at (CC_isN c) (HS7.out.box 6 rfl).whole
  go_wp2_with fail
  refine (MK.new_yes HS7.out c HC.out).mono ?_
  rintro e W8 ⟨xk, mb, rfl, hk⟩
  have HS8 := Lib.hid hk.sep
  clear hk l1 HS7
  have cN : W8.cell? ⟨nb, 11, none⟩ = some (.pointer none) := ((HS8.out.box 7 rfl).cell 11).trans (nrC_get11 ..)
  have fN : W8.frozen? ⟨nb, 11, none⟩ = false := (HS8.out.box 7 rfl).frozen 11
  have hsa := HS8.out.set 7 rfl 11 (ptr xk)
  have cE : (W8.setCell ⟨nb, 11, none⟩ (ptr xk)).cell? ⟨eb, 2, none⟩ = some (.int .i64 0) := (hsa.box 6 rfl).cell 2
  have fE : (W8.setCell ⟨nb, 11, none⟩ (ptr xk)).frozen? ⟨eb, 2, none⟩ = false := (hsa.box 6 rfl).frozen 2
  have hsb := hsa.set 6 rfl 2 (.int .i64 0)
  rw [nrC_set11] at hsb
  go_upto_region 11 with fail
  obtain ⟨W9, hW9⟩ : ∃ X, (W8.setCell ⟨nb, 11, none⟩ (ptr xk)).setCell ⟨eb, 2, none⟩ (.int .i64 0) = X := ⟨_, rfl⟩
  rw [hW9] at hsb ⊢
  have HS9 := Lib.hid hsb
  clear hsb hsa hW9 cN fN cE fE HS8
  have d6 : W9.cell? ⟨cb, 6, none⟩ = some (.int .i64 c.nest) := (HS9.out.box 8 rfl).cell 6
  go_wp2_with fail
  refine (DL.new_any c.nest (by have := HC.out; unfold May at this; omega) (by have := HC.out; unfold May at this; omega) _).mono ?_
  rintro e W10 ⟨rfl, hd, hu⟩
  obtain ⟨db, hdb⟩ : ∃ x, W9.heap.size = x := ⟨_, rfl⟩
  have hs := HS9.out.push (Φ := boxO W9.heap.size (CD c.nest ⟨0, 0, 0, false, false, 0⟩) DT) hu ⟨hd, Nat.le_refl _⟩
  rw [hdb] at hs ⊢
  have HS10 := Lib.hid hs
  clear hs hdb hd hu d6 HS9
  have cN : W10.cell? ⟨nb, 12, none⟩ = some (.pointer none) := ((HS10.out.box 8 rfl).cell 12).trans (nrC_get12 ..)
  have fN : W10.frozen? ⟨nb, 12, none⟩ = false := (HS10.out.box 8 rfl).frozen 12
  have hsa := HS10.out.set 8 rfl 12 (ptr db)
  have cE : (W10.setCell ⟨nb, 12, none⟩ (ptr db)).cell? ⟨eb, 3, none⟩ = some (.int .i64 0) := (hsa.box 7 rfl).cell 3
  have fE : (W10.setCell ⟨nb, 12, none⟩ (ptr db)).frozen? ⟨eb, 3, none⟩ = false := (hsa.box 7 rfl).frozen 3
  have hsb := hsa.set 7 rfl 3 (.int .i64 0)
  rw [nrC_set12] at hsb
  go_upto_region 12 with fail
  obtain ⟨W11, hW11⟩ : ∃ X, (W10.setCell ⟨nb, 12, none⟩ (ptr db)).setCell ⟨eb, 3, none⟩ (.int .i64 0) = X := ⟨_, rfl⟩
  rw [hW11] at hsb ⊢
  have HS11 := Lib.hid hsb
  clear hsb hsa hW11 cN fN cE fE HS10
  have g0 : W11.cell? ⟨eb, 0, none⟩ = some (.int .i64 0) := (HS11.out.box 7 rfl).cell 0
  have g1 : W11.cell? ⟨eb, 1, none⟩ = some (.int .i64 0) := (HS11.out.box 7 rfl).cell 1
  have g2 : W11.cell? ⟨eb, 2, none⟩ = some (.int .i64 0) := (HS11.out.box 7 rfl).cell 2
  have g3 : W11.cell? ⟨eb, 3, none⟩ = some (.int .i64 0) := (HS11.out.box 7 rfl).cell 3
  have q4 := eqE4 W11
  go_wp2
  go_ret2
  have hdat := PL.mul_small HC.out.1 HC.out.2.2.1
  refine ⟨⟨p, nb, bb, xk, mb, db⟩, rfl, new_objs HS11.out, ⟨HKF.out.1, HKF.out.2, BK.Inv.nil _ _ (by have := HC.out; unfold May at this; show 0 ≤ c.backs; omega), (fun z hz => by cases hz), ⟨Int.le_refl 0, by have := HC.out; unfold May at this; show 0 ≤ c.nest; omega⟩, ⟨Int.le_refl 0, (by decide : (0 : Int) ≤ 4294967295)⟩, ⟨Int.le_refl 0, (by decide : (0 : Int) ≤ 18446744073709551615)⟩, Nt.nil_ok⟩⟩
end
end Go.Proofs.YtjgeflbhmhmjdaaGreat.NR
namespace Go.Proofs.YtjgeflbhmhmjdaaGreat.NQ
open Go.RowKit
open BU (IsU words)
attribute [local go_sem] Oper.semAt_some
attribute [local go_sem high] guardNote guardBlk
attribute [local go_sem ↓] eqN_eq neN_eq eqB_eq neB_eq TNot.ld_eq TNot.st_eq TNot.al_eq TNot.bx_eq
attribute [local go_sem] TNot.al_run TNot.bx_run
theorem s_row {W : World} {v : Value} {ns : List Nt} (h : Row W 37 24 v ns.length (rowsOf (ns.map Nt.cells)).flatten) (hN : ∀ n ∈ ns, IsU n.D) :
    ∃ a cap, v = .slice a ns.length cap ∧ ns.length ≤ cap ∧ cap ≤ maxLen ∧ ∀ k n, ns[k]? = some n → ∃ g, a = some ⟨g, 0, none⟩ ∧ W.rangeAt g (k * 24) n.cells.toList := by
  obtain ⟨a, cap, rfl, hn, hm, hnil⟩ := h.slice
  refine ⟨a, cap, rfl, hn, hm, fun k n hk => ?_⟩
  have hkl : k < ns.length := (List.getElem?_eq_some_iff.1 hk).1
  cases a with
  | none => have := (hnil rfl).1; omega
  | some a =>
    obtain ⟨⟨g, rfl⟩, hcell⟩ := h.cells
    refine ⟨g, rfl, fun j v hv => ?_⟩
    have := hcell (k * 24 + j) v (flat_get (zs := ns.map Nt.cells) (fun x hx => by obtain ⟨m, hm, rfl⟩ := List.mem_map.1 hx; exact Nt.Ok.isN (hN m hm)) (by rw [List.getElem?_map, hk]; rfl) j v hv)
    simpa using this
set_option maxRecDepth 100000 in
set_option maxHeartbeats 1000000 in
theorem equal_same (w : World) (v1 v2 : Value) (ns : List Nt) (hN : ∀ n ∈ ns, IsU n.D) (h1 : Row w 37 24 v1 ns.length (rowsOf (ns.map Nt.cells)).flatten) (h2 : Row w 37 24 v2 ns.length (rowsOf (ns.map Nt.cells)).flatten) :
    Calls Tryz.prog 38 #[v1, v2] w fun e w' => e = .returned (.bool true) ∧ Upd NoF w w' := by
  obtain ⟨a1, cap1, rfl, l1, m1, r1⟩ := s_row h1 hN
  obtain ⟨a2, cap2, rfl, l2, m2, r2⟩ := s_row h2 hN
  unfold maxLen at m1 m2
  have R1 := Lib.hid r1; have R2 := Lib.hid r2; have HN := Lib.hid hN
  clear r1 r2 h1 h2 hN
  go_enter Tryz.func38, Tryz.ntmps38
  go_wp2
  go_loopw [13] (fun i wr => ∃ k : Nat, k ≤ ns.length ∧ i = .int .i64 k ∧ Hid (Upd NoF w wr)) (fun i _ => ns.length - (Go.RowKit.intOf i).toNat)
  case atStart => exact ⟨0, Nat.zero_le _, rfl, Upd.refl _ _⟩
  case round =>
    obtain ⟨k, hk, rfl, HI⟩ := hrel
    by_cases hlt : k < ns.length
    · obtain ⟨n, hn⟩ : ∃ n, ns[k]? = some n := ⟨_, List.getElem?_eq_getElem hlt⟩
      have hno := HN.out n (List.mem_of_getElem? hn)
      obtain ⟨g1, rfl, hr1⟩ := R1.out k n hn
      obtain ⟨g2, rfl, hr2⟩ := R2.out k n hn
      have la : ∀ m, (TNot.ld (.pointer (some ⟨g1, k * 24, none⟩))).run Tryz.prog (wr.drewN m) = .ok (.agg n.cells) (wr.drewN m) := fun m => TNot.ld_at (Nt.Ok.isN hno) (show (wr.drewN m).rangeAt g1 (k * 24) n.cells.toList from fun j v hv => (HI.out.trans (Upd.drewN NoF wr m) (fun _ _ h => h)).cell (hr1 j v hv) (fun h => h))
      have lb : ∀ m, (TNot.ld (.pointer (some ⟨g2, k * 24, none⟩))).run Tryz.prog (wr.drewN m) = .ok (.agg n.cells) (wr.drewN m) := fun m => TNot.ld_at (Nt.Ok.isN hno) (show (wr.drewN m).rangeAt g2 (k * 24) n.cells.toList from fun j v hv => (HI.out.trans (Upd.drewN NoF wr m) (fun _ _ h => h)).cell (hr2 j v hv) (fun h => h))
      have hne : ∀ m, (neN (.agg n.cells) (.agg n.cells)).run Tryz.prog (wr.drewN m) = .ok (.bool false) (wr.drewN m) := fun m => by
        have := neN_run hno hno (wr.drewN m)
        rw [Nt.same_self] at this
        exact this
      clear hn hr1 hr2 hno
      go_wp2
      go_quiet (fail)
      have HU := Lib.hid (HI.out.trans (Upd.drewN NoF wr nq) (fun _ _ h => h))
      go_wp2
      go_roundw
      case rel => exact ⟨k + 1, by omega, by go_num, HU.out⟩
      case measure => simp [Go.RowKit.intOf]; omega
    · obtain rfl : ns.length = k := by omega
      go_wp2
      go_ret
      exact ⟨rfl, HI.out⟩
end Go.Proofs.YtjgeflbhmhmjdaaGreat.NQ
namespace Go.Proofs.YtjgeflbhmhmjdaaGreat.NR
open Go.RowKit
open BU (IsU words)
open PL (Cfg CC CV May)
open KA (Kp CIs OkA LT UT KT)
open DL (DS CD SV stampE beginE beginS endB openE endS failS overV overS)
attribute [local go_sem] Oper.semAt_some
attribute [local go_sem ↓] TNot.ld_eq TNot.st_eq TNot.al_eq TNot.bx_eq TBlk.ld_eq TBlk.st_eq TBlk.al_eq TBlk.bx_eq TLin.ld_eq TLin.st_eq TLin.al_eq TLin.bx_eq bsN_eq
attribute [local go_sem] TNot.al_run TNot.bx_run TBlk.al_run TBlk.bx_run TLin.al_run TLin.bx_run
section
variable {w0 W W' : World} {a : Ad} {S : Ns} {L : List Obj}
/- The transaction. -/
theorem begin_dep {nest : Int} {d : DS} {m st : Int} (h : 0 ≤ d.depth ∧ d.depth ≤ nest) (hn : 1 ≤ nest) : 0 ≤ (beginS nest d m st).depth ∧ (beginS nest d m st).depth ≤ nest := by
  unfold beginS
  split
  · rename_i h0
    unfold beginE at h0
    split at h0
    · cases h0
    split at h0
    · cases h0
    split at h0
    · cases h0
    split
    · exact ⟨(by decide : (0 : Int) ≤ 1), hn⟩
    · show 0 ≤ d.depth + 1 ∧ d.depth + 1 ≤ nest
      omega
  · exact h
theorem begin_ca {nest : Int} {d : DS} {m st : Int} : (beginS nest d m st).ca = d.ca := by
  unfold beginS
  split
  · split <;> rfl
  · rfl
theorem begin_st {nest : Int} {d : DS} {m st : Int} (h : 0 ≤ d.st ∧ d.st ≤ 18446744073709551615) (hs : 0 ≤ st ∧ st ≤ 18446744073709551615) : 0 ≤ (beginS nest d m st).st ∧ (beginS nest d m st).st ≤ 18446744073709551615 := by
  unfold beginS
  split
  · split
    · show 0 ≤ (if d.st = 0 then st else d.st) ∧ (if d.st = 0 then st else d.st) ≤ 18446744073709551615
      split
      · exact hs
      · exact h
    · exact h
  · exact h
theorem endS_dep {nest : Int} {d : DS} (h : 0 ≤ d.depth ∧ d.depth ≤ nest) : 0 ≤ (endS d).depth ∧ (endS d).depth ≤ nest := by
  unfold endS
  split
  · rename_i h0
    unfold openE at h0
    split at h0
    · cases h0
    rename_i h1
    split
    · show (0 : Int) ≤ 0 ∧ 0 ≤ nest
      omega
    · show 0 ≤ d.depth - 1 ∧ d.depth - 1 ≤ nest
      omega
  · exact h
theorem endS_ca {d : DS} : (endS d).ca = d.ca := by unfold endS; split; split <;> rfl; rfl
theorem endS_st {d : DS} (h : 0 ≤ d.st ∧ d.st ≤ 18446744073709551615) : 0 ≤ (endS d).st ∧ (endS d).st ≤ 18446744073709551615 := by
  unfold endS
  split
  · split
    · exact ⟨Int.le_refl 0, (by decide : (0 : Int) ≤ 18446744073709551615)⟩
    · exact h
  · exact h
theorem dbegin_is (h : NIs w0 W a S L) (m st : Int) (hs : 0 ≤ st ∧ st ≤ 18446744073709551615) : Calls Tryz.prog 71 #[ptr a.db, SV m, .int .u64 st] W fun e W' =>
    e = .returned (.int .i64 (beginE S.c.nest S.d st)) ∧ NIs w0 W' a { S with d := beginS S.c.nest S.d m st } L :=
  (DL.begin_any a.db S.c.nest S.d m st h.ok.dep8 W h.deal).mono fun e W' ⟨he, hb, hu⟩ => ⟨he, h.ofDeal hb hu (begin_dep h.ok.dep h.ok.dataR.2.2.2.2.1) (by rw [begin_ca]; exact h.ok.ca) (begin_st h.ok.st hs)⟩
theorem dend_is (h : NIs w0 W a S L) : Calls Tryz.prog 73 #[ptr a.db] W fun e W' =>
    e = .returned (.tuple #[.bool (endB S.d), .int .i64 (openE S.d)]) ∧ NIs w0 W' a { S with d := endS S.d } L :=
  (DL.end_any a.db S.c.nest S.d h.ok.dep8 W h.deal).mono fun e W' ⟨he, hb, hu⟩ => ⟨he, h.ofDeal hb hu (endS_dep h.ok.dep) (by rw [endS_ca]; exact h.ok.ca) (endS_st h.ok.st)⟩
theorem dfail_is (h : NIs w0 W a S L) (c : Int) (hc : 0 ≤ c ∧ c ≤ 4294967295) : Calls Tryz.prog 75 #[ptr a.db, .int .u32 c] W fun e W' =>
    e = .returned (.int .i64 (openE S.d)) ∧ NIs w0 W' a { S with d := failS S.d c } L :=
  (DL.fail_any a.db S.c.nest S.d c h.ok.dep8 W h.deal).mono fun e W' ⟨he, hb, hu⟩ => ⟨he, h.ofDeal hb hu (by unfold failS; split <;> exact h.ok.dep) (by unfold failS; split; exact hc; exact h.ok.ca) (by unfold failS; split <;> exact h.ok.st)⟩
theorem dover_is (h : NIs w0 W a S L) : Calls Tryz.prog 77 #[ptr a.db] W fun e W' =>
    e = .returned (overV S.d) ∧ NIs w0 W' a { S with d := overS S.d } L :=
  (DL.over_any a.db S.c.nest S.d h.ok.ca W h.deal).mono fun e W' ⟨he, hb, hu⟩ => ⟨he, h.ofDeal hb hu (by have h0 := h.ok.dep; unfold overS; split; exact ⟨Int.le_refl 0, Int.le_trans h0.1 h0.2⟩; exact h0) (by unfold overS; split <;> exact h.ok.ca) (by
    unfold overS
    split
    · show 0 ≤ (if S.d.ca % 256 = 1 then S.d.st else 0) ∧ (if S.d.ca % 256 = 1 then S.d.st else 0) ≤ 18446744073709551615
      split
      · exact h.ok.st
      · exact ⟨Int.le_refl 0, (by decide : (0 : Int) ≤ 18446744073709551615)⟩
    · exact h.ok.st)⟩
abbrev SVT : TypeId := 76
def bdS (parts : Array (Nat × Value)) : Sem Value := Instr.build SVT parts
theorem bdS_eq (parts : Array (Nat × Value)) : Instr.build SVT parts = bdS parts := rfl
set_option maxRecDepth 100000 in
theorem svPl (w : World) : ((Tryz.prog.fieldsOf 76).mapM fun (f : Field) => do pure (f.offset, ← sizeOf f.type) : Sem (Array (Nat × Nat))).run Tryz.prog w = .ok #[(0, 16), (16, 1)] w := by
  have hf : (Tryz.prog.fieldsOf 76).toList = [{ name := "Regs", type := 34, offset := 0, embedded := false, tag := "", pkgPath := "", byteOffset := 0 },
        { name := "Handler", type := 3, offset := 16, embedded := false, tag := "", pkgPath := "", byteOffset := 64 }] := by kernel_rfl
  have e : Tryz.prog.fieldsOf 76 = (Tryz.prog.fieldsOf 76).toList.toArray := by simp
  rw [e, hf]
  simp [Tryz.sizeOf34, Tryz.sizeOf3]
set_option maxRecDepth 100000 in
theorem infoSv : (Tryz.prog.info? 76).map (fun i => (i.zero, i.size)) = some (some (.agg (DL.SC 0)), 17) := by kernel_rfl
set_option maxRecDepth 100000 in
theorem bdS_run (w : World) : (bdS #[]).run Tryz.prog w = .ok (SV 0) w := by
  refine build_run (pl := [(0, 16), (16, 1)]) Tryz.underlying76 infoSv svPl _ _ ?_ w
  rw [fill_nil]
def twoC : Cfg := ⟨2, 1, 1, 10, 1, 1, 1, 0⟩
theorem may_two : May twoC := by decide
theorem two_any (w : World) : Calls Tryz.prog 6 #[] w fun e w' => e = .returned (CV twoC) ∧ Upd NoF w w' := by
  show Calls Tryz.prog 6 #[] w fun e w' => e = .returned (.agg #[.int .i64 2, .int .i64 1, .int .i64 1, .int .i64 10, .int .i64 1, .int .i64 1, .int .i64 1, .int .i64 0]) ∧ Upd NoF w w'
  go_enter Tryz.func6, Tryz.ntmps6
  go_wp2
  exact bodyPost_ret (v := .agg #[.int .i64 2, .int .i64 1, .int .i64 1, .int .i64 10, .int .i64 1, .int .i64 1, .int .i64 1, .int .i64 0]) (by simp [results, Tryz.f6, go_sem]) rfl ⟨rfl, Upd.alloc NoF w _⟩
abbrev cfgO (cb : Nat) (c : Cfg) : Obj := boxO cb (CC c) CT
abbrev noZ (k frm too blk : Int) : Array Value := #[.int .u8 k, .int .i64 frm, .int .i64 too, .int .i64 blk, .int .u64 0, .int .u8 0, .bool false, .bool false, .int .u32 0, .int .u32 0, .int .u32 0, .int .u32 0, .int .u32 0, .int .u32 0, .int .u32 0, .int .u32 0, .int .u32 0, .int .u32 0, .int .u32 0, .int .u32 0, .int .u32 0, .int .u32 0, .int .u32 0, .int .u32 0]
def upN (k b : Int) : Nt := ⟨k, 0, -1, b, 0, 0, false, false, TBlk.Z⟩
def dnN (k b : Int) : Nt := ⟨k, -1, 0, b, 0, 0, false, false, TBlk.Z⟩
def gvN (b s : Int) : Nt := ⟨6, -1, 0, b, 0, s, true, false, TBlk.Z⟩
theorem up_cells (k b : Int) : (upN k b).cells = noZ k 0 (-1) b := by kernel_rfl
theorem dn_cells (k b : Int) : (dnN k b).cells = noZ k (-1) 0 b := by kernel_rfl
theorem gv_ok (b s : Int) (h : 0 ≤ s ∧ s ≤ 255) : (gvN b s).Ok := ⟨⟨(by decide : (0 : Int) ≤ 6), (by decide : (6 : Int) ≤ 255)⟩, ⟨Int.le_refl 0, (by decide : (0 : Int) ≤ 18446744073709551615)⟩, h, isUZ⟩
theorem gv_cells (b s : Int) : ((dnN 6 b).cells.setIfInBounds 5 (.int .u8 s)).setIfInBounds 6 (.bool true) = (gvN b s).cells := by kernel_rfl
set_option maxRecDepth 100000 in
theorem up_any (k b : Int) (w : World) : Calls Tryz.prog 9 #[.int .u8 k, .int .i64 b] w fun e w' => e = .returned (.agg (upN k b).cells) ∧ Upd NoF w w' := by
  rw [up_cells]
  have hA : IsN 24 (noZ k 0 (-1) b) := by rw [← up_cells]; exact Nt.Ok.isN isUZ
  have s1 := TNot.st_new hA w
  have HV := Lib.hid (TNot.ldV_at hA (Blk.new w (noZ k 0 (-1) b) NT).whole)
  clear hA
  go_enter Tryz.func9, Tryz.ntmps9
  go_wp2
  have hv := HV.out
  refine bodyPost_ret (v := .agg (noZ k 0 (-1) b)) ?_ ?_ ?_
  · simp [results, Tryz.f9, asAddr, hv]
  · rfl
  exact ⟨rfl, Upd.alloc NoF w _⟩
set_option maxRecDepth 100000 in
theorem dn_any (k b : Int) (w : World) : Calls Tryz.prog 14 #[.int .u8 k, .int .i64 b] w fun e w' => e = .returned (.agg (dnN k b).cells) ∧ Upd NoF w w' := by
  rw [dn_cells]
  have hA : IsN 24 (noZ k (-1) 0 b) := by rw [← dn_cells]; exact Nt.Ok.isN isUZ
  have s1 := TNot.st_new hA w
  have HV := Lib.hid (TNot.ldV_at hA (Blk.new w (noZ k (-1) 0 b) NT).whole)
  clear hA
  go_enter Tryz.func14, Tryz.ntmps14
  go_wp2
  have hv := HV.out
  refine bodyPost_ret (v := .agg (noZ k (-1) 0 b)) ?_ ?_ ?_
  · simp [results, Tryz.f14, asAddr, hv]
  · rfl
  exact ⟨rfl, Upd.alloc NoF w _⟩
set_option maxRecDepth 100000 in
set_option maxHeartbeats 2000000 in
theorem gv_any (b s : Int) (w : World) : Calls Tryz.prog 11 #[.int .i64 b, .int .u8 s] w fun e w' => e = .returned (.agg (gvN b s).cells) ∧ Upd NoF w w' := by
  have hG : IsN 24 (gvN b s).cells := Nt.Ok.isN isUZ
  have hD : IsN 24 (dnN 6 b).cells := Nt.Ok.isN isUZ
  have hs0 := (Sep.zero NoF w).alloc TNot.Z NT
  obtain ⟨W1, hW1⟩ : ∃ X, w.alloc (.cells TNot.Z NT) = X := ⟨_, rfl⟩
  obtain ⟨rb, hrb⟩ : ∃ x, w.heap.size = x := ⟨_, rfl⟩
  rw [hW1, hrb] at hs0
  have HW1 := Lib.hid (And.intro hW1 hrb)
  have HS0 := Lib.hid hs0
  have HG := Lib.hid hG; have HD := Lib.hid hD
  have hgc := gv_cells b s
  have hg5 : (dnN 6 b).cells[5]? = some (.int .u8 0) := (dnN 6 b).get5
  have hg6 : ((dnN 6 b).cells.setIfInBounds 5 (.int .u8 s))[6]? = some (.bool false) := by rw [Array.getElem?_setIfInBounds_ne (by decide)]; exact (dnN 6 b).get6
  have hdn := fun w => dn_any 6 b w
  clear hs0 hW1 hrb hG hD
  generalize (gvN b s).cells = x at *
  generalize (dnN 6 b).cells = y at *
  have HGC := Lib.hid hgc; have HG5 := Lib.hid hg5; have HG6 := Lib.hid hg6; have HDN := Lib.hid hdn
  clear hgc hg5 hg6 hdn
  go_enter Tryz.func11, Tryz.ntmps11
  go_upto_region 1 with fail
  rw [HW1.out.1, HW1.out.2]
  go_wp2_with fail
  refine (HDN.out _).mono ?_
  rintro e W2 ⟨rfl, hu⟩
  have HS1 := Lib.hid (HS0.out.upd0 hu)
  have s1 := TNot.st_new HD.out W2
  have hs2 := HS1.out.alloc y NT
  go_upto_region 2 with fail
  obtain ⟨db, hdb⟩ : ∃ x, W2.heap.size = x := ⟨_, rfl⟩
  obtain ⟨W3, hW3⟩ : ∃ X, W2.alloc (.cells y NT) = X := ⟨_, rfl⟩
  rw [hW3, hdb] at hs2 ⊢
  clear s1 hu hW3 hdb
  have c5 : W3.cell? ⟨db, 5, none⟩ = some (.int .u8 0) := ((hs2.box 0 rfl).cell 5).trans HG5.out
  have f5 : W3.frozen? ⟨db, 5, none⟩ = false := (hs2.box 0 rfl).frozen 5
  have hs3 := hs2.set 0 rfl 5 (.int .u8 s)
  have c6 : (W3.setCell ⟨db, 5, none⟩ (.int .u8 s)).cell? ⟨db, 6, none⟩ = some (.bool false) := ((hs3.box 0 rfl).cell 6).trans HG6.out
  have f6 : (W3.setCell ⟨db, 5, none⟩ (.int .u8 s)).frozen? ⟨db, 6, none⟩ = false := (hs3.box 0 rfl).frozen 6
  have hs4 := hs3.set 0 rfl 6 (.bool true)
  rw [HGC.out] at hs4
  have HS4 := Lib.hid hs4
  clear hs2 hs3 hs4
  go_upto_region 3 with fail
  obtain ⟨W4, hW4⟩ : ∃ X, (W3.setCell ⟨db, 5, none⟩ (.int .u8 s)).setCell ⟨db, 6, none⟩ (.bool true) = X := ⟨_, rfl⟩
  rw [hW4] at HS4 ⊢
  clear hW4 c5 f5 c6 f6
  have l4 := TNot.ld_at HG.out (HS4.out.box 0 rfl).whole
  have s5 := (TNot.st_at TNot.isZ HG.out (HS4.out.box 1 rfl)).1
  have HV := Lib.hid (TNot.ldV_at HG.out (TNot.st_at TNot.isZ HG.out (HS4.out.box 1 rfl)).2.whole)
  have HU := Lib.hid (HS4.out.setM 1 rfl 0 x.toList).upd
  clear HS4
  go_wp2
  have hv := HV.out
  refine bodyPost_ret (v := .agg x) ?_ ?_ ?_
  · simp [results, Tryz.f11, asAddr, hv]
  · rfl
  exact ⟨rfl, HU.out⟩
theorem NIs.objs (h : NIs w0 W a S L) : Sep NoF w0 W L :=
  (((((((h.sep.drop 0 (by simp)).drop 0 (by simp)).drop 0 (by simp)).drop 0 (by simp)).drop 0 (by simp)).drop 0 (by simp)).drop 0 (by simp)).drop 0 (by simp)
theorem NIs.row (h : NIs w0 W a S L) {i : Nat} {v : Value} {ns : List Nt} (hi : L[i]? = some (outO v ns)) : Row W NT 24 v ns.length (rowsOf (ns.map Nt.cells)).flatten := h.sep.row (8 + i) (by rw [show 8 + i = i + 8 by omega]; exact hi)
set_option maxRecDepth 100000 in
theorem asks_is (h : NIs w0 W a S L) (b : Int) (wr : Bool) (v : Value) (ns : List Nt) (i : Nat) (hi : L[i]? = some (outO v ns)) (hN : ∀ m ∈ ns, IsU m.D) {K : Ns} (hR : askR a.p S b wr = ⟨false, ns, 0, K⟩) (hfit : (a.p.goes S.A S.M b).isSome = true → MM.fit (a.p.gone S.A S.M b).blk) :
    Calls Tryz.prog 8 #[ptr a.nb, .int .i64 b, .bool wr, v] W fun e W' => e = .returned (.bool true) ∧ NIs w0 W' a K L := by
  have ht := ask_is h b wr hfit
  rw [hR] at ht
  have ht : Calls Tryz.prog 13 #[ptr a.nb, .int .i64 b, .bool wr] W fun e W' => ∃ v, e = .returned (.tuple #[.bool false, v, .int .i64 0]) ∧ NIs w0 W' a K (outO v ns :: L) := ht
  have HTK := Lib.hid ht; have HI := Lib.hid hi; have HN := Lib.hid hN
  clear h ht hi hN hR hfit
  go_enter Tryz.func8, Tryz.ntmps8
  go_wp2_with fail
  refine HTK.out.mono ?_
  rintro e w2 ⟨v', rfl, hs⟩
  have HE := Lib.hid (NQ.equal_same w2 v' v ns HN.out (hs.row (i := 0) rfl) (hs.row (i := i + 1) HI.out))
  have HS2 := Lib.hid hs
  clear hs
  go_wp2_with fail
  refine HE.out.mono ?_
  rintro e w3 ⟨rfl, hu⟩
  have HS3 := Lib.hid (HS2.out.upd0 hu)
  clear hu
  go_wp2
  go_ret
  exact ⟨rfl, HS3.out.pop⟩
set_option maxRecDepth 100000 in
theorem takes_is (h : NIs w0 W a S L) (n : Nt) (hn : n.Ok) (hb : MM.fit n.blk) (v : Value) (ns : List Nt) (i : Nat) (hi : L[i]? = some (outO v ns)) (hN : ∀ m ∈ ns, IsU m.D) {K : Ns} (hR : takeR a.p S n = ⟨ns, false, 0, K⟩) :
    Calls Tryz.prog 10 #[ptr a.nb, .agg n.cells, v] W fun e W' => e = .returned (.bool true) ∧ NIs w0 W' a K L := by
  have h1 := h.alloc n.cells NT
  have l1 := TNot.ld_at (Nt.Ok.isN hn.isU) h1.lb.whole
  have ht := take_is h1 n hn hb
  rw [hR] at ht
  have ht : Calls Tryz.prog 17 #[ptr a.nb, .agg n.cells] (W.alloc (.cells n.cells NT)) fun e W' => ∃ v, e = .returned (.tuple #[v, .bool false, .int .i64 0]) ∧ NIs w0 W' a K (outO v ns :: boxO W.heap.size n.cells NT :: L) := ht
  obtain ⟨V, hV⟩ : ∃ V, W.alloc (.cells n.cells NT) = V := ⟨_, rfl⟩
  obtain ⟨nx, hnx⟩ : ∃ nx, W.heap.size = nx := ⟨_, rfl⟩
  rw [hV, hnx] at ht l1
  have HV := Lib.hid (And.intro hV hnx)
  have HTK := Lib.hid ht; have HI := Lib.hid hi; have HN := Lib.hid hN
  clear h h1 ht hi hN hR hn hb hV hnx
  go_enter Tryz.func10, Tryz.ntmps10
  go_upto_region 1 with fail
  rw [HV.out.1, HV.out.2]
  go_wp2_with fail
  refine HTK.out.mono ?_
  rintro e w2 ⟨v', rfl, hs⟩
  have HE := Lib.hid (NQ.equal_same w2 v' v ns HN.out (hs.row (i := 0) rfl) (hs.row (i := i + 2) HI.out))
  have HS2 := Lib.hid hs
  clear hs l1
  go_wp2_with fail
  refine HE.out.mono ?_
  rintro e w3 ⟨rfl, hu⟩
  have HS3 := Lib.hid (HS2.out.upd0 hu)
  clear hu
  go_wp2
  go_ret
  exact ⟨rfl, HS3.out.pop.pop⟩
/- What works comes to. -/
def N0 : Ns := Ns.new twoC 0
def N1 (p : Kp) : Ns := (askR p N0 3 true).S
def N2 (p : Kp) : Ns := (takeR p (N1 p) (gvN 3 3)).S
def N3 (p : Kp) : Ns := storeS p (N2 p) 3 0 7
theorem fits_two {p : Kp} (h : p.Fits twoC) : p.s = 1 ∧ p.y = 1 := ⟨by have := h.es; simp [twoC] at this; omega, by have := h.ew; simp [twoC] at this; omega⟩
theorem n1 {p : Kp} (h : p.Fits twoC) : askR p N0 3 true = ⟨false, [upN 2 3], 0, N1 p⟩ := by
  obtain ⟨hs, hy⟩ := fits_two h
  obtain ⟨kb, gl, gm, cl, cm, tl, tm, s, y⟩ := p
  dsimp only at hs hy
  subst hs hy
  kernel_rfl
theorem n2 {p : Kp} (h : p.Fits twoC) : takeR p (N1 p) (gvN 3 3) = ⟨[upN 11 3], false, 0, N2 p⟩ := by
  obtain ⟨hs, hy⟩ := fits_two h
  obtain ⟨kb, gl, gm, cl, cm, tl, tm, s, y⟩ := p
  dsimp only at hs hy
  subst hs hy
  kernel_rfl
theorem n3 {p : Kp} (h : p.Fits twoC) : storeX p (N2 p) 3 0 = 0 ∧ p.wrE (N2 p).A 3 0 = 0 ∧ (N2 p).n = 0 := by
  obtain ⟨hs, hy⟩ := fits_two h
  obtain ⟨kb, gl, gm, cl, cm, tl, tm, s, y⟩ := p
  dsimp only at hs hy
  subst hs hy
  refine ⟨?_, ?_, ?_⟩ <;> kernel_rfl
theorem n4 {p : Kp} (h : p.Fits twoC) : loadX p (N3 p) 3 0 = 7 ∧ loadE p (N3 p) 3 0 = 0 ∧ (N3 p).n = 0 := by
  obtain ⟨hs, hy⟩ := fits_two h
  obtain ⟨kb, gl, gm, cl, cm, tl, tm, s, y⟩ := p
  dsimp only at hs hy
  subst hs hy
  refine ⟨?_, ?_, ?_⟩ <;> kernel_rfl
theorem fit3 : MM.fit 3 := by unfold MM.fit; decide
theorem nogo {p : Kp} (h : p.Fits twoC) (b : Int) : (p.goes N0.A N0.M 3).isSome = true → MM.fit (p.gone N0.A N0.M 3).blk := fun hh => by
  unfold KA.Kp.gone
  split
  · exact (by unfold MM.fit; decide : MM.fit 0)
  · exact (by unfold MM.fit; decide : MM.fit 0)
set_option maxRecDepth 100000 in
set_option maxHeartbeats 4000000 in
theorem works_is (h : Sep NoF w0 W L) : Calls Tryz.prog 7 #[] W fun e W' => e = .returned (.bool true) ∧ Sep NoF w0 W' L := by
  have HS0 := Lib.hid h
  clear h
  go_enter Tryz.func7, Tryz.ntmps7
  go_wp2_with fail
  refine (two_any _).mono ?_
  rintro e w1 ⟨rfl, hu⟩
  have HS1 := Lib.hid (HS0.out.upd0 hu)
  clear hu
  go_wp2_with fail
  refine (near_new HS1.out twoC may_two 0 (by decide) (by decide)).mono ?_
  rintro e w2 ⟨a, rfl, hs⟩
  have HS2 : Hid (NIs w0 w2 a N0 L) := Lib.hid hs
  have HF : Hid (a.p.Fits twoC) := Lib.hid hs.ok.fits
  clear hs
  go_wp2_with fail
  refine (up_any 2 3 _).mono ?_
  rintro e w3 ⟨rfl, hu⟩
  have hs := (HS2.out.upd0 hu).alloc (upN 2 3).cells NT
  have y3 := bsN_run (Nt.Ok.isN (n := upN 2 3) isUZ).1 w3
  have HS3 : Hid (NIs w0 _ a N0 (outO (sl w3.heap.size 1 1) [upN 2 3] :: L)) := Lib.hid (hs.toOut isUZ)
  clear hs hu
  go_wp2_with fail
  refine (asks_is HS3.out 3 true _ [upN 2 3] 0 rfl (fun m hm => by simp at hm; subst hm; exact isUZ) (n1 HF.out) (nogo HF.out 3)).mono ?_
  rintro e w4 ⟨rfl, hs⟩
  have HS4 : Hid (NIs w0 w4 a (N1 a.p) L) := Lib.hid hs.pop
  clear hs y3
  go_wp2_with fail
  refine (gv_any 3 3 _).mono ?_
  rintro e w5 ⟨rfl, hu⟩
  have HS5 := Lib.hid (HS4.out.upd0 hu)
  clear hu
  go_wp2_with fail
  refine (up_any 11 3 _).mono ?_
  rintro e w6 ⟨rfl, hu⟩
  have hs := (HS5.out.upd0 hu).alloc (upN 11 3).cells NT
  have y3 := bsN_run (Nt.Ok.isN (n := upN 11 3) isUZ).1 w6
  have HS6 : Hid (NIs w0 _ a (N1 a.p) (outO (sl w6.heap.size 1 1) [upN 11 3] :: L)) := Lib.hid (hs.toOut isUZ)
  clear hs hu
  go_wp2_with fail
  refine (takes_is HS6.out (gvN 3 3) (gv_ok 3 3 (by decide)) fit3 _ [upN 11 3] 0 rfl (fun m hm => by simp at hm; subst hm; exact isUZ) (n2 HF.out)).mono ?_
  rintro e w7 ⟨rfl, hs⟩
  have HS7 : Hid (NIs w0 w7 a (N2 a.p) L) := Lib.hid hs.pop
  clear hs y3
  go_wp2_with fail
  refine (store_is HS7.out (by rw [(n3 HF.out).2.2]; decide) 3 0 7 fit3).mono ?_
  rw [(n3 HF.out).1, (n3 HF.out).2.1]
  rintro e w8 ⟨rfl, hs⟩
  have HS8 : Hid (NIs w0 w8 a (N3 a.p) L) := Lib.hid hs
  clear hs
  go_wp2_with fail
  refine (load_is HS8.out (by rw [(n4 HF.out).2.2]; decide) 3 0 fit3).mono ?_
  rw [(n4 HF.out).1, (n4 HF.out).2.1]
  rintro e w9 ⟨rfl, hs⟩
  have HS9 := Lib.hid hs
  clear hs
  go_wp2
  go_ret
  exact ⟨rfl, HS9.out.objs⟩
end
end Go.Proofs.YtjgeflbhmhmjdaaGreat.NR
