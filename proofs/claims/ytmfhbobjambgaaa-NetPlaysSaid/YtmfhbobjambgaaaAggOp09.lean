/- undertow/undertowlaw09.Op: made, loaded and stored at one stroke. -/
import Derived.Test.YtmfhbobjambgaaaAgg
set_option linter.unusedSimpArgs false
set_option linter.unusedVariables false
namespace Go.Proofs.Ytmfhbobjambgaaa.TOpN
open Go.RowKit
/-- Nothing in it. -/
def Z : Array Value := #[.int .i64 0, .int .i64 0, .int .i64 0, .int .u8 0, .int .i64 0, .int .i64 0, .int .i64 0, .int .u64 0, .int .u8 0, .bool false, .bool false, .int .u32 0, .int .u32 0, .int .u32 0, .int .u32 0, .int .u32 0, .int .u32 0, .int .u32 0, .int .u32 0, .int .u32 0, .int .u32 0, .int .u32 0, .int .u32 0, .int .u32 0, .int .u32 0, .int .u32 0, .int .u32 0]
theorem size_Z : Z.size = 27 := by kernel_rfl
theorem isZ : IsN 27 Z := ⟨size_Z, Array.all_eq_true_iff_forall_mem.1 (by kernel_rfl)⟩
theorem infoZ : (Try.prog.info? 65).map (fun i => (i.zero, i.size)) = some (some (.agg Z), 27) := by kernel_rfl
theorem infoS : (Try.prog.info? 65).map (·.size) = some 27 := by kernel_rfl
theorem infoSZ : (Try.prog.info? 65).map (·.size) = some Z.size := by kernel_rfl
def ld (v : Value) : Sem Value := Instr.loadAt 65 v
def st (p v : Value) : Sem Unit := Instr.storeAt 65 p v
def bx (v : Value) : Sem Value := Instr.box 65 v
def al : Sem Value := Instr.alloc 65 true (.tuple #[])
theorem ld_eq (v : Value) : Instr.loadAt 65 v = ld v := rfl
theorem st_eq (p v : Value) : Instr.storeAt 65 p v = st p v := rfl
theorem bx_eq (v : Value) : Instr.box 65 v = bx v := rfl
theorem al_eq : Instr.alloc 65 true (.tuple #[]) = al := rfl
theorem al_run (w : World) : al.run Try.prog w = .ok (.pointer (some ⟨w.heap.size, 0, none⟩)) (w.alloc (.cells Z 65)) := agg_alloc (agg_zero infoZ) w
theorem bx_run (x : Array Value) (w : World) : (bx (.agg x)).run Try.prog w = .ok (.pointer (some ⟨w.heap.size, 0, none⟩)) (w.alloc (.cells x 65)) := agg_box x w
theorem st_new {x : Array Value} (hx : IsN 27 x) (w : World) : (st (.pointer (some ⟨w.heap.size, 0, none⟩)) (.agg x)).run Try.prog (w.alloc (.cells Z 65)) = .ok () (w.alloc (.cells x 65)) := agg_st_new infoSZ size_Z hx w
theorem ld_at {x : Array Value} (hx : IsN 27 x) {w : World} {b o : Nat} (h : w.rangeAt b o x.toList) : (ld (.pointer (some ⟨b, o, none⟩))).run Try.prog w = .ok (.agg x) w := agg_ld Try.underlying65 rfl infoS hx h
theorem ld_new {x : Array Value} (hx : IsN 27 x) (w : World) : (ld (.pointer (some ⟨w.heap.size, 0, none⟩))).run Try.prog (w.alloc (.cells x 65)) = .ok (.agg x) (w.alloc (.cells x 65)) := ld_at hx (Blk.new w x _).whole
theorem st_at {x y : Array Value} (hx : IsN 27 x) (hy : IsN 27 y) {w : World} {b : Nat} {T : TypeId} (h : Blk w b x T) : (st (.pointer (some ⟨b, 0, none⟩)) (.agg y)).run Try.prog w = .ok () (w.setCells b 0 y.toList) ∧ Blk (w.setCells b 0 y.toList) b y T := by
  refine ⟨run_storeAt_mid w b 0 65 y (there_of h (by rw [hx.1, hy.1]; exact Nat.le_refl _)) (by rw [infoS, hy.1]) hy.all, ?_⟩
  have h' := blk_setCells y.toList 0 w _ h
  rwa [setMany_all x y (by rw [hx.1, hy.1])] at h'
theorem ldV_at {x : Array Value} (hx : IsN 27 x) {w : World} {b o : Nat} (h : w.rangeAt b o x.toList) : (loadVar 65 ⟨b, o, none⟩).run Try.prog w = .ok (.agg x) w := agg_ldV Try.underlying65 rfl infoS hx h
end Go.Proofs.Ytmfhbobjambgaaa.TOpN
