/- undertow/net.Net: made, loaded and stored at one stroke. -/
import Derived.Test.YtmfhbobjambgaaaAgg
set_option linter.unusedSimpArgs false
set_option linter.unusedVariables false
namespace Go.Proofs.Ytmfhbobjambgaaa.TNet
open Go.RowKit
/-- Nothing in it. -/
def Z : Array Value := #[.int .i64 0, .int .i64 0, .int .i64 0, .int .i64 0, .int .i64 0, .int .i64 0, .int .i64 0, .int .i64 0, .int .i64 0, .pointer none, .int .i64 0]
theorem size_Z : Z.size = 11 := by kernel_rfl
theorem isZ : IsN 11 Z := ⟨size_Z, Array.all_eq_true_iff_forall_mem.1 (by kernel_rfl)⟩
theorem infoZ : (Try.prog.info? 74).map (fun i => (i.zero, i.size)) = some (some (.agg Z), 11) := by kernel_rfl
theorem infoS : (Try.prog.info? 74).map (·.size) = some 11 := by kernel_rfl
theorem infoSZ : (Try.prog.info? 74).map (·.size) = some Z.size := by kernel_rfl
def ld (v : Value) : Sem Value := Instr.loadAt 74 v
def st (p v : Value) : Sem Unit := Instr.storeAt 74 p v
def bx (v : Value) : Sem Value := Instr.box 74 v
def al : Sem Value := Instr.alloc 74 true (.tuple #[])
theorem ld_eq (v : Value) : Instr.loadAt 74 v = ld v := rfl
theorem st_eq (p v : Value) : Instr.storeAt 74 p v = st p v := rfl
theorem bx_eq (v : Value) : Instr.box 74 v = bx v := rfl
theorem al_eq : Instr.alloc 74 true (.tuple #[]) = al := rfl
theorem al_run (w : World) : al.run Try.prog w = .ok (.pointer (some ⟨w.heap.size, 0, none⟩)) (w.alloc (.cells Z 74)) := agg_alloc (agg_zero infoZ) w
theorem bx_run (x : Array Value) (w : World) : (bx (.agg x)).run Try.prog w = .ok (.pointer (some ⟨w.heap.size, 0, none⟩)) (w.alloc (.cells x 74)) := agg_box x w
theorem st_new {x : Array Value} (hx : IsN 11 x) (w : World) : (st (.pointer (some ⟨w.heap.size, 0, none⟩)) (.agg x)).run Try.prog (w.alloc (.cells Z 74)) = .ok () (w.alloc (.cells x 74)) := agg_st_new infoSZ size_Z hx w
theorem ld_at {x : Array Value} (hx : IsN 11 x) {w : World} {b o : Nat} (h : w.rangeAt b o x.toList) : (ld (.pointer (some ⟨b, o, none⟩))).run Try.prog w = .ok (.agg x) w := agg_ld Try.underlying74 rfl infoS hx h
theorem ld_new {x : Array Value} (hx : IsN 11 x) (w : World) : (ld (.pointer (some ⟨w.heap.size, 0, none⟩))).run Try.prog (w.alloc (.cells x 74)) = .ok (.agg x) (w.alloc (.cells x 74)) := ld_at hx (Blk.new w x _).whole
theorem st_at {x y : Array Value} (hx : IsN 11 x) (hy : IsN 11 y) {w : World} {b : Nat} {T : TypeId} (h : Blk w b x T) : (st (.pointer (some ⟨b, 0, none⟩)) (.agg y)).run Try.prog w = .ok () (w.setCells b 0 y.toList) ∧ Blk (w.setCells b 0 y.toList) b y T := by
  refine ⟨run_storeAt_mid w b 0 74 y (there_of h (by rw [hx.1, hy.1]; exact Nat.le_refl _)) (by rw [infoS, hy.1]) hy.all, ?_⟩
  have h' := blk_setCells y.toList 0 w _ h
  rwa [setMany_all x y (by rw [hx.1, hy.1])] at h'
theorem ldV_at {x : Array Value} (hx : IsN 11 x) {w : World} {b o : Nat} (h : w.rangeAt b o x.toList) : (loadVar 74 ⟨b, o, none⟩).run Try.prog w = .ok (.agg x) w := agg_ldV Try.underlying74 rfl infoS hx h
end Go.Proofs.Ytmfhbobjambgaaa.TNet
