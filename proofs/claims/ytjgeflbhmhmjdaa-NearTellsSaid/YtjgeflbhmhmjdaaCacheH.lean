/- Package cache: Copy; no cache; the works. -/
import Derived.Test.YtjgeflbhmhmjdaaCacheG
import Derived.Test.YtjgeflbhmhmjdaaCacheEq
import Derived.Deep.RegionWith
import Derived.Test.YtjgeflbhmhmjdaaSep
set_option linter.unusedSimpArgs false
set_option linter.unusedVariables false
namespace Go.Proofs.Ytjgeflbhmhmjdaa.KA
open Go.RowKit
open BU (IsU words)
open PL (Cfg CC CV May)
attribute [local go_sem] Oper.semAt_some
attribute [local go_sem ↓] TLin.ld_eq TLin.st_eq TLin.al_eq TLin.bx_eq
attribute [local go_sem] TLin.al_run TLin.bx_run
/-- The cells of the first n lines. -/
theorem lnX_take {n cl : Nat} {A : Nat → Ln} {tl : Array Value} : (lnRow n A ++ tl).toList.take (n * 18) = (lnRow n A).toList := by
  rw [Array.toList_append, List.take_append_of_le_length (by rw [Array.length_toList, lnRow_size]; exact Nat.le_refl _), List.take_of_length_le (by rw [Array.length_toList, lnRow_size]; exact Nat.le_refl _)]
theorem rowX_take {s : Nat} {M : Nat → Int} {tm : Array Value} : (rowU s M ++ tm).toList.take (s * 1) = (rowU s M).toList := by
  rw [Nat.mul_one, Array.toList_append, List.take_append_of_le_length (by rw [Array.length_toList, rowU_size]; exact Nat.le_refl _), List.take_of_length_le (by rw [Array.length_toList, rowU_size]; exact Nat.le_refl _)]
theorem split_take {cur X : Array Value} {k : Nat} (h : cur.toList.take k = X.toList) : ∃ tl, cur = X ++ tl := by
  refine ⟨(cur.toList.drop k).toArray, ?_⟩
  apply Array.toList_inj.1
  rw [Array.toList_append, ← h]
  simp
section
variable {w0 W W' : World} {p : Kp} {T : TypeId} {c : Cfg} {A : Nat → Ln} {M : Nat → Int} {L : List Obj}
abbrev Kp.ob (p : Kp) (T : TypeId) (c : Cfg) (A : Nat → Ln) (M : Nat → Int) (L : List Obj) : List Obj := boxO p.kb (p.cells c) T :: boxO p.gl (lnRow (p.s * p.y) A ++ p.tl) LT :: boxO p.gm (rowU p.s M ++ p.tm) UT :: L
theorem sep_rot {G : Nat → Prop} {w0 W : World} {a b c d e f : Obj} {L : List Obj} (h : Sep G w0 W (a :: b :: c :: d :: e :: f :: L)) : Sep G w0 W (d :: e :: f :: a :: b :: c :: L) := by
  have h1 := h.sink 5
  have h2 := Sep.sink 5 h1
  exact Sep.sink 5 h2
theorem CIs.drop3 {p' : Kp} {A' : Nat → Ln} {M' : Nat → Int} {T' : TypeId} {c' : Cfg} (h : CIs T w0 W p c A M (p'.ob T' c' A' M' L)) : CIs T w0 W p c A M L :=
  ⟨((h.sep.drop 3 (by simp)).drop 3 (by simp)).drop 3 (by simp), h.fits, h.ok⟩
theorem CIs.rot {p' : Kp} {A' : Nat → Ln} {M' : Nat → Int} {T' : TypeId} (h : CIs T w0 W p c A M (p'.ob T' c A' M' L)) (hf : p'.Fits c) (hok : OkA A' M') : CIs T' w0 W p' c A' M' (p.ob T c A M L) :=
  ⟨sep_rot h.sep, hf, hok⟩
end
end Go.Proofs.Ytjgeflbhmhmjdaa.KA
set_option linter.unusedSimpArgs false
set_option linter.unusedVariables false
namespace Go.Proofs.Ytjgeflbhmhmjdaa.TBak
open Go.RowKit
/-- Nothing in it. -/
def Z : Array Value := #[.int .i64 0, .int .u32 0, .int .u32 0, .int .u32 0, .int .u32 0, .int .u32 0, .int .u32 0, .int .u32 0, .int .u32 0, .int .u32 0, .int .u32 0, .int .u32 0, .int .u32 0, .int .u32 0, .int .u32 0, .int .u32 0, .int .u32 0, .bool false]
theorem size_Z : Z.size = 18 := by kernel_rfl
theorem isZ : IsN 18 Z := ⟨size_Z, Array.all_eq_true_iff_forall_mem.1 (by kernel_rfl)⟩
theorem infoZ : (Try.prog.info? 110).map (fun i => (i.zero, i.size)) = some (some (.agg Z), 18) := by kernel_rfl
theorem infoS : (Try.prog.info? 110).map (·.size) = some 18 := by kernel_rfl
theorem infoSZ : (Try.prog.info? 110).map (·.size) = some Z.size := by kernel_rfl
def ld (v : Value) : Sem Value := Instr.loadAt 110 v
def st (p v : Value) : Sem Unit := Instr.storeAt 110 p v
def bx (v : Value) : Sem Value := Instr.box 110 v
def al : Sem Value := Instr.alloc 110 true (.tuple #[])
theorem ld_eq (v : Value) : Instr.loadAt 110 v = ld v := rfl
theorem st_eq (p v : Value) : Instr.storeAt 110 p v = st p v := rfl
theorem bx_eq (v : Value) : Instr.box 110 v = bx v := rfl
theorem al_eq : Instr.alloc 110 true (.tuple #[]) = al := rfl
theorem al_run (w : World) : al.run Try.prog w = .ok (.pointer (some ⟨w.heap.size, 0, none⟩)) (w.alloc (.cells Z 110)) := agg_alloc (agg_zero infoZ) w
theorem bx_run (x : Array Value) (w : World) : (bx (.agg x)).run Try.prog w = .ok (.pointer (some ⟨w.heap.size, 0, none⟩)) (w.alloc (.cells x 110)) := agg_box x w
theorem st_new {x : Array Value} (hx : IsN 18 x) (w : World) : (st (.pointer (some ⟨w.heap.size, 0, none⟩)) (.agg x)).run Try.prog (w.alloc (.cells Z 110)) = .ok () (w.alloc (.cells x 110)) := agg_st_new infoSZ size_Z hx w
theorem ld_at {x : Array Value} (hx : IsN 18 x) {w : World} {b o : Nat} (h : w.rangeAt b o x.toList) : (ld (.pointer (some ⟨b, o, none⟩))).run Try.prog w = .ok (.agg x) w := agg_ld Try.underlying110 rfl infoS hx h
theorem ld_new {x : Array Value} (hx : IsN 18 x) (w : World) : (ld (.pointer (some ⟨w.heap.size, 0, none⟩))).run Try.prog (w.alloc (.cells x 110)) = .ok (.agg x) (w.alloc (.cells x 110)) := ld_at hx (Blk.new w x _).whole
theorem st_at {x y : Array Value} (hx : IsN 18 x) (hy : IsN 18 y) {w : World} {b : Nat} {T : TypeId} (h : Blk w b x T) : (st (.pointer (some ⟨b, 0, none⟩)) (.agg y)).run Try.prog w = .ok () (w.setCells b 0 y.toList) ∧ Blk (w.setCells b 0 y.toList) b y T := by
  refine ⟨run_storeAt_mid w b 0 110 y (there_of h (by rw [hx.1, hy.1]; exact Nat.le_refl _)) (by rw [infoS, hy.1]) hy.all, ?_⟩
  have h' := blk_setCells y.toList 0 w _ h
  rwa [setMany_all x y (by rw [hx.1, hy.1])] at h'
theorem ldV_at {x : Array Value} (hx : IsN 18 x) {w : World} {b o : Nat} (h : w.rangeAt b o x.toList) : (loadVar 110 ⟨b, o, none⟩).run Try.prog w = .ok (.agg x) w := agg_ldV Try.underlying110 rfl infoS hx h
end Go.Proofs.Ytjgeflbhmhmjdaa.TBak
