/- Notes and jobs that are built of parts, at one stroke. -/
import Derived.Test.YtlhbnndnkcpomaaDoorHomeO
set_option linter.unusedSimpArgs false
set_option linter.unusedVariables false
namespace Go.Proofs.YtlhbnndnkcpomaaDoor.HO
open Go.RowKit
open BU (IsU words)
theorem fill_step {place : Nat → Option (Nat × Nat)} {cells : Array Value} {i off size : Nat} {v : Value} {rest : List (Nat × Value)} (hp : place i = some (off, size)) (hs : v.cells.size = size) (hl : off + size ≤ cells.size) :
    Instr.fill place cells ((i, v) :: rest) = Instr.fill place (setMany cells off v.cells.toList) rest := by
  have e := fold_zip off v.cells.toList 0 cells
  simp only [Nat.add_zero] at e
  have e2 : v.cells.zipIdx.foldl (fun cs (p : Value × Nat) => cs.setIfInBounds (off + p.2) p.1) cells = setMany cells off v.cells.toList := by
    rw [← Array.foldl_toList, Array.toList_zipIdx]
    exact e
  have h2 : ¬ (v.cells.size ≠ size ∨ off + v.cells.size > cells.size) := by rw [hs]; rintro (h | h); exact h rfl; omega
  have h3 : (decide (v.cells.size ≠ size) || decide (off + v.cells.size > cells.size)) = false := by simp; omega
  show (match place i with | none => none | some (off, size) => if (decide (v.cells.size ≠ size) || decide (off + v.cells.size > cells.size)) = true then none else Instr.fill place (v.cells.zipIdx.foldl (fun cs (p : Value × Nat) => cs.setIfInBounds (off + p.2) p.1) cells) rest) = _
  rw [hp]
  simp only [h3, Bool.false_eq_true, if_false]
  rw [e2]
theorem fill_nil {place : Nat → Option (Nat × Nat)} {cells : Array Value} : Instr.fill place cells [] = some cells := rfl
theorem setMany_tail {A B D : Array Value} {k : Nat} (hA : A.size = k) (h : D.size = B.size) : setMany (A ++ B) k D.toList = A ++ D := by
  subst hA
  apply Array.ext_getElem?
  intro j
  rw [get_setMany, Array.size_append, Array.length_toList, h]
  by_cases h1 : j < A.size
  · rw [if_neg (by omega), Array.getElem?_append_left h1, Array.getElem?_append_left h1]
  · by_cases h2 : j < A.size + B.size
    · rw [if_pos ⟨by omega, by omega, h2⟩, Array.getElem?_append_right (by omega), Array.getElem?_toList]
    · rw [if_neg (by omega), Array.getElem?_eq_none (by rw [Array.size_append]; omega), Array.getElem?_eq_none (by rw [Array.size_append]; omega)]
theorem setMany_front {A B D : Array Value} (h : D.size = A.size) : setMany (A ++ B) 0 D.toList = D ++ B := by
  apply Array.ext_getElem?
  intro j
  rw [get_setMany, Array.size_append, Array.length_toList, h]
  by_cases h1 : j < A.size
  · rw [if_pos ⟨by omega, by omega, by omega⟩, Array.getElem?_append_left (by omega), Array.getElem?_toList, Nat.sub_zero]
  · rw [if_neg (by omega), Array.getElem?_append_right (by omega), Array.getElem?_append_right (by omega), h]
def bdN (parts : Array (Nat × Value)) : Sem Value := Instr.build NT parts
theorem bdN_eq (parts : Array (Nat × Value)) : Instr.build NT parts = bdN parts := rfl
def bdJ (parts : Array (Nat × Value)) : Sem Value := Instr.build JT parts
theorem bdJ_eq (parts : Array (Nat × Value)) : Instr.build JT parts = bdJ parts := rfl
def bsN (parts : Array (Nat × Value)) : Sem Value := Instr.buildSlice 36 1 parts
theorem bsN_eq (parts : Array (Nat × Value)) : Instr.buildSlice 36 1 parts = bsN parts := rfl
theorem bsN_run {x : Array Value} (hx : x.size = 24) (w : World) : (bsN #[(0, .agg x)]).run Tryd.prog w = .ok (.slice (some ⟨w.heap.size, 0, none⟩) 1 1) (w.alloc (.cells x NT)) :=
  agg_bs Tryd.underlying36 TNot.infoZ TNot.size_Z (by decide) (by decide) hx w
/-- What a build of a struct comes to. -/
theorem build_run {P : Program} {T : TypeId} {Z : Array Value} {fs : Array Field} {pl : List (Nat × Nat)} (hu : P.underlying T = some (.struct fs)) {n : Nat} (hz : (P.info? T).map (fun i => (i.zero, i.size)) = some (some (.agg Z), n))
    (hpl : ∀ w, (fs.mapM fun (f : Field) => do pure (f.offset, ← sizeOf f.type) : Sem (Array (Nat × Nat))).run P w = .ok pl.toArray w) (parts : Array (Nat × Value)) (cs : Array Value)
    (hf : Instr.fill (fun i => pl.toArray[i]?) Z parts.toList = some cs) (w : World) : (Instr.build T parts).run P w = .ok (.agg cs) w := by
  have h0 := agg_zero hz w
  unfold Instr.build
  simp only [Sem.run_bind, h0, Result.andThen_ok, run_underlying hu, hpl, Value.cells]
  rw [hf]
  rfl
set_option maxRecDepth 100000 in
theorem ntPl (w : World) : ((Tryd.prog.fieldsOf 47).mapM fun (f : Field) => do pure (f.offset, ← sizeOf f.type) : Sem (Array (Nat × Nat))).run Tryd.prog w = .ok #[(0, 1), (1, 1), (2, 1), (3, 1), (4, 1), (5, 1), (6, 1), (7, 1), (8, 16)] w := by
  have hf : (Tryd.prog.fieldsOf 47).toList = [{ name := "Kind", type := 5, offset := 0, embedded := false, tag := "", pkgPath := "", byteOffset := 0 },
        { name := "From", type := 3, offset := 1, embedded := false, tag := "", pkgPath := "", byteOffset := 8 },
        { name := "To", type := 3, offset := 2, embedded := false, tag := "", pkgPath := "", byteOffset := 16 },
        { name := "Block", type := 3, offset := 3, embedded := false, tag := "", pkgPath := "", byteOffset := 24 },
        { name := "Stamp", type := 41, offset := 4, embedded := false, tag := "", pkgPath := "", byteOffset := 32 },
        { name := "State", type := 42, offset := 5, embedded := false, tag := "", pkgPath := "", byteOffset := 40 },
        { name := "Has", type := 4, offset := 6, embedded := false, tag := "", pkgPath := "", byteOffset := 41 },
        { name := "Stick", type := 4, offset := 7, embedded := false, tag := "", pkgPath := "", byteOffset := 42 },
        { name := "Data", type := 45, offset := 8, embedded := false, tag := "", pkgPath := "", byteOffset := 44 }] := by kernel_rfl
  have e : Tryd.prog.fieldsOf 47 = (Tryd.prog.fieldsOf 47).toList.toArray := by simp
  rw [e, hf]
  simp [Tryd.sizeOf5, Tryd.sizeOf3, Tryd.sizeOf41, Tryd.sizeOf42, Tryd.sizeOf4, Tryd.sizeOf45]
set_option maxRecDepth 100000 in
theorem jbPl (w : World) : ((Tryd.prog.fieldsOf JT).mapM fun (f : Field) => do pure (f.offset, ← sizeOf f.type) : Sem (Array (Nat × Nat))).run Tryd.prog w = .ok #[(0, 24), (24, 1), (25, 1), (26, 1), (27, 1)] w := by
  have hf : ((Tryd.prog.fieldsOf JT).toList.map fun f => (f.offset, f.type)) = [(0, 47), (24, 57), (25, 4), (26, 4), (27, 41)] := by kernel_rfl
  have e : Tryd.prog.fieldsOf JT = (Tryd.prog.fieldsOf JT).toList.toArray := by simp
  rw [e]
  generalize (Tryd.prog.fieldsOf JT).toList = l at *
  match l, hf with
  | [f0, f1, f2, f3, f4], hf =>
    simp only [List.map_cons, List.map_nil, List.cons.injEq, Prod.mk.injEq, and_true] at hf
    obtain ⟨⟨a0, b0⟩, ⟨a1, b1⟩, ⟨a2, b2⟩, ⟨a3, b3⟩, a4, b4⟩ := hf
    simp [a0, a1, a2, a3, a4, b0, b1, b2, b3, b4, Tryd.sizeOf47, Tryd.sizeOf57, Tryd.sizeOf4, Tryd.sizeOf41]
set_option maxRecDepth 100000 in
/-- A note that brings a block. -/
theorem bd_data {D : Array Value} (hD : D.size = 16) (too b st : Int) (w : World) : (bdN #[(0, .int .u8 6), (1, .int .i64 (-1)), (2, .int .i64 too), (3, .int .i64 b), (5, .int .u8 st), (6, .bool true), (8, .agg D)]).run Tryd.prog w = .ok (.agg (ntData too b st D).cells) w := by
  refine build_run (pl := [(0, 1), (1, 1), (2, 1), (3, 1), (4, 1), (5, 1), (6, 1), (7, 1), (8, 16)]) Tryd.underlying47 TNot.infoZ ntPl _ _ ?_ w
  rw [fill_step (off := 0) (size := 1) rfl rfl (by (repeat rw [size_setMany]); decide), fill_step (off := 1) (size := 1) rfl rfl (by (repeat rw [size_setMany]); decide), fill_step (off := 2) (size := 1) rfl rfl (by (repeat rw [size_setMany]); decide), fill_step (off := 3) (size := 1) rfl rfl (by (repeat rw [size_setMany]); decide), fill_step (off := 5) (size := 1) rfl rfl (by (repeat rw [size_setMany]); decide), fill_step (off := 6) (size := 1) rfl rfl (by (repeat rw [size_setMany]); decide),
    fill_step (v := .agg D) (off := 8) (size := 16) rfl hD (by (repeat rw [size_setMany]); decide), fill_nil]
  have e1 : setMany (setMany (setMany (setMany (setMany (setMany TNot.Z 0 (Value.int .u8 6).cells.toList) 1 (Value.int .i64 (-1)).cells.toList) 2 (Value.int .i64 too).cells.toList) 3 (Value.int .i64 b).cells.toList) 5 (Value.int .u8 st).cells.toList) 6 (Value.bool true).cells.toList = #[.int .u8 6, .int .i64 (-1), .int .i64 too, .int .i64 b, .int .u64 0, .int .u8 st, .bool true, .bool false] ++ TBlk.Z := by kernel_rfl
  rw [e1]
  exact congrArg some (setMany_tail (A := #[.int .u8 6, .int .i64 (-1), .int .i64 too, .int .i64 b, .int .u64 0, .int .u8 st, .bool true, .bool false]) (B := TBlk.Z) rfl hD)
set_option maxRecDepth 100000 in
theorem bd_ack (too b : Int) (w : World) : (bdN #[(0, .int .u8 8), (1, .int .i64 (-1)), (2, .int .i64 too), (3, .int .i64 b)]).run Tryd.prog w = .ok (.agg (ntAck too b).cells) w := by
  refine build_run (pl := [(0, 1), (1, 1), (2, 1), (3, 1), (4, 1), (5, 1), (6, 1), (7, 1), (8, 16)]) Tryd.underlying47 TNot.infoZ ntPl _ _ ?_ w
  rw [fill_step (off := 0) (size := 1) rfl rfl (by (repeat rw [size_setMany]); decide), fill_step (off := 1) (size := 1) rfl rfl (by (repeat rw [size_setMany]); decide), fill_step (off := 2) (size := 1) rfl rfl (by (repeat rw [size_setMany]); decide), fill_step (off := 3) (size := 1) rfl rfl (by (repeat rw [size_setMany]); decide), fill_nil]
  exact congrArg some (by kernel_rfl)
set_option maxRecDepth 100000 in
theorem bd_stamp (k too b s : Int) (w : World) : (bdN #[(0, .int .u8 k), (1, .int .i64 (-1)), (2, .int .i64 too), (3, .int .i64 b), (4, .int .u64 s)]).run Tryd.prog w = .ok (.agg (ntAsk k too b s).cells) w := by
  refine build_run (pl := [(0, 1), (1, 1), (2, 1), (3, 1), (4, 1), (5, 1), (6, 1), (7, 1), (8, 16)]) Tryd.underlying47 TNot.infoZ ntPl _ _ ?_ w
  rw [fill_step (off := 0) (size := 1) rfl rfl (by (repeat rw [size_setMany]); decide), fill_step (off := 1) (size := 1) rfl rfl (by (repeat rw [size_setMany]); decide), fill_step (off := 2) (size := 1) rfl rfl (by (repeat rw [size_setMany]); decide), fill_step (off := 3) (size := 1) rfl rfl (by (repeat rw [size_setMany]); decide), fill_step (off := 4) (size := 1) rfl rfl (by (repeat rw [size_setMany]); decide), fill_nil]
  exact congrArg some (by kernel_rfl)
set_option maxRecDepth 100000 in
theorem bd_job {n : Nt} (hn : n.cells.size = 24) (who : Mk) (w : World) : (bdJ #[(0, .agg n.cells), (1, VM who)]).run Tryd.prog w = .ok (.agg (Jb.mk n who false false 0).cells) w := by
  refine build_run (pl := [(0, 24), (24, 1), (25, 1), (26, 1), (27, 1)]) Tryd.underlying105 TJob.infoZ jbPl _ _ ?_ w
  have e0 : TJob.Z = TNot.Z ++ #[.int .u32 0, .bool false, .bool false, .int .u64 0] := by kernel_rfl
  rw [fill_step (v := .agg n.cells) (off := 0) (size := 24) rfl hn (by decide), fill_step (off := 24) (size := 1) rfl rfl (by rw [size_setMany]; decide), fill_nil, e0]
  show some (setMany (setMany (TNot.Z ++ _) 0 n.cells.toList) 24 _) = _
  rw [setMany_front (by rw [hn]; exact TNot.size_Z.symm)]
  congr 1
  apply Array.ext_getElem?
  intro j
  rw [get_setMany, Array.size_append, hn]
  unfold Jb.cells
  by_cases h1 : j < 24
  · rw [if_neg (by simp [Value.cells]; omega), Array.getElem?_append_left (by omega), Array.getElem?_append_left (by simp only; omega)]
  · rw [Array.getElem?_append_right (by omega), Array.getElem?_append_right (by simp only; omega)]
    simp only [hn]
    by_cases h2 : j = 24
    · subst h2; rfl
    · rw [if_neg (by simp [Value.cells]; omega)]
      by_cases h3 : j < 28
      · have : j = 25 ∨ j = 26 ∨ j = 27 := by omega
        rcases this with rfl | rfl | rfl <;> rfl
      · rw [Array.getElem?_eq_none (by simp; omega), Array.getElem?_eq_none (by simp [Jb.tail]; omega)]
/-- A job is answered. -/
theorem Jb.set25 {j : Jb} (h : j.cells.size = 28) : j.cells.setIfInBounds 25 (.bool true) = ({ j with ans := true } : Jb).cells := by
  have hs : j.ask.cells.size = 24 := by simp [Jb.cells, Jb.tail] at h; omega
  unfold Jb.cells
  rw [Array.setIfInBounds_append_right (by omega), hs]
  rfl
theorem Jb.set_tail {j : Jb} (h : j.cells.size = 28) (i : Nat) (v : Value) : j.cells.setIfInBounds (24 + i) v = j.ask.cells ++ j.tail.setIfInBounds i v := by
  have hs : j.ask.cells.size = 24 := by simp [Jb.cells, Jb.tail] at h; omega
  unfold Jb.cells
  rw [Array.setIfInBounds_append_right (by omega), hs, Nat.add_sub_cancel_left]
end Go.Proofs.YtlhbnndnkcpomaaDoor.HO
