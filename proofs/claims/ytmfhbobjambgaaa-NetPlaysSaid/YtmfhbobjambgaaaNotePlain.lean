/- Notes: their cells, when two are the same, which may be. -/
import Derived.Test.YtmfhbobjambgaaaBlkU
import Derived.Test.YtmfhbobjambgaaaAggNote
set_option linter.unusedSimpArgs false
set_option linter.unusedVariables false
namespace Go.Proofs.Ytmfhbobjambgaaa
open Go.RowKit
open BU (IsU words)

structure Nt where
  kind : Int
  frm : Int
  too : Int
  blk : Int
  stamp : Int
  state : Int
  has : Bool
  stick : Bool
  D : Array Value
namespace Nt
def head (n : Nt) : Array Value := #[.int .u8 n.kind, .int .i64 n.frm, .int .i64 n.too, .int .i64 n.blk, .int .u64 n.stamp, .int .u8 n.state, .bool n.has, .bool n.stick]
def cells (n : Nt) : Array Value := n.head ++ n.D
/-- Its numbers fit their kinds. -/
structure Ok (n : Nt) : Prop where
  kind : 0 ≤ n.kind ∧ n.kind ≤ 255
  stamp : 0 ≤ n.stamp ∧ n.stamp ≤ 18446744073709551615
  state : 0 ≤ n.state ∧ n.state ≤ 255
  isU : IsU n.D
theorem Ok.isN {n : Nt} (h : IsU n.D) : IsN 24 n.cells := by
  refine ⟨by simp [cells, head, h.1], fun u hu => ?_⟩
  unfold cells at hu
  rcases Array.mem_append.1 hu with hu | hu
  · simp only [head, List.mem_toArray, List.mem_cons, List.not_mem_nil, or_false] at hu
    rcases hu with rfl | rfl | rfl | rfl | rfl | rfl | rfl | rfl <;> rfl
  · obtain ⟨z, rfl⟩ := h.2 u hu; rfl
theorem get0 (n : Nt) : n.cells[0]? = some (.int .u8 n.kind) := by unfold cells; rw [Array.getElem?_append_left (by simp [head])]; rfl
theorem get1 (n : Nt) : n.cells[1]? = some (.int .i64 n.frm) := by unfold cells; rw [Array.getElem?_append_left (by simp [head])]; rfl
theorem get2 (n : Nt) : n.cells[2]? = some (.int .i64 n.too) := by unfold cells; rw [Array.getElem?_append_left (by simp [head])]; rfl
theorem get3 (n : Nt) : n.cells[3]? = some (.int .i64 n.blk) := by unfold cells; rw [Array.getElem?_append_left (by simp [head])]; rfl
theorem get4 (n : Nt) : n.cells[4]? = some (.int .u64 n.stamp) := by unfold cells; rw [Array.getElem?_append_left (by simp [head])]; rfl
theorem get5 (n : Nt) : n.cells[5]? = some (.int .u8 n.state) := by unfold cells; rw [Array.getElem?_append_left (by simp [head])]; rfl
theorem get6 (n : Nt) : n.cells[6]? = some (.bool n.has) := by unfold cells; rw [Array.getElem?_append_left (by simp [head])]; rfl
theorem get7 (n : Nt) : n.cells[7]? = some (.bool n.stick) := by unfold cells; rw [Array.getElem?_append_left (by simp [head])]; rfl
theorem getD (n : Nt) (j : Nat) : n.cells[8 + j]? = n.D[j]? := by unfold cells; rw [Array.getElem?_append_right (by simp [head])]; simp [head]
theorem ext8 {n : Nt} (h : n.D.size = 16) : n.cells.extract 8 24 = n.D := by
  apply Array.ext_getElem?
  intro j
  rw [Array.getElem?_extract]
  have hs : n.cells.size = 24 := by simp [cells, head, h]
  split
  · rw [n.getD]
  · rw [Array.getElem?_eq_none (by omega)]
/-- No note. -/
def nil : Nt := ⟨0, 0, 0, 0, 0, 0, false, false, TBlk.Z⟩
theorem nil_cells : nil.cells = TNot.Z := by kernel_rfl
theorem nil_ok : nil.Ok := ⟨by decide, by decide, by decide, BU.isU_Z⟩
/-- The same? -/
def same (n m : Nt) : Bool := n.kind == m.kind && (n.frm == m.frm && (n.too == m.too && (n.blk == m.blk && (n.stamp == m.stamp && (n.state == m.state && (n.has == m.has && (n.stick == m.stick && (words n.D == words m.D))))))))
theorem same_iff {n m : Nt} (hn : n.Ok) (hm : m.Ok) : n.same m = true ↔ n = m := by
  unfold same
  constructor
  · intro h
    simp only [Bool.and_eq_true, beq_iff_eq] at h
    obtain ⟨h1, h2, h3, h4, h5, h6, h7, h8, h9⟩ := h
    have h9 := (BU.words_inj hn.isU hm.isU).1 h9
    cases n; cases m
    simp_all
  · rintro rfl
    simp
theorem same_self (n : Nt) : n.same n = true := by simp [same]
theorem cells_inj {n m : Nt} (h : n.cells = m.cells) : n = m := by
  have e0 := n.get0; rw [h, m.get0] at e0
  have e1 := n.get1; rw [h, m.get1] at e1
  have e2 := n.get2; rw [h, m.get2] at e2
  have e3 := n.get3; rw [h, m.get3] at e3
  have e4 := n.get4; rw [h, m.get4] at e4
  have e5 := n.get5; rw [h, m.get5] at e5
  have e6 := n.get6; rw [h, m.get6] at e6
  have e7 := n.get7; rw [h, m.get7] at e7
  have eD : n.D = m.D := by
    apply Array.ext_getElem?
    intro j
    rw [← n.getD, ← m.getD, h]
  cases n; cases m
  simp_all
end Nt

set_option maxRecDepth 100000 in
theorem eqNote {n m : Nt} (hn : IsU n.D) (hm : IsU m.D) (w : World) : (Op.equalIn 10000 37 (.agg n.cells) (.agg m.cells)).run Try.prog w = .ok (n.same m) w := by
  have hp : Try.prog.stoodInHeld 37 = false := by kernel_rfl
  rw [run_equalIn_struct w 9999 37 n.cells m.cells Try.underlying37 hp]
  have hf : (Try.prog.fieldsOf 37).toList = [{ name := "Kind", type := 5, offset := 0, embedded := false, tag := "", pkgPath := "", byteOffset := 0 },
        { name := "From", type := 3, offset := 1, embedded := false, tag := "", pkgPath := "", byteOffset := 8 },
        { name := "To", type := 3, offset := 2, embedded := false, tag := "", pkgPath := "", byteOffset := 16 },
        { name := "Block", type := 3, offset := 3, embedded := false, tag := "", pkgPath := "", byteOffset := 24 },
        { name := "Stamp", type := 31, offset := 4, embedded := false, tag := "", pkgPath := "", byteOffset := 32 },
        { name := "State", type := 32, offset := 5, embedded := false, tag := "", pkgPath := "", byteOffset := 40 },
        { name := "Has", type := 4, offset := 6, embedded := false, tag := "", pkgPath := "", byteOffset := 41 },
        { name := "Stick", type := 4, offset := 7, embedded := false, tag := "", pkgPath := "", byteOffset := 42 },
        { name := "Data", type := 35, offset := 8, embedded := false, tag := "", pkgPath := "", byteOffset := 44 }] := by kernel_rfl
  rw [hf]
  have q : ∀ (n : Nt), IsU n.D → (part 5 n.cells 0).run Try.prog w = .ok (.int .u8 n.kind) w ∧ (part 3 n.cells 1).run Try.prog w = .ok (.int .i64 n.frm) w ∧ (part 3 n.cells 2).run Try.prog w = .ok (.int .i64 n.too) w ∧
      (part 3 n.cells 3).run Try.prog w = .ok (.int .i64 n.blk) w ∧ (part 31 n.cells 4).run Try.prog w = .ok (.int .u64 n.stamp) w ∧ (part 32 n.cells 5).run Try.prog w = .ok (.int .u8 n.state) w ∧
      (part 4 n.cells 6).run Try.prog w = .ok (.bool n.has) w ∧ (part 4 n.cells 7).run Try.prog w = .ok (.bool n.stick) w ∧ (part 35 n.cells 8).run Try.prog w = .ok (.agg n.D) w := fun n hn => by
    refine ⟨?_, ?_, ?_, ?_, ?_, ?_, ?_, ?_, ?_⟩
    · simp [part, Try.isAgg5, n.get0]
    · simp [part, Try.isAgg3, n.get1]
    · simp [part, Try.isAgg3, n.get2]
    · simp [part, Try.isAgg3, n.get3]
    · simp [part, Try.isAgg31, n.get4]
    · simp [part, Try.isAgg32, n.get5]
    · simp [part, Try.isAgg4, n.get6]
    · simp [part, Try.isAgg4, n.get7]
    · simp [part, Try.isAgg35, Try.sizeOf35, Nt.ext8 hn.1]
  obtain ⟨a0, a1, a2, a3, a4, a5, a6, a7, a8⟩ := q n hn
  obtain ⟨b0, b1, b2, b3, b4, b5, b6, b7, b8⟩ := q m hm
  have step : ∀ (f : Field) (fs : List Field) (x y : Value) (r s : Bool), (f.name == "_") = false → (part f.type n.cells f.offset).run Try.prog w = .ok x w → (part f.type m.cells f.offset).run Try.prog w = .ok y w → (Op.equalIn 9999 f.type x y).run Try.prog w = .ok r w →
      (Op.eqFields 9999 n.cells m.cells fs).run Try.prog w = .ok s w → (Op.eqFields 9999 n.cells m.cells (f :: fs)).run Try.prog w = .ok (r && s) w := fun f fs x y r s h0 h1 h2 h3 h4 => by
    have h0' : f.name ≠ "_" := by simpa using h0
    simp only [Op.eqFields, if_pos h0', Sem.run_bind, h1, h2, h3, Result.andThen_ok]
    cases r
    · simp [Sem.run_pure]
    · simpa using h4
  unfold Nt.same
  refine step _ _ _ _ _ _ rfl a0 b0 (run_equalIn_int w 9998 _ .u8 .u8 _ _ Try.underlying5) ?_
  refine step _ _ _ _ _ _ rfl a1 b1 (run_equalIn_int w 9998 _ .i64 .i64 _ _ Try.underlying3) ?_
  refine step _ _ _ _ _ _ rfl a2 b2 (run_equalIn_int w 9998 _ .i64 .i64 _ _ Try.underlying3) ?_
  refine step _ _ _ _ _ _ rfl a3 b3 (run_equalIn_int w 9998 _ .i64 .i64 _ _ Try.underlying3) ?_
  refine step _ _ _ _ _ _ rfl a4 b4 (run_equalIn_int w 9998 _ .u64 .u64 _ _ Try.underlying31) ?_
  refine step _ _ _ _ _ _ rfl a5 b5 (run_equalIn_int w 9998 _ .u8 .u8 _ _ Try.underlying32) ?_
  refine step _ _ _ _ _ _ rfl a6 b6 (run_equalIn_bool' w 9998 _ _ _ Try.underlying4) ?_
  refine step _ _ _ _ _ _ rfl a7 b7 (run_equalIn_bool' w 9998 _ _ _ Try.underlying4) ?_
  have e8 : (words n.D == words m.D) = ((words n.D == words m.D) && true) := by simp
  rw [e8]
  exact step _ _ _ _ _ _ rfl a8 b8 (BU.eq_run hn hm 9997 w) rfl

theorem guardNote (op : BinOp) (x y : Operand) (xs ys : Array Value) (w : World) : (eqGuard op 37 x y (.agg xs) (.agg ys)).run Try.prog w = .ok () w := run_eqGuard_agg (P := Try.prog) w op 37 x y xs ys (by kernel_rfl)
theorem guardBlk (op : BinOp) (x y : Operand) (xs ys : Array Value) (w : World) : (eqGuard op 35 x y (.agg xs) (.agg ys)).run Try.prog w = .ok () w := run_eqGuard_agg (P := Try.prog) w op 35 x y xs ys (by kernel_rfl)
/-- '==', '!=' of notes and blocks, each at one stroke. -/
def eqN (a b : Value) : Sem Value := binOp .eql 37 a b
def neN (a b : Value) : Sem Value := binOp .neq 37 a b
def eqB (a b : Value) : Sem Value := binOp .eql 35 a b
def neB (a b : Value) : Sem Value := binOp .neq 35 a b
theorem eqN_eq (a b : Value) : binOp .eql 37 a b = eqN a b := rfl
theorem neN_eq (a b : Value) : binOp .neq 37 a b = neN a b := rfl
theorem eqB_eq (a b : Value) : binOp .eql 35 a b = eqB a b := rfl
theorem neB_eq (a b : Value) : binOp .neq 35 a b = neB a b := rfl
theorem eqN_run {n m : Nt} (hn : IsU n.D) (hm : IsU m.D) (w : World) : (eqN (.agg n.cells) (.agg m.cells)).run Try.prog w = .ok (.bool (n.same m)) w := by
  have h := eqNote hn hm w
  generalize n.cells = a at *
  generalize m.cells = b at *
  unfold eqN
  simp only [binOp]
  simp [Op.equal, Op.maxDepth, h]
theorem neN_run {n m : Nt} (hn : IsU n.D) (hm : IsU m.D) (w : World) : (neN (.agg n.cells) (.agg m.cells)).run Try.prog w = .ok (.bool (!n.same m)) w := by
  have h := eqNote hn hm w
  generalize n.cells = a at *
  generalize m.cells = b at *
  unfold neN
  simp only [binOp]
  simp [Op.equal, Op.maxDepth, h]
theorem eqB_run {D E : Array Value} (hn : IsU D) (hm : IsU E) (w : World) : (eqB (.agg D) (.agg E)).run Try.prog w = .ok (.bool (words D == words E)) w := by
  have h := BU.eq_run hn hm 9998 w
  unfold eqB
  simp only [binOp]
  simp [Op.equal, Op.maxDepth, h]
theorem neB_run {D E : Array Value} (hn : IsU D) (hm : IsU E) (w : World) : (neB (.agg D) (.agg E)).run Try.prog w = .ok (.bool (!(words D == words E))) w := by
  have h := BU.eq_run hn hm 9998 w
  unfold neB
  simp only [binOp]
  simp [Op.equal, Op.maxDepth, h]
/-- Is there such a kind? -/
def kindB (k : Int) : Bool := decide (1 ≤ k) && decide (k ≤ 11)
def coreB (x : Int) : Bool := decide (0 ≤ x) && decide (x < 16)
/-- Which pools it is of. -/
def netN (k : Int) : Int := if kindB k = false then -1 else if k ≤ 3 then 0 else if k ≤ 5 then 1 else 2
def toHome (k : Int) : Bool := k == 1 || k == 2 || k == 3 || k == 9 || k == 10 || k == 11
def stamped (k : Int) : Bool := k == 1 || k == 2 || k == 4 || k == 5 || k == 7 || k == 10
/-- May a note be? -/
def MayN (n : Nt) : Bool :=
  kindB n.kind && (decide (0 ≤ n.blk) && decide (n.blk ≤ 255)) && coreB (if toHome n.kind then n.frm else n.too) && ((if toHome n.kind then n.too else n.frm) == -1) && (stamped n.kind || n.stamp == 0) &&
  (if n.kind == 6 then decide (1 ≤ n.state) && decide (n.state ≤ 3) else n.state == 0) && (n.kind == 3 || !n.stick) && (!(n.kind == 3 || n.kind == 6) || n.has) && (!n.has || (n.kind == 3 || n.kind == 6 || n.kind == 9)) && (n.has || words n.D == words TBlk.Z)
end Go.Proofs.Ytmfhbobjambgaaa
