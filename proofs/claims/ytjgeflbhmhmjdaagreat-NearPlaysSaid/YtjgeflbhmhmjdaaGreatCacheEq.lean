/- Lines: '==' at one stroke. -/
import Derived.Test.YtjgeflbhmhmjdaaGreatSep
set_option linter.unusedSimpArgs false
set_option linter.unusedVariables false
namespace Go.Proofs.YtjgeflbhmhmjdaaGreat
open Go.RowKit
open BU (IsU words)
namespace Ln
def same (n m : Ln) : Bool := n.blk == m.blk && (n.st == m.st && (words n.D == words m.D))
theorem same_self (n : Ln) : n.same n = true := by simp [same]
end Ln
set_option maxRecDepth 100000 in
theorem eqLine {n m : Ln} (hn : IsU n.D) (hm : IsU m.D) (w : World) : (Op.equalIn 10000 50 (.agg n.cells) (.agg m.cells)).run Tryz.prog w = .ok (n.same m) w := by
  have hp : Tryz.prog.stoodInHeld 50 = false := by kernel_rfl
  rw [run_equalIn_struct w 9999 50 n.cells m.cells Tryz.underlying50 hp]
  have hf : (Tryz.prog.fieldsOf 50).toList = [
        { name := "Block", type := 3, offset := 0, embedded := false, tag := "", pkgPath := "", byteOffset := 0 },
        { name := "State", type := 32, offset := 1, embedded := false, tag := "", pkgPath := "", byteOffset := 8 },
        { name := "Data", type := 35, offset := 2, embedded := false, tag := "", pkgPath := "", byteOffset := 12 }] := by kernel_rfl
  rw [hf]
  have q : ∀ (n : Ln), IsU n.D → (part 3 n.cells 0).run Tryz.prog w = .ok (.int .i64 n.blk) w ∧ (part 32 n.cells 1).run Tryz.prog w = .ok (.int .u8 n.st) w ∧
      (part 35 n.cells 2).run Tryz.prog w = .ok (.agg n.D) w := fun n hn => by
    refine ⟨?_, ?_, ?_⟩
    · simp [part, Tryz.isAgg3, n.get0]
    · simp [part, Tryz.isAgg32, n.get1]
    · simp [part, Tryz.isAgg35, Tryz.sizeOf35, Ln.cells]
      right; have := hn.1; omega
  obtain ⟨a0, a1, a2⟩ := q n hn
  obtain ⟨b0, b1, b2⟩ := q m hm
  have step : ∀ (f : Field) (fs : List Field) (x y : Value) (r s : Bool), (f.name == "_") = false → (part f.type n.cells f.offset).run Tryz.prog w = .ok x w → (part f.type m.cells f.offset).run Tryz.prog w = .ok y w → (Op.equalIn 9999 f.type x y).run Tryz.prog w = .ok r w →
      (Op.eqFields 9999 n.cells m.cells fs).run Tryz.prog w = .ok s w → (Op.eqFields 9999 n.cells m.cells (f :: fs)).run Tryz.prog w = .ok (r && s) w := fun f fs x y r s h0 h1 h2 h3 h4 => by
    have h0' : f.name ≠ "_" := by simpa using h0
    simp only [Op.eqFields, if_pos h0', Sem.run_bind, h1, h2, h3, Result.andThen_ok]
    cases r
    · simp [Sem.run_pure]
    · simpa using h4
  unfold Ln.same
  refine step _ _ _ _ _ _ rfl a0 b0 (run_equalIn_int w 9998 _ .i64 .i64 _ _ Tryz.underlying3) ?_
  refine step _ _ _ _ _ _ rfl a1 b1 (run_equalIn_int w 9998 _ .u8 .u8 _ _ Tryz.underlying32) ?_
  have e8 : (words n.D == words m.D) = ((words n.D == words m.D) && true) := by simp
  rw [e8]
  exact step _ _ _ _ _ _ rfl a2 b2 (BU.eq_run hn hm 9997 w) rfl
theorem guardLine (op : BinOp) (x y : Operand) (xs ys : Array Value) (w : World) : (eqGuard op 50 x y (.agg xs) (.agg ys)).run Tryz.prog w = .ok () w := run_eqGuard_agg (P := Tryz.prog) w op 50 x y xs ys (by kernel_rfl)
def eqL (a b : Value) : Sem Value := binOp .eql 50 a b
def neL (a b : Value) : Sem Value := binOp .neq 50 a b
theorem neL_eq (a b : Value) : binOp .neq 50 a b = neL a b := rfl
theorem neL_run {n m : Ln} (hn : IsU n.D) (hm : IsU m.D) (w : World) : (neL (.agg n.cells) (.agg m.cells)).run Tryz.prog w = .ok (.bool (!n.same m)) w := by
  have h := eqLine hn hm w
  generalize n.cells = a at *
  generalize m.cells = b at *
  unfold neL
  simp only [binOp]
  simp [Op.equal, Op.maxDepth, h]
end Go.Proofs.YtjgeflbhmhmjdaaGreat
