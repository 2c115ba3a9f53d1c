/- The contract of Copy. -/
import Derived.Test.YtdkdlgcgkkbghaaDealOver
set_option linter.unusedSimpArgs false
set_option linter.unusedVariables false
namespace Go.Proofs.Ytdkdlgcgkkbghaa.DL
open Go.RowKit
open Go.Proofs.Ytdkdlgcgkkbghaa.Ord

/-- A transaction is loaded, is stored, at one stroke. -/
def ldD (v : Value) : Sem Value := Instr.loadAt 53 v
def stD (p v : Value) : Sem Unit := Instr.storeAt 53 p v
theorem ldD_eq (v : Value) : Instr.loadAt 53 v = ldD v := rfl
theorem stD_eq (p v : Value) : Instr.storeAt 53 p v = stD p v := rfl
abbrev ZD : Array Value := #[.int .i64 0, .int .i64 0, .int .u32 0, .int .u32 0, .int .u32 0, .int .u32 0, .int .u32 0, .int .u32 0, .int .u32 0, .int .u32 0, .int .u32 0, .int .u32 0, .int .u32 0, .int .u32 0, .int .u32 0, .int .u32 0, .int .u32 0, .int .u32 0, .int .i64 0, .int .u64 0, .bool false, .bool false, .int .u32 0]
theorem ldD_run {w : World} {b : Nat} {nest : Int} {d : DS} (h : DAt w b nest d) : (ldD (.pointer (some ⟨b, 0, none⟩))).run Try.prog w = .ok (.agg (CD nest d)) w := by
  have h' := World.rangeAt_of_block h 0 23
  have e : ((CD nest d).extract 0 (0 + 23)).toList = (CD nest d).toList := by kernel_rfl
  have hr : w.rangeAt b 0 (CD nest d).toList := Eq.mp (congrArg (fun x => w.rangeAt b 0 x) e) h'
  exact run_loadAt_mid w b 0 53 (CD nest d).toList _ hr Try.underlying53 rfl (by kernel_rfl)
theorem stD_run (w : World) (nest : Int) (d : DS) : (stD (.pointer (some ⟨w.heap.size, 0, none⟩)) (.agg (CD nest d))).run Try.prog (w.alloc (.cells ZD 53)) = .ok () ((w.alloc (.cells ZD 53)).setCells w.heap.size 0 (CD nest d).toList) := by
  have e : (CD nest d).size = ZD.size := by kernel_rfl
  have ht : (w.alloc (.cells ZD 53)).there w.heap.size 0 (CD nest d).size := there_of (Blk.new w ZD _) (Nat.le_of_eq (by rw [e]; exact Nat.zero_add _))
  exact run_storeAt_mid _ w.heap.size 0 53 (CD nest d) ht (by kernel_rfl) (by kernel_rfl)
attribute [local go_sem ↓] ldD_eq stD_eq

set_option maxRecDepth 100000 in
set_option maxHeartbeats 1000000 in
theorem copy_any (b : Nat) (nest : Int) (d : DS) (w : World) (hb : DAt w b nest d) :
    Calls Try.prog 21 #[.pointer (some ⟨b, 0, none⟩)] w fun e w' => e = .returned (.pointer (some ⟨w.heap.size, 0, none⟩)) ∧ DAt w' w.heap.size nest d ∧ Upd NoF w w' := by
  have l1 := ldD_run hb
  have s1 := stD_run w nest d
  obtain ⟨h1, h2⟩ := new_store w ZD 53 (CD nest d).toList
  have e : setMany ZD 0 (CD nest d).toList = CD nest d := by kernel_rfl
  have h3 := blk_eq h2 e
  generalize (w.alloc (.cells ZD 53)).setCells w.heap.size 0 (CD nest d).toList = W2 at *
  have H1 := Lib.hid h1; have H3 := Lib.hid h3
  clear h1 h2 h3 e hb
  generalize hcd : Value.agg (CD nest d) = vd at *
  go_enter Try.func21, Try.ntmps21
  go_wp2
  go_ret
  exact ⟨rfl, H3.out, H1.out⟩

end Go.Proofs.Ytdkdlgcgkkbghaa.DL
