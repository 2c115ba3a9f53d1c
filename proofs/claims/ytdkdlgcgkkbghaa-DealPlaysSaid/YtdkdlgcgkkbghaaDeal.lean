/- The contracts of the functions of package deal and of its reference: a transaction is a block of 23 cells. -/
import Derived.Test.YtdkdlgcgkkbghaaLong
import Derived.Test.YtdkdlgcgkkbghaaRowF
import Derived.Test.YtdkdlgcgkkbghaaOrderFns
set_option linter.unusedSimpArgs false
set_option linter.unusedVariables false
namespace Go.Proofs.Ytdkdlgcgkkbghaa.DL
open Go.RowKit
open Go.Proofs.Ytdkdlgcgkkbghaa.Ord

/-- How a transaction stands: how deep, what was saved (its number), the stamp, the flag, is it failing, the cause. -/
structure DS where
  depth : Int
  n : Int
  st : Int
  fl : Bool
  fa : Bool
  ca : Int

/-- What is saved, by its number. -/
abbrev SV (n : Int) : Value := .agg #[.int .u32 0, .int .u32 (n % 4294967296), .int .u32 0, .int .u32 0, .int .u32 0, .int .u32 0, .int .u32 0, .int .u32 0, .int .u32 0, .int .u32 0, .int .u32 0, .int .u32 0, .int .u32 0, .int .u32 0, .int .u32 0, .int .u32 0, .int .i64 n]
/-- The cells of a transaction. -/
abbrev CD (nest : Int) (d : DS) : Array Value := #[.int .i64 nest, .int .i64 d.depth, .int .u32 0, .int .u32 (d.n % 4294967296), .int .u32 0, .int .u32 0, .int .u32 0, .int .u32 0, .int .u32 0, .int .u32 0, .int .u32 0, .int .u32 0, .int .u32 0, .int .u32 0, .int .u32 0, .int .u32 0, .int .u32 0, .int .u32 0, .int .i64 d.n, .int .u64 d.st, .bool d.fl, .bool d.fa, .int .u32 d.ca]
/-- A transaction of the program stands in the block b. -/
abbrev DAt (w : World) (b : Nat) (nest : Int) (d : DS) : Prop := Blk w b (CD nest d) 53
/-- A transaction of the document stands in the block b. -/
abbrev RAt (w : World) (b : Nat) (nest : Int) (d : DS) : Prop := Blk w b (CD nest d) 51
abbrev SC (n : Int) : Array Value := #[.int .u32 0, .int .u32 (n % 4294967296), .int .u32 0, .int .u32 0, .int .u32 0, .int .u32 0, .int .u32 0, .int .u32 0, .int .u32 0, .int .u32 0, .int .u32 0, .int .u32 0, .int .u32 0, .int .u32 0, .int .u32 0, .int .u32 0, .int .i64 n]
/-- The cells of no save. -/
abbrev SZ : Array Value := #[.int .u32 0, .int .u32 0, .int .u32 0, .int .u32 0, .int .u32 0, .int .u32 0, .int .u32 0, .int .u32 0, .int .u32 0, .int .u32 0, .int .u32 0, .int .u32 0, .int .u32 0, .int .u32 0, .int .u32 0, .int .u32 0, .int .i64 0]
theorem save_new (w : World) (m : Int) (T : TypeId) : Upd NoF w ((w.alloc (.cells SZ T)).setCells w.heap.size 0 (SC m).toList) ∧ Blk ((w.alloc (.cells SZ T)).setCells w.heap.size 0 (SC m).toList) w.heap.size (SC m) T := by
  obtain ⟨h1, h2⟩ := new_store w SZ T (SC m).toList
  have e : setMany SZ 0 (SC m).toList = SC m := by kernel_rfl
  exact ⟨h1, Eq.mp (congrArg (fun x => Blk ((w.alloc (.cells SZ T)).setCells w.heap.size 0 (SC m).toList) w.heap.size x T) e) h2⟩
theorem save_newthere (w : World) (T : TypeId) : (w.alloc (.cells SZ T)).there w.heap.size 0 17 := by
  have e : SZ.size = 17 := by kernel_rfl
  exact there_of (Blk.new w SZ T) (Nat.le_of_eq e.symm)
theorem save_there {w : World} {b : Nat} {nest : Int} {d : DS} {T : TypeId} (hb : Blk w b (CD nest d) T) : w.there b 2 17 := by
  have e : (CD nest d).size = 23 := by kernel_rfl
  exact there_of hb (Nat.le_trans (by decide : 2 + 17 ≤ 23) (Nat.le_of_eq e.symm))
theorem save_nthere {w : World} {g : Nat} {T : TypeId} {m : Int} (h : Blk w g (SC m) T) : w.there g 0 17 := by
  have e : (SC m).size = 17 := by kernel_rfl
  exact there_of h (Nat.le_of_eq e.symm)
theorem save_sthere {w : World} {b o : Nat} (h : w.there b o 17) (m : Int) : w.there b o (SC m).size := by
  have e : (SC m).size = 17 := by kernel_rfl
  exact Eq.mp (congrArg (fun x => w.there b o x) e.symm) h
theorem save_info (m : Int) : (Try.prog.info? 36).map (·.size) = some (SC m).size := by kernel_rfl
theorem save_one (m : Int) : (SC m).all (·.oneCell') = true := by kernel_rfl
theorem save_range {w : World} {b : Nat} {nest : Int} {d : DS} {T : TypeId} (hb : Blk w b (CD nest d) T) : w.rangeAt b 2 (SC d.n).toList := by
  have h := World.rangeAt_of_block hb 2 17
  have e : ((CD nest d).extract 2 (2 + 17)).toList = (SC d.n).toList := by kernel_rfl
  exact Eq.mp (congrArg (fun x => w.rangeAt b 2 x) e) h
theorem save_set {w : World} {b : Nat} {nest : Int} {d : DS} {T : TypeId} (hb : Blk w b (CD nest d) T) (m : Int) : Blk (w.setCells b 2 (SC m).toList) b (CD nest ⟨d.depth, m, d.st, d.fl, d.fa, d.ca⟩) T := by
  have h := blk_setCells (SC m).toList 2 w _ hb
  have e : setMany (CD nest d) 2 (SC m).toList = CD nest ⟨d.depth, m, d.st, d.fl, d.fa, d.ca⟩ := by kernel_rfl
  exact Eq.mp (congrArg (fun x => Blk (w.setCells b 2 (SC m).toList) b x T) e) h

def beginE (nest : Int) (d : DS) (stamp : Int) : Int := if stamp = 0 then 2 else if d.fa then 8 else if d.depth = nest then 7 else 0
def beginS (nest : Int) (d : DS) (n stamp : Int) : DS :=
  if beginE nest d stamp = 0 then (if d.depth = 0 then ⟨1, n, if d.st = 0 then stamp else d.st, false, d.fa, d.ca⟩ else ⟨d.depth + 1, d.n, d.st, d.fl, d.fa, d.ca⟩) else d
def openE (d : DS) : Int := if d.depth = 0 ∨ d.fa = true then 8 else 0
def endB (d : DS) : Bool := decide (openE d = 0) && decide (d.depth = 1)
def endS (d : DS) : DS := if openE d = 0 then (if d.depth = 1 then ⟨0, d.n, 0, false, d.fa, d.ca⟩ else ⟨d.depth - 1, d.n, d.st, d.fl, d.fa, d.ca⟩) else d
def failS (d : DS) (c : Int) : DS := if openE d = 0 then ⟨d.depth, d.n, d.st, d.fl, true, c⟩ else d
def overV (d : DS) : Value := if d.fa then .tuple #[SV d.n, .int .u32 d.ca, .int .i64 0] else .tuple #[SV 0, .int .u32 0, .int .i64 8]
def overS (d : DS) : DS := if d.fa then ⟨0, d.n, if d.ca % 256 = 1 then d.st else 0, false, false, d.ca⟩ else d
def stampE (d : DS) : Int := if d.depth = 0 then 0 else d.st
def askedB (d : DS) (meets : Bool) : Bool := stampE d != 0 && meets
def askedS (d : DS) (meets : Bool) (stamp : Int) : DS := ⟨d.depth, d.n, d.st, d.fl || stampE d != 0 && meets && older stamp (stampE d), d.fa, d.ca⟩
def refusedB (d : DS) (stamp : Int) : Bool := decide (openE d = 0) && (d.fl && older stamp d.st)

set_option maxRecDepth 100000 in
theorem save_any (n : Int) (w : World) : Calls Try.prog 12 #[.int .i64 n] w fun e w' => e = .returned (SV n) ∧ Upd NoF w w' := by
  go_enter Try.func12, Try.ntmps12
  go_wp2
  obtain ⟨W, hW⟩ : ∃ W, w.alloc (.cells (SC n) 36) = W := ⟨_, rfl⟩
  have hu : Upd NoF w W := by rw [← hW]; exact Upd.alloc NoF w _
  have hq : Blk W w.heap.size (SC n) 36 := by rw [← hW]; exact Blk.new w _ _
  rw [hW]
  clear hW
  refine bodyPost_ret (v := SV n) (results_cell_row rfl _ W w.heap.size _ _ (0, 0) _ rfl hq Try.underlying36 rfl (by kernel_rfl)) rfl ⟨rfl, hu⟩

set_option maxRecDepth 100000 in
theorem new_any (nest : Int) (h1 : 1 ≤ nest) (h8 : nest ≤ 8) (w : World) : Calls Try.prog 9 #[.int .i64 nest] w fun e w' => e = .returned (.tuple #[.pointer (some ⟨w.heap.size, 0, none⟩), .int .i64 0]) ∧ DAt w' w.heap.size nest ⟨0, 0, 0, false, false, 0⟩ ∧ Upd NoF w w' := by
  have hq : DAt (w.alloc (.cells #[.int .i64 nest, .int .i64 0, .int .u32 0, .int .u32 (0 % 4294967296), .int .u32 0, .int .u32 0, .int .u32 0, .int .u32 0, .int .u32 0, .int .u32 0, .int .u32 0, .int .u32 0, .int .u32 0, .int .u32 0, .int .u32 0, .int .u32 0, .int .u32 0, .int .u32 0, .int .i64 0, .int .u64 0, .bool false, .bool false, .int .u32 0] 53)) w.heap.size nest ⟨0, 0, 0, false, false, 0⟩ := Blk.new w _ _
  have HQ := Lib.hid hq
  clear hq
  go_enter Try.func9, Try.ntmps9
  go_wp2
  go_ret2
  exact ⟨rfl, HQ.out, Upd.alloc NoF w _⟩
theorem new_none (nest : Int) (h : nest < 1 ∨ 8 < nest) (w : World) : Calls Try.prog 9 #[.int .i64 nest] w fun e w' => e = .returned (.tuple #[.pointer none, .int .i64 2]) ∧ w = w' := by
  by_cases h1 : nest < 1
  · go_enter Try.func9, Try.ntmps9
    go_wp2
    go_ret2
    exact ⟨rfl, rfl⟩
  · have h8 : 8 < nest := by omega
    clear h
    go_enter Try.func9, Try.ntmps9
    go_wp2
    go_ret2
    exact ⟨rfl, rfl⟩

set_option maxRecDepth 100000 in
set_option maxHeartbeats 1000000 in
theorem open_any (b : Nat) (nest : Int) (d : DS) (w : World) (hb : DAt w b nest d) :
    Calls Try.prog 29 #[.pointer (some ⟨b, 0, none⟩)] w fun e w' => e = .returned (.int .i64 (openE d)) ∧ w = w' := by
  obtain ⟨depth, n, st, fl, fa, ca⟩ := d
  have c1 : w.cell? ⟨b, 1, none⟩ = some (.int .i64 depth) := hb.cell 1
  have c21 : w.cell? ⟨b, 21, none⟩ = some (.bool fa) := hb.cell 21
  have fz : ∀ i, w.frozen? ⟨b, i, none⟩ = false := fun i => hb.frozen i
  clear hb fz
  by_cases h0 : depth = 0
  · subst h0
    go_enter Try.func29, Try.ntmps29
    go_wp2
    go_ret
    exact ⟨by simp [openE], rfl⟩
  · have h0b : (depth == 0) = false := by simpa using h0
    cases fa
    all_goals
      go_enter Try.func29, Try.ntmps29
      go_wp2
      go_ret
      exact ⟨by simp [openE, h0], rfl⟩

set_option maxRecDepth 100000 in
set_option maxHeartbeats 1000000 in
theorem depth_any (b : Nat) (nest : Int) (d : DS) (w : World) (hb : DAt w b nest d) :
    Calls Try.prog 10 #[.pointer (some ⟨b, 0, none⟩)] w fun e w' => e = .returned (.int .i64 d.depth) ∧ w = w' := by
  obtain ⟨depth, n, st, fl, fa, ca⟩ := d
  have c1 : w.cell? ⟨b, 1, none⟩ = some (.int .i64 depth) := hb.cell 1
  have fz : ∀ i, w.frozen? ⟨b, i, none⟩ = false := fun i => hb.frozen i
  clear hb fz
  go_enter Try.func10, Try.ntmps10
  go_wp2
  go_ret
  exact ⟨rfl, rfl⟩

set_option maxRecDepth 100000 in
set_option maxHeartbeats 1000000 in
theorem failing_any (b : Nat) (nest : Int) (d : DS) (w : World) (hb : DAt w b nest d) :
    Calls Try.prog 17 #[.pointer (some ⟨b, 0, none⟩)] w fun e w' => e = .returned (.bool d.fa) ∧ w = w' := by
  obtain ⟨depth, n, st, fl, fa, ca⟩ := d
  have c21 : w.cell? ⟨b, 21, none⟩ = some (.bool fa) := hb.cell 21
  have fz : ∀ i, w.frozen? ⟨b, i, none⟩ = false := fun i => hb.frozen i
  clear hb fz
  cases fa
  all_goals
    go_enter Try.func17, Try.ntmps17
    go_wp2
    go_ret
    exact ⟨rfl, rfl⟩

set_option maxRecDepth 100000 in
set_option maxHeartbeats 1000000 in
theorem flag_any (b : Nat) (nest : Int) (d : DS) (w : World) (hb : DAt w b nest d) :
    Calls Try.prog 20 #[.pointer (some ⟨b, 0, none⟩)] w fun e w' => e = .returned (.bool d.fl) ∧ w = w' := by
  obtain ⟨depth, n, st, fl, fa, ca⟩ := d
  have c20 : w.cell? ⟨b, 20, none⟩ = some (.bool fl) := hb.cell 20
  have fz : ∀ i, w.frozen? ⟨b, i, none⟩ = false := fun i => hb.frozen i
  clear hb fz
  cases fl
  all_goals
    go_enter Try.func20, Try.ntmps20
    go_wp2
    go_ret
    exact ⟨rfl, rfl⟩

set_option maxRecDepth 100000 in
set_option maxHeartbeats 1000000 in
theorem stamp_any (b : Nat) (nest : Int) (d : DS) (w : World) (hb : DAt w b nest d) :
    Calls Try.prog 16 #[.pointer (some ⟨b, 0, none⟩)] w fun e w' => e = .returned (.int .u64 (stampE d)) ∧ w = w' := by
  have hD := Lib.hid (fun W h => depth_any b nest d W h)
  obtain ⟨depth, n, st, fl, fa, ca⟩ := d
  have c19 : w.cell? ⟨b, 19, none⟩ = some (.int .u64 st) := hb.cell 19
  have fz : ∀ i, w.frozen? ⟨b, i, none⟩ = false := fun i => hb.frozen i
  have HB := Lib.hid hb
  clear hb fz
  by_cases h0 : depth = 0
  · subst h0
    go_enter Try.func16, Try.ntmps16
    go_wp2_with (go_at_call 10; refine (hD.out _ HB.out).mono ?_; rintro e w' ⟨rfl, rfl⟩)
    go_ret
    exact ⟨by simp [stampE], rfl⟩
  · have h0b : (depth == 0) = false := by simpa using h0
    go_enter Try.func16, Try.ntmps16
    go_wp2_with (go_at_call 10; refine (hD.out _ HB.out).mono ?_; rintro e w' ⟨rfl, rfl⟩)
    go_ret
    exact ⟨by simp [stampE, h0], rfl⟩

/-- A save is loaded, is stored, at one stroke. -/
def ldS (v : Value) : Sem Value := Instr.loadAt 36 v
def stS (p v : Value) : Sem Unit := Instr.storeAt 36 p v
theorem ldS_eq (v : Value) : Instr.loadAt 36 v = ldS v := rfl
theorem stS_eq (p v : Value) : Instr.storeAt 36 p v = stS p v := rfl
theorem ldS_run {w : World} {b o : Nat} {n : Int} (h : w.rangeAt b o (SC n).toList) : (ldS (.pointer (some ⟨b, o, none⟩))).run Try.prog w = .ok (SV n) w :=
  run_loadAt_mid w b o 36 (SC n).toList _ h Try.underlying36 rfl (by kernel_rfl)
theorem stS_run {w : World} {b o : Nat} (n : Int) (h : w.there b o 17) : (stS (.pointer (some ⟨b, o, none⟩)) (SV n)).run Try.prog w = .ok () (w.setCells b o (SC n).toList) :=
  run_storeAt_mid w b o 36 (SC n) (save_sthere h n) (save_info n) (save_one n)
theorem ldV_run {w : World} {g : Nat} {n : Int} {T : TypeId} (h : Blk w g (SC n) T) : (loadVar 36 ⟨g, 0, none⟩).run Try.prog w = .ok (SV n) w :=
  run_loadVar_row w g _ 36 (SC n) (0, 0) _ h Try.underlying36 rfl (by kernel_rfl)
theorem blk_other_setCells {b b' : Nat} {T : TypeId} {cs : Array Value} (hne : b ≠ b') : ∀ (vs : List Value) (o : Nat) (w : World), Blk w b cs T → Blk (w.setCells b' o vs) b cs T
  | [], _, _, h => h
  | v :: vs, o, w, h => blk_other_setCells hne vs (o + 1) _ (h.other o v hne)
theorem save_store {w : World} {g : Nat} {T : TypeId} {m : Int} (h : Blk w g (SC m) T) (n : Int) : Blk (w.setCells g 0 (SC n).toList) g (SC n) T := by
  have h' := blk_setCells (SC n).toList 0 w _ h
  have e : setMany (SC m) 0 (SC n).toList = SC n := by kernel_rfl
  exact Eq.mp (congrArg (fun x => Blk (w.setCells g 0 (SC n).toList) g x T) e) h'

theorem blk_eq {w : World} {b : Nat} {cs cs' : Array Value} {T : TypeId} (h : Blk w b cs T) (e : cs = cs') : Blk w b cs' T := e ▸ h
end Go.Proofs.Ytdkdlgcgkkbghaa.DL
