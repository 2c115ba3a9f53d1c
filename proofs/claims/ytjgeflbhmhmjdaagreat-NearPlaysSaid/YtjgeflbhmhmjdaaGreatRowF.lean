/- Slices of structs that came in: rows of cells, a struct of one-cell fields each. -/
import Derived.Test.YtjgeflbhmhmjdaaGreatGen
import Derived.Deep.Slices
import Derived.Deep.Fields
import Derived.ChangeSame
import Derived.Test.YtjgeflbhmhmjdaaGreatSep
set_option linter.unusedSimpArgs false
set_option linter.unusedVariables false
namespace Go.Proofs.YtjgeflbhmhmjdaaGreat
open Go.ChangeShapes Go.WideShapes Go.Deep Go.RowKit

def boolOf : Value → Bool
  | .bool b => b
  | _ => false

def IsRowF (w : World) (a : Option Addr) (len cap k : Nat) (V : Nat → Nat → Value) : Prop :=
  len ≤ cap ∧ cap ≤ maxLen ∧ ∀ i, i < len → ∃ x, a = some x ∧ ∀ j, j < k → w.cell? (x.add (i * k + j)) = some (V i j)

section
variable {H : Type} {enc : TypeId × Value → H} {P : Program} {w : World} {base : Nat} {spare : Nat → Bool} {held : Bool}
theorem field_int {t : TypeId} {k : IntKind} {n : Nat} {v : Value} {y : DataW H × List MemPlace} (ht : P.underlying t = some (.int k)) (h : DataW.trod enc P w 0 (fun _ => true) true n t [v] = some y) : v = .int k (intOf v) ∧ (Lit.int k (intOf v)).wf = true := by
  obtain ⟨s, e, _, c⟩ := DataW.trod_int ht h
  obtain rfl : v = .int k s := by simpa using e
  exact ⟨rfl, c⟩
theorem field_bool {t : TypeId} {n : Nat} {v : Value} {y : DataW H × List MemPlace} (ht : P.underlying t = some .bool) (h : DataW.trod enc P w 0 (fun _ => true) true n t [v] = some y) : v = .bool (boolOf v) := by
  obtain ⟨s, e, _⟩ := DataW.trod_bool ht h
  obtain rfl : v = .bool s := by simpa using e
  rfl
end
end Go.Proofs.YtjgeflbhmhmjdaaGreat
namespace Go.Proofs.YtjgeflbhmhmjdaaGreat.Ord
open Go.RowKit

def older (a b : Int) : Bool := a != 0 && decide (a < b)

theorem older_any (a b : Int) (w : World) : Calls Tryz.prog 154 #[.int .u64 a, .int .u64 b] w fun e w' => e = .returned (.bool (older a b)) ∧ w = w' := by
  by_cases h : a = 0
  · subst h
    go_enter Tryz.func154, Tryz.ntmps154
    go_wp2
    go_ret
    exact ⟨rfl, rfl⟩
  · have h1 : (a != 0) = true := by simpa using h
    have h2 : older a b = decide (a < b) := by simp [older, h1]
    have H2 := Lib.hid h2
    clear h2 h
    by_cases h3 : a < b
    all_goals
      go_enter Tryz.func154, Tryz.ntmps154
      go_wp2
      go_ret
      exact ⟨by rw [H2.out]; simp [h3], rfl⟩

theorem asked_any (own : Int) (flag meets : Bool) (stamp : Int) (w : World) : Calls Tryz.prog 131 #[.int .u64 own, .bool flag, .bool meets, .int .u64 stamp] w fun e w' => e = .returned (.tuple #[.bool (own != 0 && meets), .bool (flag || own != 0 && meets && older stamp own)]) ∧ w = w' := by
  by_cases h : own = 0
  · subst h
    go_enter Tryz.func131, Tryz.ntmps131
    go_wp2
    refine wp_scope_fwd 0 rfl ?_
    go_wp2
    go_step3
    go_wp2
    refine ⟨rfl, ?_⟩
    go_wp2
    rw [Exit.noGoto_ret]
    go_wp2
    go_ret2
    exact ⟨by simp, rfl⟩
  · have h1 : (own != 0) = true := by simpa using h
    have H1 := Lib.hid h1
    have h0 : (own == 0) = false := by simpa using h
    clear h1 h
    cases meets
    · go_enter Tryz.func131, Tryz.ntmps131
      go_wp2
      refine wp_scope_fwd 0 rfl ?_
      go_wp2
      go_step3
      go_wp2
      refine ⟨rfl, ?_⟩
      go_wp2
      rw [Exit.noGoto_ret]
      go_wp2
      go_ret2
      exact ⟨by simp, rfl⟩
    · by_cases ho : older stamp own = true
      all_goals
        go_enter Tryz.func131, Tryz.ntmps131
        go_wp2
        refine wp_scope_fwd 0 rfl ?_
        go_wp2_with (go_at_call 154; refine (older_any _ _ _).mono ?_; rintro e w' ⟨rfl, rfl⟩)
        go_step3
        go_wp2
        rw [Exit.jump_ret]
        go_wp2
        go_ret2
        exact ⟨by simp [H1.out, ho], rfl⟩

theorem gives_any (own : Int) (flag : Bool) (stamp : Int) (w : World) : Calls Tryz.prog 132 #[.int .u64 own, .bool flag, .int .u64 stamp] w fun e w' => e = .returned (.bool (flag && older stamp own)) ∧ w = w' := by
  cases flag
  all_goals
    go_enter Tryz.func132, Tryz.ntmps132
    go_wp2_with (go_at_call 154; refine (older_any _ _ _).mono ?_; rintro e w' ⟨rfl, rfl⟩)
    go_ret
    exact ⟨rfl, rfl⟩

theorem refOlder_any (a b : Int) (ha : 0 ≤ a) (hb : 0 ≤ b) (w : World) : Calls Tryz.prog 159 #[.int .u64 a, .int .u64 b] w fun e w' => e = .returned (.bool (older a b)) ∧ w = w' := by
  have h2 : older a b = (decide (0 < a) && decide (0 < b) && decide (a < b)) := by
    unfold older; rw [Bool.eq_iff_iff]; simp; omega
  have H2 := Lib.hid h2
  clear h2
  by_cases h0 : 0 < a
  · by_cases h1 : 0 < b
    · by_cases h3 : a < b
      all_goals
        go_enter Tryz.func159, Tryz.ntmps159
        go_wp2
        go_ret
        exact ⟨by rw [H2.out]; simp [h0, h1, h3], rfl⟩
    · have h3 : ¬ a < b := by omega
      go_enter Tryz.func159, Tryz.ntmps159
      go_wp2
      go_ret
      exact ⟨by rw [H2.out]; simp [h0, h1, h3], rfl⟩
  · obtain rfl : a = 0 := by omega
    go_enter Tryz.func159, Tryz.ntmps159
    go_wp2
    go_ret
    exact ⟨by simp [H2.out], rfl⟩

theorem refAsked_any (own : Int) (flag meets : Bool) (stamp : Int) (h0 : 0 ≤ own) (h1 : 0 ≤ stamp) (w : World) : Calls Tryz.prog 160 #[.int .u64 own, .bool flag, .bool meets, .int .u64 stamp] w fun e w' => e = .returned (.tuple #[.bool (own != 0 && meets), .bool (flag || own != 0 && meets && older stamp own)]) ∧ w = w' := by
  have h2 : (own != 0) = decide (0 < own) := by rw [Bool.eq_iff_iff]; simp; omega
  have H2 := Lib.hid h2
  clear h2
  by_cases h : 0 < own
  all_goals
    cases flag
    all_goals
      cases meets
      all_goals
        go_enter Tryz.func160, Tryz.ntmps160
        go_wp2_with (go_at_call 159; refine (refOlder_any _ _ (by omega) (by omega) _).mono ?_; rintro e w' ⟨rfl, rfl⟩)
        go_ret2
        exact ⟨by first | (simp [H2.out, h]; done) | (simp [H2.out, h]; intro hh; omega), rfl⟩

theorem refGives_any (own : Int) (flag : Bool) (stamp : Int) (h0 : 0 ≤ own) (h1 : 0 ≤ stamp) (w : World) : Calls Tryz.prog 142 #[.int .u64 own, .bool flag, .int .u64 stamp] w fun e w' => e = .returned (.bool (flag && older stamp own)) ∧ w = w' := by
  by_cases h : 0 < own
  · cases flag
    all_goals
      go_enter Tryz.func142, Tryz.ntmps142
      go_wp2_with (go_at_call 159; refine (refOlder_any _ _ (by omega) (by omega) _).mono ?_; rintro e w' ⟨rfl, rfl⟩)
      go_ret
      exact ⟨by simp, rfl⟩
  · obtain rfl : own = 0 := by omega
    have h2 : older stamp 0 = false := by unfold older; simp; omega
    have H2 := Lib.hid h2
    clear h2
    go_enter Tryz.func142, Tryz.ntmps142
    go_wp2_with (go_at_call 159; refine (refOlder_any _ _ (by omega) (by omega) _).mono ?_; rintro e w' ⟨rfl, rfl⟩)
    go_ret
    exact ⟨by simp [H2.out], rfl⟩

end Go.Proofs.YtjgeflbhmhmjdaaGreat.Ord
namespace Go.Proofs.YtjgeflbhmhmjdaaGreat.DL
open Go.RowKit
open Go.Proofs.YtjgeflbhmhmjdaaGreat.Ord

structure DS where
  depth : Int
  n : Int
  st : Int
  fl : Bool
  fa : Bool
  ca : Int

abbrev SV (n : Int) : Value := .agg #[.int .u32 0, .int .u32 (n % 4294967296), .int .u32 0, .int .u32 0, .int .u32 0, .int .u32 0, .int .u32 0, .int .u32 0, .int .u32 0, .int .u32 0, .int .u32 0, .int .u32 0, .int .u32 0, .int .u32 0, .int .u32 0, .int .u32 0, .int .i64 n]
abbrev CD (nest : Int) (d : DS) : Array Value := #[.int .i64 nest, .int .i64 d.depth, .int .u32 0, .int .u32 (d.n % 4294967296), .int .u32 0, .int .u32 0, .int .u32 0, .int .u32 0, .int .u32 0, .int .u32 0, .int .u32 0, .int .u32 0, .int .u32 0, .int .u32 0, .int .u32 0, .int .u32 0, .int .u32 0, .int .u32 0, .int .i64 d.n, .int .u64 d.st, .bool d.fl, .bool d.fa, .int .u32 d.ca]
abbrev DAt (w : World) (b : Nat) (nest : Int) (d : DS) : Prop := Blk w b (CD nest d) 120
abbrev RAt (w : World) (b : Nat) (nest : Int) (d : DS) : Prop := Blk w b (CD nest d) 78
abbrev SC (n : Int) : Array Value := #[.int .u32 0, .int .u32 (n % 4294967296), .int .u32 0, .int .u32 0, .int .u32 0, .int .u32 0, .int .u32 0, .int .u32 0, .int .u32 0, .int .u32 0, .int .u32 0, .int .u32 0, .int .u32 0, .int .u32 0, .int .u32 0, .int .u32 0, .int .i64 n]
abbrev SZ : Array Value := #[.int .u32 0, .int .u32 0, .int .u32 0, .int .u32 0, .int .u32 0, .int .u32 0, .int .u32 0, .int .u32 0, .int .u32 0, .int .u32 0, .int .u32 0, .int .u32 0, .int .u32 0, .int .u32 0, .int .u32 0, .int .u32 0, .int .i64 0]
theorem save_there {w : World} {b : Nat} {nest : Int} {d : DS} {T : TypeId} (hb : Blk w b (CD nest d) T) : w.there b 2 17 := by
  have e : (CD nest d).size = 23 := by kernel_rfl
  exact there_of hb (Nat.le_trans (by decide : 2 + 17 ≤ 23) (Nat.le_of_eq e.symm))
theorem save_nthere {w : World} {g : Nat} {T : TypeId} {m : Int} (h : Blk w g (SC m) T) : w.there g 0 17 := by
  have e : (SC m).size = 17 := by kernel_rfl
  exact there_of h (Nat.le_of_eq e.symm)
theorem save_sthere {w : World} {b o : Nat} (h : w.there b o 17) (m : Int) : w.there b o (SC m).size := by
  have e : (SC m).size = 17 := by kernel_rfl
  exact Eq.mp (congrArg (fun x => w.there b o x) e.symm) h
theorem save_info (m : Int) : (Tryz.prog.info? 76).map (·.size) = some (SC m).size := by kernel_rfl
theorem save_one (m : Int) : (SC m).all (·.oneCell') = true := by kernel_rfl
theorem save_range {w : World} {b : Nat} {nest : Int} {d : DS} {T : TypeId} (hb : Blk w b (CD nest d) T) : w.rangeAt b 2 (SC d.n).toList := by
  have h := World.rangeAt_of_block hb 2 17
  have e : ((CD nest d).extract 2 (2 + 17)).toList = (SC d.n).toList := by kernel_rfl
  exact Eq.mp (congrArg (fun x => w.rangeAt b 2 x) e) h
theorem save_set {w : World} {b : Nat} {nest : Int} {d : DS} {T : TypeId} (hb : Blk w b (CD nest d) T) (m : Int) : Blk (w.setCells b 2 (SC m).toList) b (CD nest ⟨d.depth, m, d.st, d.fl, d.fa, d.ca⟩) T := by
  have h := blk_setCells (SC m).toList 2 w _ hb
  have e : setMany (CD nest d) 2 (SC m).toList = CD nest ⟨d.depth, m, d.st, d.fl, d.fa, d.ca⟩ := by kernel_rfl
  exact Eq.mp (congrArg (fun x => Blk (w.setCells b 2 (SC m).toList) b x T) e) h

def beginE (nest : Int) (d : DS) (stamp : Int) : Int := if stamp = 0 then 2 else if d.fa then 8 else if d.depth = nest then 7 else 0
def beginS (nest : Int) (d : DS) (n stamp : Int) : DS :=
  if beginE nest d stamp = 0 then (if d.depth = 0 then ⟨1, n, if d.st = 0 then stamp else d.st, false, d.fa, d.ca⟩ else ⟨d.depth + 1, d.n, d.st, d.fl, d.fa, d.ca⟩) else d
def openE (d : DS) : Int := if d.depth = 0 ∨ d.fa = true then 8 else 0
def endB (d : DS) : Bool := decide (openE d = 0) && decide (d.depth = 1)
def endS (d : DS) : DS := if openE d = 0 then (if d.depth = 1 then ⟨0, d.n, 0, false, d.fa, d.ca⟩ else ⟨d.depth - 1, d.n, d.st, d.fl, d.fa, d.ca⟩) else d
def failS (d : DS) (c : Int) : DS := if openE d = 0 then ⟨d.depth, d.n, d.st, d.fl, true, c⟩ else d
def overV (d : DS) : Value := if d.fa then .tuple #[SV d.n, .int .u32 d.ca, .int .i64 0] else .tuple #[SV 0, .int .u32 0, .int .i64 8]
def overS (d : DS) : DS := if d.fa then ⟨0, d.n, if d.ca % 256 = 1 then d.st else 0, false, false, d.ca⟩ else d
def stampE (d : DS) : Int := if d.depth = 0 then 0 else d.st
def askedB (d : DS) (meets : Bool) : Bool := stampE d != 0 && meets
def askedS (d : DS) (meets : Bool) (stamp : Int) : DS := ⟨d.depth, d.n, d.st, d.fl || stampE d != 0 && meets && older stamp (stampE d), d.fa, d.ca⟩
def refusedB (d : DS) (stamp : Int) : Bool := decide (openE d = 0) && (d.fl && older stamp d.st)


set_option maxRecDepth 100000 in
theorem new_any (nest : Int) (h1 : 1 ≤ nest) (h8 : nest ≤ 8) (w : World) : Calls Tryz.prog 37 #[.int .i64 nest] w fun e w' => e = .returned (.tuple #[.pointer (some ⟨w.heap.size, 0, none⟩), .int .i64 0]) ∧ DAt w' w.heap.size nest ⟨0, 0, 0, false, false, 0⟩ ∧ Upd NoF w w' := by
  have hq : DAt (w.alloc (.cells #[.int .i64 nest, .int .i64 0, .int .u32 0, .int .u32 (0 % 4294967296), .int .u32 0, .int .u32 0, .int .u32 0, .int .u32 0, .int .u32 0, .int .u32 0, .int .u32 0, .int .u32 0, .int .u32 0, .int .u32 0, .int .u32 0, .int .u32 0, .int .u32 0, .int .u32 0, .int .i64 0, .int .u64 0, .bool false, .bool false, .int .u32 0] 120)) w.heap.size nest ⟨0, 0, 0, false, false, 0⟩ := Blk.new w _ _
  have HQ := Lib.hid hq
  clear hq
  go_enter Tryz.func37, Tryz.ntmps37
  go_wp2
  go_ret2
  exact ⟨rfl, HQ.out, Upd.alloc NoF w _⟩
set_option maxRecDepth 100000 in
set_option maxHeartbeats 1000000 in
theorem open_any (b : Nat) (nest : Int) (d : DS) (w : World) (hb : DAt w b nest d) :
    Calls Tryz.prog 122 #[.pointer (some ⟨b, 0, none⟩)] w fun e w' => e = .returned (.int .i64 (openE d)) ∧ w = w' := by
  obtain ⟨depth, n, st, fl, fa, ca⟩ := d
  have c1 : w.cell? ⟨b, 1, none⟩ = some (.int .i64 depth) := hb.cell 1
  have c21 : w.cell? ⟨b, 21, none⟩ = some (.bool fa) := hb.cell 21
  have fz : ∀ i, w.frozen? ⟨b, i, none⟩ = false := fun i => hb.frozen i
  clear hb fz
  by_cases h0 : depth = 0
  · subst h0
    go_enter Tryz.func122, Tryz.ntmps122
    go_wp2
    go_ret
    exact ⟨by simp [openE], rfl⟩
  · have h0b : (depth == 0) = false := by simpa using h0
    cases fa
    all_goals
      go_enter Tryz.func122, Tryz.ntmps122
      go_wp2
      go_ret
      exact ⟨by simp [openE, h0], rfl⟩

set_option maxRecDepth 100000 in
set_option maxHeartbeats 1000000 in
theorem depth_any (b : Nat) (nest : Int) (d : DS) (w : World) (hb : DAt w b nest d) :
    Calls Tryz.prog 41 #[.pointer (some ⟨b, 0, none⟩)] w fun e w' => e = .returned (.int .i64 d.depth) ∧ w = w' := by
  obtain ⟨depth, n, st, fl, fa, ca⟩ := d
  have c1 : w.cell? ⟨b, 1, none⟩ = some (.int .i64 depth) := hb.cell 1
  have fz : ∀ i, w.frozen? ⟨b, i, none⟩ = false := fun i => hb.frozen i
  clear hb fz
  go_enter Tryz.func41, Tryz.ntmps41
  go_wp2
  go_ret
  exact ⟨rfl, rfl⟩

set_option maxRecDepth 100000 in
set_option maxHeartbeats 1000000 in
theorem flag_any (b : Nat) (nest : Int) (d : DS) (w : World) (hb : DAt w b nest d) :
    Calls Tryz.prog 27 #[.pointer (some ⟨b, 0, none⟩)] w fun e w' => e = .returned (.bool d.fl) ∧ w = w' := by
  obtain ⟨depth, n, st, fl, fa, ca⟩ := d
  have c20 : w.cell? ⟨b, 20, none⟩ = some (.bool fl) := hb.cell 20
  have fz : ∀ i, w.frozen? ⟨b, i, none⟩ = false := fun i => hb.frozen i
  clear hb fz
  cases fl
  all_goals
    go_enter Tryz.func27, Tryz.ntmps27
    go_wp2
    go_ret
    exact ⟨rfl, rfl⟩

set_option maxRecDepth 100000 in
set_option maxHeartbeats 1000000 in
theorem stamp_any (b : Nat) (nest : Int) (d : DS) (w : World) (hb : DAt w b nest d) :
    Calls Tryz.prog 25 #[.pointer (some ⟨b, 0, none⟩)] w fun e w' => e = .returned (.int .u64 (stampE d)) ∧ w = w' := by
  have hD := Lib.hid (fun W h => depth_any b nest d W h)
  obtain ⟨depth, n, st, fl, fa, ca⟩ := d
  have c19 : w.cell? ⟨b, 19, none⟩ = some (.int .u64 st) := hb.cell 19
  have fz : ∀ i, w.frozen? ⟨b, i, none⟩ = false := fun i => hb.frozen i
  have HB := Lib.hid hb
  clear hb fz
  by_cases h0 : depth = 0
  · subst h0
    go_enter Tryz.func25, Tryz.ntmps25
    go_wp2_with (go_at_call 41; refine (hD.out _ HB.out).mono ?_; rintro e w' ⟨rfl, rfl⟩)
    go_ret
    exact ⟨by simp [stampE], rfl⟩
  · have h0b : (depth == 0) = false := by simpa using h0
    go_enter Tryz.func25, Tryz.ntmps25
    go_wp2_with (go_at_call 41; refine (hD.out _ HB.out).mono ?_; rintro e w' ⟨rfl, rfl⟩)
    go_ret
    exact ⟨by simp [stampE, h0], rfl⟩

def ldS (v : Value) : Sem Value := Instr.loadAt 76 v
def stS (p v : Value) : Sem Unit := Instr.storeAt 76 p v
theorem ldS_eq (v : Value) : Instr.loadAt 76 v = ldS v := rfl
theorem stS_eq (p v : Value) : Instr.storeAt 76 p v = stS p v := rfl
theorem ldS_run {w : World} {b o : Nat} {n : Int} (h : w.rangeAt b o (SC n).toList) : (ldS (.pointer (some ⟨b, o, none⟩))).run Tryz.prog w = .ok (SV n) w :=
  run_loadAt_mid w b o 76 (SC n).toList _ h Tryz.underlying76 rfl (by kernel_rfl)
theorem stS_run {w : World} {b o : Nat} (n : Int) (h : w.there b o 17) : (stS (.pointer (some ⟨b, o, none⟩)) (SV n)).run Tryz.prog w = .ok () (w.setCells b o (SC n).toList) :=
  run_storeAt_mid w b o 76 (SC n) (save_sthere h n) (save_info n) (save_one n)
theorem ldV_run {w : World} {g : Nat} {n : Int} {T : TypeId} (h : Blk w g (SC n) T) : (loadVar 76 ⟨g, 0, none⟩).run Tryz.prog w = .ok (SV n) w :=
  run_loadVar_row w g _ 76 (SC n) (0, 0) _ h Tryz.underlying76 rfl (by kernel_rfl)
theorem blk_other_setCells {b b' : Nat} {T : TypeId} {cs : Array Value} (hne : b ≠ b') : ∀ (vs : List Value) (o : Nat) (w : World), Blk w b cs T → Blk (w.setCells b' o vs) b cs T
  | [], _, _, h => h
  | v :: vs, o, w, h => blk_other_setCells hne vs (o + 1) _ (h.other o v hne)
theorem save_store {w : World} {g : Nat} {T : TypeId} {m : Int} (h : Blk w g (SC m) T) (n : Int) : Blk (w.setCells g 0 (SC n).toList) g (SC n) T := by
  have h' := blk_setCells (SC n).toList 0 w _ h
  have e : setMany (SC m) 0 (SC n).toList = SC n := by kernel_rfl
  exact Eq.mp (congrArg (fun x => Blk (w.setCells g 0 (SC n).toList) g x T) e) h'

theorem blk_eq {w : World} {b : Nat} {cs cs' : Array Value} {T : TypeId} (h : Blk w b cs T) (e : cs = cs') : Blk w b cs' T := e ▸ h
end Go.Proofs.YtjgeflbhmhmjdaaGreat.DL
