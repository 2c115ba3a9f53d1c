/- The reference's home (undertowref11), where it lies. -/
import Derived.Test.YtlhbnndnkcpomaaDoorRefMem
import Derived.Test.YtlhbnndnkcpomaaDoorHomeW
import Derived.Test.YtlhbnndnkcpomaaDoorAggRjob
import Derived.Test.YtlhbnndnkcpomaaDoorNoteD
import Derived.WalkLawsBesides
import Derived.Test.YtlhbnndnkcpomaaDoorPlan
import Derived.Test.YtlhbnndnkcpomaaDoorReg
import Derived.Deep.QuietTactic
import Derived.BigQuiet
import Derived.Deep.CutBlock
import Derived.Test.YtlhbnndnkcpomaaDoorHomeT
import Derived.Test.YtlhbnndnkcpomaaDoorHomeBase
import Derived.Test.YtlhbnndnkcpomaaDoorHomeN
import Derived.Test.YtlhbnndnkcpomaaDoorMaskWorks
set_option linter.unusedSimpArgs false
set_option linter.unusedVariables false
namespace Go.Proofs.YtlhbnndnkcpomaaDoor.HO
open Go.RowKit
open BU (IsU words)
open PL (Cfg CC CV May)
open RM (rmO)
open ME (sl)
abbrev RHT : TypeId := 88
abbrev RJT : TypeId := 90
/-- A job, as the reference keeps it. -/
def Jb.rcells (j : Jb) : Array Value := #[.bool true] ++ j.ask.cells ++ j.tail
def rjc (o : Option Jb) : Array Value := match o with | none => TRjb.Z | some j => j.rcells
theorem Jb.isN_r {j : Jb} (h : j.Ok) : IsN 29 j.rcells := by
  have h1 := Nt.Ok.isN h.ask.isU
  refine ⟨by simp [Jb.rcells, Jb.tail, h1.1], fun u hu => ?_⟩
  unfold Jb.rcells at hu
  rcases Array.mem_append.1 hu with hu | hu
  · rcases Array.mem_append.1 hu with hu | hu
    · simp at hu; subst hu; rfl
    · exact h1.2 u hu
  · simp only [Jb.tail, List.mem_toArray, List.mem_cons, List.not_mem_nil, or_false] at hu
    rcases hu with rfl | rfl | rfl | rfl <;> rfl
theorem rjc_isN {S : Hs} (h : Good S) (b : Int) : IsN 29 (rjc (S.J b)) := by
  unfold rjc
  cases hj : S.J b with
  | none => exact TRjb.isZ
  | some j => exact Jb.isN_r (h.key b j hj).2.2.2
theorem Jb.r_ask {j : Jb} (h : j.ask.cells.size = 24) {i : Nat} (hi : i < 24) : j.rcells[1 + i]? = j.ask.cells[i]? := by
  unfold Jb.rcells
  rw [Array.getElem?_append_left (by simp [h]; omega), Array.getElem?_append_right (by simp)]
  simp
theorem Jb.r_tail {j : Jb} (h : j.ask.cells.size = 24) (i : Nat) : j.rcells[25 + i]? = j.tail[i]? := by
  unfold Jb.rcells
  rw [Array.getElem?_append_right (by simp [h])]
  simp [h]
theorem Jb.r0 {j : Jb} : j.rcells[0]? = some (.bool true) := by
  unfold Jb.rcells
  rw [Array.getElem?_append_left (by simp; omega), Array.getElem?_append_left (by simp)]; rfl
/-- Where its parts lie. -/
structure Rp where
  eb : Nat
  ec : Nat
  et : Array Value
  jb : Nat
  jc : Nat
  jt : Array Value
  wa : Option Addr
  wc : Nat
def Hs.rcells (S : Hs) (rm : Nat) (p : Rp) : Array Value := #[.int .i64 S.c.cores, .int .i64 S.c.sets, .int .i64 S.c.ways, .int .i64 S.c.blocks, .int .i64 S.c.logs, .int .i64 S.c.backs, .int .i64 S.c.nest, .int .i64 S.c.tries,
  ptr rm, sl p.eb S.n p.ec, sl p.jb S.n p.jc, .slice p.wa S.Q.length p.wc]
structure RFits (S : Hs) (p : Rp) : Prop where
  good : Good S
  ec : S.n ≤ p.ec ∧ p.ec ≤ maxLen ∧ p.ec * 2 ≤ S.n * 2 + p.et.size
  jc : S.n ≤ p.jc ∧ p.jc ≤ maxLen ∧ p.jc * 29 ≤ S.n * 29 + p.jt.size
/-- The parts, side by side. -/
abbrev Hs.robjs (S : Hs) (hb rm : Nat) (p : Rp) (L : List Obj) : List Obj :=
  boxO hb (S.rcells rm p) RHT :: rmO rm S.c.blocks.toNat S.B :: boxO p.eb (rowG 2 S.n (fun i => (S.E i).cells) ++ p.et) ET' :: boxO p.jb (rowG 29 S.n (fun i => rjc (S.J (i : Int))) ++ p.jt) RJT :: outO (.slice p.wa S.Q.length p.wc) S.Q :: L
/-- The reference's home. -/
def rhO (hb rm : Nat) (S : Hs) : Obj :=
  exO fun p : Rp => andO (RFits S p) (starO (boxO hb (S.rcells rm p) RHT) (starO (rmO rm S.c.blocks.toNat S.B) (starO (boxO p.eb (rowG 2 S.n (fun i => (S.E i).cells) ++ p.et) ET')
    (starO (boxO p.jb (rowG 29 S.n (fun i => rjc (S.J (i : Int))) ++ p.jt) RJT) (outO (.slice p.wa S.Q.length p.wc) S.Q)))))
section
variable {G : Nat → Prop} {w0 W W' : World} {hb rm : Nat} {S : Hs} {L : List Obj} {F : Nat → Prop}
theorem rh_open (h : Sep G w0 W (rhO hb rm S :: L)) : ∃ p, RFits S p ∧ Sep G w0 W (S.robjs hb rm p L) := by
  obtain ⟨p, h⟩ := h.ex
  obtain ⟨hf, h⟩ := h.pure
  exact ⟨p, hf, h.upd, own_tail (fun _ h => own_tail (fun _ h => own_tail (fun _ h => own_star h) (own_star h)) (own_star h)) (own_star h.own)⟩
theorem rh_shut {p : Rp} (hf : RFits S p) (h : Sep G w0 W (S.robjs hb rm p L)) : Sep G w0 W (rhO hb rm S :: L) :=
  Sep.unex p (Sep.unpure hf ⟨h.upd, own_unstar (own_tail (fun _ h => own_unstar (own_tail (fun _ h => own_unstar (own_tail (fun _ h => own_unstar h) h)) h)) h.own)⟩)
/-- What is read of it. -/
structure RAt (S : Hs) (hb rm : Nat) (p : Rp) (X : World) : Prop where
  box : Blk X hb (S.rcells rm p) RHT
  ent : Blk X p.eb (rowG 2 S.n (fun i => (S.E i).cells) ++ p.et) ET'
  job : Blk X p.jb (rowG 29 S.n (fun i => rjc (S.J (i : Int))) ++ p.jt) RJT
theorem RAt.of {X : World} {p : Rp} (h : Sep G w0 X (S.robjs hb rm p L)) : RAt S hb rm p X := ⟨h.box 0 rfl, h.box 2 rfl, h.box 3 rfl⟩
theorem RAt.upd {X Y : World} {p : Rp} (h : RAt S hb rm p X) (hu : Upd NoF X Y) : RAt S hb rm p Y := ⟨h.box.upd hu (fun h => h), h.ent.upd hu (fun h => h), h.job.upd hu (fun h => h)⟩
theorem RAt.open (h : (rhO hb rm S).is W F) : ∃ p, RFits S p ∧ RAt S hb rm p W := by
  obtain ⟨p, hf, hs⟩ := rh_open (Sep.start h)
  exact ⟨p, hf, RAt.of hs⟩
theorem rh_good (h : (rhO hb rm S).is W F) : Good S := h.choose_spec.1.good
theorem RAt.ldE {X : World} {p : Rp} (h : RAt S hb rm p X) {i : Nat} (hi : i < S.n) : (TEnt.ld (.pointer (some ⟨p.eb, i * 2, none⟩))).run Tryd.prog X = .ok (.agg (S.E i).cells) X :=
  TEnt.ld_at (En.isN _) (rowG_range (f := fun i => (S.E i).cells) h.ent rfl hi)
theorem RAt.ldJ {X : World} {p : Rp} (hg : Good S) (h : RAt S hb rm p X) {i : Nat} (hi : i < S.n) : (TRjb.ld (.pointer (some ⟨p.jb, i * 29, none⟩))).run Tryd.prog X = .ok (.agg (rjc (S.J (i : Int)))) X :=
  TRjb.ld_at (rjc_isN hg _) (rowG_range (f := fun i : Nat => rjc (S.J (i : Int))) h.job (rjc_isN hg _).1 hi)
end
end Go.Proofs.YtlhbnndnkcpomaaDoor.HO

set_option linter.unusedSimpArgs false
set_option linter.unusedVariables false
namespace Go.Proofs.YtlhbnndnkcpomaaDoor.HO
open Go.RowKit
theorem idx_inj {k q r p s : Nat} (hr : r < k) (hs : s < k) (h : q * k + r = p * k + s) : q = p ∧ r = s := by
  rcases Nat.lt_trichotomy q p with e | e | e
  · have := Nat.mul_le_mul_right k (Nat.succ_le_of_lt e)
    rw [Nat.succ_mul] at this
    omega
  · subst e; omega
  · have := Nat.mul_le_mul_right k (Nat.succ_le_of_lt e)
    rw [Nat.succ_mul] at this
    omega
/-- One cell of one thing of a row. -/
theorem rowG_setc {k n q r : Nat} {v : Value} {f : Nat → Array Value} (hq : q < n) (hr : r < k) (hf : ∀ i, (f i).size = k) :
    (rowG k n f).setIfInBounds (q * k + r) v = rowG k n (updG f q ((f q).setIfInBounds r v)) := by
  have hU : ∀ j, (updG f q ((f q).setIfInBounds r v) j).size = k := fun j => by
    unfold updG; split
    · rw [Array.size_setIfInBounds]; exact hf q
    · exact hf j
  have hlt := idx_lt (k := k) (r := r) hq hr
  apply Array.ext_getElem?
  intro j
  rw [Array.getElem?_setIfInBounds]
  by_cases hj : j < n * k
  · obtain ⟨p, s, rfl, hs, hp⟩ := idx_split hj
    rw [rowG_get (hf p) hp hs, rowG_get (hU p) hp hs]
    by_cases e : q * k + r = p * k + s
    · obtain ⟨e1, e2⟩ := idx_inj hr hs e
      subst e1; subst e2
      rw [if_pos rfl, if_pos (by rw [rowG_size]; exact hlt), updG_same, Array.getElem?_setIfInBounds, if_pos rfl, if_pos (by rw [hf]; exact hr)]
    · rw [if_neg e]
      by_cases e1 : p = q
      · subst e1
        rw [updG_same, Array.getElem?_setIfInBounds, if_neg (fun h => e (by rw [h]))]
      · rw [updG_other _ _ e1]
  · have h1 : (rowG k n f).size ≤ j := by rw [rowG_size]; omega
    have h2 : (rowG k n (updG f q ((f q).setIfInBounds r v))).size ≤ j := by rw [rowG_size]; omega
    rw [Array.getElem?_eq_none h1, Array.getElem?_eq_none h2]
    split
    · rw [if_neg (by omega)]
    · rfl
theorem set_front {X Y : Array Value} {i : Nat} {v : Value} (h : i < X.size) : (X ++ Y).setIfInBounds i v = X.setIfInBounds i v ++ Y := by
  apply Array.ext_getElem?
  intro j
  rw [Array.getElem?_setIfInBounds, Array.getElem?_append, Array.getElem?_append, Array.size_setIfInBounds, Array.size_append, Array.getElem?_setIfInBounds]
  by_cases e : i = j
  · subst e
    rw [if_pos rfl, if_pos (by omega), if_pos h, if_pos rfl, if_pos h]
  · rw [if_neg e, if_neg e]
/-- The jobs, where one is another one. -/
theorem jobs_upd {S : Hs} {b : Nat} {o : Option Jb} : (fun i : Nat => rjc (updI S.J (b : Int) o (i : Int))) = updG (fun i : Nat => rjc (S.J (i : Int))) b (rjc o) := by
  funext i
  unfold updI updG
  by_cases e : i = b
  · subst e; rw [if_pos rfl, if_pos rfl]
  · rw [if_neg (by omega), if_neg e]
theorem set_back {X Y : Array Value} {i k : Nat} {v : Value} (hk : X.size = k) : (X ++ Y).setIfInBounds (k + i) v = X ++ Y.setIfInBounds i v := by
  subst hk
  apply Array.ext_getElem?
  intro j
  rw [Array.getElem?_setIfInBounds, Array.getElem?_append, Array.getElem?_append, Array.size_append, Array.getElem?_setIfInBounds]
  by_cases e : X.size + i = j
  · subst e
    have hn : ¬ X.size + i < X.size := by omega
    rw [if_pos rfl, if_neg hn, Nat.add_sub_cancel_left, if_pos rfl]
    by_cases h : i < Y.size
    · rw [if_pos (show X.size + i < X.size + Y.size by omega), if_pos h]
    · rw [if_neg (show ¬ X.size + i < X.size + Y.size by omega), if_neg h]
  · rw [if_neg e]
    by_cases h : j < X.size
    · rw [if_pos h, if_pos h]
    · rw [if_neg h, if_neg h, if_neg (by omega)]
/-- It is answered; it is kept otherwise. -/
theorem Jb.rset {j : Jb} (h : j.ask.cells.size = 24) (i : Nat) (v : Value) : j.rcells.setIfInBounds (25 + i) v = #[.bool true] ++ j.ask.cells ++ j.tail.setIfInBounds i v :=
  set_back (by simp [h])
theorem Jb.rset_ans {j : Jb} (h : j.ask.cells.size = 24) : j.rcells.setIfInBounds 26 (.bool true) = ({ j with ans := true } : Jb).rcells := (Jb.rset h 1 _).trans rfl
end Go.Proofs.YtlhbnndnkcpomaaDoor.HO

set_option linter.unusedSimpArgs false
set_option linter.unusedVariables false
namespace Go.Proofs.YtlhbnndnkcpomaaDoor.NC
open Go.RowKit
open BU (IsU words)
attribute [local go_sem] Oper.semAt_some
theorem toHome_eq (k : Int) : toHome k = ((decide (1 ≤ k) && decide (k ≤ 3)) || (decide (9 ≤ k) && decide (k ≤ 11))) := by
  rw [Bool.eq_iff_iff]
  simp only [toHome, Bool.or_eq_true, Bool.and_eq_true, beq_iff_eq, decide_eq_true_eq]
  omega
theorem rtoHome_any (k : Int) (w : World) : Calls Tryd.prog 103 #[.int .u8 k] w fun e w' => e = .returned (.bool (toHome k)) ∧ w = w' := by
  rw [toHome_eq]
  cases h1 : decide (1 ≤ k) <;> cases h2 : decide (k ≤ 3) <;> cases h3 : decide (9 ≤ k) <;> cases h4 : decide (k ≤ 11)
  all_goals
    go_enter Tryd.func103, Tryd.ntmps103
    go_wp2
    go_ret
    exact ⟨rfl, rfl⟩
theorem rstamped_any (k : Int) (w : World) : Calls Tryd.prog 104 #[.int .u8 k] w fun e w' => e = .returned (.bool (stamped k)) ∧ w = w' := by
  unfold stamped
  cases h1 : (k == 1)
  · cases h2 : (k == 2)
    · cases h4 : (k == 4)
      · cases h5 : (k == 5)
        · cases h7 : (k == 7)
          · go_enter Tryd.func104, Tryd.ntmps104
            go_wp2
            go_ret
            exact ⟨by simp, rfl⟩
          · go_enter Tryd.func104, Tryd.ntmps104
            go_wp2
            go_ret
            exact ⟨by simp, rfl⟩
        · go_enter Tryd.func104, Tryd.ntmps104
          go_wp2
          go_ret
          exact ⟨by simp, rfl⟩
      · go_enter Tryd.func104, Tryd.ntmps104
        go_wp2
        go_ret
        exact ⟨by simp, rfl⟩
    · go_enter Tryd.func104, Tryd.ntmps104
      go_wp2
      go_ret
      exact ⟨by simp, rfl⟩
  · go_enter Tryd.func104, Tryd.ntmps104
    go_wp2
    go_ret
    exact ⟨by simp, rfl⟩
theorem run_index_arr {P : Program} {t e : TypeId} {n : Nat} (h : P.underlying t = some (.array n e)) (ha : ∀ w, (isAgg e).run P w = .ok false w) (hs : ∀ w, (sizeOf e).run P w = .ok 1 w) (w : World) (k : IntKind) (cs : Array Value) (i : Nat) (hi : i < n) (v : Value) (hv : cs[i]? = some v) :
    (Instr.index t (.agg cs) (.int k i)).run P w = .ok v w := by
  have hi' : (i : Int) < (n : Int) := by omega
  simp [Instr.index, run_underlying h, asIntOf, go_sem, hi', hs, part, ha, hv]
  intro h; omega
abbrev UN : Array Value := #[.int .i64 0, .int .i64 0, .int .i64 0, .int .i64 0, .int .i64 1, .int .i64 1, .int .i64 2, .int .i64 2, .int .i64 2, .int .i64 2, .int .i64 2, .int .i64 2]
set_option maxRecDepth 100000 in
theorem rNet_any (k : Int) (w : World) : Calls Tryd.prog 65 #[.int .u8 k] w fun e w' => e = .returned (.int .i64 (netN k)) ∧ w = w' := by
  by_cases h1 : k < 1
  · have e : netN k = -1 := by unfold netN kindB; rw [show decide (1 ≤ k) = false by simp; omega]; rfl
    have g1 : decide (k < 1) = true := by simp; omega
    rw [e]
    go_enter Tryd.func65, Tryd.ntmps65
    go_wp2
    go_ret
    exact ⟨rfl, rfl⟩
  · have g1 : decide (k < 1) = false := by simp; omega
    by_cases h2 : 11 < k
    · have e : netN k = -1 := by unfold netN kindB; rw [show decide (k ≤ 11) = false by simp; omega]; simp
      have g2 : decide (11 < k) = true := by simp; omega
      rw [e]
      go_enter Tryd.func65, Tryd.ntmps65
      go_wp2
      go_ret
      exact ⟨rfl, rfl⟩
    · have g2 : decide (11 < k) = false := by simp; omega
      obtain ⟨m, rfl⟩ : ∃ m : Nat, k = m := ⟨k.toNat, by omega⟩
      have hv : UN[m]? = some (.int .i64 (netN m)) := by
        have : m = 1 ∨ m = 2 ∨ m = 3 ∨ m = 4 ∨ m = 5 ∨ m = 6 ∨ m = 7 ∨ m = 8 ∨ m = 9 ∨ m = 10 ∨ m = 11 := by omega
        rcases this with rfl | rfl | rfl | rfl | rfl | rfl | rfl | rfl | rfl | rfl | rfl <;> rfl
      have ix := fun (w : World) => run_index_arr (P := Tryd.prog) Tryd.underlying151 Tryd.isAgg3 Tryd.sizeOf3 w .u8 UN m (by omega) (.int .i64 (netN m)) hv
      generalize netN (m : Int) = r at *
      clear hv
      go_enter Tryd.func65, Tryd.ntmps65
      go_wp2
      go_ret
      exact ⟨rfl, rfl⟩
end Go.Proofs.YtlhbnndnkcpomaaDoor.NC

set_option linter.unusedSimpArgs false
set_option linter.unusedVariables false
namespace Go.Proofs.YtlhbnndnkcpomaaDoor.NC
open Go.RowKit
open BU (IsU words)
attribute [local go_sem] Oper.semAt_some
attribute [local go_sem ↓] eqN_eq neN_eq eqB_eq neB_eq TNot.ld_eq TNot.st_eq TNot.al_eq TNot.bx_eq TBlk.ld_eq TBlk.st_eq TBlk.al_eq
attribute [local go_sem] TNot.al_run TNot.bx_run TBlk.al_run
/-- May, in the reference's order, of a note whose kind is of a class. -/
def mayC (H St T S N : Bool) (n : Nt) : Bool :=
  !decide (n.blk < 0) && (!decide (255 < n.blk) && (((if H then n.too else n.frm) == -1) && (!decide ((if H then n.frm else n.too) < 0) && (!decide (15 < (if H then n.frm else n.too)) && ((St || n.stamp == 0) &&
  ((if S then !decide (n.state < 1) && !decide (3 < n.state) else n.state == 0) && ((T || !n.stick) && ((!(T || S) || n.has) && ((!n.has || (T || S || N)) && (n.has || words n.D == words TBlk.Z))))))))))
theorem may_c {n : Nt} (hk : kindB n.kind = true) : MayN n = mayC (toHome n.kind) (stamped n.kind) (n.kind == 3) (n.kind == 6) (n.kind == 9) n := by
  have e1 : decide (0 ≤ n.blk) = !decide (n.blk < 0) := by rw [← decide_not]; exact decide_eq_decide.2 (by omega)
  have e2 : decide (n.blk ≤ 255) = !decide (255 < n.blk) := by rw [← decide_not]; exact decide_eq_decide.2 (by omega)
  have e3 : ∀ x, coreB x = (!decide (x < 0) && !decide (15 < x)) := fun x => by
    unfold coreB
    rw [← decide_not, ← decide_not, ← Bool.decide_and, ← Bool.decide_and]
    exact decide_eq_decide.2 (by omega)
  have e4 : decide (1 ≤ n.state) = !decide (n.state < 1) := by rw [← decide_not]; exact decide_eq_decide.2 (by omega)
  have e5 : decide (n.state ≤ 3) = !decide (3 < n.state) := by rw [← decide_not]; exact decide_eq_decide.2 (by omega)
  unfold MayN mayC
  rw [hk, e1, e2, e3, e4, e5]
  generalize hA : decide (n.blk < 0) = A
  generalize hB : decide (255 < n.blk) = B
  generalize hC : decide ((if toHome n.kind then n.frm else n.too) < 0) = C
  generalize hD : decide (15 < (if toHome n.kind then n.frm else n.too)) = D
  generalize hE : ((if toHome n.kind then n.too else n.frm) == -1) = E
  generalize (if n.kind == 6 then !decide (n.state < 1) && !decide (3 < n.state) else n.state == 0) = G
  cases A <;> cases B <;> cases C <;> cases D <;> cases E <;> simp [Bool.and_assoc, Bool.or_assoc]

set_option maxRecDepth 100000 in
set_option maxHeartbeats 2000000 in
theorem rmay_a (n : Nt) (hn : n.Ok) (hk : n.kind = 1 ∨ n.kind = 2 ∨ n.kind = 10) (w : World) : Calls Tryd.prog 85 #[.agg n.cells] w fun e w' => e = .returned (.bool (MayN n)) ∧ Upd NoF w w' := by
  have hkb : kindB n.kind = true := by rcases hk with h | h | h <;> rw [h] <;> rfl
  have hH : toHome n.kind = true := by rcases hk with h | h | h <;> rw [h] <;> rfl
  have hSt : stamped n.kind = true := by rcases hk with h | h | h <;> rw [h] <;> rfl
  have h3 : (n.kind == 3) = false := by rcases hk with h | h | h <;> rw [h] <;> rfl
  have h6 : (n.kind == 6) = false := by rcases hk with h | h | h <;> rw [h] <;> rfl
  have h9 : (n.kind == 9) = false := by rcases hk with h | h | h <;> rw [h] <;> rfl
  have n3 : (n.kind != 3) = true := by simp [bne, h3]
  have n6 : (n.kind != 6) = true := by simp [bne, h6]
  have n9 : (n.kind != 9) = true := by simp [bne, h9]
  have k1 : decide (n.kind < 1) = false := by simp; omega
  have k2 : decide (11 < n.kind) = false := by simp; omega
  have hM := may_c hkb
  rw [hH, hSt, h3, h6, h9] at hM
  have ht := fun W => rtoHome_any n.kind W
  rw [hH] at ht
  have hs := fun W => rstamped_any n.kind W
  rw [hSt] at hs
  have HT := Lib.hid ht; have HS := Lib.hid hs
  have HU := Lib.hid (Upd.alloc NoF w (.cells n.cells 47))
  have hB := Blk.new w n.cells 47
  have f0 : (w.alloc (.cells n.cells 47)).cell? ⟨w.heap.size, 0, none⟩ = some (.int .u8 n.kind) := (hB.cell 0).trans n.get0
  have e0 := n.get0
  have f1 : (w.alloc (.cells n.cells 47)).cell? ⟨w.heap.size, 1, none⟩ = some (.int .i64 n.frm) := (hB.cell 1).trans n.get1
  have e1 := n.get1
  have f2 : (w.alloc (.cells n.cells 47)).cell? ⟨w.heap.size, 2, none⟩ = some (.int .i64 n.too) := (hB.cell 2).trans n.get2
  have e2 := n.get2
  have f3 : (w.alloc (.cells n.cells 47)).cell? ⟨w.heap.size, 3, none⟩ = some (.int .i64 n.blk) := (hB.cell 3).trans n.get3
  have e3 := n.get3
  have f4 : (w.alloc (.cells n.cells 47)).cell? ⟨w.heap.size, 4, none⟩ = some (.int .u64 n.stamp) := (hB.cell 4).trans n.get4
  have e4 := n.get4
  have f5 : (w.alloc (.cells n.cells 47)).cell? ⟨w.heap.size, 5, none⟩ = some (.int .u8 n.state) := (hB.cell 5).trans n.get5
  have e5 := n.get5
  have f6 : (w.alloc (.cells n.cells 47)).cell? ⟨w.heap.size, 6, none⟩ = some (.bool n.has) := (hB.cell 6).trans n.get6
  have e6 := n.get6
  have f7 : (w.alloc (.cells n.cells 47)).cell? ⟨w.heap.size, 7, none⟩ = some (.bool n.stick) := (hB.cell 7).trans n.get7
  have e7 := n.get7
  have l8 : (TBlk.ld (.pointer (some ⟨w.heap.size, 8, none⟩))).run Tryd.prog (w.alloc (.cells n.cells 47)) = .ok (.agg n.D) (w.alloc (.cells n.cells 47)) := by
    refine TBlk.ld_at (BU.IsU.isN hn.isU) ?_
    intro j v hv
    have h9 : n.cells.toList[8 + j]? = some v := by
      have := n.getD j
      simpa [this] using hv
    simpa using hB.whole (8 + j) v h9
  clear hkb ht hs hB hSt hH hk
  by_cases a1 : n.blk < 0
  · skip
    have ga1 : decide (n.blk < 0) = true := by simp; omega
    have hf : MayN n = false := by rw [hM]; simp [mayC, *]
    rw [hf]
    clear hf hM
    go_enter Tryd.func85, Tryd.ntmps85
    go_wp2
    go_ret
    exact ⟨rfl, HU.out⟩
  · skip
    have ga1 : decide (n.blk < 0) = false := by simp; omega
    by_cases a2 : 255 < n.blk
    · skip
      have ga2 : decide (255 < n.blk) = true := by simp; omega
      have hf : MayN n = false := by rw [hM]; simp [mayC, *]
      rw [hf]
      clear hf hM
      go_enter Tryd.func85, Tryd.ntmps85
      go_wp2
      go_ret
      exact ⟨rfl, HU.out⟩
    · skip
      have ga2 : decide (255 < n.blk) = false := by simp; omega
      by_cases a3 : n.too = -1
      rotate_left
      · skip
        have ga3 : (n.too == -1) = false := by simpa using a3
        have ka3 : (n.too != -1) = true := by simp [bne, ga3]
        have hf : MayN n = false := by rw [hM]; simp [mayC, *]
        rw [hf]
        clear hf hM
        go_enter Tryd.func85, Tryd.ntmps85
        go_wp2_with fail
        refine (HT.out _).mono ?_
        rintro e w2 ⟨rfl, rfl⟩
        go_wp2
        go_ret
        exact ⟨rfl, HU.out⟩
      · skip
        have ga3 : (n.too == -1) = true := by simpa using a3
        have ka3 : (n.too != -1) = false := by simp [bne, ga3]
        by_cases a4 : n.frm < 0
        · skip
          have ga4 : decide (n.frm < 0) = true := by simp; omega
          have hf : MayN n = false := by rw [hM]; simp [mayC, *]
          rw [hf]
          clear hf hM
          go_enter Tryd.func85, Tryd.ntmps85
          go_wp2_with fail
          refine (HT.out _).mono ?_
          rintro e w2 ⟨rfl, rfl⟩
          go_wp2
          go_ret
          exact ⟨rfl, HU.out⟩
        · skip
          have ga4 : decide (n.frm < 0) = false := by simp; omega
          by_cases a5 : 15 < n.frm
          · skip
            have ga5 : decide (15 < n.frm) = true := by simp; omega
            have hf : MayN n = false := by rw [hM]; simp [mayC, *]
            rw [hf]
            clear hf hM
            go_enter Tryd.func85, Tryd.ntmps85
            go_wp2_with fail
            refine (HT.out _).mono ?_
            rintro e w2 ⟨rfl, rfl⟩
            go_wp2
            go_ret
            exact ⟨rfl, HU.out⟩
          · skip
            have ga5 : decide (15 < n.frm) = false := by simp; omega
            by_cases a7 : n.state = 0
            rotate_left
            · skip
              have ga7 : (n.state == 0) = false := by simpa using a7
              have ka7 : (n.state != 0) = true := by simp [bne, ga7]
              have hf : MayN n = false := by rw [hM]; simp [mayC, *]
              rw [hf]
              clear hf hM
              go_enter Tryd.func85, Tryd.ntmps85
              go_wp2_with fail
              refine (HT.out _).mono ?_
              rintro e w2 ⟨rfl, rfl⟩
              go_wp2_with fail
              refine (HS.out _).mono ?_
              rintro e w2 ⟨rfl, rfl⟩
              go_wp2
              go_ret
              exact ⟨rfl, HU.out⟩
            · skip
              have ga7 : (n.state == 0) = true := by simpa using a7
              have ka7 : (n.state != 0) = false := by simp [bne, ga7]
              cases b1 : n.stick
              rotate_left
              · skip
                rw [b1] at f7 e7
                have hf : MayN n = false := by rw [hM]; simp [mayC, *]
                rw [hf]
                clear hf hM
                go_enter Tryd.func85, Tryd.ntmps85
                go_wp2_with fail
                refine (HT.out _).mono ?_
                rintro e w2 ⟨rfl, rfl⟩
                go_wp2_with fail
                refine (HS.out _).mono ?_
                rintro e w2 ⟨rfl, rfl⟩
                go_wp2
                go_ret
                exact ⟨rfl, HU.out⟩
              · skip
                rw [b1] at f7 e7
                cases b2 : n.has
                rotate_left
                · skip
                  rw [b2] at f6 e6
                  have hf : MayN n = false := by rw [hM]; simp [mayC, *]
                  rw [hf]
                  clear hf hM
                  go_enter Tryd.func85, Tryd.ntmps85
                  go_wp2_with fail
                  refine (HT.out _).mono ?_
                  rintro e w2 ⟨rfl, rfl⟩
                  go_wp2_with fail
                  refine (HS.out _).mono ?_
                  rintro e w2 ⟨rfl, rfl⟩
                  go_wp2
                  go_ret
                  exact ⟨rfl, HU.out⟩
                · skip
                  rw [b2] at f6 e6
                  have hz : ∀ W, (eqB (.agg n.D) (.agg #[.int .u32 0, .int .u32 0, .int .u32 0, .int .u32 0, .int .u32 0, .int .u32 0, .int .u32 0, .int .u32 0, .int .u32 0, .int .u32 0, .int .u32 0, .int .u32 0, .int .u32 0, .int .u32 0, .int .u32 0, .int .u32 0])).run Tryd.prog W = .ok (.bool (words n.D == words TBlk.Z)) W := fun W => eqB_run hn.isU BU.isU_Z W
                  cases hw : (words n.D == words TBlk.Z)
                  · skip
                    rw [hw] at hz
                    have hf : MayN n = false := by rw [hM]; simp [mayC, *]
                    rw [hf]
                    clear hf hM
                    go_enter Tryd.func85, Tryd.ntmps85
                    go_wp2_with fail
                    refine (HT.out _).mono ?_
                    rintro e w2 ⟨rfl, rfl⟩
                    go_wp2_with fail
                    refine (HS.out _).mono ?_
                    rintro e w2 ⟨rfl, rfl⟩
                    go_wp2
                    go_ret
                    exact ⟨rfl, HU.out⟩
                  · skip
                    rw [hw] at hz
                    have hf : MayN n = true := by rw [hM]; simp [mayC, *]
                    rw [hf]
                    clear hf hM
                    go_enter Tryd.func85, Tryd.ntmps85
                    go_wp2_with fail
                    refine (HT.out _).mono ?_
                    rintro e w2 ⟨rfl, rfl⟩
                    go_wp2_with fail
                    refine (HS.out _).mono ?_
                    rintro e w2 ⟨rfl, rfl⟩
                    go_wp2
                    go_ret
                    exact ⟨rfl, HU.out⟩
set_option maxRecDepth 100000 in
set_option maxHeartbeats 2000000 in
theorem rmay_b (n : Nt) (hn : n.Ok) (hk : n.kind = 3) (w : World) : Calls Tryd.prog 85 #[.agg n.cells] w fun e w' => e = .returned (.bool (MayN n)) ∧ Upd NoF w w' := by
  have hkb : kindB n.kind = true := by rw [hk]; rfl
  have hH : toHome n.kind = true := by rw [hk]; rfl
  have hSt : stamped n.kind = false := by rw [hk]; rfl
  have h3 : (n.kind == 3) = true := by rw [hk]; rfl
  have h6 : (n.kind == 6) = false := by rw [hk]; rfl
  have h9 : (n.kind == 9) = false := by rw [hk]; rfl
  have n3 : (n.kind != 3) = false := by simp [bne, h3]
  have n6 : (n.kind != 6) = true := by simp [bne, h6]
  have n9 : (n.kind != 9) = true := by simp [bne, h9]
  have k1 : decide (n.kind < 1) = false := by simp; omega
  have k2 : decide (11 < n.kind) = false := by simp; omega
  have hM := may_c hkb
  rw [hH, hSt, h3, h6, h9] at hM
  have ht := fun W => rtoHome_any n.kind W
  rw [hH] at ht
  have hs := fun W => rstamped_any n.kind W
  rw [hSt] at hs
  have HT := Lib.hid ht; have HS := Lib.hid hs
  have HU := Lib.hid (Upd.alloc NoF w (.cells n.cells 47))
  have hB := Blk.new w n.cells 47
  have f0 : (w.alloc (.cells n.cells 47)).cell? ⟨w.heap.size, 0, none⟩ = some (.int .u8 n.kind) := (hB.cell 0).trans n.get0
  have e0 := n.get0
  have f1 : (w.alloc (.cells n.cells 47)).cell? ⟨w.heap.size, 1, none⟩ = some (.int .i64 n.frm) := (hB.cell 1).trans n.get1
  have e1 := n.get1
  have f2 : (w.alloc (.cells n.cells 47)).cell? ⟨w.heap.size, 2, none⟩ = some (.int .i64 n.too) := (hB.cell 2).trans n.get2
  have e2 := n.get2
  have f3 : (w.alloc (.cells n.cells 47)).cell? ⟨w.heap.size, 3, none⟩ = some (.int .i64 n.blk) := (hB.cell 3).trans n.get3
  have e3 := n.get3
  have f4 : (w.alloc (.cells n.cells 47)).cell? ⟨w.heap.size, 4, none⟩ = some (.int .u64 n.stamp) := (hB.cell 4).trans n.get4
  have e4 := n.get4
  have f5 : (w.alloc (.cells n.cells 47)).cell? ⟨w.heap.size, 5, none⟩ = some (.int .u8 n.state) := (hB.cell 5).trans n.get5
  have e5 := n.get5
  have f6 : (w.alloc (.cells n.cells 47)).cell? ⟨w.heap.size, 6, none⟩ = some (.bool n.has) := (hB.cell 6).trans n.get6
  have e6 := n.get6
  have f7 : (w.alloc (.cells n.cells 47)).cell? ⟨w.heap.size, 7, none⟩ = some (.bool n.stick) := (hB.cell 7).trans n.get7
  have e7 := n.get7
  have l8 : (TBlk.ld (.pointer (some ⟨w.heap.size, 8, none⟩))).run Tryd.prog (w.alloc (.cells n.cells 47)) = .ok (.agg n.D) (w.alloc (.cells n.cells 47)) := by
    refine TBlk.ld_at (BU.IsU.isN hn.isU) ?_
    intro j v hv
    have h9 : n.cells.toList[8 + j]? = some v := by
      have := n.getD j
      simpa [this] using hv
    simpa using hB.whole (8 + j) v h9
  clear hkb ht hs hB hSt hH hk
  by_cases a1 : n.blk < 0
  · skip
    have ga1 : decide (n.blk < 0) = true := by simp; omega
    have hf : MayN n = false := by rw [hM]; simp [mayC, *]
    rw [hf]
    clear hf hM
    go_enter Tryd.func85, Tryd.ntmps85
    go_wp2
    go_ret
    exact ⟨rfl, HU.out⟩
  · skip
    have ga1 : decide (n.blk < 0) = false := by simp; omega
    by_cases a2 : 255 < n.blk
    · skip
      have ga2 : decide (255 < n.blk) = true := by simp; omega
      have hf : MayN n = false := by rw [hM]; simp [mayC, *]
      rw [hf]
      clear hf hM
      go_enter Tryd.func85, Tryd.ntmps85
      go_wp2
      go_ret
      exact ⟨rfl, HU.out⟩
    · skip
      have ga2 : decide (255 < n.blk) = false := by simp; omega
      by_cases a3 : n.too = -1
      rotate_left
      · skip
        have ga3 : (n.too == -1) = false := by simpa using a3
        have ka3 : (n.too != -1) = true := by simp [bne, ga3]
        have hf : MayN n = false := by rw [hM]; simp [mayC, *]
        rw [hf]
        clear hf hM
        go_enter Tryd.func85, Tryd.ntmps85
        go_wp2_with fail
        refine (HT.out _).mono ?_
        rintro e w2 ⟨rfl, rfl⟩
        go_wp2
        go_ret
        exact ⟨rfl, HU.out⟩
      · skip
        have ga3 : (n.too == -1) = true := by simpa using a3
        have ka3 : (n.too != -1) = false := by simp [bne, ga3]
        by_cases a4 : n.frm < 0
        · skip
          have ga4 : decide (n.frm < 0) = true := by simp; omega
          have hf : MayN n = false := by rw [hM]; simp [mayC, *]
          rw [hf]
          clear hf hM
          go_enter Tryd.func85, Tryd.ntmps85
          go_wp2_with fail
          refine (HT.out _).mono ?_
          rintro e w2 ⟨rfl, rfl⟩
          go_wp2
          go_ret
          exact ⟨rfl, HU.out⟩
        · skip
          have ga4 : decide (n.frm < 0) = false := by simp; omega
          by_cases a5 : 15 < n.frm
          · skip
            have ga5 : decide (15 < n.frm) = true := by simp; omega
            have hf : MayN n = false := by rw [hM]; simp [mayC, *]
            rw [hf]
            clear hf hM
            go_enter Tryd.func85, Tryd.ntmps85
            go_wp2_with fail
            refine (HT.out _).mono ?_
            rintro e w2 ⟨rfl, rfl⟩
            go_wp2
            go_ret
            exact ⟨rfl, HU.out⟩
          · skip
            have ga5 : decide (15 < n.frm) = false := by simp; omega
            by_cases a6 : n.stamp = 0
            rotate_left
            · skip
              have ga6 : (n.stamp == 0) = false := by simpa using a6
              have ka6 : (n.stamp != 0) = true := by simp [bne, ga6]
              have hf : MayN n = false := by rw [hM]; simp [mayC, *]
              rw [hf]
              clear hf hM
              go_enter Tryd.func85, Tryd.ntmps85
              go_wp2_with fail
              refine (HT.out _).mono ?_
              rintro e w2 ⟨rfl, rfl⟩
              go_wp2_with fail
              refine (HS.out _).mono ?_
              rintro e w2 ⟨rfl, rfl⟩
              go_wp2
              go_ret
              exact ⟨rfl, HU.out⟩
            · skip
              have ga6 : (n.stamp == 0) = true := by simpa using a6
              have ka6 : (n.stamp != 0) = false := by simp [bne, ga6]
              by_cases a7 : n.state = 0
              rotate_left
              · skip
                have ga7 : (n.state == 0) = false := by simpa using a7
                have ka7 : (n.state != 0) = true := by simp [bne, ga7]
                have hf : MayN n = false := by rw [hM]; simp [mayC, *]
                rw [hf]
                clear hf hM
                go_enter Tryd.func85, Tryd.ntmps85
                go_wp2_with fail
                refine (HT.out _).mono ?_
                rintro e w2 ⟨rfl, rfl⟩
                go_wp2_with fail
                refine (HS.out _).mono ?_
                rintro e w2 ⟨rfl, rfl⟩
                go_wp2
                go_ret
                exact ⟨rfl, HU.out⟩
              · skip
                have ga7 : (n.state == 0) = true := by simpa using a7
                have ka7 : (n.state != 0) = false := by simp [bne, ga7]
                cases b2 : n.has
                · skip
                  rw [b2] at f6 e6
                  have hf : MayN n = false := by rw [hM]; simp [mayC, *]
                  rw [hf]
                  clear hf hM
                  go_enter Tryd.func85, Tryd.ntmps85
                  go_wp2_with fail
                  refine (HT.out _).mono ?_
                  rintro e w2 ⟨rfl, rfl⟩
                  go_wp2_with fail
                  refine (HS.out _).mono ?_
                  rintro e w2 ⟨rfl, rfl⟩
                  go_wp2
                  go_ret
                  exact ⟨rfl, HU.out⟩
                · skip
                  rw [b2] at f6 e6
                  have hf : MayN n = true := by rw [hM]; simp [mayC, *]
                  rw [hf]
                  clear hf hM
                  go_enter Tryd.func85, Tryd.ntmps85
                  go_wp2_with fail
                  refine (HT.out _).mono ?_
                  rintro e w2 ⟨rfl, rfl⟩
                  go_wp2_with fail
                  refine (HS.out _).mono ?_
                  rintro e w2 ⟨rfl, rfl⟩
                  go_wp2
                  go_ret
                  exact ⟨rfl, HU.out⟩
set_option maxRecDepth 100000 in
set_option maxHeartbeats 2000000 in
theorem rmay_c (n : Nt) (hn : n.Ok) (hk : n.kind = 4 ∨ n.kind = 5 ∨ n.kind = 7) (w : World) : Calls Tryd.prog 85 #[.agg n.cells] w fun e w' => e = .returned (.bool (MayN n)) ∧ Upd NoF w w' := by
  have hkb : kindB n.kind = true := by rcases hk with h | h | h <;> rw [h] <;> rfl
  have hH : toHome n.kind = false := by rcases hk with h | h | h <;> rw [h] <;> rfl
  have hSt : stamped n.kind = true := by rcases hk with h | h | h <;> rw [h] <;> rfl
  have h3 : (n.kind == 3) = false := by rcases hk with h | h | h <;> rw [h] <;> rfl
  have h6 : (n.kind == 6) = false := by rcases hk with h | h | h <;> rw [h] <;> rfl
  have h9 : (n.kind == 9) = false := by rcases hk with h | h | h <;> rw [h] <;> rfl
  have n3 : (n.kind != 3) = true := by simp [bne, h3]
  have n6 : (n.kind != 6) = true := by simp [bne, h6]
  have n9 : (n.kind != 9) = true := by simp [bne, h9]
  have k1 : decide (n.kind < 1) = false := by simp; omega
  have k2 : decide (11 < n.kind) = false := by simp; omega
  have hM := may_c hkb
  rw [hH, hSt, h3, h6, h9] at hM
  have ht := fun W => rtoHome_any n.kind W
  rw [hH] at ht
  have hs := fun W => rstamped_any n.kind W
  rw [hSt] at hs
  have HT := Lib.hid ht; have HS := Lib.hid hs
  have HU := Lib.hid (Upd.alloc NoF w (.cells n.cells 47))
  have hB := Blk.new w n.cells 47
  have f0 : (w.alloc (.cells n.cells 47)).cell? ⟨w.heap.size, 0, none⟩ = some (.int .u8 n.kind) := (hB.cell 0).trans n.get0
  have e0 := n.get0
  have f1 : (w.alloc (.cells n.cells 47)).cell? ⟨w.heap.size, 1, none⟩ = some (.int .i64 n.frm) := (hB.cell 1).trans n.get1
  have e1 := n.get1
  have f2 : (w.alloc (.cells n.cells 47)).cell? ⟨w.heap.size, 2, none⟩ = some (.int .i64 n.too) := (hB.cell 2).trans n.get2
  have e2 := n.get2
  have f3 : (w.alloc (.cells n.cells 47)).cell? ⟨w.heap.size, 3, none⟩ = some (.int .i64 n.blk) := (hB.cell 3).trans n.get3
  have e3 := n.get3
  have f4 : (w.alloc (.cells n.cells 47)).cell? ⟨w.heap.size, 4, none⟩ = some (.int .u64 n.stamp) := (hB.cell 4).trans n.get4
  have e4 := n.get4
  have f5 : (w.alloc (.cells n.cells 47)).cell? ⟨w.heap.size, 5, none⟩ = some (.int .u8 n.state) := (hB.cell 5).trans n.get5
  have e5 := n.get5
  have f6 : (w.alloc (.cells n.cells 47)).cell? ⟨w.heap.size, 6, none⟩ = some (.bool n.has) := (hB.cell 6).trans n.get6
  have e6 := n.get6
  have f7 : (w.alloc (.cells n.cells 47)).cell? ⟨w.heap.size, 7, none⟩ = some (.bool n.stick) := (hB.cell 7).trans n.get7
  have e7 := n.get7
  have l8 : (TBlk.ld (.pointer (some ⟨w.heap.size, 8, none⟩))).run Tryd.prog (w.alloc (.cells n.cells 47)) = .ok (.agg n.D) (w.alloc (.cells n.cells 47)) := by
    refine TBlk.ld_at (BU.IsU.isN hn.isU) ?_
    intro j v hv
    have h9 : n.cells.toList[8 + j]? = some v := by
      have := n.getD j
      simpa [this] using hv
    simpa using hB.whole (8 + j) v h9
  clear hkb ht hs hB hSt hH hk
  by_cases a1 : n.blk < 0
  · skip
    have ga1 : decide (n.blk < 0) = true := by simp; omega
    have hf : MayN n = false := by rw [hM]; simp [mayC, *]
    rw [hf]
    clear hf hM
    go_enter Tryd.func85, Tryd.ntmps85
    go_wp2
    go_ret
    exact ⟨rfl, HU.out⟩
  · skip
    have ga1 : decide (n.blk < 0) = false := by simp; omega
    by_cases a2 : 255 < n.blk
    · skip
      have ga2 : decide (255 < n.blk) = true := by simp; omega
      have hf : MayN n = false := by rw [hM]; simp [mayC, *]
      rw [hf]
      clear hf hM
      go_enter Tryd.func85, Tryd.ntmps85
      go_wp2
      go_ret
      exact ⟨rfl, HU.out⟩
    · skip
      have ga2 : decide (255 < n.blk) = false := by simp; omega
      by_cases a3 : n.frm = -1
      rotate_left
      · skip
        have ga3 : (n.frm == -1) = false := by simpa using a3
        have ka3 : (n.frm != -1) = true := by simp [bne, ga3]
        have hf : MayN n = false := by rw [hM]; simp [mayC, *]
        rw [hf]
        clear hf hM
        go_enter Tryd.func85, Tryd.ntmps85
        go_wp2_with fail
        refine (HT.out _).mono ?_
        rintro e w2 ⟨rfl, rfl⟩
        go_wp2
        go_ret
        exact ⟨rfl, HU.out⟩
      · skip
        have ga3 : (n.frm == -1) = true := by simpa using a3
        have ka3 : (n.frm != -1) = false := by simp [bne, ga3]
        by_cases a4 : n.too < 0
        · skip
          have ga4 : decide (n.too < 0) = true := by simp; omega
          have hf : MayN n = false := by rw [hM]; simp [mayC, *]
          rw [hf]
          clear hf hM
          go_enter Tryd.func85, Tryd.ntmps85
          go_wp2_with fail
          refine (HT.out _).mono ?_
          rintro e w2 ⟨rfl, rfl⟩
          go_wp2
          go_ret
          exact ⟨rfl, HU.out⟩
        · skip
          have ga4 : decide (n.too < 0) = false := by simp; omega
          by_cases a5 : 15 < n.too
          · skip
            have ga5 : decide (15 < n.too) = true := by simp; omega
            have hf : MayN n = false := by rw [hM]; simp [mayC, *]
            rw [hf]
            clear hf hM
            go_enter Tryd.func85, Tryd.ntmps85
            go_wp2_with fail
            refine (HT.out _).mono ?_
            rintro e w2 ⟨rfl, rfl⟩
            go_wp2
            go_ret
            exact ⟨rfl, HU.out⟩
          · skip
            have ga5 : decide (15 < n.too) = false := by simp; omega
            by_cases a7 : n.state = 0
            rotate_left
            · skip
              have ga7 : (n.state == 0) = false := by simpa using a7
              have ka7 : (n.state != 0) = true := by simp [bne, ga7]
              have hf : MayN n = false := by rw [hM]; simp [mayC, *]
              rw [hf]
              clear hf hM
              go_enter Tryd.func85, Tryd.ntmps85
              go_wp2_with fail
              refine (HT.out _).mono ?_
              rintro e w2 ⟨rfl, rfl⟩
              go_wp2_with fail
              refine (HS.out _).mono ?_
              rintro e w2 ⟨rfl, rfl⟩
              go_wp2
              go_ret
              exact ⟨rfl, HU.out⟩
            · skip
              have ga7 : (n.state == 0) = true := by simpa using a7
              have ka7 : (n.state != 0) = false := by simp [bne, ga7]
              cases b1 : n.stick
              rotate_left
              · skip
                rw [b1] at f7 e7
                have hf : MayN n = false := by rw [hM]; simp [mayC, *]
                rw [hf]
                clear hf hM
                go_enter Tryd.func85, Tryd.ntmps85
                go_wp2_with fail
                refine (HT.out _).mono ?_
                rintro e w2 ⟨rfl, rfl⟩
                go_wp2_with fail
                refine (HS.out _).mono ?_
                rintro e w2 ⟨rfl, rfl⟩
                go_wp2
                go_ret
                exact ⟨rfl, HU.out⟩
              · skip
                rw [b1] at f7 e7
                cases b2 : n.has
                rotate_left
                · skip
                  rw [b2] at f6 e6
                  have hf : MayN n = false := by rw [hM]; simp [mayC, *]
                  rw [hf]
                  clear hf hM
                  go_enter Tryd.func85, Tryd.ntmps85
                  go_wp2_with fail
                  refine (HT.out _).mono ?_
                  rintro e w2 ⟨rfl, rfl⟩
                  go_wp2_with fail
                  refine (HS.out _).mono ?_
                  rintro e w2 ⟨rfl, rfl⟩
                  go_wp2
                  go_ret
                  exact ⟨rfl, HU.out⟩
                · skip
                  rw [b2] at f6 e6
                  have hz : ∀ W, (eqB (.agg n.D) (.agg #[.int .u32 0, .int .u32 0, .int .u32 0, .int .u32 0, .int .u32 0, .int .u32 0, .int .u32 0, .int .u32 0, .int .u32 0, .int .u32 0, .int .u32 0, .int .u32 0, .int .u32 0, .int .u32 0, .int .u32 0, .int .u32 0])).run Tryd.prog W = .ok (.bool (words n.D == words TBlk.Z)) W := fun W => eqB_run hn.isU BU.isU_Z W
                  cases hw : (words n.D == words TBlk.Z)
                  · skip
                    rw [hw] at hz
                    have hf : MayN n = false := by rw [hM]; simp [mayC, *]
                    rw [hf]
                    clear hf hM
                    go_enter Tryd.func85, Tryd.ntmps85
                    go_wp2_with fail
                    refine (HT.out _).mono ?_
                    rintro e w2 ⟨rfl, rfl⟩
                    go_wp2_with fail
                    refine (HS.out _).mono ?_
                    rintro e w2 ⟨rfl, rfl⟩
                    go_wp2
                    go_ret
                    exact ⟨rfl, HU.out⟩
                  · skip
                    rw [hw] at hz
                    have hf : MayN n = true := by rw [hM]; simp [mayC, *]
                    rw [hf]
                    clear hf hM
                    go_enter Tryd.func85, Tryd.ntmps85
                    go_wp2_with fail
                    refine (HT.out _).mono ?_
                    rintro e w2 ⟨rfl, rfl⟩
                    go_wp2_with fail
                    refine (HS.out _).mono ?_
                    rintro e w2 ⟨rfl, rfl⟩
                    go_wp2
                    go_ret
                    exact ⟨rfl, HU.out⟩
set_option maxRecDepth 100000 in
set_option maxHeartbeats 2000000 in
theorem rmay_d (n : Nt) (hn : n.Ok) (hk : n.kind = 6) (w : World) : Calls Tryd.prog 85 #[.agg n.cells] w fun e w' => e = .returned (.bool (MayN n)) ∧ Upd NoF w w' := by
  have hkb : kindB n.kind = true := by rw [hk]; rfl
  have hH : toHome n.kind = false := by rw [hk]; rfl
  have hSt : stamped n.kind = false := by rw [hk]; rfl
  have h3 : (n.kind == 3) = false := by rw [hk]; rfl
  have h6 : (n.kind == 6) = true := by rw [hk]; rfl
  have h9 : (n.kind == 9) = false := by rw [hk]; rfl
  have n3 : (n.kind != 3) = true := by simp [bne, h3]
  have n6 : (n.kind != 6) = false := by simp [bne, h6]
  have n9 : (n.kind != 9) = true := by simp [bne, h9]
  have k1 : decide (n.kind < 1) = false := by simp; omega
  have k2 : decide (11 < n.kind) = false := by simp; omega
  have hM := may_c hkb
  rw [hH, hSt, h3, h6, h9] at hM
  have ht := fun W => rtoHome_any n.kind W
  rw [hH] at ht
  have hs := fun W => rstamped_any n.kind W
  rw [hSt] at hs
  have HT := Lib.hid ht; have HS := Lib.hid hs
  have HU := Lib.hid (Upd.alloc NoF w (.cells n.cells 47))
  have hB := Blk.new w n.cells 47
  have f0 : (w.alloc (.cells n.cells 47)).cell? ⟨w.heap.size, 0, none⟩ = some (.int .u8 n.kind) := (hB.cell 0).trans n.get0
  have e0 := n.get0
  have f1 : (w.alloc (.cells n.cells 47)).cell? ⟨w.heap.size, 1, none⟩ = some (.int .i64 n.frm) := (hB.cell 1).trans n.get1
  have e1 := n.get1
  have f2 : (w.alloc (.cells n.cells 47)).cell? ⟨w.heap.size, 2, none⟩ = some (.int .i64 n.too) := (hB.cell 2).trans n.get2
  have e2 := n.get2
  have f3 : (w.alloc (.cells n.cells 47)).cell? ⟨w.heap.size, 3, none⟩ = some (.int .i64 n.blk) := (hB.cell 3).trans n.get3
  have e3 := n.get3
  have f4 : (w.alloc (.cells n.cells 47)).cell? ⟨w.heap.size, 4, none⟩ = some (.int .u64 n.stamp) := (hB.cell 4).trans n.get4
  have e4 := n.get4
  have f5 : (w.alloc (.cells n.cells 47)).cell? ⟨w.heap.size, 5, none⟩ = some (.int .u8 n.state) := (hB.cell 5).trans n.get5
  have e5 := n.get5
  have f6 : (w.alloc (.cells n.cells 47)).cell? ⟨w.heap.size, 6, none⟩ = some (.bool n.has) := (hB.cell 6).trans n.get6
  have e6 := n.get6
  have f7 : (w.alloc (.cells n.cells 47)).cell? ⟨w.heap.size, 7, none⟩ = some (.bool n.stick) := (hB.cell 7).trans n.get7
  have e7 := n.get7
  have l8 : (TBlk.ld (.pointer (some ⟨w.heap.size, 8, none⟩))).run Tryd.prog (w.alloc (.cells n.cells 47)) = .ok (.agg n.D) (w.alloc (.cells n.cells 47)) := by
    refine TBlk.ld_at (BU.IsU.isN hn.isU) ?_
    intro j v hv
    have h9 : n.cells.toList[8 + j]? = some v := by
      have := n.getD j
      simpa [this] using hv
    simpa using hB.whole (8 + j) v h9
  clear hkb ht hs hB hSt hH hk
  by_cases a1 : n.blk < 0
  · skip
    have ga1 : decide (n.blk < 0) = true := by simp; omega
    have hf : MayN n = false := by rw [hM]; simp [mayC, *]
    rw [hf]
    clear hf hM
    go_enter Tryd.func85, Tryd.ntmps85
    go_wp2
    go_ret
    exact ⟨rfl, HU.out⟩
  · skip
    have ga1 : decide (n.blk < 0) = false := by simp; omega
    by_cases a2 : 255 < n.blk
    · skip
      have ga2 : decide (255 < n.blk) = true := by simp; omega
      have hf : MayN n = false := by rw [hM]; simp [mayC, *]
      rw [hf]
      clear hf hM
      go_enter Tryd.func85, Tryd.ntmps85
      go_wp2
      go_ret
      exact ⟨rfl, HU.out⟩
    · skip
      have ga2 : decide (255 < n.blk) = false := by simp; omega
      by_cases a3 : n.frm = -1
      rotate_left
      · skip
        have ga3 : (n.frm == -1) = false := by simpa using a3
        have ka3 : (n.frm != -1) = true := by simp [bne, ga3]
        have hf : MayN n = false := by rw [hM]; simp [mayC, *]
        rw [hf]
        clear hf hM
        go_enter Tryd.func85, Tryd.ntmps85
        go_wp2_with fail
        refine (HT.out _).mono ?_
        rintro e w2 ⟨rfl, rfl⟩
        go_wp2
        go_ret
        exact ⟨rfl, HU.out⟩
      · skip
        have ga3 : (n.frm == -1) = true := by simpa using a3
        have ka3 : (n.frm != -1) = false := by simp [bne, ga3]
        by_cases a4 : n.too < 0
        · skip
          have ga4 : decide (n.too < 0) = true := by simp; omega
          have hf : MayN n = false := by rw [hM]; simp [mayC, *]
          rw [hf]
          clear hf hM
          go_enter Tryd.func85, Tryd.ntmps85
          go_wp2_with fail
          refine (HT.out _).mono ?_
          rintro e w2 ⟨rfl, rfl⟩
          go_wp2
          go_ret
          exact ⟨rfl, HU.out⟩
        · skip
          have ga4 : decide (n.too < 0) = false := by simp; omega
          by_cases a5 : 15 < n.too
          · skip
            have ga5 : decide (15 < n.too) = true := by simp; omega
            have hf : MayN n = false := by rw [hM]; simp [mayC, *]
            rw [hf]
            clear hf hM
            go_enter Tryd.func85, Tryd.ntmps85
            go_wp2_with fail
            refine (HT.out _).mono ?_
            rintro e w2 ⟨rfl, rfl⟩
            go_wp2
            go_ret
            exact ⟨rfl, HU.out⟩
          · skip
            have ga5 : decide (15 < n.too) = false := by simp; omega
            by_cases a6 : n.stamp = 0
            rotate_left
            · skip
              have ga6 : (n.stamp == 0) = false := by simpa using a6
              have ka6 : (n.stamp != 0) = true := by simp [bne, ga6]
              have hf : MayN n = false := by rw [hM]; simp [mayC, *]
              rw [hf]
              clear hf hM
              go_enter Tryd.func85, Tryd.ntmps85
              go_wp2_with fail
              refine (HT.out _).mono ?_
              rintro e w2 ⟨rfl, rfl⟩
              go_wp2_with fail
              refine (HS.out _).mono ?_
              rintro e w2 ⟨rfl, rfl⟩
              go_wp2
              go_ret
              exact ⟨rfl, HU.out⟩
            · skip
              have ga6 : (n.stamp == 0) = true := by simpa using a6
              have ka6 : (n.stamp != 0) = false := by simp [bne, ga6]
              by_cases a7 : n.state < 1
              · skip
                have ga7 : decide (n.state < 1) = true := by simp; omega
                have hf : MayN n = false := by rw [hM]; simp [mayC, *]
                rw [hf]
                clear hf hM
                go_enter Tryd.func85, Tryd.ntmps85
                go_wp2_with fail
                refine (HT.out _).mono ?_
                rintro e w2 ⟨rfl, rfl⟩
                go_wp2_with fail
                refine (HS.out _).mono ?_
                rintro e w2 ⟨rfl, rfl⟩
                go_wp2
                go_ret
                exact ⟨rfl, HU.out⟩
              · skip
                have ga7 : decide (n.state < 1) = false := by simp; omega
                by_cases a8 : 3 < n.state
                · skip
                  have ga8 : decide (3 < n.state) = true := by simp; omega
                  have hf : MayN n = false := by rw [hM]; simp [mayC, *]
                  rw [hf]
                  clear hf hM
                  go_enter Tryd.func85, Tryd.ntmps85
                  go_wp2_with fail
                  refine (HT.out _).mono ?_
                  rintro e w2 ⟨rfl, rfl⟩
                  go_wp2_with fail
                  refine (HS.out _).mono ?_
                  rintro e w2 ⟨rfl, rfl⟩
                  go_wp2
                  go_ret
                  exact ⟨rfl, HU.out⟩
                · skip
                  have ga8 : decide (3 < n.state) = false := by simp; omega
                  cases b1 : n.stick
                  rotate_left
                  · skip
                    rw [b1] at f7 e7
                    have hf : MayN n = false := by rw [hM]; simp [mayC, *]
                    rw [hf]
                    clear hf hM
                    go_enter Tryd.func85, Tryd.ntmps85
                    go_wp2_with fail
                    refine (HT.out _).mono ?_
                    rintro e w2 ⟨rfl, rfl⟩
                    go_wp2_with fail
                    refine (HS.out _).mono ?_
                    rintro e w2 ⟨rfl, rfl⟩
                    go_wp2
                    go_ret
                    exact ⟨rfl, HU.out⟩
                  · skip
                    rw [b1] at f7 e7
                    cases b2 : n.has
                    · skip
                      rw [b2] at f6 e6
                      have hf : MayN n = false := by rw [hM]; simp [mayC, *]
                      rw [hf]
                      clear hf hM
                      go_enter Tryd.func85, Tryd.ntmps85
                      go_wp2_with fail
                      refine (HT.out _).mono ?_
                      rintro e w2 ⟨rfl, rfl⟩
                      go_wp2_with fail
                      refine (HS.out _).mono ?_
                      rintro e w2 ⟨rfl, rfl⟩
                      go_wp2
                      go_ret
                      exact ⟨rfl, HU.out⟩
                    · skip
                      rw [b2] at f6 e6
                      have hf : MayN n = true := by rw [hM]; simp [mayC, *]
                      rw [hf]
                      clear hf hM
                      go_enter Tryd.func85, Tryd.ntmps85
                      go_wp2_with fail
                      refine (HT.out _).mono ?_
                      rintro e w2 ⟨rfl, rfl⟩
                      go_wp2_with fail
                      refine (HS.out _).mono ?_
                      rintro e w2 ⟨rfl, rfl⟩
                      go_wp2
                      go_ret
                      exact ⟨rfl, HU.out⟩
set_option maxRecDepth 100000 in
set_option maxHeartbeats 2000000 in
theorem rmay_e (n : Nt) (hn : n.Ok) (hk : n.kind = 8) (w : World) : Calls Tryd.prog 85 #[.agg n.cells] w fun e w' => e = .returned (.bool (MayN n)) ∧ Upd NoF w w' := by
  have hkb : kindB n.kind = true := by rw [hk]; rfl
  have hH : toHome n.kind = false := by rw [hk]; rfl
  have hSt : stamped n.kind = false := by rw [hk]; rfl
  have h3 : (n.kind == 3) = false := by rw [hk]; rfl
  have h6 : (n.kind == 6) = false := by rw [hk]; rfl
  have h9 : (n.kind == 9) = false := by rw [hk]; rfl
  have n3 : (n.kind != 3) = true := by simp [bne, h3]
  have n6 : (n.kind != 6) = true := by simp [bne, h6]
  have n9 : (n.kind != 9) = true := by simp [bne, h9]
  have k1 : decide (n.kind < 1) = false := by simp; omega
  have k2 : decide (11 < n.kind) = false := by simp; omega
  have hM := may_c hkb
  rw [hH, hSt, h3, h6, h9] at hM
  have ht := fun W => rtoHome_any n.kind W
  rw [hH] at ht
  have hs := fun W => rstamped_any n.kind W
  rw [hSt] at hs
  have HT := Lib.hid ht; have HS := Lib.hid hs
  have HU := Lib.hid (Upd.alloc NoF w (.cells n.cells 47))
  have hB := Blk.new w n.cells 47
  have f0 : (w.alloc (.cells n.cells 47)).cell? ⟨w.heap.size, 0, none⟩ = some (.int .u8 n.kind) := (hB.cell 0).trans n.get0
  have e0 := n.get0
  have f1 : (w.alloc (.cells n.cells 47)).cell? ⟨w.heap.size, 1, none⟩ = some (.int .i64 n.frm) := (hB.cell 1).trans n.get1
  have e1 := n.get1
  have f2 : (w.alloc (.cells n.cells 47)).cell? ⟨w.heap.size, 2, none⟩ = some (.int .i64 n.too) := (hB.cell 2).trans n.get2
  have e2 := n.get2
  have f3 : (w.alloc (.cells n.cells 47)).cell? ⟨w.heap.size, 3, none⟩ = some (.int .i64 n.blk) := (hB.cell 3).trans n.get3
  have e3 := n.get3
  have f4 : (w.alloc (.cells n.cells 47)).cell? ⟨w.heap.size, 4, none⟩ = some (.int .u64 n.stamp) := (hB.cell 4).trans n.get4
  have e4 := n.get4
  have f5 : (w.alloc (.cells n.cells 47)).cell? ⟨w.heap.size, 5, none⟩ = some (.int .u8 n.state) := (hB.cell 5).trans n.get5
  have e5 := n.get5
  have f6 : (w.alloc (.cells n.cells 47)).cell? ⟨w.heap.size, 6, none⟩ = some (.bool n.has) := (hB.cell 6).trans n.get6
  have e6 := n.get6
  have f7 : (w.alloc (.cells n.cells 47)).cell? ⟨w.heap.size, 7, none⟩ = some (.bool n.stick) := (hB.cell 7).trans n.get7
  have e7 := n.get7
  have l8 : (TBlk.ld (.pointer (some ⟨w.heap.size, 8, none⟩))).run Tryd.prog (w.alloc (.cells n.cells 47)) = .ok (.agg n.D) (w.alloc (.cells n.cells 47)) := by
    refine TBlk.ld_at (BU.IsU.isN hn.isU) ?_
    intro j v hv
    have h9 : n.cells.toList[8 + j]? = some v := by
      have := n.getD j
      simpa [this] using hv
    simpa using hB.whole (8 + j) v h9
  clear hkb ht hs hB hSt hH hk
  by_cases a1 : n.blk < 0
  · skip
    have ga1 : decide (n.blk < 0) = true := by simp; omega
    have hf : MayN n = false := by rw [hM]; simp [mayC, *]
    rw [hf]
    clear hf hM
    go_enter Tryd.func85, Tryd.ntmps85
    go_wp2
    go_ret
    exact ⟨rfl, HU.out⟩
  · skip
    have ga1 : decide (n.blk < 0) = false := by simp; omega
    by_cases a2 : 255 < n.blk
    · skip
      have ga2 : decide (255 < n.blk) = true := by simp; omega
      have hf : MayN n = false := by rw [hM]; simp [mayC, *]
      rw [hf]
      clear hf hM
      go_enter Tryd.func85, Tryd.ntmps85
      go_wp2
      go_ret
      exact ⟨rfl, HU.out⟩
    · skip
      have ga2 : decide (255 < n.blk) = false := by simp; omega
      by_cases a3 : n.frm = -1
      rotate_left
      · skip
        have ga3 : (n.frm == -1) = false := by simpa using a3
        have ka3 : (n.frm != -1) = true := by simp [bne, ga3]
        have hf : MayN n = false := by rw [hM]; simp [mayC, *]
        rw [hf]
        clear hf hM
        go_enter Tryd.func85, Tryd.ntmps85
        go_wp2_with fail
        refine (HT.out _).mono ?_
        rintro e w2 ⟨rfl, rfl⟩
        go_wp2
        go_ret
        exact ⟨rfl, HU.out⟩
      · skip
        have ga3 : (n.frm == -1) = true := by simpa using a3
        have ka3 : (n.frm != -1) = false := by simp [bne, ga3]
        by_cases a4 : n.too < 0
        · skip
          have ga4 : decide (n.too < 0) = true := by simp; omega
          have hf : MayN n = false := by rw [hM]; simp [mayC, *]
          rw [hf]
          clear hf hM
          go_enter Tryd.func85, Tryd.ntmps85
          go_wp2_with fail
          refine (HT.out _).mono ?_
          rintro e w2 ⟨rfl, rfl⟩
          go_wp2
          go_ret
          exact ⟨rfl, HU.out⟩
        · skip
          have ga4 : decide (n.too < 0) = false := by simp; omega
          by_cases a5 : 15 < n.too
          · skip
            have ga5 : decide (15 < n.too) = true := by simp; omega
            have hf : MayN n = false := by rw [hM]; simp [mayC, *]
            rw [hf]
            clear hf hM
            go_enter Tryd.func85, Tryd.ntmps85
            go_wp2_with fail
            refine (HT.out _).mono ?_
            rintro e w2 ⟨rfl, rfl⟩
            go_wp2
            go_ret
            exact ⟨rfl, HU.out⟩
          · skip
            have ga5 : decide (15 < n.too) = false := by simp; omega
            by_cases a6 : n.stamp = 0
            rotate_left
            · skip
              have ga6 : (n.stamp == 0) = false := by simpa using a6
              have ka6 : (n.stamp != 0) = true := by simp [bne, ga6]
              have hf : MayN n = false := by rw [hM]; simp [mayC, *]
              rw [hf]
              clear hf hM
              go_enter Tryd.func85, Tryd.ntmps85
              go_wp2_with fail
              refine (HT.out _).mono ?_
              rintro e w2 ⟨rfl, rfl⟩
              go_wp2_with fail
              refine (HS.out _).mono ?_
              rintro e w2 ⟨rfl, rfl⟩
              go_wp2
              go_ret
              exact ⟨rfl, HU.out⟩
            · skip
              have ga6 : (n.stamp == 0) = true := by simpa using a6
              have ka6 : (n.stamp != 0) = false := by simp [bne, ga6]
              by_cases a7 : n.state = 0
              rotate_left
              · skip
                have ga7 : (n.state == 0) = false := by simpa using a7
                have ka7 : (n.state != 0) = true := by simp [bne, ga7]
                have hf : MayN n = false := by rw [hM]; simp [mayC, *]
                rw [hf]
                clear hf hM
                go_enter Tryd.func85, Tryd.ntmps85
                go_wp2_with fail
                refine (HT.out _).mono ?_
                rintro e w2 ⟨rfl, rfl⟩
                go_wp2_with fail
                refine (HS.out _).mono ?_
                rintro e w2 ⟨rfl, rfl⟩
                go_wp2
                go_ret
                exact ⟨rfl, HU.out⟩
              · skip
                have ga7 : (n.state == 0) = true := by simpa using a7
                have ka7 : (n.state != 0) = false := by simp [bne, ga7]
                cases b1 : n.stick
                rotate_left
                · skip
                  rw [b1] at f7 e7
                  have hf : MayN n = false := by rw [hM]; simp [mayC, *]
                  rw [hf]
                  clear hf hM
                  go_enter Tryd.func85, Tryd.ntmps85
                  go_wp2_with fail
                  refine (HT.out _).mono ?_
                  rintro e w2 ⟨rfl, rfl⟩
                  go_wp2_with fail
                  refine (HS.out _).mono ?_
                  rintro e w2 ⟨rfl, rfl⟩
                  go_wp2
                  go_ret
                  exact ⟨rfl, HU.out⟩
                · skip
                  rw [b1] at f7 e7
                  cases b2 : n.has
                  rotate_left
                  · skip
                    rw [b2] at f6 e6
                    have hf : MayN n = false := by rw [hM]; simp [mayC, *]
                    rw [hf]
                    clear hf hM
                    go_enter Tryd.func85, Tryd.ntmps85
                    go_wp2_with fail
                    refine (HT.out _).mono ?_
                    rintro e w2 ⟨rfl, rfl⟩
                    go_wp2_with fail
                    refine (HS.out _).mono ?_
                    rintro e w2 ⟨rfl, rfl⟩
                    go_wp2
                    go_ret
                    exact ⟨rfl, HU.out⟩
                  · skip
                    rw [b2] at f6 e6
                    have hz : ∀ W, (eqB (.agg n.D) (.agg #[.int .u32 0, .int .u32 0, .int .u32 0, .int .u32 0, .int .u32 0, .int .u32 0, .int .u32 0, .int .u32 0, .int .u32 0, .int .u32 0, .int .u32 0, .int .u32 0, .int .u32 0, .int .u32 0, .int .u32 0, .int .u32 0])).run Tryd.prog W = .ok (.bool (words n.D == words TBlk.Z)) W := fun W => eqB_run hn.isU BU.isU_Z W
                    cases hw : (words n.D == words TBlk.Z)
                    · skip
                      rw [hw] at hz
                      have hf : MayN n = false := by rw [hM]; simp [mayC, *]
                      rw [hf]
                      clear hf hM
                      go_enter Tryd.func85, Tryd.ntmps85
                      go_wp2_with fail
                      refine (HT.out _).mono ?_
                      rintro e w2 ⟨rfl, rfl⟩
                      go_wp2_with fail
                      refine (HS.out _).mono ?_
                      rintro e w2 ⟨rfl, rfl⟩
                      go_wp2
                      go_ret
                      exact ⟨rfl, HU.out⟩
                    · skip
                      rw [hw] at hz
                      have hf : MayN n = true := by rw [hM]; simp [mayC, *]
                      rw [hf]
                      clear hf hM
                      go_enter Tryd.func85, Tryd.ntmps85
                      go_wp2_with fail
                      refine (HT.out _).mono ?_
                      rintro e w2 ⟨rfl, rfl⟩
                      go_wp2_with fail
                      refine (HS.out _).mono ?_
                      rintro e w2 ⟨rfl, rfl⟩
                      go_wp2
                      go_ret
                      exact ⟨rfl, HU.out⟩
set_option maxRecDepth 100000 in
set_option maxHeartbeats 2000000 in
theorem rmay_f (n : Nt) (hn : n.Ok) (hk : n.kind = 9) (w : World) : Calls Tryd.prog 85 #[.agg n.cells] w fun e w' => e = .returned (.bool (MayN n)) ∧ Upd NoF w w' := by
  have hkb : kindB n.kind = true := by rw [hk]; rfl
  have hH : toHome n.kind = true := by rw [hk]; rfl
  have hSt : stamped n.kind = false := by rw [hk]; rfl
  have h3 : (n.kind == 3) = false := by rw [hk]; rfl
  have h6 : (n.kind == 6) = false := by rw [hk]; rfl
  have h9 : (n.kind == 9) = true := by rw [hk]; rfl
  have n3 : (n.kind != 3) = true := by simp [bne, h3]
  have n6 : (n.kind != 6) = true := by simp [bne, h6]
  have n9 : (n.kind != 9) = false := by simp [bne, h9]
  have k1 : decide (n.kind < 1) = false := by simp; omega
  have k2 : decide (11 < n.kind) = false := by simp; omega
  have hM := may_c hkb
  rw [hH, hSt, h3, h6, h9] at hM
  have ht := fun W => rtoHome_any n.kind W
  rw [hH] at ht
  have hs := fun W => rstamped_any n.kind W
  rw [hSt] at hs
  have HT := Lib.hid ht; have HS := Lib.hid hs
  have HU := Lib.hid (Upd.alloc NoF w (.cells n.cells 47))
  have hB := Blk.new w n.cells 47
  have f0 : (w.alloc (.cells n.cells 47)).cell? ⟨w.heap.size, 0, none⟩ = some (.int .u8 n.kind) := (hB.cell 0).trans n.get0
  have e0 := n.get0
  have f1 : (w.alloc (.cells n.cells 47)).cell? ⟨w.heap.size, 1, none⟩ = some (.int .i64 n.frm) := (hB.cell 1).trans n.get1
  have e1 := n.get1
  have f2 : (w.alloc (.cells n.cells 47)).cell? ⟨w.heap.size, 2, none⟩ = some (.int .i64 n.too) := (hB.cell 2).trans n.get2
  have e2 := n.get2
  have f3 : (w.alloc (.cells n.cells 47)).cell? ⟨w.heap.size, 3, none⟩ = some (.int .i64 n.blk) := (hB.cell 3).trans n.get3
  have e3 := n.get3
  have f4 : (w.alloc (.cells n.cells 47)).cell? ⟨w.heap.size, 4, none⟩ = some (.int .u64 n.stamp) := (hB.cell 4).trans n.get4
  have e4 := n.get4
  have f5 : (w.alloc (.cells n.cells 47)).cell? ⟨w.heap.size, 5, none⟩ = some (.int .u8 n.state) := (hB.cell 5).trans n.get5
  have e5 := n.get5
  have f6 : (w.alloc (.cells n.cells 47)).cell? ⟨w.heap.size, 6, none⟩ = some (.bool n.has) := (hB.cell 6).trans n.get6
  have e6 := n.get6
  have f7 : (w.alloc (.cells n.cells 47)).cell? ⟨w.heap.size, 7, none⟩ = some (.bool n.stick) := (hB.cell 7).trans n.get7
  have e7 := n.get7
  have l8 : (TBlk.ld (.pointer (some ⟨w.heap.size, 8, none⟩))).run Tryd.prog (w.alloc (.cells n.cells 47)) = .ok (.agg n.D) (w.alloc (.cells n.cells 47)) := by
    refine TBlk.ld_at (BU.IsU.isN hn.isU) ?_
    intro j v hv
    have h9 : n.cells.toList[8 + j]? = some v := by
      have := n.getD j
      simpa [this] using hv
    simpa using hB.whole (8 + j) v h9
  clear hkb ht hs hB hSt hH hk
  by_cases a1 : n.blk < 0
  · skip
    have ga1 : decide (n.blk < 0) = true := by simp; omega
    have hf : MayN n = false := by rw [hM]; simp [mayC, *]
    rw [hf]
    clear hf hM
    go_enter Tryd.func85, Tryd.ntmps85
    go_wp2
    go_ret
    exact ⟨rfl, HU.out⟩
  · skip
    have ga1 : decide (n.blk < 0) = false := by simp; omega
    by_cases a2 : 255 < n.blk
    · skip
      have ga2 : decide (255 < n.blk) = true := by simp; omega
      have hf : MayN n = false := by rw [hM]; simp [mayC, *]
      rw [hf]
      clear hf hM
      go_enter Tryd.func85, Tryd.ntmps85
      go_wp2
      go_ret
      exact ⟨rfl, HU.out⟩
    · skip
      have ga2 : decide (255 < n.blk) = false := by simp; omega
      by_cases a3 : n.too = -1
      rotate_left
      · skip
        have ga3 : (n.too == -1) = false := by simpa using a3
        have ka3 : (n.too != -1) = true := by simp [bne, ga3]
        have hf : MayN n = false := by rw [hM]; simp [mayC, *]
        rw [hf]
        clear hf hM
        go_enter Tryd.func85, Tryd.ntmps85
        go_wp2_with fail
        refine (HT.out _).mono ?_
        rintro e w2 ⟨rfl, rfl⟩
        go_wp2
        go_ret
        exact ⟨rfl, HU.out⟩
      · skip
        have ga3 : (n.too == -1) = true := by simpa using a3
        have ka3 : (n.too != -1) = false := by simp [bne, ga3]
        by_cases a4 : n.frm < 0
        · skip
          have ga4 : decide (n.frm < 0) = true := by simp; omega
          have hf : MayN n = false := by rw [hM]; simp [mayC, *]
          rw [hf]
          clear hf hM
          go_enter Tryd.func85, Tryd.ntmps85
          go_wp2_with fail
          refine (HT.out _).mono ?_
          rintro e w2 ⟨rfl, rfl⟩
          go_wp2
          go_ret
          exact ⟨rfl, HU.out⟩
        · skip
          have ga4 : decide (n.frm < 0) = false := by simp; omega
          by_cases a5 : 15 < n.frm
          · skip
            have ga5 : decide (15 < n.frm) = true := by simp; omega
            have hf : MayN n = false := by rw [hM]; simp [mayC, *]
            rw [hf]
            clear hf hM
            go_enter Tryd.func85, Tryd.ntmps85
            go_wp2_with fail
            refine (HT.out _).mono ?_
            rintro e w2 ⟨rfl, rfl⟩
            go_wp2
            go_ret
            exact ⟨rfl, HU.out⟩
          · skip
            have ga5 : decide (15 < n.frm) = false := by simp; omega
            by_cases a6 : n.stamp = 0
            rotate_left
            · skip
              have ga6 : (n.stamp == 0) = false := by simpa using a6
              have ka6 : (n.stamp != 0) = true := by simp [bne, ga6]
              have hf : MayN n = false := by rw [hM]; simp [mayC, *]
              rw [hf]
              clear hf hM
              go_enter Tryd.func85, Tryd.ntmps85
              go_wp2_with fail
              refine (HT.out _).mono ?_
              rintro e w2 ⟨rfl, rfl⟩
              go_wp2_with fail
              refine (HS.out _).mono ?_
              rintro e w2 ⟨rfl, rfl⟩
              go_wp2
              go_ret
              exact ⟨rfl, HU.out⟩
            · skip
              have ga6 : (n.stamp == 0) = true := by simpa using a6
              have ka6 : (n.stamp != 0) = false := by simp [bne, ga6]
              by_cases a7 : n.state = 0
              rotate_left
              · skip
                have ga7 : (n.state == 0) = false := by simpa using a7
                have ka7 : (n.state != 0) = true := by simp [bne, ga7]
                have hf : MayN n = false := by rw [hM]; simp [mayC, *]
                rw [hf]
                clear hf hM
                go_enter Tryd.func85, Tryd.ntmps85
                go_wp2_with fail
                refine (HT.out _).mono ?_
                rintro e w2 ⟨rfl, rfl⟩
                go_wp2_with fail
                refine (HS.out _).mono ?_
                rintro e w2 ⟨rfl, rfl⟩
                go_wp2
                go_ret
                exact ⟨rfl, HU.out⟩
              · skip
                have ga7 : (n.state == 0) = true := by simpa using a7
                have ka7 : (n.state != 0) = false := by simp [bne, ga7]
                cases b1 : n.stick
                rotate_left
                · skip
                  rw [b1] at f7 e7
                  have hf : MayN n = false := by rw [hM]; simp [mayC, *]
                  rw [hf]
                  clear hf hM
                  go_enter Tryd.func85, Tryd.ntmps85
                  go_wp2_with fail
                  refine (HT.out _).mono ?_
                  rintro e w2 ⟨rfl, rfl⟩
                  go_wp2_with fail
                  refine (HS.out _).mono ?_
                  rintro e w2 ⟨rfl, rfl⟩
                  go_wp2
                  go_ret
                  exact ⟨rfl, HU.out⟩
                · skip
                  rw [b1] at f7 e7
                  cases b2 : n.has
                  · skip
                    rw [b2] at f6 e6
                    have hz : ∀ W, (eqB (.agg n.D) (.agg #[.int .u32 0, .int .u32 0, .int .u32 0, .int .u32 0, .int .u32 0, .int .u32 0, .int .u32 0, .int .u32 0, .int .u32 0, .int .u32 0, .int .u32 0, .int .u32 0, .int .u32 0, .int .u32 0, .int .u32 0, .int .u32 0])).run Tryd.prog W = .ok (.bool (words n.D == words TBlk.Z)) W := fun W => eqB_run hn.isU BU.isU_Z W
                    cases hw : (words n.D == words TBlk.Z)
                    · skip
                      rw [hw] at hz
                      have hf : MayN n = false := by rw [hM]; simp [mayC, *]
                      rw [hf]
                      clear hf hM
                      go_enter Tryd.func85, Tryd.ntmps85
                      go_wp2_with fail
                      refine (HT.out _).mono ?_
                      rintro e w2 ⟨rfl, rfl⟩
                      go_wp2_with fail
                      refine (HS.out _).mono ?_
                      rintro e w2 ⟨rfl, rfl⟩
                      go_wp2
                      go_ret
                      exact ⟨rfl, HU.out⟩
                    · skip
                      rw [hw] at hz
                      have hf : MayN n = true := by rw [hM]; simp [mayC, *]
                      rw [hf]
                      clear hf hM
                      go_enter Tryd.func85, Tryd.ntmps85
                      go_wp2_with fail
                      refine (HT.out _).mono ?_
                      rintro e w2 ⟨rfl, rfl⟩
                      go_wp2_with fail
                      refine (HS.out _).mono ?_
                      rintro e w2 ⟨rfl, rfl⟩
                      go_wp2
                      go_ret
                      exact ⟨rfl, HU.out⟩
                  · skip
                    rw [b2] at f6 e6
                    have hf : MayN n = true := by rw [hM]; simp [mayC, *]
                    rw [hf]
                    clear hf hM
                    go_enter Tryd.func85, Tryd.ntmps85
                    go_wp2_with fail
                    refine (HT.out _).mono ?_
                    rintro e w2 ⟨rfl, rfl⟩
                    go_wp2_with fail
                    refine (HS.out _).mono ?_
                    rintro e w2 ⟨rfl, rfl⟩
                    go_wp2
                    go_ret
                    exact ⟨rfl, HU.out⟩
set_option maxRecDepth 100000 in
set_option maxHeartbeats 2000000 in
theorem rmay_g (n : Nt) (hn : n.Ok) (hk : n.kind = 11) (w : World) : Calls Tryd.prog 85 #[.agg n.cells] w fun e w' => e = .returned (.bool (MayN n)) ∧ Upd NoF w w' := by
  have hkb : kindB n.kind = true := by rw [hk]; rfl
  have hH : toHome n.kind = true := by rw [hk]; rfl
  have hSt : stamped n.kind = false := by rw [hk]; rfl
  have h3 : (n.kind == 3) = false := by rw [hk]; rfl
  have h6 : (n.kind == 6) = false := by rw [hk]; rfl
  have h9 : (n.kind == 9) = false := by rw [hk]; rfl
  have n3 : (n.kind != 3) = true := by simp [bne, h3]
  have n6 : (n.kind != 6) = true := by simp [bne, h6]
  have n9 : (n.kind != 9) = true := by simp [bne, h9]
  have k1 : decide (n.kind < 1) = false := by simp; omega
  have k2 : decide (11 < n.kind) = false := by simp; omega
  have hM := may_c hkb
  rw [hH, hSt, h3, h6, h9] at hM
  have ht := fun W => rtoHome_any n.kind W
  rw [hH] at ht
  have hs := fun W => rstamped_any n.kind W
  rw [hSt] at hs
  have HT := Lib.hid ht; have HS := Lib.hid hs
  have HU := Lib.hid (Upd.alloc NoF w (.cells n.cells 47))
  have hB := Blk.new w n.cells 47
  have f0 : (w.alloc (.cells n.cells 47)).cell? ⟨w.heap.size, 0, none⟩ = some (.int .u8 n.kind) := (hB.cell 0).trans n.get0
  have e0 := n.get0
  have f1 : (w.alloc (.cells n.cells 47)).cell? ⟨w.heap.size, 1, none⟩ = some (.int .i64 n.frm) := (hB.cell 1).trans n.get1
  have e1 := n.get1
  have f2 : (w.alloc (.cells n.cells 47)).cell? ⟨w.heap.size, 2, none⟩ = some (.int .i64 n.too) := (hB.cell 2).trans n.get2
  have e2 := n.get2
  have f3 : (w.alloc (.cells n.cells 47)).cell? ⟨w.heap.size, 3, none⟩ = some (.int .i64 n.blk) := (hB.cell 3).trans n.get3
  have e3 := n.get3
  have f4 : (w.alloc (.cells n.cells 47)).cell? ⟨w.heap.size, 4, none⟩ = some (.int .u64 n.stamp) := (hB.cell 4).trans n.get4
  have e4 := n.get4
  have f5 : (w.alloc (.cells n.cells 47)).cell? ⟨w.heap.size, 5, none⟩ = some (.int .u8 n.state) := (hB.cell 5).trans n.get5
  have e5 := n.get5
  have f6 : (w.alloc (.cells n.cells 47)).cell? ⟨w.heap.size, 6, none⟩ = some (.bool n.has) := (hB.cell 6).trans n.get6
  have e6 := n.get6
  have f7 : (w.alloc (.cells n.cells 47)).cell? ⟨w.heap.size, 7, none⟩ = some (.bool n.stick) := (hB.cell 7).trans n.get7
  have e7 := n.get7
  have l8 : (TBlk.ld (.pointer (some ⟨w.heap.size, 8, none⟩))).run Tryd.prog (w.alloc (.cells n.cells 47)) = .ok (.agg n.D) (w.alloc (.cells n.cells 47)) := by
    refine TBlk.ld_at (BU.IsU.isN hn.isU) ?_
    intro j v hv
    have h9 : n.cells.toList[8 + j]? = some v := by
      have := n.getD j
      simpa [this] using hv
    simpa using hB.whole (8 + j) v h9
  clear hkb ht hs hB hSt hH hk
  by_cases a1 : n.blk < 0
  · skip
    have ga1 : decide (n.blk < 0) = true := by simp; omega
    have hf : MayN n = false := by rw [hM]; simp [mayC, *]
    rw [hf]
    clear hf hM
    go_enter Tryd.func85, Tryd.ntmps85
    go_wp2
    go_ret
    exact ⟨rfl, HU.out⟩
  · skip
    have ga1 : decide (n.blk < 0) = false := by simp; omega
    by_cases a2 : 255 < n.blk
    · skip
      have ga2 : decide (255 < n.blk) = true := by simp; omega
      have hf : MayN n = false := by rw [hM]; simp [mayC, *]
      rw [hf]
      clear hf hM
      go_enter Tryd.func85, Tryd.ntmps85
      go_wp2
      go_ret
      exact ⟨rfl, HU.out⟩
    · skip
      have ga2 : decide (255 < n.blk) = false := by simp; omega
      by_cases a3 : n.too = -1
      rotate_left
      · skip
        have ga3 : (n.too == -1) = false := by simpa using a3
        have ka3 : (n.too != -1) = true := by simp [bne, ga3]
        have hf : MayN n = false := by rw [hM]; simp [mayC, *]
        rw [hf]
        clear hf hM
        go_enter Tryd.func85, Tryd.ntmps85
        go_wp2_with fail
        refine (HT.out _).mono ?_
        rintro e w2 ⟨rfl, rfl⟩
        go_wp2
        go_ret
        exact ⟨rfl, HU.out⟩
      · skip
        have ga3 : (n.too == -1) = true := by simpa using a3
        have ka3 : (n.too != -1) = false := by simp [bne, ga3]
        by_cases a4 : n.frm < 0
        · skip
          have ga4 : decide (n.frm < 0) = true := by simp; omega
          have hf : MayN n = false := by rw [hM]; simp [mayC, *]
          rw [hf]
          clear hf hM
          go_enter Tryd.func85, Tryd.ntmps85
          go_wp2_with fail
          refine (HT.out _).mono ?_
          rintro e w2 ⟨rfl, rfl⟩
          go_wp2
          go_ret
          exact ⟨rfl, HU.out⟩
        · skip
          have ga4 : decide (n.frm < 0) = false := by simp; omega
          by_cases a5 : 15 < n.frm
          · skip
            have ga5 : decide (15 < n.frm) = true := by simp; omega
            have hf : MayN n = false := by rw [hM]; simp [mayC, *]
            rw [hf]
            clear hf hM
            go_enter Tryd.func85, Tryd.ntmps85
            go_wp2_with fail
            refine (HT.out _).mono ?_
            rintro e w2 ⟨rfl, rfl⟩
            go_wp2
            go_ret
            exact ⟨rfl, HU.out⟩
          · skip
            have ga5 : decide (15 < n.frm) = false := by simp; omega
            by_cases a6 : n.stamp = 0
            rotate_left
            · skip
              have ga6 : (n.stamp == 0) = false := by simpa using a6
              have ka6 : (n.stamp != 0) = true := by simp [bne, ga6]
              have hf : MayN n = false := by rw [hM]; simp [mayC, *]
              rw [hf]
              clear hf hM
              go_enter Tryd.func85, Tryd.ntmps85
              go_wp2_with fail
              refine (HT.out _).mono ?_
              rintro e w2 ⟨rfl, rfl⟩
              go_wp2_with fail
              refine (HS.out _).mono ?_
              rintro e w2 ⟨rfl, rfl⟩
              go_wp2
              go_ret
              exact ⟨rfl, HU.out⟩
            · skip
              have ga6 : (n.stamp == 0) = true := by simpa using a6
              have ka6 : (n.stamp != 0) = false := by simp [bne, ga6]
              by_cases a7 : n.state = 0
              rotate_left
              · skip
                have ga7 : (n.state == 0) = false := by simpa using a7
                have ka7 : (n.state != 0) = true := by simp [bne, ga7]
                have hf : MayN n = false := by rw [hM]; simp [mayC, *]
                rw [hf]
                clear hf hM
                go_enter Tryd.func85, Tryd.ntmps85
                go_wp2_with fail
                refine (HT.out _).mono ?_
                rintro e w2 ⟨rfl, rfl⟩
                go_wp2_with fail
                refine (HS.out _).mono ?_
                rintro e w2 ⟨rfl, rfl⟩
                go_wp2
                go_ret
                exact ⟨rfl, HU.out⟩
              · skip
                have ga7 : (n.state == 0) = true := by simpa using a7
                have ka7 : (n.state != 0) = false := by simp [bne, ga7]
                cases b1 : n.stick
                rotate_left
                · skip
                  rw [b1] at f7 e7
                  have hf : MayN n = false := by rw [hM]; simp [mayC, *]
                  rw [hf]
                  clear hf hM
                  go_enter Tryd.func85, Tryd.ntmps85
                  go_wp2_with fail
                  refine (HT.out _).mono ?_
                  rintro e w2 ⟨rfl, rfl⟩
                  go_wp2_with fail
                  refine (HS.out _).mono ?_
                  rintro e w2 ⟨rfl, rfl⟩
                  go_wp2
                  go_ret
                  exact ⟨rfl, HU.out⟩
                · skip
                  rw [b1] at f7 e7
                  cases b2 : n.has
                  rotate_left
                  · skip
                    rw [b2] at f6 e6
                    have hf : MayN n = false := by rw [hM]; simp [mayC, *]
                    rw [hf]
                    clear hf hM
                    go_enter Tryd.func85, Tryd.ntmps85
                    go_wp2_with fail
                    refine (HT.out _).mono ?_
                    rintro e w2 ⟨rfl, rfl⟩
                    go_wp2_with fail
                    refine (HS.out _).mono ?_
                    rintro e w2 ⟨rfl, rfl⟩
                    go_wp2
                    go_ret
                    exact ⟨rfl, HU.out⟩
                  · skip
                    rw [b2] at f6 e6
                    have hz : ∀ W, (eqB (.agg n.D) (.agg #[.int .u32 0, .int .u32 0, .int .u32 0, .int .u32 0, .int .u32 0, .int .u32 0, .int .u32 0, .int .u32 0, .int .u32 0, .int .u32 0, .int .u32 0, .int .u32 0, .int .u32 0, .int .u32 0, .int .u32 0, .int .u32 0])).run Tryd.prog W = .ok (.bool (words n.D == words TBlk.Z)) W := fun W => eqB_run hn.isU BU.isU_Z W
                    cases hw : (words n.D == words TBlk.Z)
                    · skip
                      rw [hw] at hz
                      have hf : MayN n = false := by rw [hM]; simp [mayC, *]
                      rw [hf]
                      clear hf hM
                      go_enter Tryd.func85, Tryd.ntmps85
                      go_wp2_with fail
                      refine (HT.out _).mono ?_
                      rintro e w2 ⟨rfl, rfl⟩
                      go_wp2_with fail
                      refine (HS.out _).mono ?_
                      rintro e w2 ⟨rfl, rfl⟩
                      go_wp2
                      go_ret
                      exact ⟨rfl, HU.out⟩
                    · skip
                      rw [hw] at hz
                      have hf : MayN n = true := by rw [hM]; simp [mayC, *]
                      rw [hf]
                      clear hf hM
                      go_enter Tryd.func85, Tryd.ntmps85
                      go_wp2_with fail
                      refine (HT.out _).mono ?_
                      rintro e w2 ⟨rfl, rfl⟩
                      go_wp2_with fail
                      refine (HS.out _).mono ?_
                      rintro e w2 ⟨rfl, rfl⟩
                      go_wp2
                      go_ret
                      exact ⟨rfl, HU.out⟩
set_option maxRecDepth 100000 in
theorem rMay_any (n : Nt) (hn : n.Ok) (w : World) : Calls Tryd.prog 85 #[.agg n.cells] w fun e w' => e = .returned (.bool (MayN n)) ∧ Upd NoF w w' := by
  by_cases hk : 1 ≤ n.kind ∧ n.kind ≤ 11
  · have : (n.kind = 1 ∨ n.kind = 2 ∨ n.kind = 10) ∨ n.kind = 3 ∨ (n.kind = 4 ∨ n.kind = 5 ∨ n.kind = 7) ∨ n.kind = 6 ∨ n.kind = 8 ∨ n.kind = 9 ∨ n.kind = 11 := by omega
    rcases this with h | h | h | h | h | h | h
    · exact rmay_a n hn h w
    · exact rmay_b n hn h w
    · exact rmay_c n hn h w
    · exact rmay_d n hn h w
    · exact rmay_e n hn h w
    · exact rmay_f n hn h w
    · exact rmay_g n hn h w
  · have hkb : kindB n.kind = false := by unfold kindB; by_cases h1 : 1 ≤ n.kind <;> simp_all <;> omega
    have hf : MayN n = false := by unfold MayN; rw [hkb]; simp
    rw [hf]
    have e0 := n.get0
    have f0 : (w.alloc (.cells n.cells 47)).cell? ⟨w.heap.size, 0, none⟩ = some (.int .u8 n.kind) := ((Blk.new w n.cells 47).cell 0).trans n.get0
    have HU := Lib.hid (Upd.alloc NoF w (.cells n.cells 47))
    clear hf hkb
    by_cases k1 : n.kind < 1
    · have g1 : decide (n.kind < 1) = true := by simp; omega
      go_enter Tryd.func85, Tryd.ntmps85
      go_wp2
      go_ret
      exact ⟨rfl, HU.out⟩
    · have g1 : decide (n.kind < 1) = false := by simp; omega
      have g2 : decide (11 < n.kind) = true := by simp; omega
      go_enter Tryd.func85, Tryd.ntmps85
      go_wp2
      go_ret
      exact ⟨rfl, HU.out⟩
end Go.Proofs.YtlhbnndnkcpomaaDoor.NC

set_option linter.unusedSimpArgs false
set_option linter.unusedVariables false
namespace Go.Proofs.YtlhbnndnkcpomaaDoor.NE
open Go.RowKit
open BU (IsU words)
open PL (Cfg CC CV May)
attribute [local go_sem] Oper.semAt_some
attribute [local go_sem ↓] eqN_eq neN_eq eqB_eq neB_eq TNot.ld_eq TNot.st_eq TNot.al_eq TNot.bx_eq
attribute [local go_sem] TNot.al_run TNot.bx_run
def fitsN (c : Cfg) (n : Nt) : Bool := MayN n && (decide (max n.frm n.too < c.cores) && decide (n.blk < c.blocks - c.cores * c.logs))
set_option maxRecDepth 100000 in
set_option maxHeartbeats 2000000 in
theorem rfits_any (c : Cfg) (n : Nt) (hn : n.Ok) (hc : May c) (w : World) :
    Calls Tryd.prog 64 #[CV c, .agg n.cells] w fun e w' => e = .returned (.bool (fitsN c n)) ∧ Upd NoF w w' := by
  have hu := (Upd.alloc NoF w (.cells (CC c) 23)).trans (Upd.alloc NoF _ (.cells n.cells 47)) (fun _ _ h => h)
  have qc := (Blk.new w (CC c) 23).alloc (.cells n.cells 47)
  have q := Blk.new (w.alloc (.cells (CC c) 23)) n.cells 47
  rw [World.size_alloc] at q
  obtain ⟨V, hV⟩ : ∃ V, (w.alloc (.cells (CC c) 23)).alloc (.cells n.cells 47) = V := ⟨_, rfl⟩
  rw [hV] at hu q qc
  have HU := Lib.hid hu; have HV := Lib.hid hV; have HB := Lib.hid qc; have HQ := Lib.hid q
  have HM := Lib.hid (fun w => NC.rMay_any n hn w)
  have HD := Lib.hid (fun w => PL.rdata_any c hc.1 hc.2.2.1 hc.2.1 w)
  have hk : ∀ W W', ((fun W => Upd NoF w W ∧ Blk W (w.heap.size + 1) n.cells 47 ∧ (TNot.ld (.pointer (some ⟨w.heap.size + 1, 0, none⟩))).run Tryd.prog W = .ok (.agg n.cells) W ∧ W.cell? ⟨w.heap.size + 1, 1, none⟩ = some (.int .i64 n.frm) ∧ W.cell? ⟨w.heap.size + 1, 2, none⟩ = some (.int .i64 n.too) ∧ W.cell? ⟨w.heap.size + 1, 3, none⟩ = some (.int .i64 n.blk) ∧ W.cell? ⟨w.heap.size, 0, none⟩ = some (.int .i64 c.cores) ∧ W.cell? ⟨w.heap.size, 1, none⟩ = some (.int .i64 c.sets) ∧ W.cell? ⟨w.heap.size, 2, none⟩ = some (.int .i64 c.ways) ∧ W.cell? ⟨w.heap.size, 3, none⟩ = some (.int .i64 c.blocks) ∧ W.cell? ⟨w.heap.size, 4, none⟩ = some (.int .i64 c.logs) ∧ W.cell? ⟨w.heap.size, 5, none⟩ = some (.int .i64 c.backs) ∧ W.cell? ⟨w.heap.size, 6, none⟩ = some (.int .i64 c.nest) ∧ W.cell? ⟨w.heap.size, 7, none⟩ = some (.int .i64 c.tries))) W → Upd NoF W W' → ((fun W => Upd NoF w W ∧ Blk W (w.heap.size + 1) n.cells 47 ∧ (TNot.ld (.pointer (some ⟨w.heap.size + 1, 0, none⟩))).run Tryd.prog W = .ok (.agg n.cells) W ∧ W.cell? ⟨w.heap.size + 1, 1, none⟩ = some (.int .i64 n.frm) ∧ W.cell? ⟨w.heap.size + 1, 2, none⟩ = some (.int .i64 n.too) ∧ W.cell? ⟨w.heap.size + 1, 3, none⟩ = some (.int .i64 n.blk) ∧ W.cell? ⟨w.heap.size, 0, none⟩ = some (.int .i64 c.cores) ∧ W.cell? ⟨w.heap.size, 1, none⟩ = some (.int .i64 c.sets) ∧ W.cell? ⟨w.heap.size, 2, none⟩ = some (.int .i64 c.ways) ∧ W.cell? ⟨w.heap.size, 3, none⟩ = some (.int .i64 c.blocks) ∧ W.cell? ⟨w.heap.size, 4, none⟩ = some (.int .i64 c.logs) ∧ W.cell? ⟨w.heap.size, 5, none⟩ = some (.int .i64 c.backs) ∧ W.cell? ⟨w.heap.size, 6, none⟩ = some (.int .i64 c.nest) ∧ W.cell? ⟨w.heap.size, 7, none⟩ = some (.int .i64 c.tries))) W' := fun W W' hS hu => by
    obtain ⟨k0, kB, k1, k2, k3, k4, k5, k6, k7, k8, k9, k10, k11, k12⟩ := hS
    have hu0 := k0.trans hu (fun _ _ h => h)
    refine ⟨hu0, kB.upd hu (fun h => h), TNot.ld_at (Nt.Ok.isN hn.isU) (kB.upd hu (fun h => h)).whole, hu.cell k2 (fun h => h), hu.cell k3 (fun h => h), hu.cell k4 (fun h => h), hu.cell k5 (fun h => h), hu.cell k6 (fun h => h), hu.cell k7 (fun h => h), hu.cell k8 (fun h => h), hu.cell k9 (fun h => h), hu.cell k10 (fun h => h), hu.cell k11 (fun h => h), hu.cell k12 (fun h => h)⟩
  have hst : ((fun W => Upd NoF w W ∧ Blk W (w.heap.size + 1) n.cells 47 ∧ (TNot.ld (.pointer (some ⟨w.heap.size + 1, 0, none⟩))).run Tryd.prog W = .ok (.agg n.cells) W ∧ W.cell? ⟨w.heap.size + 1, 1, none⟩ = some (.int .i64 n.frm) ∧ W.cell? ⟨w.heap.size + 1, 2, none⟩ = some (.int .i64 n.too) ∧ W.cell? ⟨w.heap.size + 1, 3, none⟩ = some (.int .i64 n.blk) ∧ W.cell? ⟨w.heap.size, 0, none⟩ = some (.int .i64 c.cores) ∧ W.cell? ⟨w.heap.size, 1, none⟩ = some (.int .i64 c.sets) ∧ W.cell? ⟨w.heap.size, 2, none⟩ = some (.int .i64 c.ways) ∧ W.cell? ⟨w.heap.size, 3, none⟩ = some (.int .i64 c.blocks) ∧ W.cell? ⟨w.heap.size, 4, none⟩ = some (.int .i64 c.logs) ∧ W.cell? ⟨w.heap.size, 5, none⟩ = some (.int .i64 c.backs) ∧ W.cell? ⟨w.heap.size, 6, none⟩ = some (.int .i64 c.nest) ∧ W.cell? ⟨w.heap.size, 7, none⟩ = some (.int .i64 c.tries))) V.drew := by
    have hd := Upd.drew NoF V
    have hbd := HB.out.upd hd (fun h => h)
    have hqd := HQ.out.upd hd (fun h => h)
    exact ⟨HU.out.trans hd (fun _ _ h => h), hqd, TNot.ld_at (Nt.Ok.isN hn.isU) hqd.whole, (hqd.cell 1).trans n.get1, (hqd.cell 2).trans n.get2, (hqd.cell 3).trans n.get3, hbd.cell 0, hbd.cell 1, hbd.cell 2, hbd.cell 3, hbd.cell 4, hbd.cell 5, hbd.cell 6, hbd.cell 7⟩
  have HSK := Lib.hid hk; have HST := Lib.hid hst
  clear hk hst
  generalize hdata : c.blocks - c.cores * c.logs = data at HD
  clear hu q qc hV hc
  cases hm : MayN n
  · rw [hm] at HM
    have hf : fitsN c n = false := by unfold fitsN; rw [hm]; rfl
    rw [hf]
    clear hf hm
    go_enter Tryd.func64, Tryd.ntmps64
    go_wp2_with fail
    rw [HV.out]
    refine wp_region_held_drew (S := (fun W => Upd NoF w W ∧ Blk W (w.heap.size + 1) n.cells 47 ∧ (TNot.ld (.pointer (some ⟨w.heap.size + 1, 0, none⟩))).run Tryd.prog W = .ok (.agg n.cells) W ∧ W.cell? ⟨w.heap.size + 1, 1, none⟩ = some (.int .i64 n.frm) ∧ W.cell? ⟨w.heap.size + 1, 2, none⟩ = some (.int .i64 n.too) ∧ W.cell? ⟨w.heap.size + 1, 3, none⟩ = some (.int .i64 n.blk) ∧ W.cell? ⟨w.heap.size, 0, none⟩ = some (.int .i64 c.cores) ∧ W.cell? ⟨w.heap.size, 1, none⟩ = some (.int .i64 c.sets) ∧ W.cell? ⟨w.heap.size, 2, none⟩ = some (.int .i64 c.ways) ∧ W.cell? ⟨w.heap.size, 3, none⟩ = some (.int .i64 c.blocks) ∧ W.cell? ⟨w.heap.size, 4, none⟩ = some (.int .i64 c.logs) ∧ W.cell? ⟨w.heap.size, 5, none⟩ = some (.int .i64 c.backs) ∧ W.cell? ⟨w.heap.size, 6, none⟩ = some (.int .i64 c.nest) ∧ W.cell? ⟨w.heap.size, 7, none⟩ = some (.int .i64 c.tries))) (by kernel_rfl) (HST.out) (fun hHeld => ?_)
    refine rgn 0 (v := ?vr1_0) hHeld ?yr1_0 ?_
    case yr1_0 => (intro w hSw; obtain ⟨k0, kB, k1, k2, k3, k4, k5, k6, k7, k8, k9, k10, k11, k12⟩ := hSw; go_simp; try with_reducible rfl)
    simp only [Act.put, rn1, rn2, rn3, rn4, rn5, rn6]
    refine reg_step (i := 1) (by kernel_rfl) rfl (by kernel_rfl) (fun K hK => ?_)
    go_simp
    refine (HM.out _).mono ?_
    rintro e w2 ⟨rfl, hu⟩
    have HS := HSK.out _ _ hHeld hu
    clear hu
    go_wp2_with fail
    refine hK.out _ _ HS (fun hHeld2 => ?_)
    clear hK hHeld2 hHeld; have hHeld := HS; clear HS
    try simp only [Act.put, rn1, rn2, rn3, rn4, rn5, rn6]
    refine rgn 2 (v := .bool false) hHeld ?yr1_2 ?_
    case yr1_2 => (intro w hSw; obtain ⟨k0, kB, k1, k2, k3, k4, k5, k6, k7, k8, k9, k10, k11, k12⟩ := hSw; go_simp; try with_reducible rfl)
    simp only [Act.put, rn1, rn2, rn3, rn4, rn5, rn6]
    refine reg_off (i := 3) rfl (by kernel_rfl) (by kernel_rfl) (by kernel_rfl) (fun _ _ _ h => h) (by kernel_rfl) hHeld ?_
    simp only [Act.put, rn1, rn2, rn3, rn4, rn5, rn6]
    refine reg_off (i := 4) rfl (by kernel_rfl) (by kernel_rfl) (by kernel_rfl) (fun _ _ _ h => h) (by kernel_rfl) hHeld ?_
    simp only [Act.put, rn1, rn2, rn3, rn4, rn5, rn6]
    refine reg_off (i := 5) rfl (by kernel_rfl) (by kernel_rfl) (by kernel_rfl) (fun _ _ _ h => h) (by kernel_rfl) hHeld ?_
    simp only [Act.put, rn1, rn2, rn3, rn4, rn5, rn6]
    refine reg_off (i := 6) rfl (by kernel_rfl) (by kernel_rfl) (by kernel_rfl) (fun _ _ _ h => h) (by kernel_rfl) hHeld ?_
    simp only [Act.put, rn1, rn2, rn3, rn4, rn5, rn6]
    refine reg_off (i := 7) rfl (by kernel_rfl) (by kernel_rfl) (by kernel_rfl) (fun _ _ _ h => h) (by kernel_rfl) hHeld ?_
    simp only [Act.put, rn1, rn2, rn3, rn4, rn5, rn6]
    refine rgn 8 (v := .bool false) hHeld ?yr1_8 ?_
    case yr1_8 => (intro w hSw; obtain ⟨k0, kB, k1, k2, k3, k4, k5, k6, k7, k8, k9, k10, k11, k12⟩ := hSw; go_simp; try with_reducible rfl)
    simp only [Act.put, rn1, rn2, rn3, rn4, rn5, rn6]
    refine rgn 9 (v := .bool false) hHeld ?yr1_9 ?_
    case yr1_9 => (intro w hSw; obtain ⟨k0, kB, k1, k2, k3, k4, k5, k6, k7, k8, k9, k10, k11, k12⟩ := hSw; go_simp; try with_reducible rfl)
    simp only [Act.put, rn1, rn2, rn3, rn4, rn5, rn6]
    refine reg_off (i := 10) rfl (by kernel_rfl) (by kernel_rfl) (by kernel_rfl) (fun _ _ _ h => h) (by kernel_rfl) hHeld ?_
    simp only [Act.put, rn1, rn2, rn3, rn4, rn5, rn6]
    refine reg_off (i := 11) rfl (by kernel_rfl) (by kernel_rfl) (by kernel_rfl) (fun _ _ _ h => h) (by kernel_rfl) hHeld ?_
    simp only [Act.put, rn1, rn2, rn3, rn4, rn5, rn6]
    refine reg_off (i := 12) rfl (by kernel_rfl) (by kernel_rfl) (by kernel_rfl) (fun _ _ _ h => h) (by kernel_rfl) hHeld ?_
    simp only [Act.put, rn1, rn2, rn3, rn4, rn5, rn6]
    refine reg_off (i := 13) rfl (by kernel_rfl) (by kernel_rfl) (by kernel_rfl) (fun _ _ _ h => h) (by kernel_rfl) hHeld ?_
    simp only [Act.put, rn1, rn2, rn3, rn4, rn5, rn6]
    refine reg_off (i := 14) rfl (by kernel_rfl) (by kernel_rfl) (by kernel_rfl) (fun _ _ _ h => h) (by kernel_rfl) hHeld ?_
    simp only [Act.put, rn1, rn2, rn3, rn4, rn5, rn6]
    refine rgn 15 (v := .bool false) hHeld ?yr1_15 ?_
    case yr1_15 => (intro w hSw; obtain ⟨k0, kB, k1, k2, k3, k4, k5, k6, k7, k8, k9, k10, k11, k12⟩ := hSw; go_simp; try with_reducible rfl)
    simp only [Act.put, rn1, rn2, rn3, rn4, rn5, rn6]
    refine rgn 16 (v := .bool false) hHeld ?yr1_16 ?_
    case yr1_16 => (intro w hSw; obtain ⟨k0, kB, k1, k2, k3, k4, k5, k6, k7, k8, k9, k10, k11, k12⟩ := hSw; go_simp; try with_reducible rfl)
    simp only [Act.put, rn1, rn2, rn3, rn4, rn5, rn6]
    refine reg_off (i := 17) rfl (by kernel_rfl) (by kernel_rfl) (by kernel_rfl) (fun _ _ _ h => h) (by kernel_rfl) hHeld ?_
    simp only [Act.put, rn1, rn2, rn3, rn4, rn5, rn6]
    refine reg_off (i := 18) rfl (by kernel_rfl) (by kernel_rfl) (by kernel_rfl) (fun _ _ _ h => h) (by kernel_rfl) hHeld ?_
    simp only [Act.put, rn1, rn2, rn3, rn4, rn5, rn6]
    refine reg_off (i := 19) rfl (by kernel_rfl) (by kernel_rfl) (by kernel_rfl) (fun _ _ _ h => h) (by kernel_rfl) hHeld ?_
    simp only [Act.put, rn1, rn2, rn3, rn4, rn5, rn6]
    refine reg_off (i := 20) rfl (by kernel_rfl) (by kernel_rfl) (by kernel_rfl) (fun _ _ _ h => h) (by kernel_rfl) hHeld ?_
    simp only [Act.put, rn1, rn2, rn3, rn4, rn5, rn6]
    refine reg_off (i := 21) rfl (by kernel_rfl) (by kernel_rfl) (by kernel_rfl) (fun _ _ _ h => h) (by kernel_rfl) hHeld ?_
    simp only [Act.put, rn1, rn2, rn3, rn4, rn5, rn6]
    refine rgn 22 (v := .bool false) hHeld ?yr1_22 ?_
    case yr1_22 => (intro w hSw; obtain ⟨k0, kB, k1, k2, k3, k4, k5, k6, k7, k8, k9, k10, k11, k12⟩ := hSw; go_simp; try with_reducible rfl)
    simp only [Act.put, rn1, rn2, rn3, rn4, rn5, rn6]
    refine rgn 23 (v := .bool false) hHeld ?yr1_23 ?_
    case yr1_23 => (intro w hSw; obtain ⟨k0, kB, k1, k2, k3, k4, k5, k6, k7, k8, k9, k10, k11, k12⟩ := hSw; go_simp; try with_reducible rfl)
    simp only [Act.put, rn1, rn2, rn3, rn4, rn5, rn6]
    refine wpAnyH_done (by kernel_rfl) ?_ _
    go_wp2
    go_ret
    exact ⟨rfl, hHeld.1⟩
  · rw [hm] at HM
    cases h1 : decide (n.frm < c.cores)
    · have hf : fitsN c n = false := by unfold fitsN; rw [hm, show decide (max n.frm n.too < c.cores) = false from decide_eq_false (by have := of_decide_eq_false h1; omega)]; rfl
      rw [hf]
      clear hf hm
      go_enter Tryd.func64, Tryd.ntmps64
      go_wp2_with fail
      rw [HV.out]
      refine wp_region_held_drew (S := (fun W => Upd NoF w W ∧ Blk W (w.heap.size + 1) n.cells 47 ∧ (TNot.ld (.pointer (some ⟨w.heap.size + 1, 0, none⟩))).run Tryd.prog W = .ok (.agg n.cells) W ∧ W.cell? ⟨w.heap.size + 1, 1, none⟩ = some (.int .i64 n.frm) ∧ W.cell? ⟨w.heap.size + 1, 2, none⟩ = some (.int .i64 n.too) ∧ W.cell? ⟨w.heap.size + 1, 3, none⟩ = some (.int .i64 n.blk) ∧ W.cell? ⟨w.heap.size, 0, none⟩ = some (.int .i64 c.cores) ∧ W.cell? ⟨w.heap.size, 1, none⟩ = some (.int .i64 c.sets) ∧ W.cell? ⟨w.heap.size, 2, none⟩ = some (.int .i64 c.ways) ∧ W.cell? ⟨w.heap.size, 3, none⟩ = some (.int .i64 c.blocks) ∧ W.cell? ⟨w.heap.size, 4, none⟩ = some (.int .i64 c.logs) ∧ W.cell? ⟨w.heap.size, 5, none⟩ = some (.int .i64 c.backs) ∧ W.cell? ⟨w.heap.size, 6, none⟩ = some (.int .i64 c.nest) ∧ W.cell? ⟨w.heap.size, 7, none⟩ = some (.int .i64 c.tries))) (by kernel_rfl) (HST.out) (fun hHeld => ?_)
      refine rgn 0 (v := ?vr2_0) hHeld ?yr2_0 ?_
      case yr2_0 => (intro w hSw; obtain ⟨k0, kB, k1, k2, k3, k4, k5, k6, k7, k8, k9, k10, k11, k12⟩ := hSw; go_simp; try with_reducible rfl)
      simp only [Act.put, rn1, rn2, rn3, rn4, rn5, rn6]
      refine reg_step (i := 1) (by kernel_rfl) rfl (by kernel_rfl) (fun K hK => ?_)
      go_simp
      refine (HM.out _).mono ?_
      rintro e w2 ⟨rfl, hu⟩
      have HS := HSK.out _ _ hHeld hu
      clear hu
      go_wp2_with fail
      refine hK.out _ _ HS (fun hHeld2 => ?_)
      clear hK hHeld2 hHeld; have hHeld := HS; clear HS
      try simp only [Act.put, rn1, rn2, rn3, rn4, rn5, rn6]
      refine rgn 2 (v := .bool true) hHeld ?yr2_2 ?_
      case yr2_2 => (intro w hSw; obtain ⟨k0, kB, k1, k2, k3, k4, k5, k6, k7, k8, k9, k10, k11, k12⟩ := hSw; go_simp; try with_reducible rfl)
      simp only [Act.put, rn1, rn2, rn3, rn4, rn5, rn6]
      refine rgn 3 (v := ?vr2_3) hHeld ?yr2_3 ?_
      case yr2_3 => (intro w hSw; obtain ⟨k0, kB, k1, k2, k3, k4, k5, k6, k7, k8, k9, k10, k11, k12⟩ := hSw; go_simp; try with_reducible rfl)
      simp only [Act.put, rn1, rn2, rn3, rn4, rn5, rn6]
      refine rgn 4 (v := ?vr2_4) hHeld ?yr2_4 ?_
      case yr2_4 => (intro w hSw; obtain ⟨k0, kB, k1, k2, k3, k4, k5, k6, k7, k8, k9, k10, k11, k12⟩ := hSw; go_simp; try with_reducible rfl)
      simp only [Act.put, rn1, rn2, rn3, rn4, rn5, rn6]
      refine rgn 5 (v := ?vr2_5) hHeld ?yr2_5 ?_
      case yr2_5 => (intro w hSw; obtain ⟨k0, kB, k1, k2, k3, k4, k5, k6, k7, k8, k9, k10, k11, k12⟩ := hSw; go_simp; try with_reducible rfl)
      simp only [Act.put, rn1, rn2, rn3, rn4, rn5, rn6]
      refine rgn 6 (v := ?vr2_6) hHeld ?yr2_6 ?_
      case yr2_6 => (intro w hSw; obtain ⟨k0, kB, k1, k2, k3, k4, k5, k6, k7, k8, k9, k10, k11, k12⟩ := hSw; go_simp; try with_reducible rfl)
      simp only [Act.put, rn1, rn2, rn3, rn4, rn5, rn6]
      refine rgn 7 (v := .bool false) hHeld ?yr2_7 ?_
      case yr2_7 => (intro w hSw; obtain ⟨k0, kB, k1, k2, k3, k4, k5, k6, k7, k8, k9, k10, k11, k12⟩ := hSw; go_simp; try with_reducible rfl)
      simp only [Act.put, rn1, rn2, rn3, rn4, rn5, rn6]
      refine rgn 8 (v := .bool false) hHeld ?yr2_8 ?_
      case yr2_8 => (intro w hSw; obtain ⟨k0, kB, k1, k2, k3, k4, k5, k6, k7, k8, k9, k10, k11, k12⟩ := hSw; go_simp; try with_reducible rfl)
      simp only [Act.put, rn1, rn2, rn3, rn4, rn5, rn6]
      refine rgn 9 (v := .bool false) hHeld ?yr2_9 ?_
      case yr2_9 => (intro w hSw; obtain ⟨k0, kB, k1, k2, k3, k4, k5, k6, k7, k8, k9, k10, k11, k12⟩ := hSw; go_simp; try with_reducible rfl)
      simp only [Act.put, rn1, rn2, rn3, rn4, rn5, rn6]
      refine reg_off (i := 10) rfl (by kernel_rfl) (by kernel_rfl) (by kernel_rfl) (fun _ _ _ h => h) (by kernel_rfl) hHeld ?_
      simp only [Act.put, rn1, rn2, rn3, rn4, rn5, rn6]
      refine reg_off (i := 11) rfl (by kernel_rfl) (by kernel_rfl) (by kernel_rfl) (fun _ _ _ h => h) (by kernel_rfl) hHeld ?_
      simp only [Act.put, rn1, rn2, rn3, rn4, rn5, rn6]
      refine reg_off (i := 12) rfl (by kernel_rfl) (by kernel_rfl) (by kernel_rfl) (fun _ _ _ h => h) (by kernel_rfl) hHeld ?_
      simp only [Act.put, rn1, rn2, rn3, rn4, rn5, rn6]
      refine reg_off (i := 13) rfl (by kernel_rfl) (by kernel_rfl) (by kernel_rfl) (fun _ _ _ h => h) (by kernel_rfl) hHeld ?_
      simp only [Act.put, rn1, rn2, rn3, rn4, rn5, rn6]
      refine reg_off (i := 14) rfl (by kernel_rfl) (by kernel_rfl) (by kernel_rfl) (fun _ _ _ h => h) (by kernel_rfl) hHeld ?_
      simp only [Act.put, rn1, rn2, rn3, rn4, rn5, rn6]
      refine rgn 15 (v := .bool false) hHeld ?yr2_15 ?_
      case yr2_15 => (intro w hSw; obtain ⟨k0, kB, k1, k2, k3, k4, k5, k6, k7, k8, k9, k10, k11, k12⟩ := hSw; go_simp; try with_reducible rfl)
      simp only [Act.put, rn1, rn2, rn3, rn4, rn5, rn6]
      refine rgn 16 (v := .bool false) hHeld ?yr2_16 ?_
      case yr2_16 => (intro w hSw; obtain ⟨k0, kB, k1, k2, k3, k4, k5, k6, k7, k8, k9, k10, k11, k12⟩ := hSw; go_simp; try with_reducible rfl)
      simp only [Act.put, rn1, rn2, rn3, rn4, rn5, rn6]
      refine reg_off (i := 17) rfl (by kernel_rfl) (by kernel_rfl) (by kernel_rfl) (fun _ _ _ h => h) (by kernel_rfl) hHeld ?_
      simp only [Act.put, rn1, rn2, rn3, rn4, rn5, rn6]
      refine reg_off (i := 18) rfl (by kernel_rfl) (by kernel_rfl) (by kernel_rfl) (fun _ _ _ h => h) (by kernel_rfl) hHeld ?_
      simp only [Act.put, rn1, rn2, rn3, rn4, rn5, rn6]
      refine reg_off (i := 19) rfl (by kernel_rfl) (by kernel_rfl) (by kernel_rfl) (fun _ _ _ h => h) (by kernel_rfl) hHeld ?_
      simp only [Act.put, rn1, rn2, rn3, rn4, rn5, rn6]
      refine reg_off (i := 20) rfl (by kernel_rfl) (by kernel_rfl) (by kernel_rfl) (fun _ _ _ h => h) (by kernel_rfl) hHeld ?_
      simp only [Act.put, rn1, rn2, rn3, rn4, rn5, rn6]
      refine reg_off (i := 21) rfl (by kernel_rfl) (by kernel_rfl) (by kernel_rfl) (fun _ _ _ h => h) (by kernel_rfl) hHeld ?_
      simp only [Act.put, rn1, rn2, rn3, rn4, rn5, rn6]
      refine rgn 22 (v := .bool false) hHeld ?yr2_22 ?_
      case yr2_22 => (intro w hSw; obtain ⟨k0, kB, k1, k2, k3, k4, k5, k6, k7, k8, k9, k10, k11, k12⟩ := hSw; go_simp; try with_reducible rfl)
      simp only [Act.put, rn1, rn2, rn3, rn4, rn5, rn6]
      refine rgn 23 (v := .bool false) hHeld ?yr2_23 ?_
      case yr2_23 => (intro w hSw; obtain ⟨k0, kB, k1, k2, k3, k4, k5, k6, k7, k8, k9, k10, k11, k12⟩ := hSw; go_simp; try with_reducible rfl)
      simp only [Act.put, rn1, rn2, rn3, rn4, rn5, rn6]
      refine wpAnyH_done (by kernel_rfl) ?_ _
      go_wp2
      go_ret
      exact ⟨rfl, hHeld.1⟩
    · cases h2 : decide (n.too < c.cores)
      · have hf : fitsN c n = false := by unfold fitsN; rw [hm, show decide (max n.frm n.too < c.cores) = false from decide_eq_false (by have := of_decide_eq_false h2; omega)]; rfl
        rw [hf]
        clear hf hm
        go_enter Tryd.func64, Tryd.ntmps64
        go_wp2_with fail
        rw [HV.out]
        refine wp_region_held_drew (S := (fun W => Upd NoF w W ∧ Blk W (w.heap.size + 1) n.cells 47 ∧ (TNot.ld (.pointer (some ⟨w.heap.size + 1, 0, none⟩))).run Tryd.prog W = .ok (.agg n.cells) W ∧ W.cell? ⟨w.heap.size + 1, 1, none⟩ = some (.int .i64 n.frm) ∧ W.cell? ⟨w.heap.size + 1, 2, none⟩ = some (.int .i64 n.too) ∧ W.cell? ⟨w.heap.size + 1, 3, none⟩ = some (.int .i64 n.blk) ∧ W.cell? ⟨w.heap.size, 0, none⟩ = some (.int .i64 c.cores) ∧ W.cell? ⟨w.heap.size, 1, none⟩ = some (.int .i64 c.sets) ∧ W.cell? ⟨w.heap.size, 2, none⟩ = some (.int .i64 c.ways) ∧ W.cell? ⟨w.heap.size, 3, none⟩ = some (.int .i64 c.blocks) ∧ W.cell? ⟨w.heap.size, 4, none⟩ = some (.int .i64 c.logs) ∧ W.cell? ⟨w.heap.size, 5, none⟩ = some (.int .i64 c.backs) ∧ W.cell? ⟨w.heap.size, 6, none⟩ = some (.int .i64 c.nest) ∧ W.cell? ⟨w.heap.size, 7, none⟩ = some (.int .i64 c.tries))) (by kernel_rfl) (HST.out) (fun hHeld => ?_)
        refine rgn 0 (v := ?vr3_0) hHeld ?yr3_0 ?_
        case yr3_0 => (intro w hSw; obtain ⟨k0, kB, k1, k2, k3, k4, k5, k6, k7, k8, k9, k10, k11, k12⟩ := hSw; go_simp; try with_reducible rfl)
        simp only [Act.put, rn1, rn2, rn3, rn4, rn5, rn6]
        refine reg_step (i := 1) (by kernel_rfl) rfl (by kernel_rfl) (fun K hK => ?_)
        go_simp
        refine (HM.out _).mono ?_
        rintro e w2 ⟨rfl, hu⟩
        have HS := HSK.out _ _ hHeld hu
        clear hu
        go_wp2_with fail
        refine hK.out _ _ HS (fun hHeld2 => ?_)
        clear hK hHeld2 hHeld; have hHeld := HS; clear HS
        try simp only [Act.put, rn1, rn2, rn3, rn4, rn5, rn6]
        refine rgn 2 (v := .bool true) hHeld ?yr3_2 ?_
        case yr3_2 => (intro w hSw; obtain ⟨k0, kB, k1, k2, k3, k4, k5, k6, k7, k8, k9, k10, k11, k12⟩ := hSw; go_simp; try with_reducible rfl)
        simp only [Act.put, rn1, rn2, rn3, rn4, rn5, rn6]
        refine rgn 3 (v := ?vr3_3) hHeld ?yr3_3 ?_
        case yr3_3 => (intro w hSw; obtain ⟨k0, kB, k1, k2, k3, k4, k5, k6, k7, k8, k9, k10, k11, k12⟩ := hSw; go_simp; try with_reducible rfl)
        simp only [Act.put, rn1, rn2, rn3, rn4, rn5, rn6]
        refine rgn 4 (v := ?vr3_4) hHeld ?yr3_4 ?_
        case yr3_4 => (intro w hSw; obtain ⟨k0, kB, k1, k2, k3, k4, k5, k6, k7, k8, k9, k10, k11, k12⟩ := hSw; go_simp; try with_reducible rfl)
        simp only [Act.put, rn1, rn2, rn3, rn4, rn5, rn6]
        refine rgn 5 (v := ?vr3_5) hHeld ?yr3_5 ?_
        case yr3_5 => (intro w hSw; obtain ⟨k0, kB, k1, k2, k3, k4, k5, k6, k7, k8, k9, k10, k11, k12⟩ := hSw; go_simp; try with_reducible rfl)
        simp only [Act.put, rn1, rn2, rn3, rn4, rn5, rn6]
        refine rgn 6 (v := ?vr3_6) hHeld ?yr3_6 ?_
        case yr3_6 => (intro w hSw; obtain ⟨k0, kB, k1, k2, k3, k4, k5, k6, k7, k8, k9, k10, k11, k12⟩ := hSw; go_simp; try with_reducible rfl)
        simp only [Act.put, rn1, rn2, rn3, rn4, rn5, rn6]
        refine rgn 7 (v := .bool true) hHeld ?yr3_7 ?_
        case yr3_7 => (intro w hSw; obtain ⟨k0, kB, k1, k2, k3, k4, k5, k6, k7, k8, k9, k10, k11, k12⟩ := hSw; go_simp; try with_reducible rfl)
        simp only [Act.put, rn1, rn2, rn3, rn4, rn5, rn6]
        refine rgn 8 (v := .bool true) hHeld ?yr3_8 ?_
        case yr3_8 => (intro w hSw; obtain ⟨k0, kB, k1, k2, k3, k4, k5, k6, k7, k8, k9, k10, k11, k12⟩ := hSw; go_simp; try with_reducible rfl)
        simp only [Act.put, rn1, rn2, rn3, rn4, rn5, rn6]
        refine rgn 9 (v := .bool true) hHeld ?yr3_9 ?_
        case yr3_9 => (intro w hSw; obtain ⟨k0, kB, k1, k2, k3, k4, k5, k6, k7, k8, k9, k10, k11, k12⟩ := hSw; go_simp; try with_reducible rfl)
        simp only [Act.put, rn1, rn2, rn3, rn4, rn5, rn6]
        refine rgn 10 (v := ?vr3_10) hHeld ?yr3_10 ?_
        case yr3_10 => (intro w hSw; obtain ⟨k0, kB, k1, k2, k3, k4, k5, k6, k7, k8, k9, k10, k11, k12⟩ := hSw; go_simp; try with_reducible rfl)
        simp only [Act.put, rn1, rn2, rn3, rn4, rn5, rn6]
        refine rgn 11 (v := ?vr3_11) hHeld ?yr3_11 ?_
        case yr3_11 => (intro w hSw; obtain ⟨k0, kB, k1, k2, k3, k4, k5, k6, k7, k8, k9, k10, k11, k12⟩ := hSw; go_simp; try with_reducible rfl)
        simp only [Act.put, rn1, rn2, rn3, rn4, rn5, rn6]
        refine rgn 12 (v := ?vr3_12) hHeld ?yr3_12 ?_
        case yr3_12 => (intro w hSw; obtain ⟨k0, kB, k1, k2, k3, k4, k5, k6, k7, k8, k9, k10, k11, k12⟩ := hSw; go_simp; try with_reducible rfl)
        simp only [Act.put, rn1, rn2, rn3, rn4, rn5, rn6]
        refine rgn 13 (v := ?vr3_13) hHeld ?yr3_13 ?_
        case yr3_13 => (intro w hSw; obtain ⟨k0, kB, k1, k2, k3, k4, k5, k6, k7, k8, k9, k10, k11, k12⟩ := hSw; go_simp; try with_reducible rfl)
        simp only [Act.put, rn1, rn2, rn3, rn4, rn5, rn6]
        refine rgn 14 (v := .bool false) hHeld ?yr3_14 ?_
        case yr3_14 => (intro w hSw; obtain ⟨k0, kB, k1, k2, k3, k4, k5, k6, k7, k8, k9, k10, k11, k12⟩ := hSw; go_simp; try with_reducible rfl)
        simp only [Act.put, rn1, rn2, rn3, rn4, rn5, rn6]
        refine rgn 15 (v := .bool false) hHeld ?yr3_15 ?_
        case yr3_15 => (intro w hSw; obtain ⟨k0, kB, k1, k2, k3, k4, k5, k6, k7, k8, k9, k10, k11, k12⟩ := hSw; go_simp; try with_reducible rfl)
        simp only [Act.put, rn1, rn2, rn3, rn4, rn5, rn6]
        refine rgn 16 (v := .bool false) hHeld ?yr3_16 ?_
        case yr3_16 => (intro w hSw; obtain ⟨k0, kB, k1, k2, k3, k4, k5, k6, k7, k8, k9, k10, k11, k12⟩ := hSw; go_simp; try with_reducible rfl)
        simp only [Act.put, rn1, rn2, rn3, rn4, rn5, rn6]
        refine reg_off (i := 17) rfl (by kernel_rfl) (by kernel_rfl) (by kernel_rfl) (fun _ _ _ h => h) (by kernel_rfl) hHeld ?_
        simp only [Act.put, rn1, rn2, rn3, rn4, rn5, rn6]
        refine reg_off (i := 18) rfl (by kernel_rfl) (by kernel_rfl) (by kernel_rfl) (fun _ _ _ h => h) (by kernel_rfl) hHeld ?_
        simp only [Act.put, rn1, rn2, rn3, rn4, rn5, rn6]
        refine reg_off (i := 19) rfl (by kernel_rfl) (by kernel_rfl) (by kernel_rfl) (fun _ _ _ h => h) (by kernel_rfl) hHeld ?_
        simp only [Act.put, rn1, rn2, rn3, rn4, rn5, rn6]
        refine reg_off (i := 20) rfl (by kernel_rfl) (by kernel_rfl) (by kernel_rfl) (fun _ _ _ h => h) (by kernel_rfl) hHeld ?_
        simp only [Act.put, rn1, rn2, rn3, rn4, rn5, rn6]
        refine reg_off (i := 21) rfl (by kernel_rfl) (by kernel_rfl) (by kernel_rfl) (fun _ _ _ h => h) (by kernel_rfl) hHeld ?_
        simp only [Act.put, rn1, rn2, rn3, rn4, rn5, rn6]
        refine rgn 22 (v := .bool false) hHeld ?yr3_22 ?_
        case yr3_22 => (intro w hSw; obtain ⟨k0, kB, k1, k2, k3, k4, k5, k6, k7, k8, k9, k10, k11, k12⟩ := hSw; go_simp; try with_reducible rfl)
        simp only [Act.put, rn1, rn2, rn3, rn4, rn5, rn6]
        refine rgn 23 (v := .bool false) hHeld ?yr3_23 ?_
        case yr3_23 => (intro w hSw; obtain ⟨k0, kB, k1, k2, k3, k4, k5, k6, k7, k8, k9, k10, k11, k12⟩ := hSw; go_simp; try with_reducible rfl)
        simp only [Act.put, rn1, rn2, rn3, rn4, rn5, rn6]
        refine wpAnyH_done (by kernel_rfl) ?_ _
        go_wp2
        go_ret
        exact ⟨rfl, hHeld.1⟩
      · have hf : fitsN c n = decide (n.blk < data) := by unfold fitsN; rw [hm, show decide (max n.frm n.too < c.cores) = true from decide_eq_true (by have := of_decide_eq_true h1; have := of_decide_eq_true h2; omega), hdata]; rfl
        rw [hf]
        clear hf hm
        go_enter Tryd.func64, Tryd.ntmps64
        go_wp2_with fail
        rw [HV.out]
        refine wp_region_held_drew (S := (fun W => Upd NoF w W ∧ Blk W (w.heap.size + 1) n.cells 47 ∧ (TNot.ld (.pointer (some ⟨w.heap.size + 1, 0, none⟩))).run Tryd.prog W = .ok (.agg n.cells) W ∧ W.cell? ⟨w.heap.size + 1, 1, none⟩ = some (.int .i64 n.frm) ∧ W.cell? ⟨w.heap.size + 1, 2, none⟩ = some (.int .i64 n.too) ∧ W.cell? ⟨w.heap.size + 1, 3, none⟩ = some (.int .i64 n.blk) ∧ W.cell? ⟨w.heap.size, 0, none⟩ = some (.int .i64 c.cores) ∧ W.cell? ⟨w.heap.size, 1, none⟩ = some (.int .i64 c.sets) ∧ W.cell? ⟨w.heap.size, 2, none⟩ = some (.int .i64 c.ways) ∧ W.cell? ⟨w.heap.size, 3, none⟩ = some (.int .i64 c.blocks) ∧ W.cell? ⟨w.heap.size, 4, none⟩ = some (.int .i64 c.logs) ∧ W.cell? ⟨w.heap.size, 5, none⟩ = some (.int .i64 c.backs) ∧ W.cell? ⟨w.heap.size, 6, none⟩ = some (.int .i64 c.nest) ∧ W.cell? ⟨w.heap.size, 7, none⟩ = some (.int .i64 c.tries))) (by kernel_rfl) (HST.out) (fun hHeld => ?_)
        refine rgn 0 (v := ?vr4_0) hHeld ?yr4_0 ?_
        case yr4_0 => (intro w hSw; obtain ⟨k0, kB, k1, k2, k3, k4, k5, k6, k7, k8, k9, k10, k11, k12⟩ := hSw; go_simp; try with_reducible rfl)
        simp only [Act.put, rn1, rn2, rn3, rn4, rn5, rn6]
        refine reg_step (i := 1) (by kernel_rfl) rfl (by kernel_rfl) (fun K hK => ?_)
        go_simp
        refine (HM.out _).mono ?_
        rintro e w2 ⟨rfl, hu⟩
        have HS := HSK.out _ _ hHeld hu
        clear hu
        go_wp2_with fail
        refine hK.out _ _ HS (fun hHeld2 => ?_)
        clear hK hHeld2 hHeld; have hHeld := HS; clear HS
        try simp only [Act.put, rn1, rn2, rn3, rn4, rn5, rn6]
        refine rgn 2 (v := .bool true) hHeld ?yr4_2 ?_
        case yr4_2 => (intro w hSw; obtain ⟨k0, kB, k1, k2, k3, k4, k5, k6, k7, k8, k9, k10, k11, k12⟩ := hSw; go_simp; try with_reducible rfl)
        simp only [Act.put, rn1, rn2, rn3, rn4, rn5, rn6]
        refine rgn 3 (v := ?vr4_3) hHeld ?yr4_3 ?_
        case yr4_3 => (intro w hSw; obtain ⟨k0, kB, k1, k2, k3, k4, k5, k6, k7, k8, k9, k10, k11, k12⟩ := hSw; go_simp; try with_reducible rfl)
        simp only [Act.put, rn1, rn2, rn3, rn4, rn5, rn6]
        refine rgn 4 (v := ?vr4_4) hHeld ?yr4_4 ?_
        case yr4_4 => (intro w hSw; obtain ⟨k0, kB, k1, k2, k3, k4, k5, k6, k7, k8, k9, k10, k11, k12⟩ := hSw; go_simp; try with_reducible rfl)
        simp only [Act.put, rn1, rn2, rn3, rn4, rn5, rn6]
        refine rgn 5 (v := ?vr4_5) hHeld ?yr4_5 ?_
        case yr4_5 => (intro w hSw; obtain ⟨k0, kB, k1, k2, k3, k4, k5, k6, k7, k8, k9, k10, k11, k12⟩ := hSw; go_simp; try with_reducible rfl)
        simp only [Act.put, rn1, rn2, rn3, rn4, rn5, rn6]
        refine rgn 6 (v := ?vr4_6) hHeld ?yr4_6 ?_
        case yr4_6 => (intro w hSw; obtain ⟨k0, kB, k1, k2, k3, k4, k5, k6, k7, k8, k9, k10, k11, k12⟩ := hSw; go_simp; try with_reducible rfl)
        simp only [Act.put, rn1, rn2, rn3, rn4, rn5, rn6]
        refine rgn 7 (v := .bool true) hHeld ?yr4_7 ?_
        case yr4_7 => (intro w hSw; obtain ⟨k0, kB, k1, k2, k3, k4, k5, k6, k7, k8, k9, k10, k11, k12⟩ := hSw; go_simp; try with_reducible rfl)
        simp only [Act.put, rn1, rn2, rn3, rn4, rn5, rn6]
        refine rgn 8 (v := .bool true) hHeld ?yr4_8 ?_
        case yr4_8 => (intro w hSw; obtain ⟨k0, kB, k1, k2, k3, k4, k5, k6, k7, k8, k9, k10, k11, k12⟩ := hSw; go_simp; try with_reducible rfl)
        simp only [Act.put, rn1, rn2, rn3, rn4, rn5, rn6]
        refine rgn 9 (v := .bool true) hHeld ?yr4_9 ?_
        case yr4_9 => (intro w hSw; obtain ⟨k0, kB, k1, k2, k3, k4, k5, k6, k7, k8, k9, k10, k11, k12⟩ := hSw; go_simp; try with_reducible rfl)
        simp only [Act.put, rn1, rn2, rn3, rn4, rn5, rn6]
        refine rgn 10 (v := ?vr4_10) hHeld ?yr4_10 ?_
        case yr4_10 => (intro w hSw; obtain ⟨k0, kB, k1, k2, k3, k4, k5, k6, k7, k8, k9, k10, k11, k12⟩ := hSw; go_simp; try with_reducible rfl)
        simp only [Act.put, rn1, rn2, rn3, rn4, rn5, rn6]
        refine rgn 11 (v := ?vr4_11) hHeld ?yr4_11 ?_
        case yr4_11 => (intro w hSw; obtain ⟨k0, kB, k1, k2, k3, k4, k5, k6, k7, k8, k9, k10, k11, k12⟩ := hSw; go_simp; try with_reducible rfl)
        simp only [Act.put, rn1, rn2, rn3, rn4, rn5, rn6]
        refine rgn 12 (v := ?vr4_12) hHeld ?yr4_12 ?_
        case yr4_12 => (intro w hSw; obtain ⟨k0, kB, k1, k2, k3, k4, k5, k6, k7, k8, k9, k10, k11, k12⟩ := hSw; go_simp; try with_reducible rfl)
        simp only [Act.put, rn1, rn2, rn3, rn4, rn5, rn6]
        refine rgn 13 (v := ?vr4_13) hHeld ?yr4_13 ?_
        case yr4_13 => (intro w hSw; obtain ⟨k0, kB, k1, k2, k3, k4, k5, k6, k7, k8, k9, k10, k11, k12⟩ := hSw; go_simp; try with_reducible rfl)
        simp only [Act.put, rn1, rn2, rn3, rn4, rn5, rn6]
        refine rgn 14 (v := .bool true) hHeld ?yr4_14 ?_
        case yr4_14 => (intro w hSw; obtain ⟨k0, kB, k1, k2, k3, k4, k5, k6, k7, k8, k9, k10, k11, k12⟩ := hSw; go_simp; try with_reducible rfl)
        simp only [Act.put, rn1, rn2, rn3, rn4, rn5, rn6]
        refine rgn 15 (v := .bool true) hHeld ?yr4_15 ?_
        case yr4_15 => (intro w hSw; obtain ⟨k0, kB, k1, k2, k3, k4, k5, k6, k7, k8, k9, k10, k11, k12⟩ := hSw; go_simp; try with_reducible rfl)
        simp only [Act.put, rn1, rn2, rn3, rn4, rn5, rn6]
        refine rgn 16 (v := .bool true) hHeld ?yr4_16 ?_
        case yr4_16 => (intro w hSw; obtain ⟨k0, kB, k1, k2, k3, k4, k5, k6, k7, k8, k9, k10, k11, k12⟩ := hSw; go_simp; try with_reducible rfl)
        simp only [Act.put, rn1, rn2, rn3, rn4, rn5, rn6]
        refine rgn 17 (v := ?vr4_17) hHeld ?yr4_17 ?_
        case yr4_17 => (intro w hSw; obtain ⟨k0, kB, k1, k2, k3, k4, k5, k6, k7, k8, k9, k10, k11, k12⟩ := hSw; go_simp; try with_reducible rfl)
        simp only [Act.put, rn1, rn2, rn3, rn4, rn5, rn6]
        refine rgn 18 (v := ?vr4_18) hHeld ?yr4_18 ?_
        case yr4_18 => (intro w hSw; obtain ⟨k0, kB, k1, k2, k3, k4, k5, k6, k7, k8, k9, k10, k11, k12⟩ := hSw; go_simp; try with_reducible rfl)
        simp only [Act.put, rn1, rn2, rn3, rn4, rn5, rn6]
        refine rgn 19 (v := ?vr4_19) hHeld ?yr4_19 ?_
        case yr4_19 => (intro w hSw; obtain ⟨k0, kB, k1, k2, k3, k4, k5, k6, k7, k8, k9, k10, k11, k12⟩ := hSw; go_simp; try with_reducible rfl)
        simp only [Act.put, rn1, rn2, rn3, rn4, rn5, rn6]
        refine reg_step (i := 20) (by kernel_rfl) rfl (by kernel_rfl) (fun K hK => ?_)
        go_simp
        refine (HD.out _).mono ?_
        rintro e w2 ⟨rfl, hu⟩
        have HS := HSK.out _ _ hHeld hu
        clear hu
        go_wp2_with fail
        refine hK.out _ _ HS (fun hHeld2 => ?_)
        clear hK hHeld2 hHeld; have hHeld := HS; clear HS
        try simp only [Act.put, rn1, rn2, rn3, rn4, rn5, rn6]
        refine rgn 21 (v := .bool (decide (n.blk < data))) hHeld ?yr4_21 ?_
        case yr4_21 => (intro w hSw; obtain ⟨k0, kB, k1, k2, k3, k4, k5, k6, k7, k8, k9, k10, k11, k12⟩ := hSw; go_simp; try with_reducible rfl)
        simp only [Act.put, rn1, rn2, rn3, rn4, rn5, rn6]
        refine rgn 22 (v := .bool (decide (n.blk < data))) hHeld ?yr4_22 ?_
        case yr4_22 => (intro w hSw; obtain ⟨k0, kB, k1, k2, k3, k4, k5, k6, k7, k8, k9, k10, k11, k12⟩ := hSw; go_simp; try with_reducible rfl)
        simp only [Act.put, rn1, rn2, rn3, rn4, rn5, rn6]
        refine rgn 23 (v := .bool (decide (n.blk < data))) hHeld ?yr4_23 ?_
        case yr4_23 => (intro w hSw; obtain ⟨k0, kB, k1, k2, k3, k4, k5, k6, k7, k8, k9, k10, k11, k12⟩ := hSw; go_simp; try with_reducible rfl)
        simp only [Act.put, rn1, rn2, rn3, rn4, rn5, rn6]
        refine wpAnyH_done (by kernel_rfl) ?_ _
        go_wp2
        go_ret
        exact ⟨rfl, hHeld.1⟩
end Go.Proofs.YtlhbnndnkcpomaaDoor.NE

set_option linter.unusedSimpArgs false
set_option linter.unusedVariables false
namespace Go.Proofs.YtlhbnndnkcpomaaDoor.HO
open Go.RowKit
open BU (IsU words)
open PL (Cfg CC CV May)
open ME (memO sl)
open NE (fitsN)
attribute [local go_sem] Oper.semAt_some
attribute [local go_sem ↓] TNot.ld_eq TNot.st_eq TNot.al_eq TNot.bx_eq TRjb.ld_eq TRjb.st_eq TRjb.al_eq TRjb.bx_eq
attribute [local go_sem] TNot.al_run TNot.bx_run TRjb.al_run TRjb.bx_run
section
variable {G : Nat → Prop} {w0 W W' : World} {hb rm : Nat} {S : Hs} {L : List Obj} {F : Nat → Prop}
theorem fits_no {S : Hs} {n : Nt} (h : Good S) (hf : fitsN S.c n = false ∨ n.too ≠ -1) : readyP S n = 2 := by
  unfold readyP
  rw [if_pos]
  rcases hf with hf | hf
  · unfold fitsN at hf
    cases hm : MayN n
    · exact .inl rfl
    · rw [hm, Bool.true_and] at hf
      by_cases h2 : n.too = -1
      · right; right
        have hc := h.may.1.1
        rw [h2] at hf
        simp only [Bool.and_eq_false_iff, decide_eq_false_iff_not] at hf
        unfold Hs.data
        omega
      · exact .inr (.inl h2)
  · exact .inr (.inl hf)
theorem fits_yes {S : Hs} {n : Nt} (hf : fitsN S.c n = true) (ht : n.too = -1) : ¬ (MayN n = false ∨ n.too ≠ -1 ∨ S.c.cores ≤ n.frm ∨ S.data ≤ n.blk) := by
  unfold fitsN at hf
  simp only [Bool.and_eq_true, decide_eq_true_eq] at hf
  unfold Hs.data
  rintro (e | e | e | e)
  · rw [hf.1] at e; cases e
  · exact e ht
  · omega
  · omega
theorem rjc_cells {S : Hs} (h : Good S) (b : Int) : (rjc (S.J b))[0]? = some (.bool (S.J b).isSome) ∧ (rjc (S.J b))[2]? = some (.int .i64 (jobAt S.J b).ask.frm) ∧ (rjc (S.J b))[25]? = some (VM (jobAt S.J b).wait) ∧ (rjc (S.J b))[26]? = some (.bool (jobAt S.J b).ans) := by
  unfold jobAt rjc
  cases hj : S.J b with
  | none => exact ⟨by kernel_rfl, by kernel_rfl, by kernel_rfl, by kernel_rfl⟩
  | some j =>
    have hs := (Nt.Ok.isN (h.key b j hj).2.2.2.ask.isU).1
    exact ⟨Jb.r0, (Jb.r_ask (i := 1) hs (by omega)).trans j.ask.get1, (Jb.r_tail hs 0).trans rfl, (Jb.r_tail hs 1).trans rfl⟩
def rdv (ask is : Bool) (room len : Int) (k : Int) (j : Jb) (x : Int) : Int :=
  if ask then (if is && decide (room ≤ len) then 110 else 0) else if k = 11 then (if !is || !j.ans || j.ask.frm != x then 8 else 0) else (if !is || j.ans || !inM j.wait x then 8 else 0)
set_option maxRecDepth 100000 in
set_option maxHeartbeats 1000000 in
theorem rready_is (h : (rhO hb rm S).is W F) (n : Nt) (hn : n.Ok) : Calls Tryd.prog 35 #[ptr hb, .agg n.cells] W fun e w' => e = .returned (.int .i64 (readyP S n)) ∧ Upd NoF W w' := by
  obtain ⟨p, hf, hA⟩ := RAt.open h
  have hg := hf.good
  have hdat := hg.data
  have hu := Upd.alloc NoF W (.cells n.cells NT)
  have hA1 := hA.upd hu
  have q0 := Blk.new W n.cells NT
  obtain ⟨V, hV⟩ : ∃ V, W.alloc (.cells n.cells NT) = V := ⟨_, rfl⟩
  obtain ⟨nb, hnb⟩ : ∃ x, W.heap.size = x := ⟨_, rfl⟩
  rw [hV] at hu hA1 q0
  rw [hnb] at q0
  have HF := Lib.hid (fun X (hX : Upd NoF V X) => (show X.cell? ⟨hb, 0, none⟩ = some (.int .i64 S.c.cores) ∧ X.cell? ⟨hb, 1, none⟩ = some (.int .i64 S.c.sets) ∧ X.cell? ⟨hb, 2, none⟩ = some (.int .i64 S.c.ways) ∧ X.cell? ⟨hb, 3, none⟩ = some (.int .i64 S.c.blocks) ∧ X.cell? ⟨hb, 4, none⟩ = some (.int .i64 S.c.logs) ∧ X.cell? ⟨hb, 5, none⟩ = some (.int .i64 S.c.backs) ∧ X.cell? ⟨hb, 6, none⟩ = some (.int .i64 S.c.nest) ∧ X.cell? ⟨hb, 7, none⟩ = some (.int .i64 S.c.tries) ∧ X.cell? ⟨hb, 10, none⟩ = some (sl p.jb S.n p.jc) ∧ X.cell? ⟨hb, 11, none⟩ = some (.slice p.wa S.Q.length p.wc) ∧ (TNot.ld (.pointer (some ⟨nb, 0, none⟩))).run Tryd.prog X = .ok (.agg n.cells) X ∧ X.cell? ⟨nb, 0, none⟩ = some (.int .u8 n.kind) ∧ X.cell? ⟨nb, 1, none⟩ = some (.int .i64 n.frm) ∧ X.cell? ⟨nb, 2, none⟩ = some (.int .i64 n.too) ∧ X.cell? ⟨nb, 3, none⟩ = some (.int .i64 n.blk) from
    ⟨(hA1.upd hX).box.cell 0, (hA1.upd hX).box.cell 1, (hA1.upd hX).box.cell 2, (hA1.upd hX).box.cell 3, (hA1.upd hX).box.cell 4, (hA1.upd hX).box.cell 5, (hA1.upd hX).box.cell 6, (hA1.upd hX).box.cell 7, (hA1.upd hX).box.cell 10, (hA1.upd hX).box.cell 11, TNot.ld_at (Nt.Ok.isN hn.isU) (q0.upd hX (fun h => h)).whole, ((q0.upd hX (fun h => h)).cell 0).trans n.get0, ((q0.upd hX (fun h => h)).cell 1).trans n.get1, ((q0.upd hX (fun h => h)).cell 2).trans n.get2, ((q0.upd hX (fun h => h)).cell 3).trans n.get3⟩))
  have HA1 := Lib.hid hA1
  have HFT := Lib.hid (fun w => NE.rfits_any S.c n hn hg.may w)
  have HU := Lib.hid hu; have HV := Lib.hid (And.intro hV hnb); have HD := Lib.hid (Upd.drew NoF V); have HG := Lib.hid hg; have HFI := Lib.hid hf
  clear h hA hA1 hu q0 hV hnb hg hf
  by_cases hft : fitsN S.c n = true
  · by_cases ht : n.too = -1
    · rw [readyP_eq S n (fits_yes hft ht)]
      have hfy := fits_yes hft ht
      have hmay : MayN n = true := by cases hm : MayN n; exact (hfy (.inl hm)).elim; rfl
      have hbl := may_blk hmay
      have hbd : n.blk < S.data := by have : ¬ S.data ≤ n.blk := fun e => hfy (.inr (.inr (.inr e))); omega
      obtain ⟨b, hbk⟩ : ∃ b : Nat, n.blk = b := ⟨n.blk.toNat, by omega⟩
      have hbn : b < S.n := by omega
      have hjc := HFI.out.jc
      have hbc : b < p.jc := by omega
      have hjm := hjc.2.1
      unfold maxLen at hjm
      rw [hft] at HFT
      have htb : (n.too != -1) = false := by simp [ht]
      have HFACT := Lib.hid (And.intro hmay hbd)
      obtain ⟨is, his⟩ : ∃ x, (S.J (b : Int)).isSome = x := ⟨_, rfl⟩
      obtain ⟨jb, hjb⟩ : ∃ x, jobAt S.J (b : Int) = x := ⟨_, rfl⟩
      obtain ⟨rv, hrv⟩ : ∃ x, rdv (isAsk n) is S.room S.Q.length n.kind jb n.frm = x := ⟨_, rfl⟩
      have hgoal : (if isAsk n then (if (S.J n.blk).isSome && decide (S.room ≤ S.Q.length) then 110 else 0) else if n.kind = 11 then (if !(S.J n.blk).isSome || !(jobAt S.J n.blk).ans || (jobAt S.J n.blk).ask.frm != n.frm then 8 else 0) else (if !(S.J n.blk).isSome || (jobAt S.J n.blk).ans || !inM (jobAt S.J n.blk).wait n.frm then 8 else 0)) = rv := by
        rw [hbk, his, hjb]; exact hrv
      rw [hgoal]
      have HIS := Lib.hid (And.intro his hjb)
      have HRV := Lib.hid hrv
      clear hft ht hfy hmay hbd hjc hbl his hjb hrv hgoal
      go_enter Tryd.func35, Tryd.ntmps35
      go_upto_region 1 with fail
      rw [HV.out.1, HV.out.2]
      refine wp_region_held_drew (S := (fun X => Upd NoF V X)) (by kernel_rfl) (HD.out) (fun hHeld => ?_)
      refine rgn 0 (v := ?vq1) hHeld ?yq1 ?_
      case yq1 => (intro w hSw; obtain ⟨k0, k1, k2, k3, k4, k5, k6, k7, k10, k11, kl, n0, n1, n2, n3⟩ := HF.out _ hSw; go_simp; try with_reducible rfl)
      simp only [Act.put, rn1, rn2, rn3, rn4, rn5, rn6]
      refine rgn 1 (v := ?vq2) hHeld ?yq2 ?_
      case yq2 => (intro w hSw; obtain ⟨k0, k1, k2, k3, k4, k5, k6, k7, k10, k11, kl, n0, n1, n2, n3⟩ := HF.out _ hSw; go_simp; try with_reducible rfl)
      simp only [Act.put, rn1, rn2, rn3, rn4, rn5, rn6]
      refine rgn 2 (v := ?vq3) hHeld ?yq3 ?_
      case yq3 => (intro w hSw; obtain ⟨k0, k1, k2, k3, k4, k5, k6, k7, k10, k11, kl, n0, n1, n2, n3⟩ := HF.out _ hSw; go_simp; try with_reducible rfl)
      simp only [Act.put, rn1, rn2, rn3, rn4, rn5, rn6]
      refine rgn 3 (v := ?vq4) hHeld ?yq4 ?_
      case yq4 => (intro w hSw; obtain ⟨k0, k1, k2, k3, k4, k5, k6, k7, k10, k11, kl, n0, n1, n2, n3⟩ := HF.out _ hSw; go_simp; try with_reducible rfl)
      simp only [Act.put, rn1, rn2, rn3, rn4, rn5, rn6]
      refine rgn 4 (v := ?vq5) hHeld ?yq5 ?_
      case yq5 => (intro w hSw; obtain ⟨k0, k1, k2, k3, k4, k5, k6, k7, k10, k11, kl, n0, n1, n2, n3⟩ := HF.out _ hSw; go_simp; try with_reducible rfl)
      simp only [Act.put, rn1, rn2, rn3, rn4, rn5, rn6]
      refine reg_step (i := 5) (by kernel_rfl) rfl (by kernel_rfl) (fun K hK => ?_)
      go_simp
      refine (HFT.out _).mono ?_
      rintro e w2 ⟨rfl, hu2⟩
      have HS : (fun X => Upd NoF V X) w2 := hHeld.trans hu2 (fun _ _ h => h)
      clear hu2
      go_wp2_with fail
      refine hK.out _ _ HS (fun hHeld2 => ?_)
      clear hK hHeld2 hHeld; have hHeld := HS; clear HS
      try simp only [Act.put, rn1, rn2, rn3, rn4, rn5, rn6]
      refine rgn 6 (v := .bool false) hHeld ?yq6 ?_
      case yq6 => (intro w hSw; obtain ⟨k0, k1, k2, k3, k4, k5, k6, k7, k10, k11, kl, n0, n1, n2, n3⟩ := HF.out _ hSw; go_simp; try with_reducible rfl)
      simp only [Act.put, rn1, rn2, rn3, rn4, rn5, rn6]
      refine rgn 7 (v := .bool false) hHeld ?yq7 ?_
      case yq7 => (intro w hSw; obtain ⟨k0, k1, k2, k3, k4, k5, k6, k7, k10, k11, kl, n0, n1, n2, n3⟩ := HF.out _ hSw; go_simp; try with_reducible rfl)
      simp only [Act.put, rn1, rn2, rn3, rn4, rn5, rn6]
      refine rgn 8 (v := ?vq8) hHeld ?yq8 ?_
      case yq8 => (intro w hSw; obtain ⟨k0, k1, k2, k3, k4, k5, k6, k7, k10, k11, kl, n0, n1, n2, n3⟩ := HF.out _ hSw; go_simp; try with_reducible rfl)
      simp only [Act.put, rn1, rn2, rn3, rn4, rn5, rn6]
      refine rgn 9 (v := ?vq9) hHeld ?yq9 ?_
      case yq9 => (intro w hSw; obtain ⟨k0, k1, k2, k3, k4, k5, k6, k7, k10, k11, kl, n0, n1, n2, n3⟩ := HF.out _ hSw; go_simp; try with_reducible rfl)
      simp only [Act.put, rn1, rn2, rn3, rn4, rn5, rn6]
      refine rgn 10 (v := .bool false) hHeld ?yq10 ?_
      case yq10 => (intro w hSw; obtain ⟨k0, k1, k2, k3, k4, k5, k6, k7, k10, k11, kl, n0, n1, n2, n3⟩ := HF.out _ hSw; go_simp; try with_reducible rfl)
      simp only [Act.put, rn1, rn2, rn3, rn4, rn5, rn6]
      refine rgn 11 (v := .bool false) hHeld ?yq11 ?_
      case yq11 => (intro w hSw; obtain ⟨k0, k1, k2, k3, k4, k5, k6, k7, k10, k11, kl, n0, n1, n2, n3⟩ := HF.out _ hSw; go_simp; try with_reducible rfl)
      simp only [Act.put, rn1, rn2, rn3, rn4, rn5, rn6]
      refine wpAnyH_done (by kernel_rfl) ?_ _
      have HH := Lib.hid hHeld
      clear hHeld
      go_upto_region 3 with fail
      have HD3 := Lib.hid (HH.out.trans (Upd.drew NoF _) (fun _ _ h => h))
      refine wp_region_held_drew (S := (fun X => Upd NoF V X)) (by kernel_rfl) (HD3.out) (fun hHeld => ?_)
      obtain ⟨X0, hX0⟩ : ∃ X, w2.drew = X := ⟨_, rfl⟩
      rw [hX0] at hHeld ⊢
      clear hX0
      refine rgn 0 (v := ?vq12) hHeld ?yq12 ?_
      case yq12 => (intro w hSw; obtain ⟨k0, k1, k2, k3, k4, k5, k6, k7, k10, k11, kl, n0, n1, n2, n3⟩ := HF.out _ hSw; have lj := (HA1.out.upd hSw).ldJ HG.out hbn; go_simp; try with_reducible rfl)
      simp only [Act.put, rn1, rn2, rn3, rn4, rn5, rn6]
      refine rgn 1 (v := ?vq13) hHeld ?yq13 ?_
      case yq13 => (intro w hSw; obtain ⟨k0, k1, k2, k3, k4, k5, k6, k7, k10, k11, kl, n0, n1, n2, n3⟩ := HF.out _ hSw; have lj := (HA1.out.upd hSw).ldJ HG.out hbn; go_simp; try with_reducible rfl)
      simp only [Act.put, rn1, rn2, rn3, rn4, rn5, rn6]
      refine rgn 2 (v := ?vq14) hHeld ?yq14 ?_
      case yq14 => (intro w hSw; obtain ⟨k0, k1, k2, k3, k4, k5, k6, k7, k10, k11, kl, n0, n1, n2, n3⟩ := HF.out _ hSw; have lj := (HA1.out.upd hSw).ldJ HG.out hbn; go_simp; try with_reducible rfl)
      simp only [Act.put, rn1, rn2, rn3, rn4, rn5, rn6]
      refine rgn 3 (v := ?vq15) hHeld ?yq15 ?_
      case yq15 => (intro w hSw; obtain ⟨k0, k1, k2, k3, k4, k5, k6, k7, k10, k11, kl, n0, n1, n2, n3⟩ := HF.out _ hSw; have lj := (HA1.out.upd hSw).ldJ HG.out hbn; go_simp; try with_reducible rfl)
      simp only [Act.put, rn1, rn2, rn3, rn4, rn5, rn6]
      refine rgn 4 (v := ?vq16) hHeld ?yq16 ?_
      case yq16 => (intro w hSw; obtain ⟨k0, k1, k2, k3, k4, k5, k6, k7, k10, k11, kl, n0, n1, n2, n3⟩ := HF.out _ hSw; have lj := (HA1.out.upd hSw).ldJ HG.out hbn; go_simp; try with_reducible rfl)
      simp only [Act.put, rn1, rn2, rn3, rn4, rn5, rn6]
      refine rgn 5 (v := ?vq17) hHeld ?yq17 ?_
      case yq17 => (intro w hSw; obtain ⟨k0, k1, k2, k3, k4, k5, k6, k7, k10, k11, kl, n0, n1, n2, n3⟩ := HF.out _ hSw; have lj := (HA1.out.upd hSw).ldJ HG.out hbn; go_simp; try with_reducible rfl)
      simp only [Act.put, rn1, rn2, rn3, rn4, rn5, rn6]
      refine rgn 6 (v := ?vq18) hHeld ?yq18 ?_
      case yq18 => (intro w hSw; obtain ⟨k0, k1, k2, k3, k4, k5, k6, k7, k10, k11, kl, n0, n1, n2, n3⟩ := HF.out _ hSw; have lj := (HA1.out.upd hSw).ldJ HG.out hbn; go_simp; try with_reducible rfl)
      simp only [Act.put, rn1, rn2, rn3, rn4, rn5, rn6]
      refine rgn 7 (v := ?vq19) hHeld ?yq19 ?_
      case yq19 => (intro w hSw; obtain ⟨k0, k1, k2, k3, k4, k5, k6, k7, k10, k11, kl, n0, n1, n2, n3⟩ := HF.out _ hSw; have lj := (HA1.out.upd hSw).ldJ HG.out hbn; go_simp; try with_reducible rfl)
      simp only [Act.put, rn1, rn2, rn3, rn4, rn5, rn6]
      refine reg_step (i := 8) (by kernel_rfl) rfl (by kernel_rfl) (fun K hK => ?_)
      go_simp
      have HS : (fun X => Upd NoF V X) (X0.alloc (.cells TRjb.Z RJT)) := hHeld.trans (Upd.alloc NoF _ _) (fun _ _ h => h)
      have HX0 := Lib.hid (show Upd NoF V X0 from hHeld)
      refine hK.out _ _ HS (fun hHeld2 => ?_)
      clear hK hHeld2 hHeld; have hHeld := HS; clear HS
      try simp only [Act.put, rn1, rn2, rn3, rn4, rn5, rn6]
      refine reg_step (i := 9) (by kernel_rfl) rfl (by kernel_rfl) (fun K hK => ?_)
      have s1 := TRjb.st_new (rjc_isN HG.out (b : Int)) X0
      go_simp
      obtain ⟨V5, hV5⟩ : ∃ X, X0.alloc (.cells (rjc (S.J (b : Int))) RJT) = X := ⟨_, rfl⟩
      obtain ⟨jx, hjx⟩ : ∃ x, X0.heap.size = x := ⟨_, rfl⟩
      have hq5 := Blk.new X0 (rjc (S.J (b : Int))) RJT
      rw [hV5, hjx] at hq5
      have HS : (fun X => Upd NoF V X) V5 := by rw [← hV5]; exact HX0.out.trans (Upd.alloc NoF _ _) (fun _ _ h => h)
      have HQ5 := Lib.hid hq5
      simp only [hV5]
      clear s1 hV5 hq5
      refine hK.out _ _ HS (fun hHeld2 => ?_)
      clear hK hHeld2 hHeld; have hHeld := HS; clear HS
      try simp only [Act.put, rn1, rn2, rn3, rn4, rn5, rn6]
      refine wpAnyH_done (by kernel_rfl) ?_ _
      have H5 := Lib.hid hHeld
      clear hHeld
      try rw [hjx]
      clear hjx
      obtain ⟨r0, r2, r25, r26⟩ := rjc_cells HG.out n.blk
      rw [hbk] at r0 r2 r25 r26
      have HF5 := Lib.hid (fun X (hX : Upd NoF V5 X) => (show X.cell? ⟨jx, 0, none⟩ = some (.bool (S.J (b : Int)).isSome) ∧ X.cell? ⟨jx, 2, none⟩ = some (.int .i64 (jobAt S.J (b : Int)).ask.frm) ∧ X.cell? ⟨jx, 25, none⟩ = some (VM (jobAt S.J (b : Int)).wait) ∧ X.cell? ⟨jx, 26, none⟩ = some (.bool (jobAt S.J (b : Int)).ans) from
        ⟨((HQ5.out.upd hX (fun h => h)).cell 0).trans r0, ((HQ5.out.upd hX (fun h => h)).cell 2).trans r2, ((HQ5.out.upd hX (fun h => h)).cell 25).trans r25, ((HQ5.out.upd hX (fun h => h)).cell 26).trans r26⟩))
      rw [HIS.out.1, HIS.out.2] at HF5
      clear r0 r2 r25 r26
      have HRV2 := HRV
      clear HIS
      obtain ⟨k0, k1, k2, k3, k4, k5, k6, k7, k10, k11, kl, n0, n1, n2, n3⟩ := HF.out _ H5.out
      clear k1 k2 k3 k4 k6 k7 k10 kl n2 n3
      go_wp2_with fail
      refine (NC.rNet_any n.kind _).mono ?_
      rintro e w5 ⟨rfl, rfl⟩
      by_cases ha : isAsk n = true
      · have bn : (netN n.kind == 0) = true := ha
        rw [ha] at HRV
        clear ha
        go_upto_region 5 with fail
        have HD5 := Lib.hid (Upd.drew NoF V5)
        cases is
        · have hval := HRV.out
          unfold rdv at hval
          simp at hval
          refine wp_region_held_drew (S := (fun X => Upd NoF V5 X)) (by kernel_rfl) (HD5.out) (fun hHeld => ?_)
          refine rgn 0 (v := ?vq20) hHeld ?yq20 ?_
          case yq20 => (intro w hSw; obtain ⟨j0, j2, j25, j26⟩ := HF5.out _ hSw; obtain ⟨k0, k1, k2, k3, k4, k5, k6, k7, k10, k11, kl, n0, n1, n2, n3⟩ := HF.out _ (H5.out.trans hSw (fun _ _ h => h)); go_simp; try with_reducible rfl)
          simp only [Act.put, rn1, rn2, rn3, rn4, rn5, rn6]
          refine rgn 1 (v := .bool false) hHeld ?yq21 ?_
          case yq21 => (intro w hSw; obtain ⟨j0, j2, j25, j26⟩ := HF5.out _ hSw; obtain ⟨k0, k1, k2, k3, k4, k5, k6, k7, k10, k11, kl, n0, n1, n2, n3⟩ := HF.out _ (H5.out.trans hSw (fun _ _ h => h)); go_simp; try with_reducible rfl)
          simp only [Act.put, rn1, rn2, rn3, rn4, rn5, rn6]
          refine rgn 2 (v := .bool false) hHeld ?yq22 ?_
          case yq22 => (intro w hSw; obtain ⟨j0, j2, j25, j26⟩ := HF5.out _ hSw; obtain ⟨k0, k1, k2, k3, k4, k5, k6, k7, k10, k11, kl, n0, n1, n2, n3⟩ := HF.out _ (H5.out.trans hSw (fun _ _ h => h)); go_simp; try with_reducible rfl)
          simp only [Act.put, rn1, rn2, rn3, rn4, rn5, rn6]
          refine reg_off (i := 3) rfl (by kernel_rfl) (by kernel_rfl) (by kernel_rfl) (fun _ _ _ h => h) (by kernel_rfl) hHeld ?_
          simp only [Act.put, rn1, rn2, rn3, rn4, rn5, rn6]
          refine reg_off (i := 4) rfl (by kernel_rfl) (by kernel_rfl) (by kernel_rfl) (fun _ _ _ h => h) (by kernel_rfl) hHeld ?_
          simp only [Act.put, rn1, rn2, rn3, rn4, rn5, rn6]
          refine reg_off (i := 5) rfl (by kernel_rfl) (by kernel_rfl) (by kernel_rfl) (fun _ _ _ h => h) (by kernel_rfl) hHeld ?_
          simp only [Act.put, rn1, rn2, rn3, rn4, rn5, rn6]
          refine reg_off (i := 6) rfl (by kernel_rfl) (by kernel_rfl) (by kernel_rfl) (fun _ _ _ h => h) (by kernel_rfl) hHeld ?_
          simp only [Act.put, rn1, rn2, rn3, rn4, rn5, rn6]
          refine reg_off (i := 7) rfl (by kernel_rfl) (by kernel_rfl) (by kernel_rfl) (fun _ _ _ h => h) (by kernel_rfl) hHeld ?_
          simp only [Act.put, rn1, rn2, rn3, rn4, rn5, rn6]
          refine reg_off (i := 8) rfl (by kernel_rfl) (by kernel_rfl) (by kernel_rfl) (fun _ _ _ h => h) (by kernel_rfl) hHeld ?_
          simp only [Act.put, rn1, rn2, rn3, rn4, rn5, rn6]
          refine reg_off (i := 9) rfl (by kernel_rfl) (by kernel_rfl) (by kernel_rfl) (fun _ _ _ h => h) (by kernel_rfl) hHeld ?_
          simp only [Act.put, rn1, rn2, rn3, rn4, rn5, rn6]
          refine reg_off (i := 10) rfl (by kernel_rfl) (by kernel_rfl) (by kernel_rfl) (fun _ _ _ h => h) (by kernel_rfl) hHeld ?_
          simp only [Act.put, rn1, rn2, rn3, rn4, rn5, rn6]
          refine reg_off (i := 11) rfl (by kernel_rfl) (by kernel_rfl) (by kernel_rfl) (fun _ _ _ h => h) (by kernel_rfl) hHeld ?_
          simp only [Act.put, rn1, rn2, rn3, rn4, rn5, rn6]
          refine reg_off (i := 12) rfl (by kernel_rfl) (by kernel_rfl) (by kernel_rfl) (fun _ _ _ h => h) (by kernel_rfl) hHeld ?_
          simp only [Act.put, rn1, rn2, rn3, rn4, rn5, rn6]
          refine reg_off (i := 13) rfl (by kernel_rfl) (by kernel_rfl) (by kernel_rfl) (fun _ _ _ h => h) (by kernel_rfl) hHeld ?_
          simp only [Act.put, rn1, rn2, rn3, rn4, rn5, rn6]
          refine reg_off (i := 14) rfl (by kernel_rfl) (by kernel_rfl) (by kernel_rfl) (fun _ _ _ h => h) (by kernel_rfl) hHeld ?_
          simp only [Act.put, rn1, rn2, rn3, rn4, rn5, rn6]
          refine reg_off (i := 15) rfl (by kernel_rfl) (by kernel_rfl) (by kernel_rfl) (fun _ _ _ h => h) (by kernel_rfl) hHeld ?_
          simp only [Act.put, rn1, rn2, rn3, rn4, rn5, rn6]
          refine reg_off (i := 16) rfl (by kernel_rfl) (by kernel_rfl) (by kernel_rfl) (fun _ _ _ h => h) (by kernel_rfl) hHeld ?_
          simp only [Act.put, rn1, rn2, rn3, rn4, rn5, rn6]
          refine reg_off (i := 17) rfl (by kernel_rfl) (by kernel_rfl) (by kernel_rfl) (fun _ _ _ h => h) (by kernel_rfl) hHeld ?_
          simp only [Act.put, rn1, rn2, rn3, rn4, rn5, rn6]
          refine reg_off (i := 18) rfl (by kernel_rfl) (by kernel_rfl) (by kernel_rfl) (fun _ _ _ h => h) (by kernel_rfl) hHeld ?_
          simp only [Act.put, rn1, rn2, rn3, rn4, rn5, rn6]
          refine reg_off (i := 19) rfl (by kernel_rfl) (by kernel_rfl) (by kernel_rfl) (fun _ _ _ h => h) (by kernel_rfl) hHeld ?_
          simp only [Act.put, rn1, rn2, rn3, rn4, rn5, rn6]
          refine reg_off (i := 20) rfl (by kernel_rfl) (by kernel_rfl) (by kernel_rfl) (fun _ _ _ h => h) (by kernel_rfl) hHeld ?_
          simp only [Act.put, rn1, rn2, rn3, rn4, rn5, rn6]
          refine rgn 21 (v := .bool false) hHeld ?yq23 ?_
          case yq23 => (intro w hSw; go_simp; try with_reducible rfl)
          simp only [Act.put, rn1, rn2, rn3, rn4, rn5, rn6]
          refine wpAnyH_done (by kernel_rfl) ?_ _
          go_wp2
          go_ret
          exact ⟨by rw [← hval]; rfl, (HU.out.trans H5.out (fun _ _ h => h)).trans hHeld (fun _ _ h => h)⟩
        · have hrm : S.c.cores * (S.c.backs + 1) = S.room := rfl
          have hbs := HG.out.may.2.2.2.1
          have hw1 : IntKind.i64.wrap (S.c.backs + 1) = S.c.backs + 1 := IntWalk.i64_in _ (by omega)
          have hw2 : IntKind.i64.wrap (S.c.cores * (S.c.backs + 1)) = S.room := by rw [hrm]; exact IntWalk.i64_in _ (by omega)
          by_cases hq : S.room ≤ (S.Q.length : Int)
          · have hqb : decide (S.room ≤ (S.Q.length : Int)) = true := decide_eq_true hq
            clear hrm
            have hval := HRV.out
            unfold rdv at hval
            simp [hq] at hval
            clear hq
            refine wp_region_held_drew (S := (fun X => Upd NoF V5 X)) (by kernel_rfl) (HD5.out) (fun hHeld => ?_)
            refine rgn 0 (v := ?vq24) hHeld ?yq24 ?_
            case yq24 => (intro w hSw; obtain ⟨j0, j2, j25, j26⟩ := HF5.out _ hSw; obtain ⟨k0, k1, k2, k3, k4, k5, k6, k7, k10, k11, kl, n0, n1, n2, n3⟩ := HF.out _ (H5.out.trans hSw (fun _ _ h => h)); go_simp; try with_reducible rfl)
            simp only [Act.put, rn1, rn2, rn3, rn4, rn5, rn6]
            refine rgn 1 (v := .bool true) hHeld ?yq25 ?_
            case yq25 => (intro w hSw; obtain ⟨j0, j2, j25, j26⟩ := HF5.out _ hSw; obtain ⟨k0, k1, k2, k3, k4, k5, k6, k7, k10, k11, kl, n0, n1, n2, n3⟩ := HF.out _ (H5.out.trans hSw (fun _ _ h => h)); go_simp; try with_reducible rfl)
            simp only [Act.put, rn1, rn2, rn3, rn4, rn5, rn6]
            refine rgn 2 (v := .bool true) hHeld ?yq26 ?_
            case yq26 => (intro w hSw; obtain ⟨j0, j2, j25, j26⟩ := HF5.out _ hSw; obtain ⟨k0, k1, k2, k3, k4, k5, k6, k7, k10, k11, kl, n0, n1, n2, n3⟩ := HF.out _ (H5.out.trans hSw (fun _ _ h => h)); go_simp; try with_reducible rfl)
            simp only [Act.put, rn1, rn2, rn3, rn4, rn5, rn6]
            refine rgn 3 (v := ?vq27) hHeld ?yq27 ?_
            case yq27 => (intro w hSw; obtain ⟨j0, j2, j25, j26⟩ := HF5.out _ hSw; obtain ⟨k0, k1, k2, k3, k4, k5, k6, k7, k10, k11, kl, n0, n1, n2, n3⟩ := HF.out _ (H5.out.trans hSw (fun _ _ h => h)); go_simp; try with_reducible rfl)
            simp only [Act.put, rn1, rn2, rn3, rn4, rn5, rn6]
            refine rgn 4 (v := ?vq28) hHeld ?yq28 ?_
            case yq28 => (intro w hSw; obtain ⟨j0, j2, j25, j26⟩ := HF5.out _ hSw; obtain ⟨k0, k1, k2, k3, k4, k5, k6, k7, k10, k11, kl, n0, n1, n2, n3⟩ := HF.out _ (H5.out.trans hSw (fun _ _ h => h)); go_simp; try with_reducible rfl)
            simp only [Act.put, rn1, rn2, rn3, rn4, rn5, rn6]
            refine rgn 5 (v := ?vq29) hHeld ?yq29 ?_
            case yq29 => (intro w hSw; obtain ⟨j0, j2, j25, j26⟩ := HF5.out _ hSw; obtain ⟨k0, k1, k2, k3, k4, k5, k6, k7, k10, k11, kl, n0, n1, n2, n3⟩ := HF.out _ (H5.out.trans hSw (fun _ _ h => h)); go_simp; try with_reducible rfl)
            simp only [Act.put, rn1, rn2, rn3, rn4, rn5, rn6]
            refine rgn 6 (v := ?vq30) hHeld ?yq30 ?_
            case yq30 => (intro w hSw; obtain ⟨j0, j2, j25, j26⟩ := HF5.out _ hSw; obtain ⟨k0, k1, k2, k3, k4, k5, k6, k7, k10, k11, kl, n0, n1, n2, n3⟩ := HF.out _ (H5.out.trans hSw (fun _ _ h => h)); go_simp; try with_reducible rfl)
            simp only [Act.put, rn1, rn2, rn3, rn4, rn5, rn6]
            refine rgn 7 (v := ?vq31) hHeld ?yq31 ?_
            case yq31 => (intro w hSw; obtain ⟨j0, j2, j25, j26⟩ := HF5.out _ hSw; obtain ⟨k0, k1, k2, k3, k4, k5, k6, k7, k10, k11, kl, n0, n1, n2, n3⟩ := HF.out _ (H5.out.trans hSw (fun _ _ h => h)); go_simp; try with_reducible rfl)
            simp only [Act.put, rn1, rn2, rn3, rn4, rn5, rn6]
            refine rgn 8 (v := ?vq32) hHeld ?yq32 ?_
            case yq32 => (intro w hSw; obtain ⟨j0, j2, j25, j26⟩ := HF5.out _ hSw; obtain ⟨k0, k1, k2, k3, k4, k5, k6, k7, k10, k11, kl, n0, n1, n2, n3⟩ := HF.out _ (H5.out.trans hSw (fun _ _ h => h)); go_simp; try with_reducible rfl)
            simp only [Act.put, rn1, rn2, rn3, rn4, rn5, rn6]
            refine rgn 9 (v := ?vq33) hHeld ?yq33 ?_
            case yq33 => (intro w hSw; obtain ⟨j0, j2, j25, j26⟩ := HF5.out _ hSw; obtain ⟨k0, k1, k2, k3, k4, k5, k6, k7, k10, k11, kl, n0, n1, n2, n3⟩ := HF.out _ (H5.out.trans hSw (fun _ _ h => h)); go_simp; try with_reducible rfl)
            simp only [Act.put, rn1, rn2, rn3, rn4, rn5, rn6]
            refine rgn 10 (v := ?vq34) hHeld ?yq34 ?_
            case yq34 => (intro w hSw; obtain ⟨j0, j2, j25, j26⟩ := HF5.out _ hSw; obtain ⟨k0, k1, k2, k3, k4, k5, k6, k7, k10, k11, kl, n0, n1, n2, n3⟩ := HF.out _ (H5.out.trans hSw (fun _ _ h => h)); go_simp; try with_reducible rfl)
            simp only [Act.put, rn1, rn2, rn3, rn4, rn5, rn6]
            refine rgn 11 (v := ?vq35) hHeld ?yq35 ?_
            case yq35 => (intro w hSw; obtain ⟨j0, j2, j25, j26⟩ := HF5.out _ hSw; obtain ⟨k0, k1, k2, k3, k4, k5, k6, k7, k10, k11, kl, n0, n1, n2, n3⟩ := HF.out _ (H5.out.trans hSw (fun _ _ h => h)); go_simp; try with_reducible rfl)
            simp only [Act.put, rn1, rn2, rn3, rn4, rn5, rn6]
            refine rgn 12 (v := ?vq36) hHeld ?yq36 ?_
            case yq36 => (intro w hSw; obtain ⟨j0, j2, j25, j26⟩ := HF5.out _ hSw; obtain ⟨k0, k1, k2, k3, k4, k5, k6, k7, k10, k11, kl, n0, n1, n2, n3⟩ := HF.out _ (H5.out.trans hSw (fun _ _ h => h)); go_simp; try with_reducible rfl)
            simp only [Act.put, rn1, rn2, rn3, rn4, rn5, rn6]
            refine rgn 13 (v := ?vq37) hHeld ?yq37 ?_
            case yq37 => (intro w hSw; obtain ⟨j0, j2, j25, j26⟩ := HF5.out _ hSw; obtain ⟨k0, k1, k2, k3, k4, k5, k6, k7, k10, k11, kl, n0, n1, n2, n3⟩ := HF.out _ (H5.out.trans hSw (fun _ _ h => h)); go_simp; try with_reducible rfl)
            simp only [Act.put, rn1, rn2, rn3, rn4, rn5, rn6]
            refine rgn 14 (v := ?vq38) hHeld ?yq38 ?_
            case yq38 => (intro w hSw; obtain ⟨j0, j2, j25, j26⟩ := HF5.out _ hSw; obtain ⟨k0, k1, k2, k3, k4, k5, k6, k7, k10, k11, kl, n0, n1, n2, n3⟩ := HF.out _ (H5.out.trans hSw (fun _ _ h => h)); go_simp; try with_reducible rfl)
            simp only [Act.put, rn1, rn2, rn3, rn4, rn5, rn6]
            refine rgn 15 (v := ?vq39) hHeld ?yq39 ?_
            case yq39 => (intro w hSw; obtain ⟨j0, j2, j25, j26⟩ := HF5.out _ hSw; obtain ⟨k0, k1, k2, k3, k4, k5, k6, k7, k10, k11, kl, n0, n1, n2, n3⟩ := HF.out _ (H5.out.trans hSw (fun _ _ h => h)); go_simp; try with_reducible rfl)
            simp only [Act.put, rn1, rn2, rn3, rn4, rn5, rn6]
            refine rgn 16 (v := ?vq40) hHeld ?yq40 ?_
            case yq40 => (intro w hSw; obtain ⟨j0, j2, j25, j26⟩ := HF5.out _ hSw; obtain ⟨k0, k1, k2, k3, k4, k5, k6, k7, k10, k11, kl, n0, n1, n2, n3⟩ := HF.out _ (H5.out.trans hSw (fun _ _ h => h)); go_simp; try with_reducible rfl)
            simp only [Act.put, rn1, rn2, rn3, rn4, rn5, rn6]
            refine rgn 17 (v := ?vq41) hHeld ?yq41 ?_
            case yq41 => (intro w hSw; obtain ⟨j0, j2, j25, j26⟩ := HF5.out _ hSw; obtain ⟨k0, k1, k2, k3, k4, k5, k6, k7, k10, k11, kl, n0, n1, n2, n3⟩ := HF.out _ (H5.out.trans hSw (fun _ _ h => h)); go_simp; try with_reducible rfl)
            simp only [Act.put, rn1, rn2, rn3, rn4, rn5, rn6]
            refine rgn 18 (v := ?vq42) hHeld ?yq42 ?_
            case yq42 => (intro w hSw; obtain ⟨j0, j2, j25, j26⟩ := HF5.out _ hSw; obtain ⟨k0, k1, k2, k3, k4, k5, k6, k7, k10, k11, kl, n0, n1, n2, n3⟩ := HF.out _ (H5.out.trans hSw (fun _ _ h => h)); go_simp; try with_reducible rfl)
            simp only [Act.put, rn1, rn2, rn3, rn4, rn5, rn6]
            refine rgn 19 (v := ?vq43) hHeld ?yq43 ?_
            case yq43 => (intro w hSw; obtain ⟨j0, j2, j25, j26⟩ := HF5.out _ hSw; obtain ⟨k0, k1, k2, k3, k4, k5, k6, k7, k10, k11, kl, n0, n1, n2, n3⟩ := HF.out _ (H5.out.trans hSw (fun _ _ h => h)); go_simp; try with_reducible rfl)
            simp only [Act.put, rn1, rn2, rn3, rn4, rn5, rn6]
            refine rgn 20 (v := .bool true) hHeld ?yq44 ?_
            case yq44 => (intro w hSw; obtain ⟨j0, j2, j25, j26⟩ := HF5.out _ hSw; obtain ⟨k0, k1, k2, k3, k4, k5, k6, k7, k10, k11, kl, n0, n1, n2, n3⟩ := HF.out _ (H5.out.trans hSw (fun _ _ h => h)); go_simp; try with_reducible rfl)
            simp only [Act.put, rn1, rn2, rn3, rn4, rn5, rn6]
            refine rgn 21 (v := .bool true) hHeld ?yq45 ?_
            case yq45 => (intro w hSw; obtain ⟨j0, j2, j25, j26⟩ := HF5.out _ hSw; obtain ⟨k0, k1, k2, k3, k4, k5, k6, k7, k10, k11, kl, n0, n1, n2, n3⟩ := HF.out _ (H5.out.trans hSw (fun _ _ h => h)); go_simp; try with_reducible rfl)
            simp only [Act.put, rn1, rn2, rn3, rn4, rn5, rn6]
            refine wpAnyH_done (by kernel_rfl) ?_ _
            go_wp2
            go_ret
            exact ⟨by rw [← hval]; rfl, (HU.out.trans H5.out (fun _ _ h => h)).trans hHeld (fun _ _ h => h)⟩
          · have hqb : decide (S.room ≤ (S.Q.length : Int)) = false := decide_eq_false hq
            clear hrm
            have hval := HRV.out
            unfold rdv at hval
            simp [hq] at hval
            clear hq
            refine wp_region_held_drew (S := (fun X => Upd NoF V5 X)) (by kernel_rfl) (HD5.out) (fun hHeld => ?_)
            refine rgn 0 (v := ?vq46) hHeld ?yq46 ?_
            case yq46 => (intro w hSw; obtain ⟨j0, j2, j25, j26⟩ := HF5.out _ hSw; obtain ⟨k0, k1, k2, k3, k4, k5, k6, k7, k10, k11, kl, n0, n1, n2, n3⟩ := HF.out _ (H5.out.trans hSw (fun _ _ h => h)); go_simp; try with_reducible rfl)
            simp only [Act.put, rn1, rn2, rn3, rn4, rn5, rn6]
            refine rgn 1 (v := .bool true) hHeld ?yq47 ?_
            case yq47 => (intro w hSw; obtain ⟨j0, j2, j25, j26⟩ := HF5.out _ hSw; obtain ⟨k0, k1, k2, k3, k4, k5, k6, k7, k10, k11, kl, n0, n1, n2, n3⟩ := HF.out _ (H5.out.trans hSw (fun _ _ h => h)); go_simp; try with_reducible rfl)
            simp only [Act.put, rn1, rn2, rn3, rn4, rn5, rn6]
            refine rgn 2 (v := .bool true) hHeld ?yq48 ?_
            case yq48 => (intro w hSw; obtain ⟨j0, j2, j25, j26⟩ := HF5.out _ hSw; obtain ⟨k0, k1, k2, k3, k4, k5, k6, k7, k10, k11, kl, n0, n1, n2, n3⟩ := HF.out _ (H5.out.trans hSw (fun _ _ h => h)); go_simp; try with_reducible rfl)
            simp only [Act.put, rn1, rn2, rn3, rn4, rn5, rn6]
            refine rgn 3 (v := ?vq49) hHeld ?yq49 ?_
            case yq49 => (intro w hSw; obtain ⟨j0, j2, j25, j26⟩ := HF5.out _ hSw; obtain ⟨k0, k1, k2, k3, k4, k5, k6, k7, k10, k11, kl, n0, n1, n2, n3⟩ := HF.out _ (H5.out.trans hSw (fun _ _ h => h)); go_simp; try with_reducible rfl)
            simp only [Act.put, rn1, rn2, rn3, rn4, rn5, rn6]
            refine rgn 4 (v := ?vq50) hHeld ?yq50 ?_
            case yq50 => (intro w hSw; obtain ⟨j0, j2, j25, j26⟩ := HF5.out _ hSw; obtain ⟨k0, k1, k2, k3, k4, k5, k6, k7, k10, k11, kl, n0, n1, n2, n3⟩ := HF.out _ (H5.out.trans hSw (fun _ _ h => h)); go_simp; try with_reducible rfl)
            simp only [Act.put, rn1, rn2, rn3, rn4, rn5, rn6]
            refine rgn 5 (v := ?vq51) hHeld ?yq51 ?_
            case yq51 => (intro w hSw; obtain ⟨j0, j2, j25, j26⟩ := HF5.out _ hSw; obtain ⟨k0, k1, k2, k3, k4, k5, k6, k7, k10, k11, kl, n0, n1, n2, n3⟩ := HF.out _ (H5.out.trans hSw (fun _ _ h => h)); go_simp; try with_reducible rfl)
            simp only [Act.put, rn1, rn2, rn3, rn4, rn5, rn6]
            refine rgn 6 (v := ?vq52) hHeld ?yq52 ?_
            case yq52 => (intro w hSw; obtain ⟨j0, j2, j25, j26⟩ := HF5.out _ hSw; obtain ⟨k0, k1, k2, k3, k4, k5, k6, k7, k10, k11, kl, n0, n1, n2, n3⟩ := HF.out _ (H5.out.trans hSw (fun _ _ h => h)); go_simp; try with_reducible rfl)
            simp only [Act.put, rn1, rn2, rn3, rn4, rn5, rn6]
            refine rgn 7 (v := ?vq53) hHeld ?yq53 ?_
            case yq53 => (intro w hSw; obtain ⟨j0, j2, j25, j26⟩ := HF5.out _ hSw; obtain ⟨k0, k1, k2, k3, k4, k5, k6, k7, k10, k11, kl, n0, n1, n2, n3⟩ := HF.out _ (H5.out.trans hSw (fun _ _ h => h)); go_simp; try with_reducible rfl)
            simp only [Act.put, rn1, rn2, rn3, rn4, rn5, rn6]
            refine rgn 8 (v := ?vq54) hHeld ?yq54 ?_
            case yq54 => (intro w hSw; obtain ⟨j0, j2, j25, j26⟩ := HF5.out _ hSw; obtain ⟨k0, k1, k2, k3, k4, k5, k6, k7, k10, k11, kl, n0, n1, n2, n3⟩ := HF.out _ (H5.out.trans hSw (fun _ _ h => h)); go_simp; try with_reducible rfl)
            simp only [Act.put, rn1, rn2, rn3, rn4, rn5, rn6]
            refine rgn 9 (v := ?vq55) hHeld ?yq55 ?_
            case yq55 => (intro w hSw; obtain ⟨j0, j2, j25, j26⟩ := HF5.out _ hSw; obtain ⟨k0, k1, k2, k3, k4, k5, k6, k7, k10, k11, kl, n0, n1, n2, n3⟩ := HF.out _ (H5.out.trans hSw (fun _ _ h => h)); go_simp; try with_reducible rfl)
            simp only [Act.put, rn1, rn2, rn3, rn4, rn5, rn6]
            refine rgn 10 (v := ?vq56) hHeld ?yq56 ?_
            case yq56 => (intro w hSw; obtain ⟨j0, j2, j25, j26⟩ := HF5.out _ hSw; obtain ⟨k0, k1, k2, k3, k4, k5, k6, k7, k10, k11, kl, n0, n1, n2, n3⟩ := HF.out _ (H5.out.trans hSw (fun _ _ h => h)); go_simp; try with_reducible rfl)
            simp only [Act.put, rn1, rn2, rn3, rn4, rn5, rn6]
            refine rgn 11 (v := ?vq57) hHeld ?yq57 ?_
            case yq57 => (intro w hSw; obtain ⟨j0, j2, j25, j26⟩ := HF5.out _ hSw; obtain ⟨k0, k1, k2, k3, k4, k5, k6, k7, k10, k11, kl, n0, n1, n2, n3⟩ := HF.out _ (H5.out.trans hSw (fun _ _ h => h)); go_simp; try with_reducible rfl)
            simp only [Act.put, rn1, rn2, rn3, rn4, rn5, rn6]
            refine rgn 12 (v := ?vq58) hHeld ?yq58 ?_
            case yq58 => (intro w hSw; obtain ⟨j0, j2, j25, j26⟩ := HF5.out _ hSw; obtain ⟨k0, k1, k2, k3, k4, k5, k6, k7, k10, k11, kl, n0, n1, n2, n3⟩ := HF.out _ (H5.out.trans hSw (fun _ _ h => h)); go_simp; try with_reducible rfl)
            simp only [Act.put, rn1, rn2, rn3, rn4, rn5, rn6]
            refine rgn 13 (v := ?vq59) hHeld ?yq59 ?_
            case yq59 => (intro w hSw; obtain ⟨j0, j2, j25, j26⟩ := HF5.out _ hSw; obtain ⟨k0, k1, k2, k3, k4, k5, k6, k7, k10, k11, kl, n0, n1, n2, n3⟩ := HF.out _ (H5.out.trans hSw (fun _ _ h => h)); go_simp; try with_reducible rfl)
            simp only [Act.put, rn1, rn2, rn3, rn4, rn5, rn6]
            refine rgn 14 (v := ?vq60) hHeld ?yq60 ?_
            case yq60 => (intro w hSw; obtain ⟨j0, j2, j25, j26⟩ := HF5.out _ hSw; obtain ⟨k0, k1, k2, k3, k4, k5, k6, k7, k10, k11, kl, n0, n1, n2, n3⟩ := HF.out _ (H5.out.trans hSw (fun _ _ h => h)); go_simp; try with_reducible rfl)
            simp only [Act.put, rn1, rn2, rn3, rn4, rn5, rn6]
            refine rgn 15 (v := ?vq61) hHeld ?yq61 ?_
            case yq61 => (intro w hSw; obtain ⟨j0, j2, j25, j26⟩ := HF5.out _ hSw; obtain ⟨k0, k1, k2, k3, k4, k5, k6, k7, k10, k11, kl, n0, n1, n2, n3⟩ := HF.out _ (H5.out.trans hSw (fun _ _ h => h)); go_simp; try with_reducible rfl)
            simp only [Act.put, rn1, rn2, rn3, rn4, rn5, rn6]
            refine rgn 16 (v := ?vq62) hHeld ?yq62 ?_
            case yq62 => (intro w hSw; obtain ⟨j0, j2, j25, j26⟩ := HF5.out _ hSw; obtain ⟨k0, k1, k2, k3, k4, k5, k6, k7, k10, k11, kl, n0, n1, n2, n3⟩ := HF.out _ (H5.out.trans hSw (fun _ _ h => h)); go_simp; try with_reducible rfl)
            simp only [Act.put, rn1, rn2, rn3, rn4, rn5, rn6]
            refine rgn 17 (v := ?vq63) hHeld ?yq63 ?_
            case yq63 => (intro w hSw; obtain ⟨j0, j2, j25, j26⟩ := HF5.out _ hSw; obtain ⟨k0, k1, k2, k3, k4, k5, k6, k7, k10, k11, kl, n0, n1, n2, n3⟩ := HF.out _ (H5.out.trans hSw (fun _ _ h => h)); go_simp; try with_reducible rfl)
            simp only [Act.put, rn1, rn2, rn3, rn4, rn5, rn6]
            refine rgn 18 (v := ?vq64) hHeld ?yq64 ?_
            case yq64 => (intro w hSw; obtain ⟨j0, j2, j25, j26⟩ := HF5.out _ hSw; obtain ⟨k0, k1, k2, k3, k4, k5, k6, k7, k10, k11, kl, n0, n1, n2, n3⟩ := HF.out _ (H5.out.trans hSw (fun _ _ h => h)); go_simp; try with_reducible rfl)
            simp only [Act.put, rn1, rn2, rn3, rn4, rn5, rn6]
            refine rgn 19 (v := ?vq65) hHeld ?yq65 ?_
            case yq65 => (intro w hSw; obtain ⟨j0, j2, j25, j26⟩ := HF5.out _ hSw; obtain ⟨k0, k1, k2, k3, k4, k5, k6, k7, k10, k11, kl, n0, n1, n2, n3⟩ := HF.out _ (H5.out.trans hSw (fun _ _ h => h)); go_simp; try with_reducible rfl)
            simp only [Act.put, rn1, rn2, rn3, rn4, rn5, rn6]
            refine rgn 20 (v := .bool false) hHeld ?yq66 ?_
            case yq66 => (intro w hSw; obtain ⟨j0, j2, j25, j26⟩ := HF5.out _ hSw; obtain ⟨k0, k1, k2, k3, k4, k5, k6, k7, k10, k11, kl, n0, n1, n2, n3⟩ := HF.out _ (H5.out.trans hSw (fun _ _ h => h)); go_simp; try with_reducible rfl)
            simp only [Act.put, rn1, rn2, rn3, rn4, rn5, rn6]
            refine rgn 21 (v := .bool false) hHeld ?yq67 ?_
            case yq67 => (intro w hSw; obtain ⟨j0, j2, j25, j26⟩ := HF5.out _ hSw; obtain ⟨k0, k1, k2, k3, k4, k5, k6, k7, k10, k11, kl, n0, n1, n2, n3⟩ := HF.out _ (H5.out.trans hSw (fun _ _ h => h)); go_simp; try with_reducible rfl)
            simp only [Act.put, rn1, rn2, rn3, rn4, rn5, rn6]
            refine wpAnyH_done (by kernel_rfl) ?_ _
            go_wp2
            go_ret
            exact ⟨by rw [← hval]; rfl, (HU.out.trans H5.out (fun _ _ h => h)).trans hHeld (fun _ _ h => h)⟩
      · have bn : (netN n.kind == 0) = false := by unfold isAsk at ha; simpa using ha
        have ha2 : isAsk n = false := by simpa using ha
        rw [ha2] at HRV
        clear ha2
        obtain ⟨j0, j2, j25, j26⟩ := HF5.out _ (Upd.refl _ _)
        clear ha
        by_cases hk : n.kind = 11
        · have kb : (n.kind == 11) = true := by simpa using hk
          rw [hk] at HRV
          clear hk
          cases is
          · have hval := HRV.out
            unfold rdv at hval
            simp at hval
            go_wp2
            go_ret
            exact ⟨by rw [← hval]; rfl, HU.out.trans H5.out (fun _ _ h => h)⟩
          · cases hans : jb.ans
            · rw [hans] at j26
              have hval := HRV.out
              unfold rdv at hval
              simp [hans] at hval
              go_wp2
              go_ret
              exact ⟨by rw [← hval]; rfl, HU.out.trans H5.out (fun _ _ h => h)⟩
            · rw [hans] at j26
              by_cases hfr : jb.ask.frm = n.frm
              · have hfb : (jb.ask.frm != n.frm) = false := by simp [hfr]
                have hval := HRV.out
                unfold rdv at hval
                simp [hans, hfr] at hval
                clear hfr
                go_wp2
                go_ret
                exact ⟨by rw [← hval]; rfl, HU.out.trans H5.out (fun _ _ h => h)⟩
              · have hfb : (jb.ask.frm != n.frm) = true := by simpa using hfr
                have hval := HRV.out
                unfold rdv at hval
                simp [hans, hfr] at hval
                clear hfr
                go_wp2
                go_ret
                exact ⟨by rw [← hval]; rfl, HU.out.trans H5.out (fun _ _ h => h)⟩
        · have kb : (n.kind == 11) = false := by simpa using hk
          cases is
          · have hval := HRV.out
            unfold rdv at hval
            simp [hk] at hval
            clear hk
            go_wp2
            go_ret
            exact ⟨by rw [← hval]; rfl, HU.out.trans H5.out (fun _ _ h => h)⟩
          · cases hans : jb.ans
            · rw [hans] at j26
              cases hin : inM jb.wait n.frm
              · have hval := HRV.out
                unfold rdv at hval
                simp [hk, hans, hin] at hval
                clear hk
                go_wp2_with fail
                refine (ML.rhas_any jb.wait n.frm _).mono ?_
                rintro e w6 ⟨rfl, rfl⟩
                rw [hin]
                go_wp2
                go_ret
                exact ⟨by rw [← hval]; rfl, HU.out.trans H5.out (fun _ _ h => h)⟩
              · have hval := HRV.out
                unfold rdv at hval
                simp [hk, hans, hin] at hval
                clear hk
                go_wp2_with fail
                refine (ML.rhas_any jb.wait n.frm _).mono ?_
                rintro e w6 ⟨rfl, rfl⟩
                rw [hin]
                go_wp2
                go_ret
                exact ⟨by rw [← hval]; rfl, HU.out.trans H5.out (fun _ _ h => h)⟩
            · rw [hans] at j26
              have hval := HRV.out
              unfold rdv at hval
              simp [hk, hans] at hval
              clear hk
              go_wp2
              go_ret
              exact ⟨by rw [← hval]; rfl, HU.out.trans H5.out (fun _ _ h => h)⟩
    · rw [fits_no HG.out (.inr ht)]
      rw [hft] at HFT
      have htb : (n.too != -1) = true := by simpa using ht
      clear hft ht
      go_enter Tryd.func35, Tryd.ntmps35
      go_upto_region 1 with fail
      rw [HV.out.1, HV.out.2]
      refine wp_region_held_drew (S := (fun X => Upd NoF V X)) (by kernel_rfl) (HD.out) (fun hHeld => ?_)
      refine rgn 0 (v := ?vq68) hHeld ?yq68 ?_
      case yq68 => (intro w hSw; obtain ⟨k0, k1, k2, k3, k4, k5, k6, k7, k10, k11, kl, n0, n1, n2, n3⟩ := HF.out _ hSw; go_simp; try with_reducible rfl)
      simp only [Act.put, rn1, rn2, rn3, rn4, rn5, rn6]
      refine rgn 1 (v := ?vq69) hHeld ?yq69 ?_
      case yq69 => (intro w hSw; obtain ⟨k0, k1, k2, k3, k4, k5, k6, k7, k10, k11, kl, n0, n1, n2, n3⟩ := HF.out _ hSw; go_simp; try with_reducible rfl)
      simp only [Act.put, rn1, rn2, rn3, rn4, rn5, rn6]
      refine rgn 2 (v := ?vq70) hHeld ?yq70 ?_
      case yq70 => (intro w hSw; obtain ⟨k0, k1, k2, k3, k4, k5, k6, k7, k10, k11, kl, n0, n1, n2, n3⟩ := HF.out _ hSw; go_simp; try with_reducible rfl)
      simp only [Act.put, rn1, rn2, rn3, rn4, rn5, rn6]
      refine rgn 3 (v := ?vq71) hHeld ?yq71 ?_
      case yq71 => (intro w hSw; obtain ⟨k0, k1, k2, k3, k4, k5, k6, k7, k10, k11, kl, n0, n1, n2, n3⟩ := HF.out _ hSw; go_simp; try with_reducible rfl)
      simp only [Act.put, rn1, rn2, rn3, rn4, rn5, rn6]
      refine rgn 4 (v := ?vq72) hHeld ?yq72 ?_
      case yq72 => (intro w hSw; obtain ⟨k0, k1, k2, k3, k4, k5, k6, k7, k10, k11, kl, n0, n1, n2, n3⟩ := HF.out _ hSw; go_simp; try with_reducible rfl)
      simp only [Act.put, rn1, rn2, rn3, rn4, rn5, rn6]
      refine reg_step (i := 5) (by kernel_rfl) rfl (by kernel_rfl) (fun K hK => ?_)
      go_simp
      refine (HFT.out _).mono ?_
      rintro e w2 ⟨rfl, hu2⟩
      have HS : (fun X => Upd NoF V X) w2 := hHeld.trans hu2 (fun _ _ h => h)
      clear hu2
      go_wp2_with fail
      refine hK.out _ _ HS (fun hHeld2 => ?_)
      clear hK hHeld2 hHeld; have hHeld := HS; clear HS
      try simp only [Act.put, rn1, rn2, rn3, rn4, rn5, rn6]
      refine rgn 6 (v := .bool false) hHeld ?yq73 ?_
      case yq73 => (intro w hSw; obtain ⟨k0, k1, k2, k3, k4, k5, k6, k7, k10, k11, kl, n0, n1, n2, n3⟩ := HF.out _ hSw; go_simp; try with_reducible rfl)
      simp only [Act.put, rn1, rn2, rn3, rn4, rn5, rn6]
      refine rgn 7 (v := .bool false) hHeld ?yq74 ?_
      case yq74 => (intro w hSw; obtain ⟨k0, k1, k2, k3, k4, k5, k6, k7, k10, k11, kl, n0, n1, n2, n3⟩ := HF.out _ hSw; go_simp; try with_reducible rfl)
      simp only [Act.put, rn1, rn2, rn3, rn4, rn5, rn6]
      refine rgn 8 (v := ?vq75) hHeld ?yq75 ?_
      case yq75 => (intro w hSw; obtain ⟨k0, k1, k2, k3, k4, k5, k6, k7, k10, k11, kl, n0, n1, n2, n3⟩ := HF.out _ hSw; go_simp; try with_reducible rfl)
      simp only [Act.put, rn1, rn2, rn3, rn4, rn5, rn6]
      refine rgn 9 (v := ?vq76) hHeld ?yq76 ?_
      case yq76 => (intro w hSw; obtain ⟨k0, k1, k2, k3, k4, k5, k6, k7, k10, k11, kl, n0, n1, n2, n3⟩ := HF.out _ hSw; go_simp; try with_reducible rfl)
      simp only [Act.put, rn1, rn2, rn3, rn4, rn5, rn6]
      refine rgn 10 (v := .bool true) hHeld ?yq77 ?_
      case yq77 => (intro w hSw; obtain ⟨k0, k1, k2, k3, k4, k5, k6, k7, k10, k11, kl, n0, n1, n2, n3⟩ := HF.out _ hSw; go_simp; try with_reducible rfl)
      simp only [Act.put, rn1, rn2, rn3, rn4, rn5, rn6]
      refine rgn 11 (v := .bool true) hHeld ?yq78 ?_
      case yq78 => (intro w hSw; obtain ⟨k0, k1, k2, k3, k4, k5, k6, k7, k10, k11, kl, n0, n1, n2, n3⟩ := HF.out _ hSw; go_simp; try with_reducible rfl)
      simp only [Act.put, rn1, rn2, rn3, rn4, rn5, rn6]
      refine wpAnyH_done (by kernel_rfl) ?_ _
      go_wp2
      go_ret
      exact ⟨rfl, HU.out.trans hHeld (fun _ _ h => h)⟩
  · have hft : fitsN S.c n = false := by simpa using hft
    rw [fits_no HG.out (.inl hft)]
    rw [hft] at HFT
    clear hft
    go_enter Tryd.func35, Tryd.ntmps35
    go_upto_region 1 with fail
    rw [HV.out.1, HV.out.2]
    refine wp_region_held_drew (S := (fun X => Upd NoF V X)) (by kernel_rfl) (HD.out) (fun hHeld => ?_)
    refine rgn 0 (v := ?vq79) hHeld ?yq79 ?_
    case yq79 => (intro w hSw; obtain ⟨k0, k1, k2, k3, k4, k5, k6, k7, k10, k11, kl, n0, n1, n2, n3⟩ := HF.out _ hSw; go_simp; try with_reducible rfl)
    simp only [Act.put, rn1, rn2, rn3, rn4, rn5, rn6]
    refine rgn 1 (v := ?vq80) hHeld ?yq80 ?_
    case yq80 => (intro w hSw; obtain ⟨k0, k1, k2, k3, k4, k5, k6, k7, k10, k11, kl, n0, n1, n2, n3⟩ := HF.out _ hSw; go_simp; try with_reducible rfl)
    simp only [Act.put, rn1, rn2, rn3, rn4, rn5, rn6]
    refine rgn 2 (v := ?vq81) hHeld ?yq81 ?_
    case yq81 => (intro w hSw; obtain ⟨k0, k1, k2, k3, k4, k5, k6, k7, k10, k11, kl, n0, n1, n2, n3⟩ := HF.out _ hSw; go_simp; try with_reducible rfl)
    simp only [Act.put, rn1, rn2, rn3, rn4, rn5, rn6]
    refine rgn 3 (v := ?vq82) hHeld ?yq82 ?_
    case yq82 => (intro w hSw; obtain ⟨k0, k1, k2, k3, k4, k5, k6, k7, k10, k11, kl, n0, n1, n2, n3⟩ := HF.out _ hSw; go_simp; try with_reducible rfl)
    simp only [Act.put, rn1, rn2, rn3, rn4, rn5, rn6]
    refine rgn 4 (v := ?vq83) hHeld ?yq83 ?_
    case yq83 => (intro w hSw; obtain ⟨k0, k1, k2, k3, k4, k5, k6, k7, k10, k11, kl, n0, n1, n2, n3⟩ := HF.out _ hSw; go_simp; try with_reducible rfl)
    simp only [Act.put, rn1, rn2, rn3, rn4, rn5, rn6]
    refine reg_step (i := 5) (by kernel_rfl) rfl (by kernel_rfl) (fun K hK => ?_)
    go_simp
    refine (HFT.out _).mono ?_
    rintro e w2 ⟨rfl, hu2⟩
    have HS : (fun X => Upd NoF V X) w2 := hHeld.trans hu2 (fun _ _ h => h)
    clear hu2
    go_wp2_with fail
    refine hK.out _ _ HS (fun hHeld2 => ?_)
    clear hK hHeld2 hHeld; have hHeld := HS; clear HS
    try simp only [Act.put, rn1, rn2, rn3, rn4, rn5, rn6]
    refine rgn 6 (v := .bool true) hHeld ?yq84 ?_
    case yq84 => (intro w hSw; obtain ⟨k0, k1, k2, k3, k4, k5, k6, k7, k10, k11, kl, n0, n1, n2, n3⟩ := HF.out _ hSw; go_simp; try with_reducible rfl)
    simp only [Act.put, rn1, rn2, rn3, rn4, rn5, rn6]
    refine rgn 7 (v := .bool true) hHeld ?yq85 ?_
    case yq85 => (intro w hSw; obtain ⟨k0, k1, k2, k3, k4, k5, k6, k7, k10, k11, kl, n0, n1, n2, n3⟩ := HF.out _ hSw; go_simp; try with_reducible rfl)
    simp only [Act.put, rn1, rn2, rn3, rn4, rn5, rn6]
    refine reg_off (i := 8) rfl (by kernel_rfl) (by kernel_rfl) (by kernel_rfl) (fun _ _ _ h => h) (by kernel_rfl) hHeld ?_
    simp only [Act.put, rn1, rn2, rn3, rn4, rn5, rn6]
    refine reg_off (i := 9) rfl (by kernel_rfl) (by kernel_rfl) (by kernel_rfl) (fun _ _ _ h => h) (by kernel_rfl) hHeld ?_
    simp only [Act.put, rn1, rn2, rn3, rn4, rn5, rn6]
    refine reg_off (i := 10) rfl (by kernel_rfl) (by kernel_rfl) (by kernel_rfl) (fun _ _ _ h => h) (by kernel_rfl) hHeld ?_
    simp only [Act.put, rn1, rn2, rn3, rn4, rn5, rn6]
    refine rgn 11 (v := .bool true) hHeld ?yq86 ?_
    case yq86 => (intro w hSw; go_simp; try with_reducible rfl)
    simp only [Act.put, rn1, rn2, rn3, rn4, rn5, rn6]
    refine wpAnyH_done (by kernel_rfl) ?_ _
    go_wp2
    go_ret
    exact ⟨rfl, HU.out.trans hHeld (fun _ _ h => h)⟩
end
end Go.Proofs.YtlhbnndnkcpomaaDoor.HO

set_option linter.unusedSimpArgs false
set_option linter.unusedVariables false
namespace Go.Proofs.YtlhbnndnkcpomaaDoor.HO
open Go.RowKit
open BU (IsU words)
open PL (Cfg CC CV May)
open ME (memO sl)
open RM (rmO)
attribute [local go_sem] Oper.semAt_some
attribute [local go_sem ↓] TNot.ld_eq TNot.st_eq TNot.al_eq TNot.bx_eq TBlk.ld_eq TBlk.st_eq TBlk.al_eq TBlk.bx_eq TEnt.ld_eq TEnt.st_eq TEnt.al_eq TEnt.bx_eq bdN_eq bsN_eq
attribute [local go_sem] TNot.al_run TNot.bx_run TBlk.al_run TBlk.bx_run TEnt.al_run TEnt.bx_run
theorem updI_updI {α : Type} (f : Int → α) (i : Int) (x y : α) : updI (updI f i x) i y = updI f i y := by
  funext j; unfold updI; split <;> rfl
section
variable {G : Nat → Prop} {w0 W W' : World} {hb rm : Nat} {S : Hs} {L : List Obj} {F : Nat → Prop}
theorem own_rh_shut {p : Rp} (hf : RFits S p) {M : Nat → Prop} (h : Own W (S.robjs hb rm p L) M) : Own W (rhO hb rm S :: L) M := by
  have h1 := own_unstar (own_tail (fun _ h => own_unstar (own_tail (fun _ h => own_unstar (own_tail (fun _ h => own_unstar h) h)) h)) h)
  obtain ⟨F, a1, a2, a3⟩ := h1
  exact ⟨F, a1, ⟨p, hf, a2⟩, a3⟩
theorem rh_shut1 {p : Rp} {Ψ : Obj} (hf : RFits S p) (h : Sep G w0 W (Ψ :: S.robjs hb rm p L)) : Sep G w0 W (Ψ :: rhO hb rm S :: L) := ⟨h.upd, own_tail (fun _ h => own_rh_shut hf h) h.own⟩
theorem own_rh_open {M : Nat → Prop} (h : Own W (rhO hb rm S :: L) M) : ∃ p, RFits S p ∧ Own W (S.robjs hb rm p L) M := by
  obtain ⟨F, a1, ⟨p, hf, a2⟩, a3⟩ := h
  exact ⟨p, hf, own_tail (fun _ h => own_tail (fun _ h => own_tail (fun _ h => own_star h) (own_star h)) (own_star h)) (own_star ⟨F, a1, a2, a3⟩)⟩
theorem RAt.ldA {X : World} {p : Rp} (hg : Good S) (h : RAt S hb rm p X) {i : Nat} (hi : i < S.n) {j : Jb} (hj : S.J (i : Int) = some j) : (TNot.ld (.pointer (some ⟨p.jb, i * 29 + 1, none⟩))).run Tryd.prog X = .ok (.agg j.ask.cells) X := by
  have hN := Nt.Ok.isN (hg.key _ _ hj).2.2.2.ask.isU
  refine TNot.ld_at hN (h.job.range (i * 29 + 1) _ (fun q v hv => ?_))
  have hq : q < 24 := by have := (List.getElem?_eq_some_iff.1 hv).1; rw [Array.length_toList, hN.1] at this; exact this
  have hlt := idx_lt (k := 29) (r := 1 + q) hi (by omega)
  rw [Array.getElem?_append_left (by rw [rowG_size]; omega), Nat.add_assoc, rowG_get (rjc_isN hg _).1 hi (by omega), hj]
  rw [Array.getElem?_toList] at hv
  exact (Jb.r_ask hN.1 hq).trans hv
/-- The jobs' row, where one is answered. -/
theorem job_ans (hg : Good S) {b : Nat} (hb' : b < S.n) {j : Jb} (hj : S.J (b : Int) = some j) {t : Array Value} :
    (rowG 29 S.n (fun i => rjc (S.J (i : Int))) ++ t).setIfInBounds (b * 29 + 26) (.bool true) = rowG 29 S.n (fun i : Nat => rjc (updI S.J (b : Int) (some { j with ans := true }) (i : Int))) ++ t := by
  have hN := Nt.Ok.isN (hg.key _ _ hj).2.2.2.ask.isU
  have hlt := idx_lt (k := 29) (r := 26) hb' (by omega)
  rw [set_front (by rw [rowG_size]; omega), rowG_setc hb' (by omega) (fun i => (rjc_isN hg _).1), jobs_upd, hj]
  show rowG 29 S.n (updG _ b (j.rcells.setIfInBounds 26 (.bool true))) ++ t = _
  rw [Jb.rset_ans hN.1]
  rfl
/-- The jobs' row, where one is another one. -/
theorem job_put (hg : Good S) {b : Nat} (hb' : b < S.n) {o : Option Jb} (ho : IsN 29 (rjc o)) {t : Array Value} :
    setMany (rowG 29 S.n (fun i => rjc (S.J (i : Int))) ++ t) (b * 29) (rjc o).toList = rowG 29 S.n (fun i : Nat => rjc (updI S.J (b : Int) o (i : Int))) ++ t := by
  rw [rowX_setG (fun i => (rjc_isN hg _).1) ho.1 hb', jobs_upd]
theorem r_answer {p : Rp} (hf : RFits S p) {b : Nat} {j : Jb} (hj : S.J (b : Int) = some j) : RFits (answerP S j).1 p := by
  obtain ⟨h0, h1, h2, h3⟩ := hf.good.key _ _ hj
  exact ⟨good_answer hf.good h3 (by omega) (by omega), hf.ec, hf.jc⟩
set_option maxRecDepth 100000 in
set_option maxHeartbeats 4000000 in
theorem ranswer_is (h : Sep NoF w0 W (rhO hb rm S :: L)) (b : Nat) (j : Jb) (hj : S.J (b : Int) = some j) : Calls Tryd.prog 71 #[ptr hb, .int .i64 b] W fun e W' =>
    ∃ g, e = .returned (sl g 1 1) ∧ Sep NoF w0 W' (boxO g (answerP S j).2.cells NT :: rhO hb rm (answerP S j).1 :: L) := by
  obtain ⟨p, hf, hs⟩ := rh_open h
  have hg := hf.good
  have hdat := hg.data
  have hA := RAt.of hs
  obtain ⟨hj0, hj1, hjb, hjo⟩ := hg.key _ _ hj
  have hbn : b < S.n := by omega
  have hN := Nt.Ok.isN hjo.ask.isU
  have la := hA.ldA hg hbn hj
  have c10 : W.cell? ⟨hb, 10, none⟩ = some (sl p.jb S.n p.jc) := hA.box.cell 10
  have l2 : (TNot.ld (.pointer (some ⟨p.jb, b * 29 + 1, none⟩))).run Tryd.prog (W.alloc (.cells TNot.Z NT)) = .ok (.agg j.ask.cells) (W.alloc (.cells TNot.Z NT)) := (hA.upd (Upd.alloc NoF W _)).ldA hg hbn hj
  have s1 := TNot.st_new hN W
  have hs1 := hs.alloc j.ask.cells NT
  obtain ⟨V, hV⟩ : ∃ V, W.alloc (.cells j.ask.cells NT) = V := ⟨_, rfl⟩
  obtain ⟨xb, hxb⟩ : ∃ x, W.heap.size = x := ⟨_, rfl⟩
  rw [hV, hxb] at hs1
  have HS1 := Lib.hid hs1
  have HV := Lib.hid (And.intro hV hxb)
  have qj := hs1.box 0 rfl
  have hA1 := RAt.of (hs1.drop 0 (by simp))
  have HF := Lib.hid (fun X (hX : Upd NoF V X) => (show X.cell? ⟨xb, 0, none⟩ = some (.int .u8 j.ask.kind) ∧ X.cell? ⟨xb, 1, none⟩ = some (.int .i64 j.ask.frm) ∧ X.cell? ⟨hb, 9, none⟩ = some (sl p.eb S.n p.ec) ∧ (TEnt.ld (.pointer (some ⟨p.eb, b * 2, none⟩))).run Tryd.prog X = .ok (.agg (S.E b).cells) X from
    ⟨((qj.upd hX (fun h => h)).cell 0).trans j.ask.get0, ((qj.upd hX (fun h => h)).cell 1).trans j.ask.get1, (hA1.upd hX).box.cell 9, (hA1.upd hX).ldE hbn⟩))
  have HG := Lib.hid (fun X (hX : Upd NoF V X) => (show Calls Tryd.prog 90 #[.agg (S.E b).cells, .int .u8 j.ask.kind, .int .i64 j.ask.frm] X _ from getsV_eq (S.E b) j.ask.kind j.ask.frm ▸ ET.rgets_e (S.E b).own (S.E b).shr j.ask.kind j.ask.frm X))
  have hans : answerP S j = ({ S with E := updG S.E b (getsP (S.E b) j.ask.kind j.ask.frm).1, J := updI S.J b (some { j with ans := true }) }, ntData j.ask.frm b (getsP (S.E b) j.ask.kind j.ask.frm).2 (S.B b)) := by
    unfold answerP; rw [hjb]; rfl
  have hjc := hf.jc
  have hec := hf.ec
  have hbc : b < p.jc := by omega
  have hbe : b < p.ec := by omega
  have hjm := hjc.2.1
  have hem := hec.2.1
  unfold maxLen at hjm hem
  have HFF := Lib.hid (r_answer hf hj)
  rw [hans] at HFF ⊢
  have HJA := Lib.hid (job_ans hg hbn hj (t := p.jt))
  have HDR := Lib.hid (Upd.drew NoF V)
  have HJ := Lib.hid hjo; have HJJ := Lib.hid hj; have HFI := Lib.hid hf; have HN := Lib.hid hN
  have hlt : (b : Int) < (S.n : Int) := by omega
  clear h hs hs1 hV hxb hjc hec hA hA1 qj hf hg hj hjo hj0 hj1 hans hN hjb
  generalize hgp : getsP (S.E b) j.ask.kind j.ask.frm = gp at *
  generalize hgr : (if ET.askE (S.E b).own (S.E b).shr j.ask.kind j.ask.frm then (0 : Int) else 2) = gr at *
  go_enter Tryd.func71, Tryd.ntmps71
  go_upto_region 2 with fail
  rw [HV.out.1, HV.out.2]
  clear la c10 l2 s1
  refine wp_region_held_drew (S := (fun X => Upd NoF V X)) (by kernel_rfl) (HDR.out) (fun hHeld => ?_)
  refine rgn 0 (v := ?vq8) hHeld ?yq8 ?_
  case yq8 => (intro w hSw; obtain ⟨k0, k1, k2, k3⟩ := HF.out _ hSw; go_simp; try with_reducible rfl)
  simp only [Act.put, rn1, rn2, rn3, rn4, rn5, rn6]
  refine rgn 1 (v := ?vq9) hHeld ?yq9 ?_
  case yq9 => (intro w hSw; obtain ⟨k0, k1, k2, k3⟩ := HF.out _ hSw; go_simp; try with_reducible rfl)
  simp only [Act.put, rn1, rn2, rn3, rn4, rn5, rn6]
  refine rgn 2 (v := ?vq10) hHeld ?yq10 ?_
  case yq10 => (intro w hSw; obtain ⟨k0, k1, k2, k3⟩ := HF.out _ hSw; go_simp; try with_reducible rfl)
  simp only [Act.put, rn1, rn2, rn3, rn4, rn5, rn6]
  refine rgn 3 (v := ?vq11) hHeld ?yq11 ?_
  case yq11 => (intro w hSw; obtain ⟨k0, k1, k2, k3⟩ := HF.out _ hSw; go_simp; try with_reducible rfl)
  simp only [Act.put, rn1, rn2, rn3, rn4, rn5, rn6]
  refine rgn 4 (v := ?vq12) hHeld ?yq12 ?_
  case yq12 => (intro w hSw; obtain ⟨k0, k1, k2, k3⟩ := HF.out _ hSw; go_simp; try with_reducible rfl)
  simp only [Act.put, rn1, rn2, rn3, rn4, rn5, rn6]
  refine rgn 5 (v := ?vq13) hHeld ?yq13 ?_
  case yq13 => (intro w hSw; obtain ⟨k0, k1, k2, k3⟩ := HF.out _ hSw; go_simp; try with_reducible rfl)
  simp only [Act.put, rn1, rn2, rn3, rn4, rn5, rn6]
  refine rgn 6 (v := ?vq14) hHeld ?yq14 ?_
  case yq14 => (intro w hSw; obtain ⟨k0, k1, k2, k3⟩ := HF.out _ hSw; go_simp; try with_reducible rfl)
  simp only [Act.put, rn1, rn2, rn3, rn4, rn5, rn6]
  refine rgn 7 (v := ?vq15) hHeld ?yq15 ?_
  case yq15 => (intro w hSw; obtain ⟨k0, k1, k2, k3⟩ := HF.out _ hSw; go_simp; try with_reducible rfl)
  simp only [Act.put, rn1, rn2, rn3, rn4, rn5, rn6]
  refine rgn 8 (v := ?vq16) hHeld ?yq16 ?_
  case yq16 => (intro w hSw; obtain ⟨k0, k1, k2, k3⟩ := HF.out _ hSw; go_simp; try with_reducible rfl)
  simp only [Act.put, rn1, rn2, rn3, rn4, rn5, rn6]
  refine rgn 9 (v := ?vq17) hHeld ?yq17 ?_
  case yq17 => (intro w hSw; obtain ⟨k0, k1, k2, k3⟩ := HF.out _ hSw; go_simp; try with_reducible rfl)
  simp only [Act.put, rn1, rn2, rn3, rn4, rn5, rn6]
  refine rgn 10 (v := ?vq18) hHeld ?yq18 ?_
  case yq18 => (intro w hSw; obtain ⟨k0, k1, k2, k3⟩ := HF.out _ hSw; go_simp; try with_reducible rfl)
  simp only [Act.put, rn1, rn2, rn3, rn4, rn5, rn6]
  refine reg_two (i := 11) (j := 16) (by kernel_rfl) rfl rfl (by kernel_rfl) (by kernel_rfl) (fun K hK => ?_) (fun K hK => ?_)
  · go_simp
    refine (HG.out _ hHeld).mono ?_
    rintro e W2 ⟨rfl, hu⟩
    have HS : (fun X => Upd NoF V X) W2 := hHeld.trans hu (fun _ _ h => h)
    have HU2 := Lib.hid HS; clear hu
    go_wp2_with fail
    refine hK.out _ _ HS (fun hHeld2 => ?_)
    clear hK hHeld2 hHeld; have hHeld := HS; clear HS
    try simp only [Act.put, rn1, rn2, rn3, rn4, rn5, rn6]
    refine rgn 12 (v := ?vq19) hHeld ?yq19 ?_
    case yq19 => (intro w hSw; go_simp; try with_reducible rfl)
    simp only [Act.put, rn1, rn2, rn3, rn4, rn5, rn6]
    refine rgn 13 (v := ?vq20) hHeld ?yq20 ?_
    case yq20 => (intro w hSw; go_simp; try with_reducible rfl)
    simp only [Act.put, rn1, rn2, rn3, rn4, rn5, rn6]
    refine rgn 14 (v := ?vq21) hHeld ?yq21 ?_
    case yq21 => (intro w hSw; go_simp; try with_reducible rfl)
    simp only [Act.put, rn1, rn2, rn3, rn4, rn5, rn6]
    refine rgn 15 (v := ?vq22) hHeld ?yq22 ?_
    case yq22 => (intro w hSw; go_simp; try with_reducible rfl)
    simp only [Act.put, rn1, rn2, rn3, rn4, rn5, rn6]
    refine reg_step (i := 16) (by kernel_rfl) rfl (by kernel_rfl) (fun K hK => ?_)
    go_simp
    have hx := En.isN gp.1
    have s1 := TEnt.st_new hx W2
    have HS : (fun X => Upd NoF V X) (W2.alloc (.cells TEnt.Z ET')) := hHeld.trans (Upd.alloc NoF _ _) (fun _ _ h => h)
    have hsz : V.heap.size ≤ W2.heap.size := hHeld.size
    refine hK.out _ _ HS (fun hHeld2 => ?_)
    clear hK hHeld2 hHeld; have hHeld := HS; clear HS
    try simp only [Act.put, rn1, rn2, rn3, rn4, rn5, rn6]
    refine reg_step (i := 17) (by kernel_rfl) rfl (by kernel_rfl) (fun K hK => ?_)
    go_simp
    have HS : (fun X => Upd NoF V X) (W2.alloc (.cells gp.1.cells ET')) := HU2.out.trans (Upd.alloc NoF _ _) (fun _ _ h => h)
    have hq9 := Blk.new W2 gp.1.cells ET'
    clear s1
    refine hK.out _ _ HS (fun hHeld2 => ?_)
    clear hK hHeld2 hHeld; have hHeld := HS; clear HS
    try simp only [Act.put, rn1, rn2, rn3, rn4, rn5, rn6]
    refine rgn 18 (v := ?vq23) hHeld ?yq23 ?_
    case yq23 => (intro w hSw; go_simp; try with_reducible rfl)
    simp only [Act.put, rn1, rn2, rn3, rn4, rn5, rn6]
    refine rgn 19 (v := ?vq24) hHeld ?yq24 ?_
    case yq24 => (intro w hSw; go_simp; try with_reducible rfl)
    simp only [Act.put, rn1, rn2, rn3, rn4, rn5, rn6]
    refine wpAnyH_done (by kernel_rfl) ?_ _
    obtain ⟨X9, hX9⟩ : ∃ X9, W2.alloc (.cells gp.1.cells ET') = X9 := ⟨_, rfl⟩
    rw [hX9] at hHeld hq9
    rw [hX9]
    clear hX9
    have hs9 := (HS1.out.upd0 hHeld).upd0 (Upd.drew NoF X9)
    have hqd := hq9.upd (Upd.drew NoF X9) (fun h => h)
    have d0 := TEnt.ld_at (En.isN gp.1) hqd.whole
    have d2 : X9.drew.cell? ⟨hb, 9, none⟩ = some (sl p.eb S.n p.ec) := (hs9.box 1 rfl).cell 9
    obtain ⟨X10, hX10⟩ : ∃ X10, X9.drew.setCells p.eb (b * 2) gp.1.cells.toList = X10 := ⟨_, rfl⟩
    have d5 := est_mid (En.isN gp.1) (hs9.box 3 rfl) (o := b * 2) (by rw [Array.size_append, rowG_size]; omega)
    have hs10 := hs9.setMG 3 rfl (b * 2) gp.1.cells.toList
    simp only [List.set_cons_zero, List.set_cons_succ, ent_set hbn gp.1] at hs10
    rw [hX10] at d5 hs10
    have hq10 : Blk X10 W2.heap.size gp.1.cells ET' := by
      have hlte := (HS1.out.box 3 rfl).lt
      rw [← hX10]
      exact hqd.upd (upd_setCells _ _ _) (fun e => by have e : W2.heap.size = p.eb := e; omega)
    have HE0 : Hid ((fun X : World => X.cell? ⟨hb, 9, none⟩ = some (sl p.eb S.n p.ec) ∧ (TEnt.ld (.pointer (some ⟨W2.heap.size, 0, none⟩))).run Tryd.prog X = .ok (.agg gp.1.cells) X) X9.drew) := Lib.hid ⟨d2, d0⟩
    have HE1 : Hid ((fun X : World => X.cell? ⟨hb, 9, none⟩ = some (sl p.eb S.n p.ec) ∧ (TEnt.ld (.pointer (some ⟨W2.heap.size, 0, none⟩))).run Tryd.prog X = .ok (.agg gp.1.cells) X) X10) := Lib.hid ⟨(hs10.box 1 rfl).cell 9, TEnt.ld_at (En.isN gp.1) hq10.whole⟩
    clear hq10 d2 d0
    have x0 : X10.cell? ⟨hb, 10, none⟩ = some (sl p.jb S.n p.jc) := (hs10.box 1 rfl).cell 10
    have x1 : X10.cell? ⟨p.jb, b * 29 + 26, none⟩ = some (.bool j.ans) := by
      have hlt2 := idx_lt (k := 29) (r := 26) hbn (by omega)
      refine ((hs10.box 4 rfl).cell (b * 29 + 26)).trans ?_
      rw [Array.getElem?_append_left (by rw [rowG_size]; omega), rowG_get (rjc_isN HFI.out.good _).1 hbn (by omega), HJJ.out]
      exact (Jb.r_tail HN.out.1 1).trans rfl
    have x2 := (hs10.box 4 rfl).frozen (b * 29 + 26)
    have hs11 := hs10.set 4 rfl (b * 29 + 26) (.bool true)
    simp only [List.set_cons_zero, List.set_cons_succ] at hs11
    rw [HJA.out] at hs11
    obtain ⟨X11, hX11⟩ : ∃ X11, X10.setCell ⟨p.jb, b * 29 + 26, none⟩ (.bool true) = X11 := ⟨_, rfl⟩
    rw [hX11] at hs11
    have x6 : X11.cell? ⟨hb, 8, none⟩ = some (ptr rm) := (hs11.box 1 rfl).cell 8
    obtain ⟨F2, hm⟩ := hs11.has 2 rfl
    have HBL := Lib.hid (RM.block_ok hm (by omega) b (by omega))
    have hD := HFI.out.good.isU b
    have HS12 := Lib.hid hs11
    have HX11 := Lib.hid hX11
    have HD := Lib.hid hD
    clear hs9 hqd hq9 hs10 hHeld hX10 hs11 hX11 hm hD
    go_wp2_with fail
    refine wp_region_held_drew (S := (fun X : World => X.cell? ⟨hb, 9, none⟩ = some (sl p.eb S.n p.ec) ∧ (TEnt.ld (.pointer (some ⟨W2.heap.size, 0, none⟩))).run Tryd.prog X = .ok (.agg gp.1.cells) X)) (by kernel_rfl) (HE0.out) (fun hHeld => ?_)
    refine rgn 0 (v := ?vq1) hHeld ?yq1 ?_
    case yq1 => (intro w hSw; obtain ⟨k0, k1⟩ := hSw; go_simp; try with_reducible rfl)
    simp only [Act.put, rn1, rn2, rn3, rn4, rn5, rn6]
    refine rgn 1 (v := ?vq2) hHeld ?yq2 ?_
    case yq2 => (intro w hSw; obtain ⟨k0, k1⟩ := hSw; go_simp; try with_reducible rfl)
    simp only [Act.put, rn1, rn2, rn3, rn4, rn5, rn6]
    refine rgn 2 (v := ?vq3) hHeld ?yq3 ?_
    case yq3 => (intro w hSw; obtain ⟨k0, k1⟩ := hSw; go_simp; try with_reducible rfl)
    simp only [Act.put, rn1, rn2, rn3, rn4, rn5, rn6]
    refine rgn 3 (v := ?vq4) hHeld ?yq4 ?_
    case yq4 => (intro w hSw; obtain ⟨k0, k1⟩ := hSw; go_simp; try with_reducible rfl)
    simp only [Act.put, rn1, rn2, rn3, rn4, rn5, rn6]
    refine rgn 4 (v := ?vq5) hHeld ?yq5 ?_
    case yq5 => (intro w hSw; obtain ⟨k0, k1⟩ := hSw; go_simp; try with_reducible rfl)
    simp only [Act.put, rn1, rn2, rn3, rn4, rn5, rn6]
    refine rgn 5 (v := ?vq6) hHeld ?yq6 ?_
    case yq6 => (intro w hSw; obtain ⟨k0, k1⟩ := hSw; go_simp; try with_reducible rfl)
    simp only [Act.put, rn1, rn2, rn3, rn4, rn5, rn6]
    refine rgn 6 (v := ?vq7) hHeld ?yq7 ?_
    case yq7 => (intro w hSw; obtain ⟨k0, k1⟩ := hSw; go_simp; try with_reducible rfl)
    simp only [Act.put, rn1, rn2, rn3, rn4, rn5, rn6]
    refine reg_step (i := 7) (by kernel_rfl) rfl (by kernel_rfl) (fun K hK => ?_)
    go_simp
    have HS := HE1.out
    refine hK.out _ _ HS (fun hHeld2 => ?_)
    clear hK hHeld2 hHeld; have hHeld := HS; clear HS
    try simp only [Act.put, rn1, rn2, rn3, rn4, rn5, rn6]
    refine wpAnyH_done (by kernel_rfl) ?_ _
    go_upto_region 5 with fail
    rw [HX11.out]
    clear x0 x1 x2
    go_wp2_with fail
    refine HBL.out.mono ?_
    rintro e X13 ⟨rfl, hu⟩
    have hs13 := HS12.out.upd0 hu
    have s13 := TBlk.st_new HD.out.isN X13
    have l13 := TBlk.ld_new HD.out.isN X13
    have hs14 := hs13.upd0 (Upd.alloc NoF X13 (.cells (S.B b) 45))
    obtain ⟨X14, hX14⟩ : ∃ X14, X13.alloc (.cells (S.B b) 45) = X14 := ⟨_, rfl⟩
    rw [hX14] at s13 l13 hs14
    have y1 : X14.cell? ⟨xb, 1, none⟩ = some (.int .i64 j.ask.frm) := ((hs14.box 0 rfl).cell 1).trans j.ask.get1
    have y2 := fun w => bd_data HD.out.1 j.ask.frm b gp.2 w
    have hnS : (ntData j.ask.frm b gp.2 (S.B b)).cells.size = 24 := (Nt.Ok.isN (n := ntData j.ask.frm b gp.2 (S.B b)) HD.out).1
    have y3 := fun w => bsN_run hnS w
    have HS15 := Lib.hid (hs14.alloc (ntData j.ask.frm b gp.2 (S.B b)).cells NT)
    clear hs13 hs14 hX14 hu hnS x6
    go_wp2
    go_ret
    refine ⟨_, rfl, rh_shut1 HFF.out ?_⟩
    exact HS15.out.drop 1 (by simp)
  · go_simp
    have hq : Blk (V.alloc (.cells TEnt.Z ET')).drew V.heap.size TEnt.Z ET' := Blk.new V.drew TEnt.Z ET'
    have HS : (fun X => Upd NoF V X) (V.alloc (.cells TEnt.Z ET')).drew := HDR.out.trans (Upd.alloc NoF V.drew (.cells TEnt.Z ET')) (fun _ _ h => h)
    have HQ0 := Lib.hid hq
    clear hq
    refine hK.out _ _ HS (fun hHeld2 => ?_)
    clear hK hHeld2 hHeld; have hHeld := HS; clear HS
    try simp only [Act.put, rn1, rn2, rn3, rn4, rn5, rn6]
    refine reg_step (i := 11) (by kernel_rfl) rfl (by kernel_rfl) (fun K hK => ?_)
    go_simp
    refine (HG.out _ hHeld).mono ?_
    rintro e W2 ⟨rfl, hu⟩
    have HS : (fun X => Upd NoF V X) W2 := hHeld.trans hu (fun _ _ h => h)
    obtain ⟨s1, q1⟩ := TEnt.st_at TEnt.isZ (En.isN gp.1) (HQ0.out.upd hu (fun h => h)); clear hu HQ0
    go_wp2_with fail
    refine hK.out _ _ HS (fun hHeld2 => ?_)
    clear hK hHeld2 hHeld; have hHeld := HS; clear HS
    try simp only [Act.put, rn1, rn2, rn3, rn4, rn5, rn6]
    refine rgn 12 (v := ?vq25) hHeld ?yq25 ?_
    case yq25 => (intro w hSw; go_simp; try with_reducible rfl)
    simp only [Act.put, rn1, rn2, rn3, rn4, rn5, rn6]
    refine rgn 13 (v := ?vq26) hHeld ?yq26 ?_
    case yq26 => (intro w hSw; go_simp; try with_reducible rfl)
    simp only [Act.put, rn1, rn2, rn3, rn4, rn5, rn6]
    refine rgn 14 (v := ?vq27) hHeld ?yq27 ?_
    case yq27 => (intro w hSw; go_simp; try with_reducible rfl)
    simp only [Act.put, rn1, rn2, rn3, rn4, rn5, rn6]
    refine rgn 15 (v := ?vq28) hHeld ?yq28 ?_
    case yq28 => (intro w hSw; go_simp; try with_reducible rfl)
    simp only [Act.put, rn1, rn2, rn3, rn4, rn5, rn6]
    refine reg_step (i := 17) (by kernel_rfl) rfl (by kernel_rfl) (fun K hK => ?_)
    go_simp
    have HS : (fun X => Upd NoF V X) (W2.setCells V.heap.size 0 gp.1.cells.toList) := hHeld.trans (upd_setCells _ 0 _) (fun i hi e => by have e : i = V.heap.size := e; omega)
    have hq9 := q1
    clear s1 q1
    refine hK.out _ _ HS (fun hHeld2 => ?_)
    clear hK hHeld2 hHeld; have hHeld := HS; clear HS
    try simp only [Act.put, rn1, rn2, rn3, rn4, rn5, rn6]
    refine rgn 18 (v := ?vq29) hHeld ?yq29 ?_
    case yq29 => (intro w hSw; go_simp; try with_reducible rfl)
    simp only [Act.put, rn1, rn2, rn3, rn4, rn5, rn6]
    refine rgn 19 (v := ?vq30) hHeld ?yq30 ?_
    case yq30 => (intro w hSw; go_simp; try with_reducible rfl)
    simp only [Act.put, rn1, rn2, rn3, rn4, rn5, rn6]
    refine wpAnyH_done (by kernel_rfl) ?_ _
    obtain ⟨X9, hX9⟩ : ∃ X9, W2.setCells V.heap.size 0 gp.1.cells.toList = X9 := ⟨_, rfl⟩
    rw [hX9] at hHeld hq9
    rw [hX9]
    clear hX9
    have hs9 := (HS1.out.upd0 hHeld).upd0 (Upd.drew NoF X9)
    have hqd := hq9.upd (Upd.drew NoF X9) (fun h => h)
    have d0 := TEnt.ld_at (En.isN gp.1) hqd.whole
    have d2 : X9.drew.cell? ⟨hb, 9, none⟩ = some (sl p.eb S.n p.ec) := (hs9.box 1 rfl).cell 9
    obtain ⟨X10, hX10⟩ : ∃ X10, X9.drew.setCells p.eb (b * 2) gp.1.cells.toList = X10 := ⟨_, rfl⟩
    have d5 := est_mid (En.isN gp.1) (hs9.box 3 rfl) (o := b * 2) (by rw [Array.size_append, rowG_size]; omega)
    have hs10 := hs9.setMG 3 rfl (b * 2) gp.1.cells.toList
    simp only [List.set_cons_zero, List.set_cons_succ, ent_set hbn gp.1] at hs10
    rw [hX10] at d5 hs10
    have hq10 : Blk X10 V.heap.size gp.1.cells ET' := by
      have hlte := (HS1.out.box 3 rfl).lt
      rw [← hX10]
      exact hqd.upd (upd_setCells _ _ _) (fun e => by have e : V.heap.size = p.eb := e; omega)
    have HE0 : Hid ((fun X : World => X.cell? ⟨hb, 9, none⟩ = some (sl p.eb S.n p.ec) ∧ (TEnt.ld (.pointer (some ⟨V.heap.size, 0, none⟩))).run Tryd.prog X = .ok (.agg gp.1.cells) X) X9.drew) := Lib.hid ⟨d2, d0⟩
    have HE1 : Hid ((fun X : World => X.cell? ⟨hb, 9, none⟩ = some (sl p.eb S.n p.ec) ∧ (TEnt.ld (.pointer (some ⟨V.heap.size, 0, none⟩))).run Tryd.prog X = .ok (.agg gp.1.cells) X) X10) := Lib.hid ⟨(hs10.box 1 rfl).cell 9, TEnt.ld_at (En.isN gp.1) hq10.whole⟩
    clear hq10 d2 d0
    have x0 : X10.cell? ⟨hb, 10, none⟩ = some (sl p.jb S.n p.jc) := (hs10.box 1 rfl).cell 10
    have x1 : X10.cell? ⟨p.jb, b * 29 + 26, none⟩ = some (.bool j.ans) := by
      have hlt2 := idx_lt (k := 29) (r := 26) hbn (by omega)
      refine ((hs10.box 4 rfl).cell (b * 29 + 26)).trans ?_
      rw [Array.getElem?_append_left (by rw [rowG_size]; omega), rowG_get (rjc_isN HFI.out.good _).1 hbn (by omega), HJJ.out]
      exact (Jb.r_tail HN.out.1 1).trans rfl
    have x2 := (hs10.box 4 rfl).frozen (b * 29 + 26)
    have hs11 := hs10.set 4 rfl (b * 29 + 26) (.bool true)
    simp only [List.set_cons_zero, List.set_cons_succ] at hs11
    rw [HJA.out] at hs11
    obtain ⟨X11, hX11⟩ : ∃ X11, X10.setCell ⟨p.jb, b * 29 + 26, none⟩ (.bool true) = X11 := ⟨_, rfl⟩
    rw [hX11] at hs11
    have x6 : X11.cell? ⟨hb, 8, none⟩ = some (ptr rm) := (hs11.box 1 rfl).cell 8
    obtain ⟨F2, hm⟩ := hs11.has 2 rfl
    have HBL := Lib.hid (RM.block_ok hm (by omega) b (by omega))
    have hD := HFI.out.good.isU b
    have HS12 := Lib.hid hs11
    have HX11 := Lib.hid hX11
    have HD := Lib.hid hD
    clear hs9 hqd hq9 hs10 hHeld hX10 hs11 hX11 hm hD
    go_wp2_with fail
    refine wp_region_held_drew (S := (fun X : World => X.cell? ⟨hb, 9, none⟩ = some (sl p.eb S.n p.ec) ∧ (TEnt.ld (.pointer (some ⟨V.heap.size, 0, none⟩))).run Tryd.prog X = .ok (.agg gp.1.cells) X)) (by kernel_rfl) (HE0.out) (fun hHeld => ?_)
    refine rgn 0 (v := ?vq1) hHeld ?yq1 ?_
    case yq1 => (intro w hSw; obtain ⟨k0, k1⟩ := hSw; go_simp; try with_reducible rfl)
    simp only [Act.put, rn1, rn2, rn3, rn4, rn5, rn6]
    refine rgn 1 (v := ?vq2) hHeld ?yq2 ?_
    case yq2 => (intro w hSw; obtain ⟨k0, k1⟩ := hSw; go_simp; try with_reducible rfl)
    simp only [Act.put, rn1, rn2, rn3, rn4, rn5, rn6]
    refine rgn 2 (v := ?vq3) hHeld ?yq3 ?_
    case yq3 => (intro w hSw; obtain ⟨k0, k1⟩ := hSw; go_simp; try with_reducible rfl)
    simp only [Act.put, rn1, rn2, rn3, rn4, rn5, rn6]
    refine rgn 3 (v := ?vq4) hHeld ?yq4 ?_
    case yq4 => (intro w hSw; obtain ⟨k0, k1⟩ := hSw; go_simp; try with_reducible rfl)
    simp only [Act.put, rn1, rn2, rn3, rn4, rn5, rn6]
    refine rgn 4 (v := ?vq5) hHeld ?yq5 ?_
    case yq5 => (intro w hSw; obtain ⟨k0, k1⟩ := hSw; go_simp; try with_reducible rfl)
    simp only [Act.put, rn1, rn2, rn3, rn4, rn5, rn6]
    refine rgn 5 (v := ?vq6) hHeld ?yq6 ?_
    case yq6 => (intro w hSw; obtain ⟨k0, k1⟩ := hSw; go_simp; try with_reducible rfl)
    simp only [Act.put, rn1, rn2, rn3, rn4, rn5, rn6]
    refine rgn 6 (v := ?vq7) hHeld ?yq7 ?_
    case yq7 => (intro w hSw; obtain ⟨k0, k1⟩ := hSw; go_simp; try with_reducible rfl)
    simp only [Act.put, rn1, rn2, rn3, rn4, rn5, rn6]
    refine reg_step (i := 7) (by kernel_rfl) rfl (by kernel_rfl) (fun K hK => ?_)
    go_simp
    have HS := HE1.out
    refine hK.out _ _ HS (fun hHeld2 => ?_)
    clear hK hHeld2 hHeld; have hHeld := HS; clear HS
    try simp only [Act.put, rn1, rn2, rn3, rn4, rn5, rn6]
    refine wpAnyH_done (by kernel_rfl) ?_ _
    go_upto_region 5 with fail
    rw [HX11.out]
    clear x0 x1 x2
    go_wp2_with fail
    refine HBL.out.mono ?_
    rintro e X13 ⟨rfl, hu⟩
    have hs13 := HS12.out.upd0 hu
    have s13 := TBlk.st_new HD.out.isN X13
    have l13 := TBlk.ld_new HD.out.isN X13
    have hs14 := hs13.upd0 (Upd.alloc NoF X13 (.cells (S.B b) 45))
    obtain ⟨X14, hX14⟩ : ∃ X14, X13.alloc (.cells (S.B b) 45) = X14 := ⟨_, rfl⟩
    rw [hX14] at s13 l13 hs14
    have y1 : X14.cell? ⟨xb, 1, none⟩ = some (.int .i64 j.ask.frm) := ((hs14.box 0 rfl).cell 1).trans j.ask.get1
    have y2 := fun w => bd_data HD.out.1 j.ask.frm b gp.2 w
    have hnS : (ntData j.ask.frm b gp.2 (S.B b)).cells.size = 24 := (Nt.Ok.isN (n := ntData j.ask.frm b gp.2 (S.B b)) HD.out).1
    have y3 := fun w => bsN_run hnS w
    have HS15 := Lib.hid (hs14.alloc (ntData j.ask.frm b gp.2 (S.B b)).cells NT)
    clear hs13 hs14 hX14 hu hnS x6
    go_wp2
    go_ret
    refine ⟨_, rfl, rh_shut1 HFF.out ?_⟩
    exact HS15.out.drop 1 (by simp)
end
end Go.Proofs.YtlhbnndnkcpomaaDoor.HO

set_option linter.unusedSimpArgs false
set_option linter.unusedVariables false
namespace Go.Proofs.YtlhbnndnkcpomaaDoor.HO
open Go.RowKit
open BU (IsU words)
open PL (Cfg CC CV May)
open ME (memO sl)
open RM (rmO)
open ET (askedV)
/-- A job of the reference is made. -/
def bdR (parts : Array (Nat × Value)) : Sem Value := Instr.build RJT parts
theorem bdR_eq (parts : Array (Nat × Value)) : Instr.build RJT parts = bdR parts := rfl
attribute [local go_sem] Oper.semAt_some
attribute [local go_sem ↓] TNot.ld_eq TNot.st_eq TNot.al_eq TNot.bx_eq TRjb.ld_eq TRjb.st_eq TRjb.al_eq TRjb.bx_eq TBlk.ld_eq TBlk.st_eq TBlk.al_eq TBlk.bx_eq TEnt.ld_eq TEnt.st_eq TEnt.al_eq TEnt.bx_eq bdN_eq bdR_eq bsN_eq
attribute [local go_sem] TNot.al_run TNot.bx_run TBlk.al_run TBlk.bx_run TEnt.al_run TEnt.bx_run TRjb.al_run TRjb.bx_run
set_option maxRecDepth 100000 in
theorem rjPl (w : World) : ((Tryd.prog.fieldsOf RJT).mapM fun (f : Field) => do pure (f.offset, ← sizeOf f.type) : Sem (Array (Nat × Nat))).run Tryd.prog w = .ok #[(0, 1), (1, 24), (25, 1), (26, 1), (27, 1), (28, 1)] w := by
  have hf : ((Tryd.prog.fieldsOf RJT).toList.map fun f => (f.offset, f.type)) = [(0, 4), (1, 47), (25, 57), (26, 4), (27, 4), (28, 41)] := by kernel_rfl
  have e : Tryd.prog.fieldsOf RJT = (Tryd.prog.fieldsOf RJT).toList.toArray := by simp
  rw [e]
  generalize (Tryd.prog.fieldsOf RJT).toList = l at *
  match l, hf with
  | [f0, f1, f2, f3, f4, f5], hf =>
    simp only [List.map_cons, List.map_nil, List.cons.injEq, Prod.mk.injEq, and_true] at hf
    obtain ⟨⟨a0, b0⟩, ⟨a1, b1⟩, ⟨a2, b2⟩, ⟨a3, b3⟩, ⟨a4, b4⟩, a5, b5⟩ := hf
    simp [a0, a1, a2, a3, a4, a5, b0, b1, b2, b3, b4, b5, Tryd.sizeOf47, Tryd.sizeOf57, Tryd.sizeOf4, Tryd.sizeOf41]
set_option maxRecDepth 100000 in
theorem bd_rjob {n : Nt} (hn : n.cells.size = 24) (who : Mk) (w : World) : (bdR #[(0, .bool true), (1, .agg n.cells), (2, VM who)]).run Tryd.prog w = .ok (.agg (Jb.mk n who false false 0).rcells) w := by
  refine build_run (pl := [(0, 1), (1, 24), (25, 1), (26, 1), (27, 1), (28, 1)]) Tryd.underlying90 TRjb.infoZ rjPl _ _ ?_ w
  rw [fill_step (off := 0) (size := 1) rfl rfl (by decide), fill_step (v := .agg n.cells) (off := 1) (size := 24) rfl hn (by rw [size_setMany]; decide), fill_step (off := 25) (size := 1) rfl rfl (by rw [size_setMany, size_setMany]; decide), fill_nil]
  congr 1
  apply Array.ext_getElem?
  intro j
  have hs0 : TRjb.Z.size = 29 := TRjb.size_Z
  rw [get_setMany, size_setMany, size_setMany, get_setMany, size_setMany, get_setMany, hs0]
  have hl : (Value.agg n.cells).cells.toList.length = 24 := by show n.cells.toList.length = 24; simp [hn]
  rw [hl]
  unfold Jb.rcells
  rcases Nat.lt_trichotomy j 25 with h1 | h1 | h1
  · rw [if_neg (by omega)]
    by_cases h0 : j = 0
    · subst h0; rw [Array.getElem?_append_left (by simp; omega), Array.getElem?_append_left (by simp)]; rfl
    · rw [if_pos (by omega), Array.getElem?_append_left (by simp [hn]; omega), Array.getElem?_append_right (by simp; omega)]
      show n.cells.toList[j - 1]? = _
      simp
  · subst h1
    rw [if_pos ⟨by omega, by simp [Value.cells], by omega⟩, Array.getElem?_append_right (by simp [hn])]
    simp [hn, Value.cells, Jb.tail]
  · rw [if_neg (by simp [Value.cells]; omega), if_neg (by omega), if_neg (by simp [Value.cells]; omega), Array.getElem?_append_right (by simp [hn]; omega)]
    by_cases h3 : j < 29
    · have : j = 26 ∨ j = 27 ∨ j = 28 := by omega
      have e25 : (#[Value.bool true] ++ n.cells).size = 25 := by simp [hn]
      rw [e25]
      rcases this with rfl | rfl | rfl <;> rfl
    · rw [Array.getElem?_eq_none (by omega), Array.getElem?_eq_none (by simp [hn, Jb.tail]; omega)]
theorem rst_mid {x X : Array Value} (hx : IsN 29 x) {w : World} {b o : Nat} {T : TypeId} (h : Blk w b X T) (ho : o + 29 ≤ X.size) : (TRjb.st (.pointer (some ⟨b, o, none⟩)) (.agg x)).run Tryd.prog w = .ok () (w.setCells b o x.toList) :=
  run_storeAt_mid w b o RJT x (there_of h (by rw [hx.1]; exact ho)) (by rw [TRjb.infoS, hx.1]) hx.all
theorem asksL_len {who : Mk} {by_ b st : Int} {k : Nat} (h : k ≤ (bitsL who).length) : (asksL who by_ b st k).length = k := by
  unfold asksL; rw [List.length_map, List.length_take]; omega
theorem asksL_app {who : Mk} {by_ b st : Int} {k x : Nat} (h : (bitsL who)[k]? = some x) : asksL who by_ b st k ++ [ntAsk by_ (x : Int) b st] = asksL who by_ b st (k + 1) := by
  obtain ⟨h1, h2⟩ := List.getElem?_eq_some_iff.1 h
  unfold asksL
  rw [List.take_succ_eq_append_getElem h1, h2]
  simp
theorem asksL_isU {who : Mk} {by_ b st : Int} {k : Nat} : ∀ m ∈ asksL who by_ b st k, IsU m.D := fun m hm => by
  unfold asksL at hm
  obtain ⟨x, -, rfl⟩ := List.mem_map.1 hm
  exact BU.isU_Z
theorem asksL_all {who : Mk} {by_ b st : Int} : asksL who by_ b st (bitsL who).length = (bitsL who).map fun x : Nat => ntAsk by_ (x : Int) b st := by
  unfold asksL; rw [List.take_of_length_le (Nat.le_refl _)]
section
variable {ops : Array Oper} {o : Oper} {a : Act} {w : World} {K : Act → World → Prop} {Q : Exit → Act → World → Prop}
theorem oper_app (s x : Operand) (t : TypeId) (hop : o.op = Op.call { callee := Callee.builtin Builtin.append, args := #[s, x], argTypes := #[t, t] })
    {v vx v' : Value} {w' : World} (hs : a.eval s = v) (hx : a.eval x = vx) (hr : (Builtin.append_ #[t, t] o.type #[v, vx]).run Tryd.prog w = .ok v' w')
    (hK : K (a.put o.dst v') w') : Oper.wp Tryd.prog o a w K Q := by
  unfold Oper.wp
  simp [execOp, hop, resolve, invoke, builtin, hs, hx, hr, Result.andThen]
  exact hK
end
section
variable {G : Nat → Prop} {w0 W W' : World} {hb rm : Nat} {S : Hs} {L : List Obj} {F : Nat → Prop}
theorem r_put {p : Rp} (hf : RFits S p) {n : Nt} (hn : n.Ok) (hk : n.kind = 3) : RFits (beginP S n).1 p := by
  have e : (beginP S n).1.n = S.n := by unfold beginP; rw [if_pos hk]; rfl
  exact ⟨good_put hf.good hn hk, e ▸ hf.ec, e ▸ hf.jc⟩
set_option maxRecDepth 100000 in
set_option maxHeartbeats 4000000 in
theorem rbegin_put (h : Sep NoF w0 W (rhO hb rm S :: L)) (n : Nt) (hn : n.Ok) (h0 : 0 ≤ n.blk) (h1 : n.blk < S.data) (hk3 : n.kind = 3) : Calls Tryd.prog 67 #[ptr hb, .agg n.cells] W fun e W' =>
    ∃ v, e = .returned v ∧ Sep NoF w0 W' (outO v (beginP S n).2 :: rhO hb rm (beginP S n).1 :: L) := by
  obtain ⟨p, hf, hs⟩ := rh_open h
  have hg := hf.good
  have hdat := hg.data
  obtain ⟨b, hbk⟩ : ∃ b : Nat, n.blk = b := ⟨n.blk.toNat, by omega⟩
  have hbn : b < S.n := by omega
  have hnN := Nt.Ok.isN hn.isU
  have hs1 := hs.alloc n.cells NT
  obtain ⟨V, hV⟩ : ∃ V, W.alloc (.cells n.cells NT) = V := ⟨_, rfl⟩
  obtain ⟨nb, hnb⟩ : ∃ x, W.heap.size = x := ⟨_, rfl⟩
  rw [hV, hnb] at hs1
  have HV := Lib.hid (And.intro hV hnb); have HS1 := Lib.hid hs1; have HFI := Lib.hid hf
  have hA1 := RAt.of (hs1.drop 0 (by simp))
  have qn := hs1.box 0 rfl
  have HF := Lib.hid (fun X (hX : Upd NoF V X) => (show X.cell? ⟨nb, 1, none⟩ = some (.int .i64 n.frm) ∧ X.cell? ⟨nb, 7, none⟩ = some (.bool n.stick) ∧ X.cell? ⟨hb, 9, none⟩ = some (sl p.eb S.n p.ec) ∧ (TEnt.ld (.pointer (some ⟨p.eb, b * 2, none⟩))).run Tryd.prog X = .ok (.agg (S.E b).cells) X from
    ⟨((qn.upd hX (fun h => h)).cell 1).trans n.get1, ((qn.upd hX (fun h => h)).cell 7).trans n.get7, (hA1.upd hX).box.cell 9, (hA1.upd hX).ldE hbn⟩))
  have v0 : V.cell? ⟨nb, 0, none⟩ = some (.int .u8 3) := (qn.cell 0).trans (by rw [← hk3]; exact n.get0)
  have v3 : V.cell? ⟨nb, 3, none⟩ = some (.int .i64 b) := (qn.cell 3).trans (by rw [← hbk]; exact n.get3)
  have HG := Lib.hid (fun X => (show Calls Tryd.prog 87 #[.agg (S.E b).cells, .int .i64 n.frm, .bool n.stick] X _ from backV_eq (S.E b) n.frm n.stick ▸ ET.rback_e (S.E b).own (S.E b).shr n.frm n.stick X))
  have hbeg : beginP S n = ({ S with E := updG S.E b (backP (S.E b) n.frm n.stick).1, B := if (backP (S.E b) n.frm n.stick).2 then updG S.B b n.D else S.B }, [ntAck n.frm b]) := by
    unfold beginP; rw [if_pos hk3, hbk]; rfl
  have hec := hf.ec
  have hbe : b < p.ec := by omega
  have hem := hec.2.1
  unfold maxLen at hem
  have hlt : (b : Int) < (S.n : Int) := by omega
  have HFF := Lib.hid (r_put hf hn hk3)
  rw [hbeg] at HFF ⊢
  have HDR := Lib.hid (Upd.drew NoF V)
  have HN := Lib.hid hn
  have HNN := Lib.hid hnN
  clear h hs hs1 hV hnb hf hg hA1 qn hbeg hec hk3
  generalize (backP (S.E b) n.frm n.stick).1 = ge at *
  generalize (backP (S.E b) n.frm n.stick).2 = gt at *
  generalize hgr : (if ET.mayE (S.E b).own (S.E b).shr && ET.coreB n.frm then (0 : Int) else 2) = gr at *
  go_enter Tryd.func67, Tryd.ntmps67
  go_upto_region 1 with fail
  rw [HV.out.1, HV.out.2]
  go_wp2_with fail
  refine wp_region_held_drew (S := (fun X => Upd NoF V X)) (by kernel_rfl) (HDR.out) (fun hHeld => ?_)
  refine rgn 0 (v := ?vq8) hHeld ?yq8 ?_
  case yq8 => (intro w hSw; obtain ⟨k0, k1, k2, k3⟩ := HF.out _ hSw; go_simp; try with_reducible rfl)
  simp only [Act.put, rn1, rn2, rn3, rn4, rn5, rn6]
  refine rgn 1 (v := ?vq9) hHeld ?yq9 ?_
  case yq9 => (intro w hSw; obtain ⟨k0, k1, k2, k3⟩ := HF.out _ hSw; go_simp; try with_reducible rfl)
  simp only [Act.put, rn1, rn2, rn3, rn4, rn5, rn6]
  refine rgn 2 (v := ?vq10) hHeld ?yq10 ?_
  case yq10 => (intro w hSw; obtain ⟨k0, k1, k2, k3⟩ := HF.out _ hSw; go_simp; try with_reducible rfl)
  simp only [Act.put, rn1, rn2, rn3, rn4, rn5, rn6]
  refine rgn 3 (v := ?vq11) hHeld ?yq11 ?_
  case yq11 => (intro w hSw; obtain ⟨k0, k1, k2, k3⟩ := HF.out _ hSw; go_simp; try with_reducible rfl)
  simp only [Act.put, rn1, rn2, rn3, rn4, rn5, rn6]
  refine rgn 4 (v := ?vq12) hHeld ?yq12 ?_
  case yq12 => (intro w hSw; obtain ⟨k0, k1, k2, k3⟩ := HF.out _ hSw; go_simp; try with_reducible rfl)
  simp only [Act.put, rn1, rn2, rn3, rn4, rn5, rn6]
  refine rgn 5 (v := ?vq13) hHeld ?yq13 ?_
  case yq13 => (intro w hSw; obtain ⟨k0, k1, k2, k3⟩ := HF.out _ hSw; go_simp; try with_reducible rfl)
  simp only [Act.put, rn1, rn2, rn3, rn4, rn5, rn6]
  refine rgn 6 (v := ?vq14) hHeld ?yq14 ?_
  case yq14 => (intro w hSw; obtain ⟨k0, k1, k2, k3⟩ := HF.out _ hSw; go_simp; try with_reducible rfl)
  simp only [Act.put, rn1, rn2, rn3, rn4, rn5, rn6]
  refine rgn 7 (v := ?vq15) hHeld ?yq15 ?_
  case yq15 => (intro w hSw; obtain ⟨k0, k1, k2, k3⟩ := HF.out _ hSw; go_simp; try with_reducible rfl)
  simp only [Act.put, rn1, rn2, rn3, rn4, rn5, rn6]
  refine rgn 8 (v := ?vq16) hHeld ?yq16 ?_
  case yq16 => (intro w hSw; obtain ⟨k0, k1, k2, k3⟩ := HF.out _ hSw; go_simp; try with_reducible rfl)
  simp only [Act.put, rn1, rn2, rn3, rn4, rn5, rn6]
  refine rgn 9 (v := ?vq17) hHeld ?yq17 ?_
  case yq17 => (intro w hSw; obtain ⟨k0, k1, k2, k3⟩ := HF.out _ hSw; go_simp; try with_reducible rfl)
  simp only [Act.put, rn1, rn2, rn3, rn4, rn5, rn6]
  refine rgn 10 (v := ?vq18) hHeld ?yq18 ?_
  case yq18 => (intro w hSw; obtain ⟨k0, k1, k2, k3⟩ := HF.out _ hSw; go_simp; try with_reducible rfl)
  simp only [Act.put, rn1, rn2, rn3, rn4, rn5, rn6]
  refine reg_two (i := 11) (j := 16) (by kernel_rfl) rfl rfl (by kernel_rfl) (by kernel_rfl) (fun K hK => ?_) (fun K hK => ?_)
  · go_simp
    refine (HG.out _).mono ?_
    rintro e W2 ⟨rfl, hu⟩
    have HS : (fun X => Upd NoF V X) W2 := hHeld.trans hu (fun _ _ h => h)
    have HU2 := Lib.hid HS; clear hu
    go_wp2_with fail
    refine hK.out _ _ HS (fun hHeld2 => ?_)
    clear hK hHeld2 hHeld; have hHeld := HS; clear HS
    try simp only [Act.put, rn1, rn2, rn3, rn4, rn5, rn6]
    refine rgn 12 (v := ?vq19) hHeld ?yq19 ?_
    case yq19 => (intro w hSw; go_simp; try with_reducible rfl)
    simp only [Act.put, rn1, rn2, rn3, rn4, rn5, rn6]
    refine rgn 13 (v := ?vq20) hHeld ?yq20 ?_
    case yq20 => (intro w hSw; go_simp; try with_reducible rfl)
    simp only [Act.put, rn1, rn2, rn3, rn4, rn5, rn6]
    refine rgn 14 (v := ?vq21) hHeld ?yq21 ?_
    case yq21 => (intro w hSw; go_simp; try with_reducible rfl)
    simp only [Act.put, rn1, rn2, rn3, rn4, rn5, rn6]
    refine rgn 15 (v := ?vq22) hHeld ?yq22 ?_
    case yq22 => (intro w hSw; go_simp; try with_reducible rfl)
    simp only [Act.put, rn1, rn2, rn3, rn4, rn5, rn6]
    refine reg_step (i := 16) (by kernel_rfl) rfl (by kernel_rfl) (fun K hK => ?_)
    go_simp
    have hx := En.isN ge
    have s1 := TEnt.st_new hx W2
    have HS : (fun X => Upd NoF V X) (W2.alloc (.cells TEnt.Z ET')) := hHeld.trans (Upd.alloc NoF _ _) (fun _ _ h => h)
    have hsz : V.heap.size ≤ W2.heap.size := hHeld.size
    refine hK.out _ _ HS (fun hHeld2 => ?_)
    clear hK hHeld2 hHeld; have hHeld := HS; clear HS
    try simp only [Act.put, rn1, rn2, rn3, rn4, rn5, rn6]
    refine reg_step (i := 17) (by kernel_rfl) rfl (by kernel_rfl) (fun K hK => ?_)
    go_simp
    have HS : (fun X => Upd NoF V X) (W2.alloc (.cells ge.cells ET')) := HU2.out.trans (Upd.alloc NoF _ _) (fun _ _ h => h)
    have hq9 := Blk.new W2 ge.cells ET'
    clear s1
    refine hK.out _ _ HS (fun hHeld2 => ?_)
    clear hK hHeld2 hHeld; have hHeld := HS; clear HS
    try simp only [Act.put, rn1, rn2, rn3, rn4, rn5, rn6]
    refine rgn 18 (v := ?vq23) hHeld ?yq23 ?_
    case yq23 => (intro w hSw; go_simp; try with_reducible rfl)
    simp only [Act.put, rn1, rn2, rn3, rn4, rn5, rn6]
    refine rgn 19 (v := ?vq24) hHeld ?yq24 ?_
    case yq24 => (intro w hSw; go_simp; try with_reducible rfl)
    simp only [Act.put, rn1, rn2, rn3, rn4, rn5, rn6]
    refine wpAnyH_done (by kernel_rfl) ?_ _
    obtain ⟨X9, hX9⟩ : ∃ X9, W2.alloc (.cells ge.cells ET') = X9 := ⟨_, rfl⟩
    rw [hX9] at hHeld hq9
    rw [hX9]
    clear hX9
    have hs9 := (HS1.out.upd0 hHeld).upd0 (Upd.drew NoF X9)
    have hqd := hq9.upd (Upd.drew NoF X9) (fun h => h)
    have d0 := TEnt.ld_at (En.isN ge) hqd.whole
    have d2 : X9.drew.cell? ⟨hb, 9, none⟩ = some (sl p.eb S.n p.ec) := (hs9.box 1 rfl).cell 9
    obtain ⟨X10, hX10⟩ : ∃ X10, X9.drew.setCells p.eb (b * 2) ge.cells.toList = X10 := ⟨_, rfl⟩
    have d5 := est_mid (En.isN ge) (hs9.box 3 rfl) (o := b * 2) (by rw [Array.size_append, rowG_size]; omega)
    have hs10 := hs9.setMG 3 rfl (b * 2) ge.cells.toList
    simp only [List.set_cons_zero, List.set_cons_succ, ent_set hbn ge] at hs10
    rw [hX10] at d5 hs10
    have hq10 : Blk X10 W2.heap.size ge.cells ET' := by
      have hlte := (HS1.out.box 3 rfl).lt
      rw [← hX10]
      exact hqd.upd (upd_setCells _ _ _) (fun e => by have e : W2.heap.size = p.eb := e; omega)
    have HE0 : Hid ((fun X : World => X.cell? ⟨hb, 9, none⟩ = some (sl p.eb S.n p.ec) ∧ (TEnt.ld (.pointer (some ⟨W2.heap.size, 0, none⟩))).run Tryd.prog X = .ok (.agg ge.cells) X) X9.drew) := Lib.hid ⟨d2, d0⟩
    have HE1 : Hid ((fun X : World => X.cell? ⟨hb, 9, none⟩ = some (sl p.eb S.n p.ec) ∧ (TEnt.ld (.pointer (some ⟨W2.heap.size, 0, none⟩))).run Tryd.prog X = .ok (.agg ge.cells) X) X10) := Lib.hid ⟨(hs10.box 1 rfl).cell 9, TEnt.ld_at (En.isN ge) hq10.whole⟩
    have HS10 : Hid (Sep NoF w0 X10 (boxO nb n.cells NT :: boxO hb (S.rcells rm p) RHT :: rmO rm S.c.blocks.toNat S.B :: boxO p.eb (rowG 2 S.n (fun k => (updG S.E b ge k).cells) ++ p.et) ET' :: boxO p.jb (rowG 29 S.n (fun i => rjc (S.J (i : Int))) ++ p.jt) RJT :: outO (.slice p.wa S.Q.length p.wc) S.Q :: L)) := Lib.hid hs10
    clear hq10 d2 d0 hs9 hqd hq9 hs10 hHeld hX10 HG
    go_wp2_with fail
    refine wp_region_held_drew (S := (fun X : World => X.cell? ⟨hb, 9, none⟩ = some (sl p.eb S.n p.ec) ∧ (TEnt.ld (.pointer (some ⟨W2.heap.size, 0, none⟩))).run Tryd.prog X = .ok (.agg ge.cells) X)) (by kernel_rfl) (HE0.out) (fun hHeld => ?_)
    refine rgn 0 (v := ?vq1) hHeld ?yq1 ?_
    case yq1 => (intro w hSw; obtain ⟨k0, k1⟩ := hSw; go_simp; try with_reducible rfl)
    simp only [Act.put, rn1, rn2, rn3, rn4, rn5, rn6]
    refine rgn 1 (v := ?vq2) hHeld ?yq2 ?_
    case yq2 => (intro w hSw; obtain ⟨k0, k1⟩ := hSw; go_simp; try with_reducible rfl)
    simp only [Act.put, rn1, rn2, rn3, rn4, rn5, rn6]
    refine rgn 2 (v := ?vq3) hHeld ?yq3 ?_
    case yq3 => (intro w hSw; obtain ⟨k0, k1⟩ := hSw; go_simp; try with_reducible rfl)
    simp only [Act.put, rn1, rn2, rn3, rn4, rn5, rn6]
    refine rgn 3 (v := ?vq4) hHeld ?yq4 ?_
    case yq4 => (intro w hSw; obtain ⟨k0, k1⟩ := hSw; go_simp; try with_reducible rfl)
    simp only [Act.put, rn1, rn2, rn3, rn4, rn5, rn6]
    refine rgn 4 (v := ?vq5) hHeld ?yq5 ?_
    case yq5 => (intro w hSw; obtain ⟨k0, k1⟩ := hSw; go_simp; try with_reducible rfl)
    simp only [Act.put, rn1, rn2, rn3, rn4, rn5, rn6]
    refine rgn 5 (v := ?vq6) hHeld ?yq6 ?_
    case yq6 => (intro w hSw; obtain ⟨k0, k1⟩ := hSw; go_simp; try with_reducible rfl)
    simp only [Act.put, rn1, rn2, rn3, rn4, rn5, rn6]
    refine rgn 6 (v := ?vq7) hHeld ?yq7 ?_
    case yq7 => (intro w hSw; obtain ⟨k0, k1⟩ := hSw; go_simp; try with_reducible rfl)
    simp only [Act.put, rn1, rn2, rn3, rn4, rn5, rn6]
    refine reg_step (i := 7) (by kernel_rfl) rfl (by kernel_rfl) (fun K hK => ?_)
    go_simp
    have HS := HE1.out
    refine hK.out _ _ HS (fun hHeld2 => ?_)
    clear hK hHeld2 hHeld; have hHeld := HS; clear HS
    try simp only [Act.put, rn1, rn2, rn3, rn4, rn5, rn6]
    refine wpAnyH_done (by kernel_rfl) ?_ _
    clear hHeld HE0 HE1 d5
    cases gt
    · simp only [Bool.false_eq_true, if_false] at HFF
      have HS12 := HS10
      clear HS10
      have x1 : X10.cell? ⟨nb, 1, none⟩ = some (.int .i64 n.frm) := ((HS12.out.box 0 rfl).cell 1).trans n.get1
      have y2 := fun w => bd_ack n.frm b w
      have hnS : (ntAck n.frm b).cells.size = 24 := (Nt.Ok.isN (n := ntAck n.frm b) BU.isU_Z).1
      have y3 := fun w => bsN_run hnS w
      have HS15 := Lib.hid (((HS12.out.drop 0 (by simp)).alloc (ntAck n.frm b).cells NT).head (Φ' := outO (sl X10.heap.size 1 1) [ntAck n.frm b]) (fun F hF => out_one hnS hF))
      clear hnS
      go_wp2
      go_ret
      refine ⟨_, rfl, rh_shut1 HFF.out ?_⟩
      exact HS15.out
    · simp only [if_true] at HFF
      have hD := HN.out.isU
      have hsd := HS10.out.upd0 (Upd.drew NoF X10)
      have hml := HFI.out.good.data
      have HSB := Lib.hid (hsd.call 2 rfl (fun F hF => RM.setBlock_ok hF (by omega) b (by omega) n.D hD))
      have HM0 : Hid ((fun X : World => X.cell? ⟨hb, 8, none⟩ = some (ptr rm) ∧ (TBlk.ld (.pointer (some ⟨nb, 8, none⟩))).run Tryd.prog X = .ok (.agg n.D) X) X10.drew) := Lib.hid ⟨(hsd.box 1 rfl).cell 8, TBlk.ld_at hD.isN ((hsd.box 0 rfl).range 8 _ (fun j v hv => by rw [Nt.getD]; simpa using hv))⟩
      have HK0 : Hid (∀ X, Sep NoF w0 X (boxO nb n.cells NT :: boxO hb (S.rcells rm p) RHT :: rmO rm S.c.blocks.toNat (updG S.B b n.D) :: boxO p.eb (rowG 2 S.n (fun k => (updG S.E b ge k).cells) ++ p.et) ET' :: boxO p.jb (rowG 29 S.n (fun i => rjc (S.J (i : Int))) ++ p.jt) RJT :: outO (.slice p.wa S.Q.length p.wc) S.Q :: L) → (fun X : World => X.cell? ⟨hb, 8, none⟩ = some (ptr rm) ∧ (TBlk.ld (.pointer (some ⟨nb, 8, none⟩))).run Tryd.prog X = .ok (.agg n.D) X) X) := Lib.hid (fun X hx => ⟨(hx.box 1 rfl).cell 8, TBlk.ld_at hD.isN ((hx.box 0 rfl).range 8 _ (fun j v hv => by rw [Nt.getD]; simpa using hv))⟩)
      clear hsd hD hml
      go_wp2_with fail
      refine wp_region_held_drew (S := (fun X : World => X.cell? ⟨hb, 8, none⟩ = some (ptr rm) ∧ (TBlk.ld (.pointer (some ⟨nb, 8, none⟩))).run Tryd.prog X = .ok (.agg n.D) X)) (by kernel_rfl) (HM0.out) (fun hHeld => ?_)
      refine rgn 0 (v := ?vq25) hHeld ?yq25 ?_
      case yq25 => (intro w hSw; obtain ⟨k0, k1⟩ := hSw; go_simp; try with_reducible rfl)
      simp only [Act.put, rn1, rn2, rn3, rn4, rn5, rn6]
      refine rgn 1 (v := ?vq26) hHeld ?yq26 ?_
      case yq26 => (intro w hSw; obtain ⟨k0, k1⟩ := hSw; go_simp; try with_reducible rfl)
      simp only [Act.put, rn1, rn2, rn3, rn4, rn5, rn6]
      refine rgn 2 (v := ?vq27) hHeld ?yq27 ?_
      case yq27 => (intro w hSw; obtain ⟨k0, k1⟩ := hSw; go_simp; try with_reducible rfl)
      simp only [Act.put, rn1, rn2, rn3, rn4, rn5, rn6]
      refine rgn 3 (v := ?vq28) hHeld ?yq28 ?_
      case yq28 => (intro w hSw; obtain ⟨k0, k1⟩ := hSw; go_simp; try with_reducible rfl)
      simp only [Act.put, rn1, rn2, rn3, rn4, rn5, rn6]
      refine rgn 4 (v := ?vq29) hHeld ?yq29 ?_
      case yq29 => (intro w hSw; obtain ⟨k0, k1⟩ := hSw; go_simp; try with_reducible rfl)
      simp only [Act.put, rn1, rn2, rn3, rn4, rn5, rn6]
      refine rgn 5 (v := ?vq30) hHeld ?yq30 ?_
      case yq30 => (intro w hSw; obtain ⟨k0, k1⟩ := hSw; go_simp; try with_reducible rfl)
      simp only [Act.put, rn1, rn2, rn3, rn4, rn5, rn6]
      refine rgn 6 (v := ?vq31) hHeld ?yq31 ?_
      case yq31 => (intro w hSw; obtain ⟨k0, k1⟩ := hSw; go_simp; try with_reducible rfl)
      simp only [Act.put, rn1, rn2, rn3, rn4, rn5, rn6]
      refine reg_step (i := 7) (by kernel_rfl) rfl (by kernel_rfl) (fun K hK => ?_)
      go_simp
      refine HSB.out.mono ?_
      rintro e X12 ⟨rfl, hs12⟩
      have hs12 : Sep NoF w0 X12 (boxO nb n.cells NT :: boxO hb (S.rcells rm p) RHT :: rmO rm S.c.blocks.toNat (updG S.B b n.D) :: boxO p.eb (rowG 2 S.n (fun k => (updG S.E b ge k).cells) ++ p.et) ET' :: boxO p.jb (rowG 29 S.n (fun i => rjc (S.J (i : Int))) ++ p.jt) RJT :: outO (.slice p.wa S.Q.length p.wc) S.Q :: L) := hs12
      have HS := HK0.out _ hs12
      have HS12 := Lib.hid hs12
      clear hs12
      go_wp2_with fail
      refine hK.out _ _ HS (fun hHeld2 => ?_)
      clear hK hHeld2 hHeld; have hHeld := HS; clear HS
      try simp only [Act.put, rn1, rn2, rn3, rn4, rn5, rn6]
      refine wpAnyH_done (by kernel_rfl) ?_ _
      clear hHeld HM0 HK0 HSB
      have x1 : X12.cell? ⟨nb, 1, none⟩ = some (.int .i64 n.frm) := ((HS12.out.box 0 rfl).cell 1).trans n.get1
      have y2 := fun w => bd_ack n.frm b w
      have hnS : (ntAck n.frm b).cells.size = 24 := (Nt.Ok.isN (n := ntAck n.frm b) BU.isU_Z).1
      have y3 := fun w => bsN_run hnS w
      have HS15 := Lib.hid (((HS12.out.drop 0 (by simp)).alloc (ntAck n.frm b).cells NT).head (Φ' := outO (sl X12.heap.size 1 1) [ntAck n.frm b]) (fun F hF => out_one hnS hF))
      clear hnS
      go_wp2
      go_ret
      refine ⟨_, rfl, rh_shut1 HFF.out ?_⟩
      exact HS15.out
  · go_simp
    have hq : Blk (V.alloc (.cells TEnt.Z ET')).drew V.heap.size TEnt.Z ET' := Blk.new V.drew TEnt.Z ET'
    have HS : (fun X => Upd NoF V X) (V.alloc (.cells TEnt.Z ET')).drew := HDR.out.trans (Upd.alloc NoF V.drew (.cells TEnt.Z ET')) (fun _ _ h => h)
    have HQ0 := Lib.hid hq
    clear hq
    refine hK.out _ _ HS (fun hHeld2 => ?_)
    clear hK hHeld2 hHeld; have hHeld := HS; clear HS
    try simp only [Act.put, rn1, rn2, rn3, rn4, rn5, rn6]
    refine reg_step (i := 11) (by kernel_rfl) rfl (by kernel_rfl) (fun K hK => ?_)
    go_simp
    refine (HG.out _).mono ?_
    rintro e W2 ⟨rfl, hu⟩
    have HS : (fun X => Upd NoF V X) W2 := hHeld.trans hu (fun _ _ h => h)
    obtain ⟨s1, q1⟩ := TEnt.st_at TEnt.isZ (En.isN ge) (HQ0.out.upd hu (fun h => h)); clear hu HQ0
    go_wp2_with fail
    refine hK.out _ _ HS (fun hHeld2 => ?_)
    clear hK hHeld2 hHeld; have hHeld := HS; clear HS
    try simp only [Act.put, rn1, rn2, rn3, rn4, rn5, rn6]
    refine rgn 12 (v := ?vq32) hHeld ?yq32 ?_
    case yq32 => (intro w hSw; go_simp; try with_reducible rfl)
    simp only [Act.put, rn1, rn2, rn3, rn4, rn5, rn6]
    refine rgn 13 (v := ?vq33) hHeld ?yq33 ?_
    case yq33 => (intro w hSw; go_simp; try with_reducible rfl)
    simp only [Act.put, rn1, rn2, rn3, rn4, rn5, rn6]
    refine rgn 14 (v := ?vq34) hHeld ?yq34 ?_
    case yq34 => (intro w hSw; go_simp; try with_reducible rfl)
    simp only [Act.put, rn1, rn2, rn3, rn4, rn5, rn6]
    refine rgn 15 (v := ?vq35) hHeld ?yq35 ?_
    case yq35 => (intro w hSw; go_simp; try with_reducible rfl)
    simp only [Act.put, rn1, rn2, rn3, rn4, rn5, rn6]
    refine reg_step (i := 17) (by kernel_rfl) rfl (by kernel_rfl) (fun K hK => ?_)
    go_simp
    have HS : (fun X => Upd NoF V X) (W2.setCells V.heap.size 0 ge.cells.toList) := hHeld.trans (upd_setCells _ 0 _) (fun i hi e => by have e : i = V.heap.size := e; omega)
    have hq9 := q1
    clear s1 q1
    refine hK.out _ _ HS (fun hHeld2 => ?_)
    clear hK hHeld2 hHeld; have hHeld := HS; clear HS
    try simp only [Act.put, rn1, rn2, rn3, rn4, rn5, rn6]
    refine rgn 18 (v := ?vq36) hHeld ?yq36 ?_
    case yq36 => (intro w hSw; go_simp; try with_reducible rfl)
    simp only [Act.put, rn1, rn2, rn3, rn4, rn5, rn6]
    refine rgn 19 (v := ?vq37) hHeld ?yq37 ?_
    case yq37 => (intro w hSw; go_simp; try with_reducible rfl)
    simp only [Act.put, rn1, rn2, rn3, rn4, rn5, rn6]
    refine wpAnyH_done (by kernel_rfl) ?_ _
    obtain ⟨X9, hX9⟩ : ∃ X9, W2.setCells V.heap.size 0 ge.cells.toList = X9 := ⟨_, rfl⟩
    rw [hX9] at hHeld hq9
    rw [hX9]
    clear hX9
    have hs9 := (HS1.out.upd0 hHeld).upd0 (Upd.drew NoF X9)
    have hqd := hq9.upd (Upd.drew NoF X9) (fun h => h)
    have d0 := TEnt.ld_at (En.isN ge) hqd.whole
    have d2 : X9.drew.cell? ⟨hb, 9, none⟩ = some (sl p.eb S.n p.ec) := (hs9.box 1 rfl).cell 9
    obtain ⟨X10, hX10⟩ : ∃ X10, X9.drew.setCells p.eb (b * 2) ge.cells.toList = X10 := ⟨_, rfl⟩
    have d5 := est_mid (En.isN ge) (hs9.box 3 rfl) (o := b * 2) (by rw [Array.size_append, rowG_size]; omega)
    have hs10 := hs9.setMG 3 rfl (b * 2) ge.cells.toList
    simp only [List.set_cons_zero, List.set_cons_succ, ent_set hbn ge] at hs10
    rw [hX10] at d5 hs10
    have hq10 : Blk X10 V.heap.size ge.cells ET' := by
      have hlte := (HS1.out.box 3 rfl).lt
      rw [← hX10]
      exact hqd.upd (upd_setCells _ _ _) (fun e => by have e : V.heap.size = p.eb := e; omega)
    have HE0 : Hid ((fun X : World => X.cell? ⟨hb, 9, none⟩ = some (sl p.eb S.n p.ec) ∧ (TEnt.ld (.pointer (some ⟨V.heap.size, 0, none⟩))).run Tryd.prog X = .ok (.agg ge.cells) X) X9.drew) := Lib.hid ⟨d2, d0⟩
    have HE1 : Hid ((fun X : World => X.cell? ⟨hb, 9, none⟩ = some (sl p.eb S.n p.ec) ∧ (TEnt.ld (.pointer (some ⟨V.heap.size, 0, none⟩))).run Tryd.prog X = .ok (.agg ge.cells) X) X10) := Lib.hid ⟨(hs10.box 1 rfl).cell 9, TEnt.ld_at (En.isN ge) hq10.whole⟩
    have HS10 : Hid (Sep NoF w0 X10 (boxO nb n.cells NT :: boxO hb (S.rcells rm p) RHT :: rmO rm S.c.blocks.toNat S.B :: boxO p.eb (rowG 2 S.n (fun k => (updG S.E b ge k).cells) ++ p.et) ET' :: boxO p.jb (rowG 29 S.n (fun i => rjc (S.J (i : Int))) ++ p.jt) RJT :: outO (.slice p.wa S.Q.length p.wc) S.Q :: L)) := Lib.hid hs10
    clear hq10 d2 d0 hs9 hqd hq9 hs10 hHeld hX10 HG
    go_wp2_with fail
    refine wp_region_held_drew (S := (fun X : World => X.cell? ⟨hb, 9, none⟩ = some (sl p.eb S.n p.ec) ∧ (TEnt.ld (.pointer (some ⟨V.heap.size, 0, none⟩))).run Tryd.prog X = .ok (.agg ge.cells) X)) (by kernel_rfl) (HE0.out) (fun hHeld => ?_)
    refine rgn 0 (v := ?vq1) hHeld ?yq1 ?_
    case yq1 => (intro w hSw; obtain ⟨k0, k1⟩ := hSw; go_simp; try with_reducible rfl)
    simp only [Act.put, rn1, rn2, rn3, rn4, rn5, rn6]
    refine rgn 1 (v := ?vq2) hHeld ?yq2 ?_
    case yq2 => (intro w hSw; obtain ⟨k0, k1⟩ := hSw; go_simp; try with_reducible rfl)
    simp only [Act.put, rn1, rn2, rn3, rn4, rn5, rn6]
    refine rgn 2 (v := ?vq3) hHeld ?yq3 ?_
    case yq3 => (intro w hSw; obtain ⟨k0, k1⟩ := hSw; go_simp; try with_reducible rfl)
    simp only [Act.put, rn1, rn2, rn3, rn4, rn5, rn6]
    refine rgn 3 (v := ?vq4) hHeld ?yq4 ?_
    case yq4 => (intro w hSw; obtain ⟨k0, k1⟩ := hSw; go_simp; try with_reducible rfl)
    simp only [Act.put, rn1, rn2, rn3, rn4, rn5, rn6]
    refine rgn 4 (v := ?vq5) hHeld ?yq5 ?_
    case yq5 => (intro w hSw; obtain ⟨k0, k1⟩ := hSw; go_simp; try with_reducible rfl)
    simp only [Act.put, rn1, rn2, rn3, rn4, rn5, rn6]
    refine rgn 5 (v := ?vq6) hHeld ?yq6 ?_
    case yq6 => (intro w hSw; obtain ⟨k0, k1⟩ := hSw; go_simp; try with_reducible rfl)
    simp only [Act.put, rn1, rn2, rn3, rn4, rn5, rn6]
    refine rgn 6 (v := ?vq7) hHeld ?yq7 ?_
    case yq7 => (intro w hSw; obtain ⟨k0, k1⟩ := hSw; go_simp; try with_reducible rfl)
    simp only [Act.put, rn1, rn2, rn3, rn4, rn5, rn6]
    refine reg_step (i := 7) (by kernel_rfl) rfl (by kernel_rfl) (fun K hK => ?_)
    go_simp
    have HS := HE1.out
    refine hK.out _ _ HS (fun hHeld2 => ?_)
    clear hK hHeld2 hHeld; have hHeld := HS; clear HS
    try simp only [Act.put, rn1, rn2, rn3, rn4, rn5, rn6]
    refine wpAnyH_done (by kernel_rfl) ?_ _
    clear hHeld HE0 HE1 d5
    cases gt
    · simp only [Bool.false_eq_true, if_false] at HFF
      have HS12 := HS10
      clear HS10
      have x1 : X10.cell? ⟨nb, 1, none⟩ = some (.int .i64 n.frm) := ((HS12.out.box 0 rfl).cell 1).trans n.get1
      have y2 := fun w => bd_ack n.frm b w
      have hnS : (ntAck n.frm b).cells.size = 24 := (Nt.Ok.isN (n := ntAck n.frm b) BU.isU_Z).1
      have y3 := fun w => bsN_run hnS w
      have HS15 := Lib.hid (((HS12.out.drop 0 (by simp)).alloc (ntAck n.frm b).cells NT).head (Φ' := outO (sl X10.heap.size 1 1) [ntAck n.frm b]) (fun F hF => out_one hnS hF))
      clear hnS
      go_wp2
      go_ret
      refine ⟨_, rfl, rh_shut1 HFF.out ?_⟩
      exact HS15.out
    · simp only [if_true] at HFF
      have hD := HN.out.isU
      have hsd := HS10.out.upd0 (Upd.drew NoF X10)
      have hml := HFI.out.good.data
      have HSB := Lib.hid (hsd.call 2 rfl (fun F hF => RM.setBlock_ok hF (by omega) b (by omega) n.D hD))
      have HM0 : Hid ((fun X : World => X.cell? ⟨hb, 8, none⟩ = some (ptr rm) ∧ (TBlk.ld (.pointer (some ⟨nb, 8, none⟩))).run Tryd.prog X = .ok (.agg n.D) X) X10.drew) := Lib.hid ⟨(hsd.box 1 rfl).cell 8, TBlk.ld_at hD.isN ((hsd.box 0 rfl).range 8 _ (fun j v hv => by rw [Nt.getD]; simpa using hv))⟩
      have HK0 : Hid (∀ X, Sep NoF w0 X (boxO nb n.cells NT :: boxO hb (S.rcells rm p) RHT :: rmO rm S.c.blocks.toNat (updG S.B b n.D) :: boxO p.eb (rowG 2 S.n (fun k => (updG S.E b ge k).cells) ++ p.et) ET' :: boxO p.jb (rowG 29 S.n (fun i => rjc (S.J (i : Int))) ++ p.jt) RJT :: outO (.slice p.wa S.Q.length p.wc) S.Q :: L) → (fun X : World => X.cell? ⟨hb, 8, none⟩ = some (ptr rm) ∧ (TBlk.ld (.pointer (some ⟨nb, 8, none⟩))).run Tryd.prog X = .ok (.agg n.D) X) X) := Lib.hid (fun X hx => ⟨(hx.box 1 rfl).cell 8, TBlk.ld_at hD.isN ((hx.box 0 rfl).range 8 _ (fun j v hv => by rw [Nt.getD]; simpa using hv))⟩)
      clear hsd hD hml
      go_wp2_with fail
      refine wp_region_held_drew (S := (fun X : World => X.cell? ⟨hb, 8, none⟩ = some (ptr rm) ∧ (TBlk.ld (.pointer (some ⟨nb, 8, none⟩))).run Tryd.prog X = .ok (.agg n.D) X)) (by kernel_rfl) (HM0.out) (fun hHeld => ?_)
      refine rgn 0 (v := ?vq38) hHeld ?yq38 ?_
      case yq38 => (intro w hSw; obtain ⟨k0, k1⟩ := hSw; go_simp; try with_reducible rfl)
      simp only [Act.put, rn1, rn2, rn3, rn4, rn5, rn6]
      refine rgn 1 (v := ?vq39) hHeld ?yq39 ?_
      case yq39 => (intro w hSw; obtain ⟨k0, k1⟩ := hSw; go_simp; try with_reducible rfl)
      simp only [Act.put, rn1, rn2, rn3, rn4, rn5, rn6]
      refine rgn 2 (v := ?vq40) hHeld ?yq40 ?_
      case yq40 => (intro w hSw; obtain ⟨k0, k1⟩ := hSw; go_simp; try with_reducible rfl)
      simp only [Act.put, rn1, rn2, rn3, rn4, rn5, rn6]
      refine rgn 3 (v := ?vq41) hHeld ?yq41 ?_
      case yq41 => (intro w hSw; obtain ⟨k0, k1⟩ := hSw; go_simp; try with_reducible rfl)
      simp only [Act.put, rn1, rn2, rn3, rn4, rn5, rn6]
      refine rgn 4 (v := ?vq42) hHeld ?yq42 ?_
      case yq42 => (intro w hSw; obtain ⟨k0, k1⟩ := hSw; go_simp; try with_reducible rfl)
      simp only [Act.put, rn1, rn2, rn3, rn4, rn5, rn6]
      refine rgn 5 (v := ?vq43) hHeld ?yq43 ?_
      case yq43 => (intro w hSw; obtain ⟨k0, k1⟩ := hSw; go_simp; try with_reducible rfl)
      simp only [Act.put, rn1, rn2, rn3, rn4, rn5, rn6]
      refine rgn 6 (v := ?vq44) hHeld ?yq44 ?_
      case yq44 => (intro w hSw; obtain ⟨k0, k1⟩ := hSw; go_simp; try with_reducible rfl)
      simp only [Act.put, rn1, rn2, rn3, rn4, rn5, rn6]
      refine reg_step (i := 7) (by kernel_rfl) rfl (by kernel_rfl) (fun K hK => ?_)
      go_simp
      refine HSB.out.mono ?_
      rintro e X12 ⟨rfl, hs12⟩
      have hs12 : Sep NoF w0 X12 (boxO nb n.cells NT :: boxO hb (S.rcells rm p) RHT :: rmO rm S.c.blocks.toNat (updG S.B b n.D) :: boxO p.eb (rowG 2 S.n (fun k => (updG S.E b ge k).cells) ++ p.et) ET' :: boxO p.jb (rowG 29 S.n (fun i => rjc (S.J (i : Int))) ++ p.jt) RJT :: outO (.slice p.wa S.Q.length p.wc) S.Q :: L) := hs12
      have HS := HK0.out _ hs12
      have HS12 := Lib.hid hs12
      clear hs12
      go_wp2_with fail
      refine hK.out _ _ HS (fun hHeld2 => ?_)
      clear hK hHeld2 hHeld; have hHeld := HS; clear HS
      try simp only [Act.put, rn1, rn2, rn3, rn4, rn5, rn6]
      refine wpAnyH_done (by kernel_rfl) ?_ _
      clear hHeld HM0 HK0 HSB
      have x1 : X12.cell? ⟨nb, 1, none⟩ = some (.int .i64 n.frm) := ((HS12.out.box 0 rfl).cell 1).trans n.get1
      have y2 := fun w => bd_ack n.frm b w
      have hnS : (ntAck n.frm b).cells.size = 24 := (Nt.Ok.isN (n := ntAck n.frm b) BU.isU_Z).1
      have y3 := fun w => bsN_run hnS w
      have HS15 := Lib.hid (((HS12.out.drop 0 (by simp)).alloc (ntAck n.frm b).cells NT).head (Φ' := outO (sl X12.heap.size 1 1) [ntAck n.frm b]) (fun F hF => out_one hnS hF))
      clear hnS
      go_wp2
      go_ret
      refine ⟨_, rfl, rh_shut1 HFF.out ?_⟩
      exact HS15.out
theorem begin_asks {S : Hs} {n : Nt} (hk3 : ¬ n.kind = 3) {b : Nat} (hbk : n.blk = b) : beginP S n = if (askedP (S.E b) n.kind n.frm).1 = 0#32 then ((answerP S ⟨n, (askedP (S.E b) n.kind n.frm).1, false, false, 0⟩).1, [(answerP S ⟨n, (askedP (S.E b) n.kind n.frm).1, false, false, 0⟩).2])
      else ({ S with J := updI S.J b (some ⟨n, (askedP (S.E b) n.kind n.frm).1, false, false, 0⟩) }, asksL (askedP (S.E b) n.kind n.frm).1 (askedP (S.E b) n.kind n.frm).2 b n.stamp (bitsL (askedP (S.E b) n.kind n.frm).1).length) := by
  unfold beginP; rw [if_neg hk3, hbk, asksL_all]; rfl
theorem answer_put {S : Hs} {j : Jb} {b : Nat} (hb : j.ask.blk = b) : answerP { S with J := updI S.J b (some j) } j = answerP S j := by
  unfold answerP; simp only [hb, updI_updI]
set_option maxRecDepth 100000 in
set_option maxHeartbeats 8000000 in
theorem rbegin_ask (h : Sep NoF w0 W (rhO hb rm S :: L)) (n : Nt) (hn : n.Ok) (h0 : 0 ≤ n.blk) (h1 : n.blk < S.data) (hk3 : ¬ n.kind = 3) : Calls Tryd.prog 67 #[ptr hb, .agg n.cells] W fun e W' =>
    ∃ v, e = .returned v ∧ Sep NoF w0 W' (outO v (beginP S n).2 :: rhO hb rm (beginP S n).1 :: L) := by
  obtain ⟨p, hf, hs⟩ := rh_open h
  have hg := hf.good
  have hdat := hg.data
  obtain ⟨b, hbk⟩ : ∃ b : Nat, n.blk = b := ⟨n.blk.toNat, by omega⟩
  have hbn : b < S.n := by omega
  have hnN := Nt.Ok.isN hn.isU
  have hs1 := hs.alloc n.cells NT
  obtain ⟨V, hV⟩ : ∃ V, W.alloc (.cells n.cells NT) = V := ⟨_, rfl⟩
  obtain ⟨nb, hnb⟩ : ∃ x, W.heap.size = x := ⟨_, rfl⟩
  rw [hV, hnb] at hs1
  have HV := Lib.hid (And.intro hV hnb); have HS1 := Lib.hid hs1; have HFI := Lib.hid hf
  have hA1 := RAt.of (hs1.drop 0 (by simp))
  have qn := hs1.box 0 rfl
  have HF := Lib.hid (fun X (hX : Upd NoF V X) => (show X.cell? ⟨nb, 0, none⟩ = some (.int .u8 n.kind) ∧ X.cell? ⟨nb, 1, none⟩ = some (.int .i64 n.frm) ∧ X.cell? ⟨hb, 9, none⟩ = some (sl p.eb S.n p.ec) ∧ (TEnt.ld (.pointer (some ⟨p.eb, b * 2, none⟩))).run Tryd.prog X = .ok (.agg (S.E b).cells) X from
    ⟨((qn.upd hX (fun h => h)).cell 0).trans n.get0, ((qn.upd hX (fun h => h)).cell 1).trans n.get1, (hA1.upd hX).box.cell 9, (hA1.upd hX).ldE hbn⟩))
  have v0 : V.cell? ⟨nb, 0, none⟩ = some (.int .u8 n.kind) := (qn.cell 0).trans n.get0
  have v3 : V.cell? ⟨nb, 3, none⟩ = some (.int .i64 b) := (qn.cell 3).trans (by rw [← hbk]; exact n.get3)
  have hkb : (n.kind == 3) = false := by simp [hk3]
  have HG := Lib.hid (fun X => (show Calls Tryd.prog 88 #[.agg (S.E b).cells, .int .u8 n.kind, .int .i64 n.frm] X _ from askedV_eq (S.E b) n.kind n.frm ▸ ET.rasked_e (S.E b).own (S.E b).shr n.kind n.frm X))
  have hbeg := begin_asks (S := S) hk3 hbk
  have hec := hf.ec
  have hjc := hf.jc
  have hbe : b < p.ec := by omega
  have hbc : b < p.jc := by omega
  have hem := hec.2.1
  have hjm := hjc.2.1
  unfold maxLen at hem hjm
  have hlt : (b : Int) < (S.n : Int) := by omega
  have HGA := Lib.hid (fun who => good_ask hg hn h0 h1 who)
  have HDR := Lib.hid (Upd.drew NoF V)
  have HN := Lib.hid hn
  have HNN := Lib.hid hnN
  have HBK := Lib.hid hbk
  clear h hs hs1 hV hnb hf hg hA1 qn hec hjc hk3 h0 h1
  generalize beginP S n = bg at *
  have HBG := Lib.hid hbeg
  clear hbeg
  generalize (askedP (S.E b) n.kind n.frm).1 = who at *
  generalize (askedP (S.E b) n.kind n.frm).2 = by_ at *
  generalize hgr : (if ET.askE (S.E b).own (S.E b).shr n.kind n.frm then (0 : Int) else 2) = gr at *
  go_enter Tryd.func67, Tryd.ntmps67
  go_upto_region 1 with fail
  rw [HV.out.1, HV.out.2]
  go_wp2_with fail
  refine wp_region_held_drew (S := (fun X => Upd NoF V X)) (by kernel_rfl) (HDR.out) (fun hHeld => ?_)
  refine rgn 0 (v := ?vq45) hHeld ?yq45 ?_
  case yq45 => (intro w hSw; obtain ⟨k0, k1, k2, k3⟩ := HF.out _ hSw; go_simp; try with_reducible rfl)
  simp only [Act.put, rn1, rn2, rn3, rn4, rn5, rn6]
  refine rgn 1 (v := ?vq46) hHeld ?yq46 ?_
  case yq46 => (intro w hSw; obtain ⟨k0, k1, k2, k3⟩ := HF.out _ hSw; go_simp; try with_reducible rfl)
  simp only [Act.put, rn1, rn2, rn3, rn4, rn5, rn6]
  refine rgn 2 (v := ?vq47) hHeld ?yq47 ?_
  case yq47 => (intro w hSw; obtain ⟨k0, k1, k2, k3⟩ := HF.out _ hSw; go_simp; try with_reducible rfl)
  simp only [Act.put, rn1, rn2, rn3, rn4, rn5, rn6]
  refine rgn 3 (v := ?vq48) hHeld ?yq48 ?_
  case yq48 => (intro w hSw; obtain ⟨k0, k1, k2, k3⟩ := HF.out _ hSw; go_simp; try with_reducible rfl)
  simp only [Act.put, rn1, rn2, rn3, rn4, rn5, rn6]
  refine rgn 4 (v := ?vq49) hHeld ?yq49 ?_
  case yq49 => (intro w hSw; obtain ⟨k0, k1, k2, k3⟩ := HF.out _ hSw; go_simp; try with_reducible rfl)
  simp only [Act.put, rn1, rn2, rn3, rn4, rn5, rn6]
  refine rgn 5 (v := ?vq50) hHeld ?yq50 ?_
  case yq50 => (intro w hSw; obtain ⟨k0, k1, k2, k3⟩ := HF.out _ hSw; go_simp; try with_reducible rfl)
  simp only [Act.put, rn1, rn2, rn3, rn4, rn5, rn6]
  refine rgn 6 (v := ?vq51) hHeld ?yq51 ?_
  case yq51 => (intro w hSw; obtain ⟨k0, k1, k2, k3⟩ := HF.out _ hSw; go_simp; try with_reducible rfl)
  simp only [Act.put, rn1, rn2, rn3, rn4, rn5, rn6]
  refine rgn 7 (v := ?vq52) hHeld ?yq52 ?_
  case yq52 => (intro w hSw; obtain ⟨k0, k1, k2, k3⟩ := HF.out _ hSw; go_simp; try with_reducible rfl)
  simp only [Act.put, rn1, rn2, rn3, rn4, rn5, rn6]
  refine rgn 8 (v := ?vq53) hHeld ?yq53 ?_
  case yq53 => (intro w hSw; obtain ⟨k0, k1, k2, k3⟩ := HF.out _ hSw; go_simp; try with_reducible rfl)
  simp only [Act.put, rn1, rn2, rn3, rn4, rn5, rn6]
  refine rgn 9 (v := ?vq54) hHeld ?yq54 ?_
  case yq54 => (intro w hSw; obtain ⟨k0, k1, k2, k3⟩ := HF.out _ hSw; go_simp; try with_reducible rfl)
  simp only [Act.put, rn1, rn2, rn3, rn4, rn5, rn6]
  refine rgn 10 (v := ?vq55) hHeld ?yq55 ?_
  case yq55 => (intro w hSw; obtain ⟨k0, k1, k2, k3⟩ := HF.out _ hSw; go_simp; try with_reducible rfl)
  simp only [Act.put, rn1, rn2, rn3, rn4, rn5, rn6]
  refine reg_step (i := 11) (by kernel_rfl) rfl (by kernel_rfl) (fun K hK => ?_)
  go_simp
  refine (HG.out _).mono ?_
  rintro e W2 ⟨rfl, hu⟩
  have HS : (fun X => Upd NoF V X) W2 := hHeld.trans hu (fun _ _ h => h)
  clear hu
  go_wp2_with fail
  refine hK.out _ _ HS (fun hHeld2 => ?_)
  clear hK hHeld2 hHeld; have hHeld := HS; clear HS
  try simp only [Act.put, rn1, rn2, rn3, rn4, rn5, rn6]
  refine rgn 12 (v := ?vq56) hHeld ?yq56 ?_
  case yq56 => (intro w hSw; go_simp; try with_reducible rfl)
  simp only [Act.put, rn1, rn2, rn3, rn4, rn5, rn6]
  refine rgn 13 (v := ?vq57) hHeld ?yq57 ?_
  case yq57 => (intro w hSw; go_simp; try with_reducible rfl)
  simp only [Act.put, rn1, rn2, rn3, rn4, rn5, rn6]
  refine rgn 14 (v := ?vq58) hHeld ?yq58 ?_
  case yq58 => (intro w hSw; go_simp; try with_reducible rfl)
  simp only [Act.put, rn1, rn2, rn3, rn4, rn5, rn6]
  refine rgn 15 (v := ?vq59) hHeld ?yq59 ?_
  case yq59 => (intro w hSw; go_simp; try with_reducible rfl)
  simp only [Act.put, rn1, rn2, rn3, rn4, rn5, rn6]
  refine rgn 16 (v := ?vq60) hHeld ?yq60 ?_
  case yq60 => (intro w hSw; go_simp; try with_reducible rfl)
  simp only [Act.put, rn1, rn2, rn3, rn4, rn5, rn6]
  refine rgn 17 (v := ?vq61) hHeld ?yq61 ?_
  case yq61 => (intro w hSw; go_simp; try with_reducible rfl)
  simp only [Act.put, rn1, rn2, rn3, rn4, rn5, rn6]
  refine rgn 18 (v := ?vq62) hHeld ?yq62 ?_
  case yq62 => (intro w hSw; go_simp; try with_reducible rfl)
  simp only [Act.put, rn1, rn2, rn3, rn4, rn5, rn6]
  refine wpAnyH_done (by kernel_rfl) ?_ _
  have hs2 := (HS1.out.upd0 hHeld).upd0 (Upd.drew NoF W2)
  clear hHeld HG
  have hbr := fun w => bd_rjob (n := n) HNN.out.1 who w
  have hjo : (Jb.mk n who false false 0).Ok := ⟨HN.out, by simp⟩
  obtain ⟨j, hj⟩ : ∃ j, Jb.mk n who false false 0 = j := ⟨_, rfl⟩
  rw [hj] at hbr hjo
  have hjN : IsN 29 (rjc (some j)) := Jb.isN_r hjo
  have hst := rst_mid hjN (hs2.box 4 rfl) (o := b * 29) (by rw [Array.size_append, rowG_size]; omega)
  have hs3 := hs2.setMG 4 rfl (b * 29) (rjc (some j)).toList
  simp only [List.set_cons_zero, List.set_cons_succ] at hs3
  rw [job_put HFI.out.good hbn hjN] at hs3
  obtain ⟨X3, hX3⟩ : ∃ X, W2.drew.setCells p.jb (b * 29) (rjc (some j)).toList = X := ⟨_, rfl⟩
  rw [hX3] at hst hs3
  change (TRjb.st (.pointer (some ⟨p.jb, b * 29, none⟩)) (.agg j.rcells)).run Tryd.prog W2.drew = .ok () X3 at hst
  have hRF : RFits { S with J := updI S.J b (some j) } p := ⟨by have := HGA.out who; rw [hj, HBK.out] at this; exact this, HFI.out.ec, HFI.out.jc⟩
  have HJ0 : Hid ((fun X : World => X.cell? ⟨hb, 10, none⟩ = some (sl p.jb S.n p.jc) ∧ (TNot.ld (.pointer (some ⟨nb, 0, none⟩))).run Tryd.prog X = .ok (.agg n.cells) X) W2.drew) := Lib.hid ⟨(hs2.box 1 rfl).cell 10, TNot.ld_at HNN.out (hs2.box 0 rfl).whole⟩
  have HJ1 : Hid ((fun X : World => X.cell? ⟨hb, 10, none⟩ = some (sl p.jb S.n p.jc) ∧ (TNot.ld (.pointer (some ⟨nb, 0, none⟩))).run Tryd.prog X = .ok (.agg n.cells) X) X3) := Lib.hid ⟨(hs3.box 1 rfl).cell 10, TNot.ld_at HNN.out (hs3.box 0 rfl).whole⟩
  have hs3 : Sep NoF w0 X3 (boxO nb n.cells NT :: rhO hb rm { S with J := updI S.J b (some j) } :: L) := rh_shut1 hRF hs3
  have HS3 := Lib.hid hs3
  have HJ := Lib.hid hj
  clear hs2 hX3 hs3 hRF hjo hj
  go_wp2_with fail
  refine wp_region_held_drew (S := (fun X : World => X.cell? ⟨hb, 10, none⟩ = some (sl p.jb S.n p.jc) ∧ (TNot.ld (.pointer (some ⟨nb, 0, none⟩))).run Tryd.prog X = .ok (.agg n.cells) X)) (by kernel_rfl) (HJ0.out) (fun hHeld => ?_)
  refine rgn 0 (v := ?vq63) hHeld ?yq63 ?_
  case yq63 => (intro w hSw; obtain ⟨k0, k1⟩ := hSw; go_simp; try with_reducible rfl)
  simp only [Act.put, rn1, rn2, rn3, rn4, rn5, rn6]
  refine rgn 1 (v := ?vq64) hHeld ?yq64 ?_
  case yq64 => (intro w hSw; obtain ⟨k0, k1⟩ := hSw; go_simp; try with_reducible rfl)
  simp only [Act.put, rn1, rn2, rn3, rn4, rn5, rn6]
  refine rgn 2 (v := ?vq65) hHeld ?yq65 ?_
  case yq65 => (intro w hSw; obtain ⟨k0, k1⟩ := hSw; go_simp; try with_reducible rfl)
  simp only [Act.put, rn1, rn2, rn3, rn4, rn5, rn6]
  refine rgn 3 (v := ?vq66) hHeld ?yq66 ?_
  case yq66 => (intro w hSw; obtain ⟨k0, k1⟩ := hSw; go_simp; try with_reducible rfl)
  simp only [Act.put, rn1, rn2, rn3, rn4, rn5, rn6]
  refine rgn 4 (v := ?vq67) hHeld ?yq67 ?_
  case yq67 => (intro w hSw; obtain ⟨k0, k1⟩ := hSw; go_simp; try with_reducible rfl)
  simp only [Act.put, rn1, rn2, rn3, rn4, rn5, rn6]
  refine rgn 5 (v := ?vq68) hHeld ?yq68 ?_
  case yq68 => (intro w hSw; obtain ⟨k0, k1⟩ := hSw; go_simp; try with_reducible rfl)
  simp only [Act.put, rn1, rn2, rn3, rn4, rn5, rn6]
  refine rgn 6 (v := ?vq69) hHeld ?yq69 ?_
  case yq69 => (intro w hSw; obtain ⟨k0, k1⟩ := hSw; go_simp; try with_reducible rfl)
  simp only [Act.put, rn1, rn2, rn3, rn4, rn5, rn6]
  refine rgn 7 (v := ?vq70) hHeld ?yq70 ?_
  case yq70 => (intro w hSw; obtain ⟨k0, k1⟩ := hSw; go_simp; try with_reducible rfl)
  simp only [Act.put, rn1, rn2, rn3, rn4, rn5, rn6]
  refine rgn 8 (v := ?vq71) hHeld ?yq71 ?_
  case yq71 => (intro w hSw; obtain ⟨k0, k1⟩ := hSw; go_simp; try with_reducible rfl)
  simp only [Act.put, rn1, rn2, rn3, rn4, rn5, rn6]
  refine reg_step (i := 9) (by kernel_rfl) rfl (by kernel_rfl) (fun K hK => ?_)
  go_simp
  have HS := HJ1.out
  refine hK.out _ _ HS (fun hHeld2 => ?_)
  clear hK hHeld2 hHeld; have hHeld := HS; clear HS
  try simp only [Act.put, rn1, rn2, rn3, rn4, rn5, rn6]
  refine wpAnyH_done (by kernel_rfl) ?_ _
  clear hHeld HJ0 HJ1 hst hbr
  go_wp2_with fail
  refine (ML.rlist_any who _).mono ?_
  rintro e X4 ⟨lv, rfl, hrw, hown, hu4⟩
  have hs4 := HS3.out.push (hu4.mono (fun i hi h => by unfold From at h; omega)) (Φ := rowO 3 1 lv (bitsL who).length ((bitsL who).map VI)) ⟨hrw, hown⟩
  obtain ⟨la, lc, rfl, hlc, hlm, hla⟩ := hrw.slice
  have hs4 := out_nil hs4
  have HS4 := Lib.hid hs4
  have hb32 := bitsL_length who
  unfold maxLen at hlm
  clear hrw hown hu4 hs4
  go_wp2_with fail
  go_loopw [12, 14] (fun ov iv wr => ∃ (k : Nat) (a : Option Addr) (cap : Nat), k ≤ (bitsL who).length ∧ ov = .slice a k cap ∧ iv = .int .i64 k ∧ Hid (Sep NoF w0 wr (outO (.slice a k cap) (asksL who by_ b n.stamp k) :: rowO 3 1 (.slice la (bitsL who).length lc) (bitsL who).length ((bitsL who).map VI) :: boxO nb n.cells NT :: rhO hb rm { S with J := updI S.J b (some j) } :: L))) (fun _ i _ => (bitsL who).length - (intOf i).toNat)
  case atStart => exact ⟨0, none, 0, Nat.zero_le _, rfl, rfl, HS4⟩
  case round =>
    obtain ⟨k, a, cap, hk, rfl, rfl, HI⟩ := hrel
    obtain ⟨wo, hwo⟩ : ∃ x, x = wr := ⟨_, rfl⟩
    subst hwo
    by_cases hlt2 : k < (bitsL who).length
    · obtain ⟨x, hx⟩ : ∃ x, (bitsL who)[k]? = some x := ⟨_, List.getElem?_eq_getElem hlt2⟩
      obtain ⟨g, rfl⟩ : ∃ g, la = some ⟨g, 0, none⟩ := by
        cases la with
        | none => have := (hla rfl).1; omega
        | some ad => obtain ⟨⟨g, rfl⟩, -⟩ := (HI.out.row 1 rfl).cells; exact ⟨g, rfl⟩
      have hsd := HI.out.upd0 (Upd.drew NoF wo)
      obtain ⟨X5, hX5⟩ : ∃ X, wo.drew = X := ⟨_, rfl⟩
      rw [hX5] at hsd
      have HF5 := Lib.hid (fun X (hX : Upd NoF X5 X) => (show X.cell? ⟨g, k, none⟩ = some (.int .i64 x) ∧ X.cell? ⟨nb, 4, none⟩ = some (.int .u64 n.stamp) from
        ⟨by have := ((hsd.upd0 hX).row 1 rfl).cells.2 k (.int .i64 x) (by rw [List.getElem?_map, hx]; rfl); simpa using this, (((hsd.upd0 hX).box 2 rfl).cell 4).trans n.get4⟩))
      have bs := fun w => bd_stamp by_ (x : Int) b n.stamp w
      have hzN := (Nt.Ok.isN (n := ntAsk by_ x b n.stamp) BU.isU_Z)
      have hsN := fun w => bsN_run hzN.1 w
      have hs6 := (hsd.alloc (ntAsk by_ x b n.stamp).cells NT).head (Φ' := outO (sl X5.heap.size 1 1) [ntAsk by_ x b n.stamp]) (fun F hF => out_one hzN.1 hF)
      obtain ⟨v', X6, hrun, hs7⟩ := s_cat hs6 1 0 rfl rfl (fun m hm => by simp at hm; subst hm; exact BU.isU_Z) (by rw [asksL_len hk]; simp; omega)
      have hs7 : Sep NoF w0 X6 (outO v' (asksL who by_ b n.stamp (k + 1)) :: rowO 3 1 (.slice (some ⟨g, 0, none⟩) (bitsL who).length lc) (bitsL who).length ((bitsL who).map VI) :: boxO nb n.cells NT :: rhO hb rm { S with J := updI S.J b (some j) } :: L) := by rw [← asksL_app hx]; exact hs7.drop 0 (by simp)
      obtain ⟨a2, cap2, hv', -⟩ := (hs7.row 0 rfl).slice
      rw [asksL_len (by omega)] at hv'
      subst hv'
      have HF6 := Lib.hid (show X6.cell? ⟨g, k, none⟩ = some (.int .i64 x) ∧ X6.cell? ⟨nb, 4, none⟩ = some (.int .u64 n.stamp) from
        ⟨by have := (hs7.row 1 rfl).cells.2 k (.int .i64 x) (by rw [List.getElem?_map, hx]; rfl); simpa using this, ((hs7.box 2 rfl).cell 4).trans n.get4⟩)
      have HR := Lib.hid hrun; have HS7 := Lib.hid hs7; have HX5 := Lib.hid hX5
      clear hsd hX5 hs6 hrun hs7 hzN hx
      go_wp2_with fail
      refine wp_region_held_drew (S := (fun X : World => X.cell? ⟨g, k, none⟩ = some (.int .i64 x) ∧ X.cell? ⟨nb, 4, none⟩ = some (.int .u64 n.stamp))) (by kernel_rfl) (by rw [HX5.out]; exact HF5.out _ (Upd.refl NoF X5)) (fun hHeld => ?_)
      rw [HX5.out] at hHeld ⊢
      refine rgn 0 (v := ?vq72) hHeld ?yq72 ?_
      case yq72 => (intro w hSw; obtain ⟨k0, k1⟩ := hSw; go_simp; try with_reducible rfl)
      simp only [Act.put, rn1, rn2, rn3, rn4, rn5, rn6]
      refine rgn 1 (v := ?vq73) hHeld ?yq73 ?_
      case yq73 => (intro w hSw; obtain ⟨k0, k1⟩ := hSw; go_simp; try with_reducible rfl)
      simp only [Act.put, rn1, rn2, rn3, rn4, rn5, rn6]
      refine rgn 2 (v := ?vq74) hHeld ?yq74 ?_
      case yq74 => (intro w hSw; obtain ⟨k0, k1⟩ := hSw; go_simp; try with_reducible rfl)
      simp only [Act.put, rn1, rn2, rn3, rn4, rn5, rn6]
      refine rgn 3 (v := ?vq75) hHeld ?yq75 ?_
      case yq75 => (intro w hSw; obtain ⟨k0, k1⟩ := hSw; go_simp; try with_reducible rfl)
      simp only [Act.put, rn1, rn2, rn3, rn4, rn5, rn6]
      refine rgn 4 (v := ?vq76) hHeld ?yq76 ?_
      case yq76 => (intro w hSw; obtain ⟨k0, k1⟩ := hSw; go_simp; try with_reducible rfl)
      simp only [Act.put, rn1, rn2, rn3, rn4, rn5, rn6]
      refine rgn 5 (v := ?vq77) hHeld ?yq77 ?_
      case yq77 => (intro w hSw; obtain ⟨k0, k1⟩ := hSw; go_simp; try with_reducible rfl)
      simp only [Act.put, rn1, rn2, rn3, rn4, rn5, rn6]
      refine rgn 6 (v := ?vq78) hHeld ?yq78 ?_
      case yq78 => (intro w hSw; obtain ⟨k0, k1⟩ := hSw; go_simp; try with_reducible rfl)
      simp only [Act.put, rn1, rn2, rn3, rn4, rn5, rn6]
      refine rgn 7 (v := ?vq79) hHeld ?yq79 ?_
      case yq79 => (intro w hSw; obtain ⟨k0, k1⟩ := hSw; go_simp; try with_reducible rfl)
      simp only [Act.put, rn1, rn2, rn3, rn4, rn5, rn6]
      refine rgn 8 (v := ?vq80) hHeld ?yq80 ?_
      case yq80 => (intro w hSw; obtain ⟨k0, k1⟩ := hSw; go_simp; try with_reducible rfl)
      simp only [Act.put, rn1, rn2, rn3, rn4, rn5, rn6]
      refine rgn 9 (v := ?vq81) hHeld ?yq81 ?_
      case yq81 => (intro w hSw; obtain ⟨k0, k1⟩ := hSw; go_simp; try with_reducible rfl)
      simp only [Act.put, rn1, rn2, rn3, rn4, rn5, rn6]
      refine reg_step (i := 10) (by kernel_rfl) rfl (by kernel_rfl) (fun K hK => ?_)
      go_simp
      have HS : (fun X : World => X.cell? ⟨g, k, none⟩ = some (.int .i64 x) ∧ X.cell? ⟨nb, 4, none⟩ = some (.int .u64 n.stamp)) (X5.alloc (.cells (ntAsk by_ x b n.stamp).cells NT)) := HF5.out _ (Upd.alloc NoF X5 _)
      refine hK.out _ _ HS (fun hHeld2 => ?_)
      clear hK hHeld2 hHeld; have hHeld := HS; clear HS
      try simp only [Act.put, rn1, rn2, rn3, rn4, rn5, rn6]
      refine reg_step (i := 11) (by kernel_rfl) rfl (by kernel_rfl) (fun K hK => ?_)
      refine oper_app _ _ NS rfl rfl rfl HR.out ?_
      have HS : (fun X : World => X.cell? ⟨g, k, none⟩ = some (.int .i64 x) ∧ X.cell? ⟨nb, 4, none⟩ = some (.int .u64 n.stamp)) X6 := HF6.out
      refine hK.out _ _ HS (fun hHeld2 => ?_)
      clear hK hHeld2 hHeld; have hHeld := HS; clear HS
      try simp only [Act.put, rn1, rn2, rn3, rn4, rn5, rn6]
      refine rgn 12 (v := ?vq82) hHeld ?yq82 ?_
      case yq82 => (intro w hSw; go_simp; try with_reducible rfl)
      simp only [Act.put, rn1, rn2, rn3, rn4, rn5, rn6]
      refine wpAnyH_done (by kernel_rfl) ?_ _
      clear hHeld HR HF5 HF6 HX5 bs hsN HI
      go_wp2
      go_roundw
      case rel => exact ⟨k + 1, a2, cap2, by omega, rfl, by go_num, HS7⟩
      case measure => simp [intOf]; omega
    · obtain rfl : k = (bitsL who).length := by omega
      have hjb : j.ask.blk = b := by rw [← HJ.out]; exact HBK.out
      by_cases hz : who = 0#32
      · have hw0 : (((bitsL who).length : Int) == 0) = true := by rw [hz]; decide +kernel
        have hbg := HBG.out
        rw [if_pos hz, HJ.out] at hbg
        have HBG2 := Lib.hid hbg
        have hans := ranswer_is (((HI.out.drop 0 (by simp)).drop 0 (by simp)).drop 0 (by simp)) b j (updI_same _ _ _)
        rw [answer_put hjb] at hans
        have HANS := Lib.hid hans
        have hns : (answerP S j).2.cells.size = 24 := (Nt.Ok.isN (show IsU (answerP S j).2.D from HFI.out.good.isU _)).1
        have HNS := Lib.hid hns
        clear hbg hans hjb hz HBG HI hns
        go_wp2_with fail
        refine HANS.out.mono ?_
        rintro e X7 ⟨g7, rfl, hs7⟩
        have HS7 := Lib.hid (hs7.head (Φ' := outO (sl g7 1 1) [(answerP S j).2]) (fun F hF => out_one HNS.out hF))
        clear hs7
        go_wp2
        go_ret
        refine ⟨_, rfl, ?_⟩
        rw [HBG2.out]
        exact HS7.out
      · have hw0 : (((bitsL who).length : Int) == 0) = false := by
          have h1 := bits_ne hz
          have h2 : (bitsL who).length ≠ 0 := fun e => h1 (List.length_eq_zero_iff.1 e)
          have h3 : ((bitsL who).length : Int) ≠ 0 := by omega
          simpa using h3
        have hbg := HBG.out
        rw [if_neg hz, HJ.out] at hbg
        have HBG2 := Lib.hid hbg
        have HS7 := Lib.hid ((HI.out.drop 1 (by simp)).drop 1 (by simp))
        clear hbg hjb hz HBG HI
        go_wp2
        go_ret
        refine ⟨_, rfl, ?_⟩
        rw [HBG2.out]
        exact HS7.out
theorem rbegin_is (h : Sep NoF w0 W (rhO hb rm S :: L)) (n : Nt) (hn : n.Ok) (h0 : 0 ≤ n.blk) (h1 : n.blk < S.data) : Calls Tryd.prog 67 #[ptr hb, .agg n.cells] W fun e W' =>
    ∃ v, e = .returned v ∧ Sep NoF w0 W' (outO v (beginP S n).2 :: rhO hb rm (beginP S n).1 :: L) := by
  by_cases h3 : n.kind = 3
  · exact rbegin_put h n hn h0 h1 h3
  · exact rbegin_ask h n hn h0 h1 h3
end
end Go.Proofs.YtlhbnndnkcpomaaDoor.HO
