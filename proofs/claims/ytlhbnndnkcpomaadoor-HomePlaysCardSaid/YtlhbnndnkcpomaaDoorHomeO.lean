/- A home, where it lies. -/
import Derived.Test.YtlhbnndnkcpomaaDoorHomePlain
import Derived.Test.YtlhbnndnkcpomaaDoorMemC
import Derived.Test.YtlhbnndnkcpomaaDoorGMap
import Derived.Test.YtlhbnndnkcpomaaDoorPoolNote
import Derived.Test.YtlhbnndnkcpomaaDoorAggJob
set_option linter.unusedSimpArgs false
set_option linter.unusedVariables false
namespace Go.Proofs.YtlhbnndnkcpomaaDoor.HO
open Go.RowKit
open BU (IsU words)
open PL (Cfg CC CV May)
open ME (memO sl)
abbrev ptr (b : Nat) : Value := .pointer (some ⟨b, 0, none⟩)
abbrev NT : TypeId := 47
abbrev ET' : TypeId := 59
abbrev HT : TypeId := 102
abbrev JT : TypeId := 105
def Jb.nil : Jb := ⟨Nt.nil, 0#32, false, false, 0⟩
theorem Jb.nil_cells : Jb.nil.cells = TJob.Z := by kernel_rfl
theorem Jb.nil_ok : Jb.nil.Ok := ⟨Nt.nil_ok, by decide⟩
/-- The jobs: a map of numbers. -/
def jobsT : GM.Ty Tryd.prog Int := GM.ints 100 3 JT (.agg TJob.Z) Tryd.underlying3 Tryd.underlying100 (fun w => agg_zero TJob.infoZ w)
def jobF (J : Int → Option Jb) : Int → Option Value := fun a => (J a).map fun j => .agg j.cells
/-- How many are under way. -/
def cntJ (J : Int → Option Jb) (n : Nat) : Nat := ((List.range n).filter fun i : Nat => (J (i : Int)).isSome).length
theorem cntJ_le (J : Int → Option Jb) (n : Nat) : cntJ J n ≤ n := by
  unfold cntJ
  have := List.length_filter_le (fun i : Nat => (J (i : Int)).isSome) (List.range n)
  simpa using this
theorem cntJ_succ (J : Int → Option Jb) (n : Nat) : cntJ J (n + 1) = cntJ J n + (if (J (n : Int)).isSome then 1 else 0) := by
  unfold cntJ
  rw [List.range_succ, List.filter_append, List.length_append]
  congr 1
  cases h : (J (n : Int)).isSome <;> simp [h]
theorem cntJ_ext {J J' : Int → Option Jb} {n : Nat} (h : ∀ i : Nat, i < n → (J (i : Int)).isSome = (J' (i : Int)).isSome) : cntJ J n = cntJ J' n := by
  unfold cntJ
  congr 1
  apply List.filter_congr
  intro i hi
  exact h i (List.mem_range.1 hi)
theorem updI_same {α : Type} (f : Int → α) (i : Int) (x : α) : updI f i x i = x := if_pos rfl
theorem updI_other {α : Type} (f : Int → α) {i j : Int} (x : α) (h : j ≠ i) : updI f i x j = f j := if_neg h
theorem cntJ_upd (J : Int → Option Jb) (b : Nat) (x : Option Jb) : ∀ (n : Nat), b < n → cntJ (updI J b x) n + (if (J b).isSome then 1 else 0) = cntJ J n + (if x.isSome then 1 else 0)
  | 0, h => by omega
  | n + 1, h => by
    rw [cntJ_succ, cntJ_succ]
    by_cases e : b = n
    · subst e
      have h1 : cntJ (updI J b x) b = cntJ J b := cntJ_ext (fun i hi => by rw [updI_other _ _ (show (i : Int) ≠ (b : Int) by omega)])
      rw [h1, updI_same]
      omega
    · have ih := cntJ_upd J b x n (by omega)
      rw [updI_other J x (show (n : Int) ≠ (b : Int) by omega)]
      omega
theorem putN_cnt {J : Int → Option Jb} {b n : Nat} (h : b < n) (j : Jb) : GM.putN (jobF J) (cntJ J n) b = cntJ (updI J b (some j)) n := by
  have := cntJ_upd J b (some j) n h
  unfold GM.putN jobF
  simp only [Option.isSome_map, Option.isSome_some, if_true] at this ⊢
  split <;> rename_i h2 <;> simp [h2] at this <;> omega
theorem delN_cnt {J : Int → Option Jb} {b n : Nat} (h : b < n) : GM.delN (jobF J) (cntJ J n) b = cntJ (updI J b none) n := by
  have := cntJ_upd J b none n h
  unfold GM.delN jobF
  simp only [Option.isSome_map, Option.isSome_none] at this ⊢
  split <;> rename_i h2 <;> simp [h2] at this <;> omega
theorem put_jobF (J : Int → Option Jb) (b : Int) (j : Jb) : GM.put (jobF J) b (.agg j.cells) = jobF (updI J b (some j)) := by
  funext a
  unfold GM.put jobF updI
  split <;> rfl
theorem del_jobF (J : Int → Option Jb) (b : Int) : GM.del (jobF J) b = jobF (updI J b none) := by
  funext a
  unfold GM.del jobF updI
  split <;> rfl
/-- Where its parts lie. -/
structure Hp where
  eb : Nat
  jb : Nat
  pb : Nat
  cap : Nat
  tl : Array Value
def Hs.n (S : Hs) : Nat := S.data.toNat
def Hs.cells (S : Hs) (mb : Nat) (p : Hp) : Array Value := #[.int .i64 S.c.cores, .int .i64 S.c.sets, .int .i64 S.c.ways, .int .i64 S.c.blocks, .int .i64 S.c.logs, .int .i64 S.c.backs, .int .i64 S.c.nest, .int .i64 S.c.tries,
  ptr mb, sl p.eb S.n p.cap, .map (some p.jb), ptr p.pb]
/-- The parts, side by side. -/
abbrev Hs.objs (S : Hs) (hb mb : Nat) (p : Hp) (L : List Obj) : List Obj :=
  boxO hb (S.cells mb p) HT :: memO mb S.c.blocks.toNat S.B :: boxO p.eb (rowG 2 S.n (fun i => (S.E i).cells) ++ p.tl) ET' :: GM.mapO jobsT p.jb (cntJ S.J S.n) (jobF S.J) :: PN.Po (ptr p.pb) (S.Q.map Nt.cells) S.room :: L
structure Fits (S : Hs) (p : Hp) : Prop where
  good : Good S
  cap : S.n ≤ p.cap ∧ p.cap ≤ maxLen
  tl : p.cap * 2 ≤ S.n * 2 + p.tl.size
/-- A home. -/
def homeO (hb mb : Nat) (S : Hs) : Obj :=
  exO fun p : Hp => andO (Fits S p) (starO (boxO hb (S.cells mb p) HT) (starO (memO mb S.c.blocks.toNat S.B) (starO (boxO p.eb (rowG 2 S.n (fun i => (S.E i).cells) ++ p.tl) ET')
    (starO (GM.mapO jobsT p.jb (cntJ S.J S.n) (jobF S.J)) (PN.Po (ptr p.pb) (S.Q.map Nt.cells) S.room)))))
theorem own_star {W : World} {Φ Ψ : Obj} {L : List Obj} {M : Nat → Prop} (h : Own W (starO Φ Ψ :: L) M) : Own W (Φ :: Ψ :: L) M := by
  obtain ⟨F, h1, ⟨F1, F2, a1, a2, a3, a4, a5⟩, h3⟩ := h
  exact ⟨F1, fun k hk => h1 k (a1 k hk), a4, F2, fun k hk => ⟨⟨(h1 k (a2 k hk)).1, fun hf => a3 k hf hk⟩, (h1 k (a2 k hk)).2⟩, a5, h3.mono (fun k _ hm => ⟨⟨hm.1, fun hf => hm.2 (a1 k hf)⟩, fun hf => hm.2 (a2 k hf)⟩)⟩
theorem own_unstar {W : World} {Φ Ψ : Obj} {L : List Obj} {M : Nat → Prop} (h : Own W (Φ :: Ψ :: L) M) : Own W (starO Φ Ψ :: L) M := by
  obtain ⟨F1, h1, a4, F2, h2, a5, h3⟩ := h
  exact ⟨fun k => F1 k ∨ F2 k, fun k hk => hk.elim (h1 k) (fun hk => ⟨(h2 k hk).1.1, (h2 k hk).2⟩), ⟨F1, F2, fun k hk => .inl hk, fun k hk => .inr hk, fun k hk hf => (h2 k hf).1.2 hk, a4, a5⟩,
    h3.mono (fun k _ hm => ⟨hm.1.1, fun hf => hf.elim hm.1.2 hm.2⟩)⟩
theorem own_tail {W : World} {Φ : Obj} {L L' : List Obj} (hf : ∀ M, Own W L M → Own W L' M) {M : Nat → Prop} (h : Own W (Φ :: L) M) : Own W (Φ :: L') M := by
  obtain ⟨F, h1, h2, h3⟩ := h
  exact ⟨F, h1, h2, hf _ h3⟩
section
variable {G : Nat → Prop} {w0 W W' : World} {hb mb : Nat} {S : Hs} {L : List Obj} {F : Nat → Prop}
theorem home_open (h : Sep G w0 W (homeO hb mb S :: L)) : ∃ p, Fits S p ∧ Sep G w0 W (S.objs hb mb p L) := by
  obtain ⟨p, h⟩ := h.ex
  obtain ⟨hf, h⟩ := h.pure
  exact ⟨p, hf, h.upd, own_tail (fun _ h => own_tail (fun _ h => own_tail (fun _ h => own_star h) (own_star h)) (own_star h)) (own_star h.own)⟩
theorem home_shut {p : Hp} (hf : Fits S p) (h : Sep G w0 W (S.objs hb mb p L)) : Sep G w0 W (homeO hb mb S :: L) :=
  Sep.unex p (Sep.unpure hf ⟨h.upd, own_unstar (own_tail (fun _ h => own_unstar (own_tail (fun _ h => own_unstar (own_tail (fun _ h => own_unstar h) h)) h)) h.own)⟩)
theorem own_home_shut {p : Hp} (hf : Fits S p) {M : Nat → Prop} (h : Own W (S.objs hb mb p L) M) : Own W (homeO hb mb S :: L) M := by
  have h1 := own_unstar (own_tail (fun _ h => own_unstar (own_tail (fun _ h => own_unstar (own_tail (fun _ h => own_unstar h) h)) h)) h)
  obtain ⟨F, a1, a2, a3⟩ := h1
  exact ⟨F, a1, ⟨p, hf, a2⟩, a3⟩
theorem home_shut1 {p : Hp} {Ψ : Obj} (hf : Fits S p) (h : Sep G w0 W (Ψ :: S.objs hb mb p L)) : Sep G w0 W (Ψ :: homeO hb mb S :: L) := ⟨h.upd, own_tail (fun _ h => own_home_shut hf h) h.own⟩
theorem own_home_open {M : Nat → Prop} (h : Own W (homeO hb mb S :: L) M) : ∃ p, Fits S p ∧ Own W (S.objs hb mb p L) M := by
  obtain ⟨F, a1, ⟨p, hf, a2⟩, a3⟩ := h
  exact ⟨p, hf, own_tail (fun _ h => own_tail (fun _ h => own_tail (fun _ h => own_star h) (own_star h)) (own_star h)) (own_star ⟨F, a1, a2, a3⟩)⟩
/-- Its memory is one. -/
theorem home_mem (h : (homeO hb mb S).is W F) : (memO mb S.c.blocks.toNat S.B).is W F := by
  obtain ⟨p, hf, F1, F2, a1, a2, a3, b1, F3, F4, a4, a5, a6, b3, b4⟩ := h
  exact (memO mb _ _).mono b3 (fun k hk => a2 k (a4 k hk))
theorem home_good (h : (homeO hb mb S).is W F) : Good S := h.choose_spec.1.good
end
end Go.Proofs.YtlhbnndnkcpomaaDoor.HO
