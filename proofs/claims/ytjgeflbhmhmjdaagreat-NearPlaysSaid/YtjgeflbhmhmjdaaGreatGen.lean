/- General lemmas, over any program: arguments read again behind a call that wrote nothing old; slices that came in; scopes with forward labels. -/
import Derived.Test.YtjgeflbhmhmjdaaGreatRows
import Derived.WalkKit
import Derived.ProofKit
import Derived.WalkSpells
import Derived.Outline
import Derived.OwnWalk
import Derived.OpenShut
import Derived.ShutString
import Derived.Lib.Hide
import Derived.Deep.Slices
import Derived.Deep.Grids
import Derived.SliceStrings
import Derived.Deep.QuietTactic
import Derived.BigQuiet
import Derived.Laws.AppendOwn
import Derived.Laws.OwnMore
import Derived.Maps.AppendAt
import Derived.Deep.RegionLaw
import Derived.RangeFuncNested
import Derived.RangeFuncBound
import Derived.RangeFuncCalls
import Derived.RangeFuncLeaves
import Derived.Shelf.Abstract
import Derived.OwnWalkIn
import Derived.TacticsInMore
import Derived.LoopNIn
import Derived.LoopIn
set_option linter.unusedSimpArgs false
set_option linter.unusedVariables false
namespace Go
section
variable {P : Program} {a : Act} {w : World} {Q : Exit → Act → World → Prop}
theorem wp_scope_fwd {c rest : Code} (l : Nat) (hf : findLabel c l = some rest)
    (h : c.wp P (Exit.jump l (fun a w => rest.wp P (Exit.noGoto Q) a w) Q) a w) : (Code.scope c).wp P Q a w :=
  wp_scope_jumps l (fun a w => rest.wp P (Exit.noGoto Q) a w) (fun _ _ => 0) hf h
    (fun _ _ hJ => Code.wp_mono (fun e a w q => by cases e <;> first | exact q | exact q.elim) hJ)
@[go_sem] theorem Exit.jump_normal (l J) : Exit.jump l J Q .normal a w = Q .normal a w := rfl
@[go_sem] theorem Exit.jump_exit (l J) (id : Nat) : Exit.jump l J Q (.exit id) a w = Q (.exit id) a w := rfl
@[go_sem] theorem Exit.jump_ret (l J) : Exit.jump l J Q .ret a w = Q .ret a w := rfl
@[go_sem] theorem Exit.jump_panic (l J) (ch : List PanicEntry) : Exit.jump l J Q (.panic ch) a w = Q (.panic ch) a w := rfl
@[go_sem] theorem Exit.jump_goto (l l' : Nat) (J) : Exit.jump l J Q (.goto l') a w = (l' = l ∧ J a w) := rfl
end
end Go
namespace Go.Proofs.YtjgeflbhmhmjdaaGreat
open Go.RowKit Go.ChangeShapes Go.WideShapes
section
variable {H : Type} {enc : TypeId × Value → H} {P : Program} {W W' : World}

theorem own : ownKnob Tryz.prog.godebug = none := by kernel_rfl
theorem laidOut : laidOutB Tryz.prog = true := by kernel_rfl

theorem trodAll_below (hl : laidOutB P = true) (hb : Below W.heap.size W W') : ∀ {ts : List TypeId} {vs : List Value} {ds : List (DataW H)} {ps : List MemPlace},
    (∀ t ∈ ts, P.readableRec t = true ∧ t < P.types.size) → DataW.TrodAll enc P W 0 (fun _ => true) true ts vs ds ps →
    DataW.TrodAll enc P W' 0 (fun b => decide (b < W.heap.size)) true ts vs ds ps
  | [], vs, ds, ps, _, h => by
    obtain ⟨rfl, rfl, rfl⟩ := trodAll_nil h
    exact trodAll_mk0
  | t :: ts, vs, ds, ps, ht, h => by
    obtain ⟨v, vs', d, ds', p, q, rfl, rfl, rfl, h0, hr⟩ := trodAll_cons h
    have hlt : ∀ x ∈ p, x.block < W.heap.size := by obtain ⟨m, hm⟩ := h0; exact DataW.trod_lt m _ _ _ hm
    exact trodAll_cons_mk (Below.trod hl (ht t (by simp)).1 (ht t (by simp)).2 h0 hb hlt) (trodAll_below hl hb (fun t' h' => ht t' (by simp [h'])) hr)

def IsRow1 (w : World) (a : Option Addr) (len cap : Nat) (V : Nat → Value) : Prop :=
  len ≤ cap ∧ cap ≤ maxLen ∧ ∀ i, i < len → ∃ x, a = some x ∧ w.cell? (x.add i) = some (V i)

end
end Go.Proofs.YtjgeflbhmhmjdaaGreat
namespace Go.Proofs.YtjgeflbhmhmjdaaGreat
open Go.RowKit

def dataO : Go.Obj → Bool
  | .cells .. => true
  | .map .. => true
  | _ => false
theorem dataO_cells {o : Go.Obj} (h : o.isCells = true) : dataO o = true := by cases o <;> first | rfl | cases h
def NoCells (w : World) (k : Nat) : Prop := ∀ o, w.heap[k]? = some o → dataO o = false
structure KeepsRec (W W' : World) : Prop where
  size : W.heap.size ≤ W'.heap.size
  same : ∀ (k : Nat) (o : Go.Obj), W.heap[k]? = some o → dataO o = false → W'.heap[k]? = some o
theorem KeepsRec.refl (W : World) : KeepsRec W W := ⟨Nat.le_refl _, fun _ _ h _ => h⟩
theorem KeepsRec.trans {A B C : World} (h : KeepsRec A B) (k : KeepsRec B C) : KeepsRec A C := ⟨Nat.le_trans h.size k.size, fun i o ho hf => k.same i o (h.same i o ho hf) hf⟩

structure Upd (F : Nat → Prop) (w w' : World) : Prop where
  os : w'.os = w.os
  tape : w'.tape = w.tape
  output : w'.output = w.output
  size : w.heap.size ≤ w'.heap.size
  block : ∀ k, k < w.heap.size → (¬ F k ∨ NoCells w k) → w'.heap[k]? = w.heap[k]?

def NoF : Nat → Prop := fun _ => False

theorem Upd.refl (F : Nat → Prop) (w : World) : Upd F w w := ⟨rfl, rfl, rfl, Nat.le_refl _, fun _ _ _ => rfl⟩

theorem Upd.trans {F G : Nat → Prop} {a b c : World} (h : Upd F a b) (k : Upd G b c) (hG : ∀ i, i < a.heap.size → G i → F i) : Upd F a c :=
  ⟨k.os.trans h.os, k.tape.trans h.tape, k.output.trans h.output, Nat.le_trans h.size k.size, fun i hi hF => by
    have h1 := h.block i hi hF
    refine (k.block i (Nat.lt_of_lt_of_le hi h.size) ?_).trans h1
    rcases hF with hF | hF
    · exact .inl (fun hg => hF (hG i hi hg))
    · exact .inr (fun o ho => hF o (h1 ▸ ho))⟩

theorem Upd.mono {F G : Nat → Prop} {a b : World} (h : Upd F a b) (hF : ∀ i, i < a.heap.size → F i → G i) : Upd G a b :=
  ⟨h.os, h.tape, h.output, h.size, fun i hi hG => h.block i hi (hG.imp (fun hG hf => hG (hF i hi hf)) id)⟩

theorem Upd.below {F : Nat → Prop} {B : Nat} {a b : World} (h : Upd F a b) (hB : B ≤ a.heap.size) (hF : ∀ i, i < B → ¬ F i) : Below B a b :=
  ⟨h.os, h.tape, h.output, h.size, fun k hk => h.block k (by omega) (.inl (hF k hk))⟩

theorem Upd.drewN (F : Nat → Prop) (w : World) (n : Nat) : Upd F w (w.drewN n) := ⟨rfl, rfl, rfl, Nat.le_refl _, fun _ _ _ => rfl⟩
theorem Upd.drew (F : Nat → Prop) (w : World) : Upd F w w.drew := ⟨rfl, rfl, rfl, Nat.le_refl _, fun _ _ _ => rfl⟩
theorem Upd.alloc (F : Nat → Prop) (w : World) (o : Obj) : Upd F w (w.alloc o) := ⟨rfl, rfl, rfl, by simp, fun k hk _ => Below.heap_alloc _ _ _ hk⟩
theorem Upd.setCell {F : Nat → Prop} (w : World) {p : Addr} (hp : F p.block) (u : Value) : Upd F w (w.setCell p u) :=
  ⟨rfl, rfl, rfl, by simp [World.setCell], fun k hk hk' => by
    by_cases e : k = p.block
    · subst e
      rcases hk' with h | h
      · exact (h hp).elim
      · have hv : w.heap[p.block]? = some w.heap[p.block] := Array.getElem?_eq_getElem hk
        have hn := h _ hv
        show (w.heap.modify p.block _)[p.block]? = _
        rw [Array.getElem?_modify, if_pos rfl, hv]
        cases ho : w.heap[p.block] <;> first | (rw [ho] at hn; cases hn; done) | rfl
    · exact Below.heap_setCell _ _ _ _ e⟩
theorem Upd.grown {F : Nat → Prop} {w w' : World} {row : Option Nat} (hg : w.grownBy w' row) (hr : ∀ k, row = some k → k < w.heap.size → F k ∧ ∃ o, w.heap[k]? = some o ∧ o.isCells = true) : Upd F w w' :=
  ⟨hg.os, hg.tape, hg.output, hg.size, fun k hk hk' => hg.block k hk (fun e => by
    obtain ⟨h1, o, h2, h3⟩ := hr k e.symm hk
    rcases hk' with h | h
    · exact h h1
    · have h4 := h o h2; rw [dataO_cells h3] at h4; cases h4)⟩
theorem Upd.mapped {F : Nat → Prop} {w w' : World} {b : Nat} (hg : w.grownBy w' (some b)) (hF : F b) (hm : ∃ es clock, w.heap[b]? = some (.map es clock)) : Upd F w w' :=
  ⟨hg.os, hg.tape, hg.output, hg.size, fun k hk hk' => hg.block k hk (fun e => by
    cases e
    obtain ⟨es, clock, h2⟩ := hm
    rcases hk' with h | h
    · exact h hF
    · cases h _ h2)⟩

theorem Upd.heap {F : Nat → Prop} {w w' : World} (h : Upd F w w') {k : Nat} {o : Obj} (hk : w.heap[k]? = some o) (hF : ¬ F k) : w'.heap[k]? = some o :=
  (h.block k (Array.getElem?_eq_some_iff.1 hk).1 (.inl hF)).trans hk

theorem Upd.others {F : Nat → Prop} {w w' : World} (h : Upd F w w') : KeepsRec w w' :=
  ⟨h.size, fun k o hk ho => (h.block k (Array.getElem?_eq_some_iff.1 hk).1 (.inr (fun o' ho' => by rw [hk] at ho'; cases ho'; exact ho))).trans hk⟩

theorem Upd.cell {F : Nat → Prop} {w w' : World} (h : Upd F w w') {a : Addr} {v : Value} (hk : w.cell? a = some v) (hF : ¬ F a.block) : w'.cell? a = some v := by
  have hlt : a.block < w.heap.size := World.block_lt_of_cell? w a hk
  rw [World.cell?_of_block (w := w) (h.block _ hlt (.inl hF))]; exact hk

theorem cells_of_block {w : World} {b : Nat} {cs : Array Value} {T : TypeId} (h : w.heap[b]? = some (.cells cs T (0, 0))) : (∀ i, w.cell? ⟨b, i, none⟩ = cs[i]?) ∧ (∀ i, w.frozen? ⟨b, i, none⟩ = false) :=
  ⟨fun i => by simp [World.cell?, h], fun i => by simp [World.frozen?, h]⟩

def AndNew (F : Nat → Prop) (w : World) : Nat → Prop := fun k => F k ∨ w.heap.size ≤ k
theorem AndNew.le {F : Nat → Prop} {w w' : World} (hw : w.heap.size ≤ w'.heap.size) : ∀ k, AndNew F w' k → AndNew F w k := fun k h => h.imp id (fun h => Nat.le_trans hw h)
def From (B : Nat) : Nat → Prop := fun k => B ≤ k
theorem drewN_is (w : World) (n : Nat) : ∃ w0, w.drewN n = w0 ∧ w0.heap = w.heap ∧ Upd NoF w w0 := ⟨_, rfl, rfl, Upd.drewN _ _ _⟩
def Row (w : World) (e : TypeId) (c : Nat) (v : Value) (n : Nat) (xs : List Value) : Prop :=
  xs.length = n * c ∧ ((v = .slice none 0 0 ∧ n = 0) ∨
    ∃ g cap cur, v = .slice (some ⟨g, 0, none⟩) n cap ∧ w.heap[g]? = some (.cells cur e (0, 0)) ∧ n ≤ cap ∧ cap ≤ maxLen ∧ cap * c ≤ cur.size ∧ cur.toList.take (n * c) = xs)

theorem Row.nil (w : World) (e : TypeId) (c : Nat) : Row w e c (.slice none 0 0) 0 [] := ⟨by simp, .inl ⟨rfl, rfl⟩⟩

section
variable {w w' : World} {e : TypeId} {c : Nat} {v : Value} {n : Nat} {xs : List Value} {F : Nat → Prop}

theorem Row.upd (h : Row w e c v n xs) (hu : Upd F w w') (hF : ∀ k, v.ownBlock = some k → ¬ F k) : Row w' e c v n xs := by
  refine ⟨h.1, ?_⟩
  rcases h.2 with hn | ⟨g, cap, cur, rfl, hgg, rest⟩
  · exact .inl hn
  · exact .inr ⟨g, cap, cur, rfl, hu.heap hgg (hF g rfl), rest⟩

theorem Row.lt (h : Row w e c v n xs) : ∀ k, v.ownBlock = some k → k < w.heap.size := by
  intro k hk
  rcases h.2 with ⟨rfl, _⟩ | ⟨g, cap, cur, rfl, hg, _⟩
  · simp [Value.ownBlock] at hk
  · simp [Value.ownBlock] at hk
    subst hk
    exact (Array.getElem?_eq_some_iff.1 hg).1

theorem Row.isCells (h : Row w e c v n xs) : ∀ k, v.ownBlock = some k → ∃ o, w.heap[k]? = some o ∧ o.isCells = true := by
  intro k hk
  rcases h.2 with ⟨rfl, _⟩ | ⟨g, cap, cur, rfl, hg, _⟩
  · simp [Value.ownBlock] at hk
  · simp [Value.ownBlock] at hk
    subst hk
    exact ⟨_, hg, rfl⟩

theorem Row.alloc (h : Row w e c v n xs) (o : Obj) : Row (w.alloc o) e c v n xs := h.upd (Upd.alloc NoF w o) (fun _ _ h => h)

theorem Row.slice (h : Row w e c v n xs) : ∃ a cap, v = .slice a n cap ∧ n ≤ cap ∧ cap ≤ maxLen ∧ (a = none → n = 0 ∧ cap = 0) := by
  rcases h.2 with ⟨rfl, rfl⟩ | ⟨g, cap, cur, rfl, hgg, h1, h2, _⟩
  · exact ⟨none, 0, rfl, Nat.le_refl _, by unfold maxLen; omega, fun _ => ⟨rfl, rfl⟩⟩
  · exact ⟨_, cap, rfl, h1, h2, fun h => by cases h⟩

theorem Row.cells {a : Addr} {cap : Nat} (h : Row w e c (.slice (some a) n cap) n xs) : (∃ g, a = ⟨g, 0, none⟩) ∧ ∀ j u, xs[j]? = some u → w.cell? ⟨a.block, a.off + j, none⟩ = some u := by
  rcases h.2 with ⟨h, _⟩ | ⟨g, cap', cur, h, hgg, _, _, _, htake⟩
  · cases h
  · cases h
    refine ⟨⟨g, rfl⟩, fun j u hu => ?_⟩
    rw [← htake, List.getElem?_take] at hu
    split at hu
    · simp only [Nat.zero_add, World.cell?, hgg]
      simpa using hu
    · cases hu
end

theorem Row.prefix {w : World} {e : TypeId} {c : Nat} {g n cap k : Nat} {xs : List Value} (h : Row w e c (.slice (some ⟨g, 0, none⟩) n cap) n xs) (hk : k ≤ n) : Row w e c (.slice (some ⟨g, 0, none⟩) k k) k (xs.take (k * c)) := by
  rcases h.2 with ⟨h, _⟩ | ⟨g', cap', cur, h, hgg, h1, h2, h3, h4⟩
  · cases h
  · cases h
    have hkn : k * c ≤ n * c := Nat.mul_le_mul_right _ hk
    refine ⟨by rw [List.length_take, h.1]; omega, .inr ⟨g, k, cur, rfl, hgg, Nat.le_refl _, by omega, Nat.le_trans (Nat.mul_le_mul_right _ (by omega)) h3, ?_⟩⟩
    rw [← h4, List.take_take, Nat.min_eq_left hkn]

section
variable {P : Program} (w : World)

theorem run_append_zero (t ty e : TypeId) (i : TypeInfo) (ht : P.underlying t = some (.slice e)) (hi : P.info? e = some i) (b : Option Addr) (n cap : Nat) (hn : n ≤ cap) (a : Option Addr) (c : Nat) :
    (Builtin.append_ #[t, t] ty #[.slice b n cap, .slice a 0 c]).run P w = .ok (.slice b n cap) w := by
  cases a <;> cases b <;> simp [Builtin.append_, run_underlying ht, sizeOf, typeInfo, hi, Builtin.lenOf, hn, Builtin.firstCells, loadCells, loadCellsFrom, storeCells]

theorem run_append_row (t ty e : TypeId) (i : TypeInfo) (z : Value) (size bytes : Nat) (ht : P.underlying t = some (.slice e)) (hi : P.info? e = some i) (hz : i.zero = some z)
    (hsize : i.size = size) (hby : i.bytes = bytes) (hzs : z.cells.size = size) (hsz : 0 < size)
    (v : Value) (n : Nat) (xs : List Value) (hown : Row w e size v n xs)
    (a : Addr) (m c : Nat) (news : List Value) (hl : news.length = m * size) (hnews : ∀ j u, news[j]? = some u → w.cell? (a.add j) = some u) (h1 : ∀ u ∈ news, u.oneCell' = true)
    (h63 : n + m ≤ maxLen) (hbytes : (n + m) * bytes ≤ 140737488355328) :
    ∃ v' w', (Builtin.append_ #[t, t] ty #[v, .slice (some a) m c]).run P w = .ok v' w' ∧ Row w' e size v' (n + m) (xs ++ news) ∧ w.grownBy w' v.ownBlock ∧
      (v'.ownBlock = v.ownBlock ∨ ∃ g, v'.ownBlock = some g ∧ w.heap.size ≤ g) := by
  subst hsize
  subst hby
  have hsmall : n + m ≤ 9223372036854775807 := by simp only [maxLen] at h63; omega
  have hlen : (xs ++ news).length = (n + m) * i.size := by rw [List.length_append, hown.1, hl, Nat.add_mul]
  have grown : ∀ (old : Nat), old < n + m → ∀ (row : Option Nat),
      Row (w.drew.alloc (.cells (xs.toArray ++ news.toArray ++ Builtin.zeroCells z.cells (grownCap w (n + m) old e - (n + m))) e)) e i.size
        (.slice (some ⟨w.heap.size, 0, none⟩) (n + m) (grownCap w (n + m) old e)) (n + m) (xs ++ news) ∧
      w.grownBy (w.drew.alloc (.cells (xs.toArray ++ news.toArray ++ Builtin.zeroCells z.cells (grownCap w (n + m) old e - (n + m))) e)) row := by
    intro old ho row
    have hge := grownCap_ge w (n + m) old e
    have hcm : grownCap w (n + m) old e ≤ maxLen := grownCap_le_maxLen w (n + m) old e h63
    refine ⟨⟨hlen, .inr ⟨w.heap.size, _, _, rfl, heap_alloc_new w.drew _, hge, hcm, ?_, ?_⟩⟩, ⟨rfl, rfl, rfl, by simp, fun k hk _ => Below.heap_alloc w.drew _ k hk⟩⟩
    · simp only [Array.size_append, List.size_toArray, size_zeroCells, hzs, hown.1, hl, ← Nat.add_mul]
      apply Nat.le_of_eq
      congr 1
      omega
    · simp only [Array.toList_append, List.append_assoc]
      rw [← List.append_assoc, ← hlen]
      exact List.take_left
  rcases hown.2 with ⟨rfl, rfl⟩ | ⟨g, cap, cur, rfl, hg, hnc, hcm, hcs, htake⟩
  · have hx : xs = [] := List.eq_nil_of_length_eq_zero (by simpa using hown.1)
    subst hx
    by_cases hm : m = 0
    · subst hm
      have hn : news = [] := List.eq_nil_of_length_eq_zero (by simpa using hl)
      subst hn
      exact ⟨.slice none 0 0, w, run_append_zero w t ty e i ht hi none 0 0 (Nat.le_refl _) (some a) c, Row.nil w e i.size, ⟨rfl, rfl, rfl, Nat.le_refl _, fun _ _ _ => rfl⟩, .inl rfl⟩
    · have hr := run_append_nil (P := P) w t ty e i z ht hi hz a m c news hl hnews (by omega) (by omega) (by have hb := hbytes; simp only [Nat.zero_add] at hb; omega)
      have hgr := grown 0 (by omega) (Value.ownBlock (.slice none 0 0))
      simp only [Nat.zero_add, List.nil_append, Array.empty_append] at hgr ⊢
      exact ⟨_, _, hr, hgr.1, hgr.2, .inr ⟨_, rfl, Nat.le_refl _⟩⟩
  · by_cases hroom : n + m ≤ cap
    · have hfit : n * i.size + news.length ≤ cur.size := by rw [hl, ← Nat.add_mul]; exact Nat.le_trans (Nat.mul_le_mul_right _ hroom) hcs
      have hr := run_append_room (P := P) w t ty e i ht hi g n cap cur hg a m c news hl hnews h1 hroom hfit
      refine ⟨_, _, hr, ⟨hlen, .inr ⟨g, cap, _, rfl, setRow_heap w g cur _ e _ hg, hroom, hcm, ?_, ?_⟩⟩, ⟨rfl, rfl, rfl, by simp, fun k _ hk => setRow_other w g k _ (fun e => hk (by simp [Value.ownBlock, e]))⟩, .inl rfl⟩
      · simp only [List.size_toArray, List.length_append, List.length_take, List.length_drop, Array.length_toList]
        omega
      · rw [htake, ← hlen]
        exact List.take_left
    · have holds : ∀ j u, xs[j]? = some u → w.cell? ((⟨g, 0, none⟩ : Addr).add j) = some u := fun j u hu => by
        have := (hown.cells).2 j u hu
        rw [Addr.add_lit]; simpa using this
      have hr := run_append_grow (P := P) w t ty e i z ht hi hz ⟨g, 0, none⟩ n cap xs hown.1 holds a m c news hl hnews (by omega) (by omega) (growslice_fits (by omega) hbytes)
      have hgr := grown cap (by omega) (Value.ownBlock (.slice (some ⟨g, 0, none⟩) n cap))
      exact ⟨_, _, hr, hgr.1, hgr.2, .inr ⟨_, rfl, Nat.le_refl _⟩⟩

theorem wpList_append_run {ops : Array Oper} {rest : List Oper} {o : Oper} {a : Act} {Q : Exit → Act → World → Prop} {w : World} (hgd : o.guard = none) (s x : Operand) (t : TypeId)
    (ho : o.op = .call { callee := .builtin .append, args := #[s, x], argTypes := #[t, t] }) {v vx v' : Value} {w' : World} (hs : a.eval s = v) (hx : a.eval x = vx)
    (hr : (Builtin.append_ #[t, t] o.type #[v, vx]).run P w = .ok v' w') (h : wpList P ops Q rest (a.put o.dst v') w') : wpList P ops Q (o :: rest) a w :=
  wpList_plain hgd fun K hK => by
    unfold Oper.wp execOp
    simp only [ho, resolve, invoke, builtin, Sem.run_bind, Sem.run_pure, Result.andThen_ok, List.map_toArray, List.map_cons, List.map_nil, hs, hx, hr]
    exact hK _ _ h

theorem step_append_run {ops : Array Oper} {o : Oper} {a : Act} {w : World} {K : Act → World → Prop} {Q : Exit → Act → World → Prop} {E : Prop}
    (hg : o.guard = none) (s x : Operand) (t : TypeId) (hop : o.op = Op.call { callee := Callee.builtin Builtin.append, args := #[s, x], argTypes := #[t, t] })
    {v vx v' : Value} {w' : World} (hs : a.eval s = v) (hx : a.eval x = vx) (hr : (Builtin.append_ #[t, t] o.type #[v, vx]).run P w = .ok v' w')
    (hK : K (a.put o.dst v') w') :
    if Region.wanted o (yielded ops a.tmps) = true then Oper.wp P o a w K Q else E := by
  have hw : Region.wanted o (yielded ops a.tmps) = true := by simp [Region.wanted, hg]
  rw [if_pos hw]
  unfold Oper.wp
  simp [execOp, hop, resolve, invoke, builtin, hs, hx, hr, Result.andThen]
  exact hK
end

/- A function value against nil. -/
theorem run_equalIn_func_nil {P : Program} (w : World) (d : Nat) {t : TypeId} {a b c} (ht : P.underlying t = some (.func a b c)) (f : Fn) (x y : Array Value) : (Op.equalIn (d + 1) t (.func f x y) .nilFunc).run P w = .ok false w := by
  simp [Op.equalIn, run_underlying ht]
theorem run_eql_func_nil {P : Program} (w : World) {t : TypeId} {a b c} (ht : P.underlying t = some (.func a b c)) (f : Fn) (x y : Array Value) : (binOp .eql t (.func f x y) .nilFunc).run P w = .ok (.bool false) w := by
  simp only [binOp]
  simp [Op.equal, Op.maxDepth, run_equalIn_func_nil w 9999 ht]
def Blk (W : World) (b : Nat) (cs : Array Value) (T : TypeId) : Prop := W.heap[b]? = some (.cells cs T (0, 0))
theorem Blk.new (w : World) (cs : Array Value) (T : TypeId) : Blk (w.alloc (.cells cs T)) w.heap.size cs T := World.alloc_heap_new w _
theorem Blk.alloc {W : World} {b : Nat} {cs : Array Value} {T : TypeId} (h : Blk W b cs T) (o : Obj) : Blk (W.alloc o) b cs T := (Below.heap_alloc W o b (Array.getElem?_eq_some_iff.1 h).1).trans h
theorem Blk.lt {W : World} {b : Nat} {cs : Array Value} {T : TypeId} (h : Blk W b cs T) : b < W.heap.size := (Array.getElem?_eq_some_iff.1 h).1
theorem Blk.cell {W : World} {b : Nat} {cs : Array Value} {T : TypeId} (h : Blk W b cs T) (i : Nat) : W.cell? ⟨b, i, none⟩ = cs[i]? := (cells_of_block h).1 i
theorem Blk.frozen {W : World} {b : Nat} {cs : Array Value} {T : TypeId} (h : Blk W b cs T) (i : Nat) : W.frozen? ⟨b, i, none⟩ = false := (cells_of_block h).2 i
theorem Blk.upd {F : Nat → Prop} {W W' : World} {b : Nat} {cs : Array Value} {T : TypeId} (h : Blk W b cs T) (hu : Upd F W W') (hF : ¬ F b) : Blk W' b cs T := hu.heap h hF
theorem Blk.set {W : World} {b : Nat} {cs : Array Value} {T : TypeId} (h : Blk W b cs T) (i : Nat) (v : Value) : Blk (W.setCell ⟨b, i, none⟩ v) b (cs.setIfInBounds i v) T := by
  unfold Blk at h ⊢
  simp [World.setCell, Array.getElem?_modify, h]
theorem Blk.other {W : World} {b b' : Nat} {cs : Array Value} {T : TypeId} (h : Blk W b cs T) (i : Nat) (v : Value) (hne : b ≠ b') : Blk (W.setCell ⟨b', i, none⟩ v) b cs T :=
  (Below.heap_setCell W _ v b hne).trans h
def idxs {α : Type} (zs : List α) : List (Nat × α) := zs.mapIdx fun i z => (i, z)
theorem idxs_length {α : Type} (zs : List α) : (idxs zs).length = zs.length := by simp [idxs]
theorem idxs_get {α : Type} (zs : List α) (i : Nat) : (idxs zs)[i]? = (zs[i]?).map fun z => (i, z) := by simp [idxs]
def firstAt {α : Type} (g : α → Bool) (zs : List α) : Int := match zs.findIdx? g with | some i => (i : Int) | none => -1
theorem firstAt_none {α : Type} {g : α → Bool} {zs : List α} (h : ∀ (j : Nat) z, zs[j]? = some z → g z = false) : firstAt g zs = -1 := by
  have : zs.findIdx? g = none := by
    rw [List.findIdx?_eq_none_iff]
    intro x hx
    obtain ⟨i, hi, rfl⟩ := List.mem_iff_getElem.1 hx
    exact h i _ (List.getElem?_eq_getElem hi)
  simp [firstAt, this]
theorem firstAt_some {α : Type} {g : α → Bool} {zs : List α} {k : Nat} {z : α} (hz : zs[k]? = some z) (h : ∀ (j : Nat) z, j < k → zs[j]? = some z → g z = false) (hg : g z = true) : firstAt g zs = k := by
  obtain ⟨hlt, hzv⟩ := List.getElem?_eq_some_iff.1 hz
  have : zs.findIdx? g = some k := by
    rw [List.findIdx?_eq_some_iff_getElem]
    refine ⟨hlt, by rw [hzv]; exact hg, fun j hj => ?_⟩
    have := h j _ hj (List.getElem?_eq_getElem (by omega))
    simpa using this
  simp [firstAt, this]

end Go.Proofs.YtjgeflbhmhmjdaaGreat
namespace Go.Proofs.YtjgeflbhmhmjdaaGreat
open Go.RowKit

structure PoolAt (T e : TypeId) (c : Nat) (w : World) (F : Nat → Prop) (b : Nat) (v : Value) (xs : List (List Value)) (room : Int) : Prop where
  blk : w.heap[b]? = some (.cells #[v, .int .i64 room] T (0, 0))
  foot : F b
  len : ∀ x ∈ xs, x.length = c
  row : Row w e c v xs.length xs.flatten
  apart : ∀ k, v.ownBlock = some k → F k ∧ k ≠ b

def PoolIs (T e : TypeId) (c : Nat) (w : World) (F : Nat → Prop) (p : Value) (xs : List (List Value)) (room : Int) : Prop :=
  ∃ b v, p = .pointer (some ⟨b, 0, none⟩) ∧ PoolAt T e c w F b v xs room

section
variable {T e : TypeId} {c : Nat} {w w' : World} {F G : Nat → Prop} {p : Value} {b : Nat} {v : Value} {xs : List (List Value)} {room : Int}
theorem PoolAt.mono (h : PoolAt T e c w F b v xs room) (hF : ∀ k, F k → G k) : PoolAt T e c w G b v xs room :=
  ⟨h.blk, hF _ h.foot, h.len, h.row, fun k hk => ⟨hF _ (h.apart k hk).1, (h.apart k hk).2⟩⟩
theorem PoolIs.mono (h : PoolIs T e c w F p xs room) (hF : ∀ k, F k → G k) : PoolIs T e c w G p xs room := by
  obtain ⟨b, v, hp, h⟩ := h
  exact ⟨b, v, hp, h.mono hF⟩
theorem PoolIs.tight (h : PoolIs T e c w F p xs room) : ∃ F', PoolIs T e c w F' p xs room ∧ ∀ k, F' k → F k ∧ k < w.heap.size := by
  obtain ⟨b, v, hp, h⟩ := h
  refine ⟨fun k => k = b ∨ v.ownBlock = some k, ⟨b, v, hp, h.blk, .inl rfl, h.len, h.row, fun k hk => ⟨.inr hk, (h.apart k hk).2⟩⟩, fun k hk => ?_⟩
  rcases hk with rfl | hk
  · exact ⟨h.foot, (Array.getElem?_eq_some_iff.1 h.blk).1⟩
  · exact ⟨(h.apart k hk).1, h.row.lt k hk⟩
theorem PoolAt.facts (h : PoolAt T e c w F b v xs room) : w.cell? ⟨b, 0, none⟩ = some v ∧ w.cell? ⟨b, 1, none⟩ = some (.int .i64 room) ∧ w.frozen? ⟨b, 0, none⟩ = false ∧ b < w.heap.size ∧
    ∃ a cap, v = .slice a xs.length cap ∧ xs.length ≤ cap ∧ cap ≤ maxLen ∧ (a = none → xs.length = 0 ∧ cap = 0) := by
  obtain ⟨c1, f1⟩ := cells_of_block h.blk
  exact ⟨c1 0, c1 1, f1 0, (Array.getElem?_eq_some_iff.1 h.blk).1, h.row.slice⟩

end
def onesOf {α : Type} (V : α → Value) (zs : List α) : List (List Value) := zs.map fun z => [V z]
end Go.Proofs.YtjgeflbhmhmjdaaGreat
namespace Go.Proofs.YtjgeflbhmhmjdaaGreat
open Go.RowKit

structure Bk (n : Nat) (G : Nat → Prop) (W W' : World) : Prop where
  os : W'.os = W.os
  tape : W'.tape = W.tape
  output : W'.output = W.output
  size : W.heap.size ≤ W'.heap.size
  block : ∀ k, k < W.heap.size → ¬ G k → (k < n ∨ ¬ NoCells W k) → W'.heap[k]? = W.heap[k]?

theorem Bk.alloc (n : Nat) (G : Nat → Prop) (W : World) (o : Obj) : Bk n G W (W.alloc o) := ⟨rfl, rfl, rfl, by simp, fun k hk _ _ => Below.heap_alloc _ _ _ hk⟩
theorem Bk.trans {n : Nat} {G : Nat → Prop} {A B C : World} (h : Bk n G A B) (k : Bk n G B C) : Bk n G A C :=
  ⟨k.os.trans h.os, k.tape.trans h.tape, k.output.trans h.output, Nat.le_trans h.size k.size, fun i hi hG hn => by
    have h1 := h.block i hi hG hn
    refine (k.block i (Nat.lt_of_lt_of_le hi h.size) hG ?_).trans h1
    exact hn.imp id (fun hn hc => hn (fun o ho => hc o (h1 ▸ ho)))⟩
theorem Bk.putObj {n : Nat} {G : Nat → Prop} {W : World} {l : Nat} {o : Obj} (hl : W.heap[l]? = some o) (ho : dataO o = false) (hn : n ≤ l) (o' : Obj) : Bk n G W (W.putObj l o') :=
  ⟨rfl, rfl, rfl, by simp, fun k hk _ h => World.putObj_heap_other (fun e => by
    subst e
    rcases h with h | h
    · omega
    · exact h (fun o2 h2 => by rw [hl] at h2; cases h2; exact ho))⟩
theorem Bk.of_upd {n : Nat} {G : Nat → Prop} {W W' : World} (h : Upd G W W') : Bk n G W W' := ⟨h.os, h.tape, h.output, h.size, fun k hk hG _ => h.block k hk (.inl hG)⟩

theorem Blk.bk {n : Nat} {G : Nat → Prop} {W W' : World} {b : Nat} {cs : Array Value} {T : TypeId} (h : Blk W b cs T) (hb : Bk n G W W') (hG : ¬ G b) : Blk W' b cs T :=
  (hb.block b h.lt hG (.inr (fun hn => by have := hn _ h; cases this))).trans h
theorem Upd.bk {n : Nat} {F G : Nat → Prop} {w W W' : World} (h : Upd F w W) (hb : Bk n G W W') (hn : w.heap.size ≤ n) (hG : ∀ k, G k → w.heap.size ≤ k) : Upd F w W' :=
  ⟨hb.os.trans h.os, hb.tape.trans h.tape, hb.output.trans h.output, Nat.le_trans h.size hb.size, fun k hk hF =>
    (hb.block k (Nat.lt_of_lt_of_le hk h.size) (fun hg => by have := hG k hg; omega) (.inl (by omega))).trans (h.block k hk hF)⟩
def SeqL {α : Type} (P : Program) (g : Nat) (lb : Array Value) (encs : α → Array Value) (xs : List α) (G K : Nat → Prop) (w : World) : Prop :=
  ∀ (l : Nat) (J Jx : Nat → World → Prop) (W : World), Upd NoF w W → (∀ k A B, J k A → Upd G A B → J k B) → (∀ k A B, Jx k A → Upd G A B → Jx k B) →
    (∀ k x W1, J k W1 → xs[k]? = some x → YieldAt Fence.wide 8 P l (encs x) W1 fun e W' =>
      (e = .returned (.bool true) ∧ J (k + 1) W' ∧ Upd K W1 W') ∨ (e = .returned (.bool false) ∧ Jx k W')) →
    J 0 W → CallsIn Fence.wide 9 P g (#[.func (.yield l) #[] #[]] ++ lb) W fun e W' => (∃ v, e = .returned v) ∧ (J xs.length W' ∨ ∃ k, k < xs.length ∧ Jx k W')

def postL (K : Nat → Prop) (I : Nat → World → Prop) (Ix : Code → Nat → World → Prop) (k : Nat) (W : World) : Exit → Act → World → Prop
  | .normal, _, W' => Upd K W W' ∧ I (k + 1) W'
  | .ret, _, W' => Upd K W W' ∧ Ix .ret k W'
  | .exit id, _, W' => Upd K W W' ∧ Ix (.exit id) k W'
  | .goto t, _, W' => Upd K W W' ∧ Ix (.goto t) k W'
  | .panic _, _, _ => False
  | .outgrown, _, _ => False

theorem calls_of_wp_marks {P : Program} {f : FuncId} {fn : Func} {c : Code} {args : Array Value} {w : World} {R : Ending → World → Prop} (hf : P.funcs[f]? = some fn) (hb : fn.body = some c)
    (h : c.wp P (bodyPostM Fence.wide 10 P fn R) { tmps := args ++ Array.replicate (fn.ntmps - args.size) undef, defers := [] } w) : Calls P f args w R :=
  callsIn_wide.1 (callsIn_of_wp_marks (n := 10) hf hb trivial (wpIn_wide.2 h) rfl)

theorem postM_ret1 {P : Program} {fn : Func} {R : Ending → World → Prop} {tmps : Array Value} {w : World} {v : Value} {D : Nat} (hK : w.heap[D]? = some (.deferred (some [])))
    (hr : (results fn tmps).run P (w.putObj D (.deferred none)) = .ok v (w.putObj D (.deferred none))) (hR : R (.returned v) (w.putObj D (.deferred none))) :
    bodyPostM Fence.wide 10 P fn R .ret { tmps := tmps, defers := [{ target := .collected D, args := #[] }] } w :=
  ⟨by simp, .inl ⟨_, _, rfl, run_takeDeferred hK, v, hr, hR⟩⟩

end Go.Proofs.YtjgeflbhmhmjdaaGreat
