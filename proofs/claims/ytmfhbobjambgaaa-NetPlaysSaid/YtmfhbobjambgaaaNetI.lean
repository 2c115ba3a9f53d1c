/- What is on its way: there is always room for what fits and is not refused; Send and Take as functions on the list. -/
import Derived.Test.YtmfhbobjambgaaaNetT
set_option linter.unusedSimpArgs false
set_option linter.unusedVariables false
namespace Go.Proofs.Ytmfhbobjambgaaa.NE
open Go.RowKit
open BU (IsU words)
open PL (Cfg CC CV May)
open GR (hopsN)

theorem bucket {α : Type} (f : α → Nat) (r : Nat) : ∀ (m : Nat) (l : List α), (∀ x ∈ l, f x < m) → (∀ b, b < m → l.countP (fun x => f x == b) ≤ r) → l.length ≤ m * r
  | 0, l, h, _ => by
    cases l with
    | nil => simp
    | cons x l => exact absurd (h x (by simp)) (by omega)
  | m + 1, l, h, hc => by
    have ih := bucket f r m (l.filter fun x => !(f x == m)) (fun x hx => by
      obtain ⟨h1, h2⟩ := List.mem_filter.1 hx
      have := h x h1
      have h3 : f x ≠ m := by simpa using h2
      omega) (fun b hb => Nat.le_trans (List.Sublist.countP_le List.filter_sublist) (hc b (by omega)))
    have hm := hc m (by omega)
    have hs : l.length = l.countP (fun x => f x == m) + (l.filter fun x => !(f x == m)).length := by
      rw [← List.countP_eq_length_filter]
      have := List.length_eq_countP_add_countP (fun x => f x == m) (l := l)
      rw [this]
      congr 1
      apply List.countP_congr
      intro x _
      simp
    rw [Nat.succ_mul]
    omega

/-- What is on its way may be: it fits the plan, and no pool has more than its room. -/
structure InvT (c : Cfg) (room : Int) (ns : List Nt) : Prop where
  ok : ∀ n ∈ ns, n.Ok
  fit : ∀ n ∈ ns, fitsN c n = true
  few : ∀ node net, cntN node net ns ≤ room
theorem fits_may {c : Cfg} {n : Nt} (h : fitsN c n = true) : MayN n = true := by
  unfold fitsN at h
  simp only [Bool.and_eq_true] at h
  exact h.1
theorem fits_too {c : Cfg} (hc : c.cores ≤ 16) {n : Nt} (h : fitsN c n = true) : -1 ≤ n.too ∧ n.too < c.cores ∧ n.too ≤ 15 ∧ 0 ≤ netN n.kind ∧ netN n.kind < 3 := by
  have hm := fits_may h
  have he := may_ends hm
  have hk : kindB n.kind = true := by
    unfold MayN at hm
    cases hk : kindB n.kind
    · rw [hk] at hm; simp at hm
    · rfl
  unfold fitsN at h
  simp only [Bool.and_eq_true, decide_eq_true_eq] at h
  have hn : 0 ≤ netN n.kind ∧ netN n.kind < 3 := by
    unfold netN
    rw [hk]
    simp only [Bool.true_eq_false, if_false]
    split
    · omega
    · split <;> omega
  omega
theorem InvT.nil (c : Cfg) (room : Int) (h : 0 ≤ room) : InvT c room [] := ⟨fun n h => (by cases h), fun n h => (by cases h), fun node net => by simpa [cntN] using h⟩
theorem InvT.len {c : Cfg} {room : Int} {ns : List Nt} (hc : c.cores ≤ 16) (hr : 0 ≤ room ∧ room ≤ 1024) (h : InvT c room ns) : ns.length ≤ 52224 := by
  have hb := bucket (fun n : Nt => ((n.too + 1) * 3 + netN n.kind).toNat) room.toNat 51 ns (fun n hn => by
    have := fits_too hc (h.fit n hn)
    omega) (fun b hb => by
    have hf := h.few ((b / 3 : Nat) - 1) ((b % 3 : Nat))
    unfold cntN at hf
    have : ns.countP (fun n => ((n.too + 1) * 3 + netN n.kind).toNat == b) = ns.countP (isB ((b / 3 : Nat) - 1) ((b % 3 : Nat))) := by
      apply List.countP_congr
      intro n hn
      have := fits_too hc (h.fit n hn)
      unfold isB
      simp only [beq_iff_eq, Bool.and_eq_true]
      omega
    rw [this]
    omega)
  have : 51 * room.toNat ≤ 51 * 1024 := Nat.mul_le_mul_left _ (by omega)
  omega
theorem cnt_push (node net : Int) (ns : List Nt) (n : Nt) : cntN node net (ns ++ [n]) = cntN node net ns + (if isB node net n then 1 else 0) := by
  unfold cntN
  rw [List.countP_append]
  simp only [List.countP_cons, List.countP_nil, Nat.zero_add]
  split <;> omega
theorem cnt_erase (node net : Int) (ns : List Nt) (k : Nat) : cntN node net (ns.eraseIdx k) ≤ cntN node net ns := by
  unfold cntN
  have := List.Sublist.countP_le (p := isB node net) (List.eraseIdx_sublist ns k)
  omega
theorem InvT.erase {c : Cfg} {room : Int} {ns : List Nt} (h : InvT c room ns) (k : Nat) : InvT c room (ns.eraseIdx k) :=
  ⟨fun n hn => h.ok n (List.mem_of_mem_eraseIdx hn), fun n hn => h.fit n (List.mem_of_mem_eraseIdx hn), fun node net => Int.le_trans (cnt_erase node net ns k) (h.few node net)⟩
/-- Send. -/
def sendE (c : Cfg) (room : Int) (ns : List Nt) (n : Nt) : Int := if fitsN c n = false then 2 else if roomN c room ns n.too (netN n.kind) = 0 then 7 else 0
def sendS (c : Cfg) (room : Int) (ns : List Nt) (n : Nt) : List Nt := if sendE c room ns n = 0 then ns ++ [n] else ns
theorem room_fit {c : Cfg} (hc : c.cores ≤ 16) {n : Nt} (h : fitsN c n = true) (room : Int) (ns : List Nt) : roomN c room ns n.too (netN n.kind) = room - cntN n.too (netN n.kind) ns := by
  have := fits_too hc h
  unfold roomN
  rw [if_neg (by omega)]
theorem InvT.push {c : Cfg} {room : Int} {ns : List Nt} (hc : c.cores ≤ 16) (h : InvT c room ns) {n : Nt} (hn : n.Ok) (hf : fitsN c n = true) (hr : roomN c room ns n.too (netN n.kind) ≠ 0) : InvT c room (ns ++ [n]) := by
  rw [room_fit hc hf] at hr
  have hw := h.few n.too (netN n.kind)
  refine ⟨fun m hm => ?_, fun m hm => ?_, fun node net => ?_⟩
  · rcases List.mem_append.1 hm with hm | hm
    · exact h.ok m hm
    · simp at hm; subst hm; exact hn
  · rcases List.mem_append.1 hm with hm | hm
    · exact h.fit m hm
    · simp at hm; subst hm; exact hf
  · rw [cnt_push]
    have hw2 := h.few node net
    cases hb : isB node net n
    · simp; exact hw2
    · unfold isB at hb
      simp only [Bool.and_eq_true, beq_iff_eq] at hb
      rw [hb.1, hb.2] at hw hr
      simp
      omega
theorem InvT.send {c : Cfg} {room : Int} {ns : List Nt} (hc : c.cores ≤ 16) (h : InvT c room ns) {n : Nt} (hn : n.Ok) : InvT c room (sendS c room ns n) := by
  unfold sendS sendE
  cases hf : fitsN c n
  · simp; exact h
  · by_cases hr : roomN c room ns n.too (netN n.kind) = 0
    · simp [hr]; exact h
    · simp [hr]; exact h.push hc hn hf hr

section
variable {G : Nat → Prop} {w0 W : World} {L : List Obj} {tb : Nat} {c : Cfg} {room hops : Int} {ns : List Nt}
theorem s_send (h : Sep G w0 W L) (i : Nat) (hi : L[i]? = some (To tb c room ns hops)) (hc : May c) (hv : InvT c room ns) (hr : 1 ≤ room ∧ room ≤ 1024) (n : Nt) (hn : n.Ok) :
    Calls Try.prog 11 #[ptr tb, .agg n.cells] W fun e W' => e = .returned (.int .i64 (sendE c room ns n)) ∧ Sep G w0 W' (L.set i (To tb c room (sendS c room ns n) hops)) := by
  have hset : L.set i (To tb c room ns hops) = L := by
    apply List.ext_getElem?
    intro j
    rw [List.getElem?_set]
    split
    · rename_i e; subst e; rw [hi]; simp [(List.getElem?_eq_some_iff.1 hi).1]
    · rfl
  have hcc : c.cores ≤ 16 := hc.1.2
  have hlen := hv.len hcc (by omega)
  unfold sendS sendE
  cases hf : fitsN c n
  · simp only [if_true, show ¬ ((2 : Int) = 0) from by decide, if_false]
    rw [hset]
    exact h.reads (E := fun e => e = _) i hi (fun F hF => send_no W F tb c room ns hops n hn hc hF hf)
  · by_cases hrm : roomN c room ns n.too (netN n.kind) = 0
    · simp only [Bool.true_eq_false, if_false, hrm, if_true, show ¬ ((7 : Int) = 0) from by decide]
      rw [hset]
      exact h.reads (E := fun e => e = _) i hi (fun F hF => send_full W F tb c room ns hops n hn hc hF hf (by omega) hr.1 hr.2 hrm)
    · have hp := hv.push hcc hn hf hrm
      have hl2 := hp.len hcc (by omega)
      rw [List.length_append] at hl2
      simp only [Bool.true_eq_false, if_false, hrm, if_true]
      exact h.call (E := fun e => e = _) i hi (fun F hF => send_ok W F tb c room ns hops n hn hc hF hf (by omega) hr.1 hr.2 hrm (by simp at hl2; omega))
theorem s_take (h : Sep G w0 W L) (i : Nat) (hi : L[i]? = some (To tb c room ns hops)) (hcc : c.cores ≤ 16) (hv : InvT c room ns) (hr : 1 ≤ room ∧ room ≤ 1024) (h0 : 0 ≤ hops) (h1 : hops ≤ 4611686018427387904) (k : Nat) (n : Nt) (hk : ns[k]? = some n) :
    Calls Try.prog 17 #[ptr tb, .int .i64 k] W fun e W' => e = .returned (.tuple #[.agg n.cells, .int .i64 0]) ∧ Sep G w0 W' (L.set i (To tb c room (ns.eraseIdx k) (hops + hopsN n.frm n.too))) := by
  have hlen := hv.len hcc (by omega)
  exact h.call (E := fun e => e = _) i hi (fun F hF => take_ok W F tb c room ns hops k n hF hk (fits_may (hv.fit n (List.mem_of_getElem? hk))) (by omega) h0 h1)
theorem s_take_bad (h : Sep G w0 W L) (i : Nat) (hi : L[i]? = some (To tb c room ns hops)) (k : Int) (hk : k < 0 ∨ (ns.length : Int) ≤ k) :
    Calls Try.prog 17 #[ptr tb, .int .i64 k] W fun e W' => e = .returned (.tuple #[.agg Nt.nil.cells, .int .i64 5]) ∧ Sep G w0 W' L :=
  h.reads (E := fun e => e = _) i hi (fun F hF => take_bad W F tb c room ns hops k hF hk)
end
end Go.Proofs.Ytmfhbobjambgaaa.NE
