/- The contracts of undertowref04: New, Block, SetBlock. -/
import Derived.Test.YtlhbnndnkcpomaaDoorMemC
import Derived.Test.YtlhbnndnkcpomaaDoorSep
import Derived.Test.YtlhbnndnkcpomaaDoorReg
import Derived.IntWalk
import Derived.Laws.MakeOwn
import Derived.Deep.QuietTactic
import Derived.Deep.CutBlock
import Derived.BigQuiet
set_option linter.unusedSimpArgs false
set_option linter.unusedVariables false
namespace Go.Proofs.YtlhbnndnkcpomaaDoor.RM
open Go.RowKit
open BU (IsU words)
attribute [local go_sem] Oper.semAt_some
attribute [local go_sem ↓] TBlk.ld_eq TBlk.st_eq TBlk.al_eq TBlk.bx_eq
attribute [local go_sem] TBlk.al_run TBlk.bx_run
abbrev ptr (b : Nat) : Value := .pointer (some ⟨b, 0, none⟩)
abbrev UT : TypeId := 43
abbrev BT : TypeId := 45
abbrev RMT : TypeId := 124
abbrev sl (g n cap : Nat) : Value := .slice (some ⟨g, 0, none⟩) n cap
/-- The reference's memory of n blocks. -/
def rmO (rb n : Nat) (B : Nat → Array Value) : Obj :=
  exO fun g : Nat => andO (∀ i, IsU (B i)) (starO (boxO rb #[sl g (16 * n) (16 * n)] RMT) (boxO g (rowG 16 n B) UT))
section
variable {W W' : World} {F : Nat → Prop} {rb n : Nat} {B : Nat → Array Value}
theorem rm_open (h : (rmO rb n B).is W F) : ∃ g, (∀ i, IsU (B i)) ∧ Blk W rb #[sl g (16 * n) (16 * n)] RMT ∧ F rb ∧ Blk W g (rowG 16 n B) UT ∧ F g ∧ g ≠ rb := by
  obtain ⟨g, h1, F1, F2, a1, a2, a3, ⟨b1, c1⟩, b2, c2⟩ := h
  exact ⟨g, h1, b1, a1 _ c1, b2, a2 _ c2, fun e => a3 rb c1 (e ▸ c2)⟩
theorem rm_shut {g : Nat} (h1 : ∀ i, IsU (B i)) (b1 : Blk W rb #[sl g (16 * n) (16 * n)] RMT) (c1 : F rb) (b2 : Blk W g (rowG 16 n B) UT) (c2 : F g) (hne : g ≠ rb) : (rmO rb n B).is W F :=
  ⟨g, h1, fun k => k = rb, fun k => k = g, fun k e => by subst e; exact c1, fun k e => by subst e; exact c2, fun k e e2 => hne (e2.symm.trans e), ⟨b1, rfl⟩, b2, rfl⟩
/-- What is so far of a block: its first k words. -/
def part (D : Array Value) (k : Nat) : Array Value := Array.ofFn (n := 16) fun j => if j.val < k then (D[j.val]?).getD (.int .u32 0) else .int .u32 0
theorem part_get (D : Array Value) (k j : Nat) (hj : j < 16) : (part D k)[j]? = some (if j < k then (D[j]?).getD (.int .u32 0) else .int .u32 0) := by
  unfold part
  rw [Array.getElem?_ofFn]
  simp [hj]
theorem part_size (D : Array Value) (k : Nat) : (part D k).size = 16 := by unfold part; simp
theorem part_zero (D : Array Value) : part D 0 = TBlk.Z := by
  apply Array.ext_getElem?
  intro j
  by_cases hj : j < 16
  · rw [part_get D 0 j hj, if_neg (by omega)]
    have : ∀ i : Fin 16, some (Value.int .u32 0) = TBlk.Z[i.val]? := fun i => by
      have hi : i.val < TBlk.Z.size := by rw [TBlk.size_Z]; exact i.isLt
      rw [Array.getElem?_eq_getElem hi]
      have hm : TBlk.Z[i.val] ∈ TBlk.Z := Array.getElem_mem _
      simp only [TBlk.Z, List.mem_toArray, List.mem_cons, List.not_mem_nil, or_false, or_self] at hm
      have hm' : TBlk.Z[i.val] = .int .u32 0 := hm
      rw [hm']
    exact this ⟨j, hj⟩
  · rw [Array.getElem?_eq_none (by rw [part_size]; omega), Array.getElem?_eq_none (by rw [TBlk.size_Z]; omega)]
theorem part_all {D : Array Value} (h : D.size = 16) : part D 16 = D := by
  apply Array.ext_getElem?
  intro j
  by_cases hj : j < 16
  · rw [part_get D 16 j hj, if_pos hj, Array.getElem?_eq_getElem (by omega)]; rfl
  · rw [Array.getElem?_eq_none (by rw [part_size]; omega), Array.getElem?_eq_none (by omega)]
theorem part_step {D : Array Value} {k : Nat} {v : Value} (hk : k < 16) (hv : D[k]? = some v) : (part D k).setIfInBounds k v = part D (k + 1) := by
  apply Array.ext_getElem?
  intro j
  rw [Array.getElem?_setIfInBounds]
  by_cases hj : j < 16
  · by_cases e : k = j
    · subst e
      rw [if_pos rfl, if_pos (by rw [part_size]; exact hk), part_get D _ k hk, if_pos (by omega), hv]; rfl
    · rw [if_neg e, part_get D k j hj, part_get D (k + 1) j hj]
      by_cases h2 : j < k
      · rw [if_pos h2, if_pos (by omega)]
      · rw [if_neg h2, if_neg (by omega)]
  · rw [if_neg (by omega), Array.getElem?_eq_none (by rw [part_size]; omega), Array.getElem?_eq_none (by rw [part_size]; omega)]
theorem part_isU {D : Array Value} (h : IsU D) (k : Nat) : IsU (part D k) := by
  refine ⟨part_size D k, fun u hu => ?_⟩
  obtain ⟨j, hj⟩ := Array.mem_iff_getElem?.1 hu
  have hlt : j < 16 := by have := (Array.getElem?_eq_some_iff.1 hj).1; rwa [part_size] at this
  rw [part_get D k j hlt] at hj
  have hj := Option.some.inj hj
  by_cases e : j < k
  · rw [if_pos e, Array.getElem?_eq_getElem (by rw [h.1]; exact hlt)] at hj
    rw [← hj]
    exact h.2 _ (Array.getElem_mem _)
  · rw [if_neg e] at hj; exact ⟨0, hj.symm⟩
theorem word_at {q k : Nat} (hq : q < n) (hk : k < 16) (hB : ∀ i, IsU (B i)) : ∃ z, (B q)[k]? = some (.int .u32 z) ∧ (rowG 16 n B)[16 * q + k]? = some (.int .u32 z) := by
  have hs := (hB q).1
  obtain ⟨z, hz⟩ := (hB q).2 (B q)[k] (Array.getElem_mem _)
  refine ⟨z, by rw [Array.getElem?_eq_getElem (by omega), hz], ?_⟩
  rw [Nat.mul_comm, rowG_get hs hq hk, Array.getElem?_eq_getElem (by omega), hz]
/-- A block whose first k words are new. -/
def mix (D X : Array Value) (k : Nat) : Array Value := Array.ofFn (n := 16) fun j => if j.val < k then (D[j.val]?).getD (.int .u32 0) else (X[j.val]?).getD (.int .u32 0)
theorem mix_get (D X : Array Value) (k j : Nat) (hj : j < 16) : (mix D X k)[j]? = some (if j < k then (D[j]?).getD (.int .u32 0) else (X[j]?).getD (.int .u32 0)) := by
  unfold mix
  rw [Array.getElem?_ofFn]
  simp [hj]
theorem mix_size (D X : Array Value) (k : Nat) : (mix D X k).size = 16 := by unfold mix; simp
theorem mix_zero {D X : Array Value} (h : X.size = 16) : mix D X 0 = X := by
  apply Array.ext_getElem?
  intro j
  by_cases hj : j < 16
  · rw [mix_get D X 0 j hj, if_neg (by omega), Array.getElem?_eq_getElem (by omega)]; rfl
  · rw [Array.getElem?_eq_none (by rw [mix_size]; omega), Array.getElem?_eq_none (by omega)]
theorem mix_all {D X : Array Value} (h : D.size = 16) : mix D X 16 = D := by
  apply Array.ext_getElem?
  intro j
  by_cases hj : j < 16
  · rw [mix_get D X 16 j hj, if_pos hj, Array.getElem?_eq_getElem (by omega)]; rfl
  · rw [Array.getElem?_eq_none (by rw [mix_size]; omega), Array.getElem?_eq_none (by omega)]
theorem mix_isU {D X : Array Value} (hD : IsU D) (hX : IsU X) (k : Nat) : IsU (mix D X k) := by
  refine ⟨mix_size D X k, fun u hu => ?_⟩
  obtain ⟨j, hj⟩ := Array.mem_iff_getElem?.1 hu
  have hlt : j < 16 := by have := (Array.getElem?_eq_some_iff.1 hj).1; rwa [mix_size] at this
  rw [mix_get D X k j hlt] at hj
  have hj := Option.some.inj hj
  by_cases e : j < k
  · rw [if_pos e, Array.getElem?_eq_getElem (by rw [hD.1]; exact hlt)] at hj
    rw [← hj]; exact hD.2 _ (Array.getElem_mem _)
  · rw [if_neg e, Array.getElem?_eq_getElem (by rw [hX.1]; exact hlt)] at hj
    rw [← hj]; exact hX.2 _ (Array.getElem_mem _)
theorem place_ok {g : Nat} (hb : Blk W rb #[sl g (16 * n) (16 * n)] RMT) (hn : n ≤ 256) (q : Nat) (hq : q < n) : Calls Tryd.prog 72 #[ptr rb, .int .i64 q, .int .i64 0] W fun e W' => e = .returned (.int .i64 ((16 * q : Nat) : Int)) ∧ W = W' := by
  have c0 : W.cell? ⟨rb, 0, none⟩ = some (sl g (16 * n) (16 * n)) := hb.cell 0
  have hd : (((16 * n : Nat) : Int)).tdiv 16 = (n : Int) := by rw [Int.natCast_mul]; exact Int.mul_tdiv_cancel_left _ (by decide)
  have hw1 : IntKind.i64.wrap (16 * (q : Int)) = 16 * (q : Int) := IntWalk.i64_in _ (by omega)
  have hw2 : IntKind.i64.wrap (16 * (q : Int) + 0) = 16 * (q : Int) := IntWalk.i64_in _ (by omega)
  have h1 : decide ((q : Int) < 0) = false := decide_eq_false (by omega)
  have h2 : decide (n ≤ q) = false := decide_eq_false (by omega)
  go_enter Tryd.func72, Tryd.ntmps72
  go_wp2
  go_ret
  exact ⟨by rw [Int.natCast_mul]; rfl, rfl⟩
abbrev ZB : Value := .agg #[.int .u32 0, .int .u32 0, .int .u32 0, .int .u32 0, .int .u32 0, .int .u32 0, .int .u32 0, .int .u32 0, .int .u32 0, .int .u32 0, .int .u32 0, .int .u32 0, .int .u32 0, .int .u32 0, .int .u32 0, .int .u32 0]
set_option maxRecDepth 100000 in
set_option maxHeartbeats 1000000 in
theorem block_ok (h : (rmO rb n B).is W F) (hn : n ≤ 256) (q : Nat) (hq : q < n) : Calls Tryd.prog 37 #[ptr rb, .int .i64 q] W fun e W' => e = .returned (.tuple #[.agg (B q), .int .i64 0]) ∧ Upd NoF W W' := by
  obtain ⟨g, hB, b1, c1, b2, c2, hne⟩ := rm_open h
  have hD := (hB q)
  have HWD := Lib.hid (fun k (hk : k < 16) => word_at hq hk hB)
  obtain ⟨W1, hW1⟩ : ∃ X, (W.alloc (.cells TBlk.Z BT)).alloc (.cells TBlk.Z BT) = X := ⟨_, rfl⟩
  obtain ⟨b4, hb4⟩ : ∃ x, W.heap.size = x := ⟨_, rfl⟩
  have hs0 := ((Sep.zero NoF W).alloc TBlk.Z BT).alloc TBlk.Z BT
  rw [World.size_alloc, hW1, hb4] at hs0
  have HS0 := Lib.hid hs0
  have HP := Lib.hid (fun X (hX : Upd NoF W X) => place_ok (b1.upd hX (fun h => h)) hn q hq)
  have HC := Lib.hid (fun X (hX : Upd NoF W X) => (And.intro ((b1.upd hX (fun h => h)).cell 0) (fun i => (b2.upd hX (fun h => h)).cell i)))
  obtain ⟨D, hDe⟩ : ∃ D, B q = D := ⟨_, rfl⟩
  rw [hDe] at hD HWD ⊢
  have HD := Lib.hid hD
  have s1 := TBlk.st_new TBlk.isZ (W.alloc (.cells TBlk.Z BT))
  rw [World.size_alloc, hb4, hW1] at s1
  rw [show (Value.agg TBlk.Z) = ZB from rfl] at s1
  obtain ⟨pq, hpq⟩ : ∃ x : Nat, 16 * q = x := ⟨_, rfl⟩
  rw [hpq] at HP HWD
  have HPQ := Lib.hid hpq
  obtain ⟨nn, hnn⟩ : ∃ x : Nat, 16 * n = x := ⟨_, rfl⟩
  rw [hnn] at HC
  have hsz : pq + 16 ≤ nn ∧ nn ≤ 4096 := by omega
  clear h hB b1 b2 c1 c2 hne hs0 hD hDe hpq hnn
  have HX := Lib.hid (And.intro hW1 hb4)
  go_enter Tryd.func37, Tryd.ntmps37
  go_upto_region 2 with fail
  clear hW1 hb4 s1
  go_wp2_with fail
  refine (HP.out W1 HS0.out.upd).mono ?_
  rintro e w1 ⟨rfl, rfl⟩
  have hlz : decide ((pq : Int) < 0) = false := decide_eq_false (by omega)
  go_wp2_with fail
  go_loopw [8] (fun i wr => ∃ k : Nat, k ≤ 16 ∧ i = .int .i64 k ∧ Hid (Sep NoF W wr [boxO (b4 + 1) (part D k) BT, boxO b4 TBlk.Z BT])) (fun i _ => 16 - (intOf i).toNat)
  case atStart => exact ⟨0, Nat.zero_le _, rfl, by rw [part_zero]; exact HS0.out⟩
  case round =>
    obtain ⟨k, hk, rfl, HI⟩ := hrel
    by_cases hlt : k < 16
    · obtain ⟨z, hz1, hz2⟩ := HWD.out k hlt
      obtain ⟨c0, hcg⟩ := HC.out wr HI.out.upd
      have c1 : wr.cell? ⟨g, pq + k, none⟩ = some (.int .u32 z) := (hcg (pq + k)).trans hz2
      have d0 : wr.cell? ⟨b4 + 1, k, none⟩ = some (.int .u32 0) := ((HI.out.box 0 rfl).cell k).trans (by rw [part_get D k k hlt, if_neg (by omega)])
      have d1 := (HI.out.box 0 rfl).frozen k
      have hs := HI.out.set 0 rfl k (.int .u32 z)
      obtain ⟨V, hV⟩ : ∃ X, wr.setCell ⟨b4 + 1, k, none⟩ (.int .u32 z) = X := ⟨_, rfl⟩
      rw [hV] at hs
      have HS : Hid (Sep NoF W V [boxO (b4 + 1) (part D (k + 1)) BT, boxO b4 TBlk.Z BT]) := Lib.hid (by rw [← part_step hlt hz1]; exact hs)
      have hwk : IntKind.i64.wrap ((pq : Int) + (k : Int)) = ((pq + k : Nat) : Int) := by rw [IntWalk.i64_in _ (by omega)]; omega
      have hw1 : IntKind.i64.wrap ((k : Int) + 1) = (k : Int) + 1 := IntWalk.i64_in _ (by omega)
      have hpk : pq + k < nn := by omega
      have HVV := Lib.hid hV
      clear hz1 hz2 hcg hs HI
      go_wp2
      exact ⟨⟨k + 1, by omega, by go_num, HS.out⟩, by simp [intOf]; omega⟩
    · obtain rfl : k = 16 := by omega
      have hs := HI.out
      rw [part_all HD.out.1] at hs
      have l1 := TBlk.ld_at HD.out.isN (hs.box 0 rfl).whole
      obtain ⟨s2, q2⟩ := TBlk.st_at TBlk.isZ HD.out.isN (hs.box 1 rfl)
      have hfin := (hs.setMG 1 rfl 0 D.toList).upd
      obtain ⟨V, hV⟩ : ∃ X, wr.setCells b4 0 D.toList = X := ⟨_, rfl⟩
      rw [hV] at s2 q2 hfin
      have HV := Lib.hid (TBlk.ldV_at HD.out.isN q2.whole)
      have HF := Lib.hid hfin
      clear hs q2 hfin HI
      go_wp2
      have hv := HV.out
      refine bodyPost_ret (v := .tuple #[.agg D, .int .i64 0]) ?_ ?_ ?_
      · simp [results, Tryd.f37, asAddr, hv]
      · rfl
      exact ⟨rfl, HF.out⟩
theorem rowG_set1 {q k : Nat} {v : Value} {f : Nat → Array Value} (hq : q < n) (hk : k < 16) (hf : ∀ i, (f i).size = 16) :
    (rowG 16 n f).setIfInBounds (q * 16 + k) v = rowG 16 n (updG f q ((f q).setIfInBounds k v)) := by
  have hU : ∀ j, (updG f q ((f q).setIfInBounds k v) j).size = 16 := fun j => by
    unfold updG; split
    · rw [Array.size_setIfInBounds]; exact hf q
    · exact hf j
  apply Array.ext_getElem?
  intro j
  rw [Array.getElem?_setIfInBounds]
  by_cases hj : j < n * 16
  · obtain ⟨p, r, rfl, hr, hp⟩ := idx_split hj
    rw [rowG_get (hf p) hp hr, rowG_get (hU p) hp hr]
    by_cases e : q * 16 + k = p * 16 + r
    · have e1 : q = p := by omega
      have e2 : k = r := by omega
      subst e1; subst e2
      rw [if_pos rfl, updG_same, Array.getElem?_setIfInBounds, if_pos rfl, if_pos (by rw [rowG_size]; omega), if_pos (by rw [hf]; exact hk)]
    · rw [if_neg e]
      by_cases e1 : p = q
      · subst e1
        rw [updG_same, Array.getElem?_setIfInBounds, if_neg (by omega)]
      · rw [updG_other _ _ e1]
  · have h1 : (rowG 16 n f).size ≤ j := by rw [rowG_size]; omega
    have h2 : (rowG 16 n (updG f q ((f q).setIfInBounds k v))).size ≤ j := by rw [rowG_size]; omega
    rw [Array.getElem?_eq_none h1, Array.getElem?_eq_none h2]
    split
    · rw [if_neg (by omega)]
    · rfl
theorem mix_step {D X : Array Value} {k : Nat} {v : Value} (hk : k < 16) (hv : D[k]? = some v) : (mix D X k).setIfInBounds k v = mix D X (k + 1) := by
  apply Array.ext_getElem?
  intro j
  rw [Array.getElem?_setIfInBounds]
  by_cases hj : j < 16
  · by_cases e : k = j
    · subst e
      rw [if_pos rfl, if_pos (by rw [mix_size]; exact hk), mix_get D X _ k hk, if_pos (by omega), hv]; rfl
    · rw [if_neg e, mix_get D X k j hj, mix_get D X (k + 1) j hj]
      by_cases h2 : j < k
      · rw [if_pos h2, if_pos (by omega)]
      · rw [if_neg h2, if_neg (by omega)]
  · rw [if_neg (by omega), Array.getElem?_eq_none (by rw [mix_size]; omega), Array.getElem?_eq_none (by rw [mix_size]; omega)]
theorem row_step {q k : Nat} {v : Value} {D : Array Value} (hq : q < n) (hk : k < 16) (hB : ∀ i, IsU (B i)) (hv : D[k]? = some v) :
    (rowG 16 n (updG B q (mix D (B q) k))).setIfInBounds (16 * q + k) v = rowG 16 n (updG B q (mix D (B q) (k + 1))) := by
  have h := rowG_set1 (n := n) (q := q) (k := k) (v := v) (f := updG B q (mix D (B q) k)) hq hk (fun i => by unfold updG; split; exact mix_size _ _ _; exact (hB i).1)
  rw [updG_same, mix_step hk hv, Nat.mul_comm q 16] at h
  rw [h]
  congr 1
  funext i
  unfold updG
  split <;> rfl
theorem word_mix {q k : Nat} {D : Array Value} (hq : q < n) (hk : k < 16) (hB : ∀ i, IsU (B i)) (hD : IsU D) : ∃ y, (rowG 16 n (updG B q (mix D (B q) k)))[16 * q + k]? = some (.int .u32 y) := by
  have hU : ∀ i, IsU (updG B q (mix D (B q) k) i) := fun i => by unfold updG; split; exact mix_isU hD (hB q) k; exact hB i
  obtain ⟨y, -, hy⟩ := word_at (n := n) hq hk hU
  exact ⟨y, hy⟩
set_option maxRecDepth 100000 in
set_option maxHeartbeats 1000000 in
theorem setBlock_ok (h : (rmO rb n B).is W F) (hn : n ≤ 256) (q : Nat) (hq : q < n) (D : Array Value) (hD : IsU D) : Calls Tryd.prog 69 #[ptr rb, .int .i64 q, .agg D] W fun e W' => e = .returned (.int .i64 0) ∧ Upd F W W' ∧ (rmO rb n (updG B q D)).is W' (AndNew F W) := by
  obtain ⟨g, hs⟩ := (Sep.start h).ex
  obtain ⟨hB, hs⟩ := hs.pure
  have hs1 := hs.star.alloc D BT
  obtain ⟨ab, hab⟩ : ∃ x, W.heap.size = x := ⟨_, rfl⟩
  obtain ⟨V, hV⟩ : ∃ X, W.alloc (.cells D BT) = X := ⟨_, rfl⟩
  rw [hab, hV] at hs1
  have HP := Lib.hid (place_ok (hs1.box 1 rfl) hn q hq)
  obtain ⟨pq, hpq⟩ : ∃ x : Nat, 16 * q = x := ⟨_, rfl⟩
  obtain ⟨nn, hnn⟩ : ∃ x : Nat, 16 * n = x := ⟨_, rfl⟩
  have HSTEP := Lib.hid (fun k (hk : k < 16) z (hz : D[k]? = some (.int .u32 z)) => row_step (v := .int .u32 z) hq hk hB hz)
  have HYY := Lib.hid (fun k (hk : k < 16) => word_mix (n := n) (k := k) hq hk hB hD)
  have HDZ := Lib.hid (fun k (hk : k < 16) => (show ∃ z, D[k]? = some (.int .u32 z) from by
    have hlt : k < D.size := by rw [hD.1]; exact hk
    obtain ⟨z, hz⟩ := hD.2 D[k] (Array.getElem_mem _)
    exact ⟨z, by rw [Array.getElem?_eq_getElem hlt, hz]⟩))
  have hsz : pq + 16 ≤ nn ∧ nn ≤ 4096 := by omega
  have e0 : B = updG B q (mix D (B q) 0) := by
    funext i; unfold updG
    by_cases e : i = q
    · rw [if_pos e, mix_zero (hB q).1, e]
    · rw [if_neg e]
  have HE := Lib.hid e0
  have e16 : mix D (B q) 16 = D := mix_all hD.1
  have HEA := Lib.hid e16
  have HBD := Lib.hid (And.intro hB hD)
  rw [hpq] at HP HSTEP HYY
  rw [hnn] at hs1
  have HS1 := Lib.hid hs1
  have HV := Lib.hid (And.intro hV hab)
  have HNN := Lib.hid hnn
  clear h hs hs1 hV hab hpq hnn hB hD e0 e16
  go_enter Tryd.func69, Tryd.ntmps69
  go_upto_region 1 with fail
  rw [HV.out.1, HV.out.2]
  go_wp2_with fail
  refine HP.out.mono ?_
  rintro e w1 ⟨rfl, rfl⟩
  have hlz : decide ((pq : Int) < 0) = false := decide_eq_false (by omega)
  go_wp2_with fail
  go_loopw [8] (fun i wr => ∃ k : Nat, k ≤ 16 ∧ i = .int .i64 k ∧ Hid (Sep F W wr [boxO ab D BT, boxO rb #[sl g nn nn] RMT, boxO g (rowG 16 n (updG B q (mix D (B q) k))) UT])) (fun i _ => 16 - (intOf i).toNat)
  case atStart => exact ⟨0, Nat.zero_le _, rfl, by rw [← HE.out]; exact HS1.out⟩
  case round =>
    obtain ⟨k, hk, rfl, HI⟩ := hrel
    by_cases hlt : k < 16
    · obtain ⟨z, hz⟩ := HDZ.out k hlt
      obtain ⟨y, hy⟩ := HYY.out k hlt
      have HZ := Lib.hid hz; have HY := Lib.hid hy
      have HST := Lib.hid (HSTEP.out k hlt z hz)
      have hwk : IntKind.i64.wrap ((pq : Int) + (k : Int)) = ((pq + k : Nat) : Int) := by rw [IntWalk.i64_in _ (by omega)]; omega
      have hw1 : IntKind.i64.wrap ((k : Int) + 1) = (k : Int) + 1 := IntWalk.i64_in _ (by omega)
      have hpk : pq + k < nn := by omega
      have hx1 : (0 : Int) ≤ (pq : Int) + (k : Int) := by omega
      have hx2 : (pq : Int) + (k : Int) < (nn : Int) := by omega
      have hx3 : ((pq : Int) + (k : Int)).toNat = pq + k := by omega
      clear hz hy
      go_upto_region 7 with fail
      have HS2 := Lib.hid (HI.out.upd0 (Upd.drew NoF wr))
      refine wp_region_held_drew (S := (fun X => Blk X rb #[sl g nn nn] RMT ∧ Blk X ab D BT)) (by kernel_rfl) (⟨HS2.out.box 1 rfl, HS2.out.box 0 rfl⟩) (fun hHeld => ?_)
      obtain ⟨X0, hX0⟩ : ∃ X, wr.drew = X := ⟨_, rfl⟩
      rw [hX0] at hHeld HS2 ⊢
      clear hX0
      refine rgn 0 (v := ?vq1) hHeld ?yq1 ?_
      case yq1 => (intro w hSw; (try dsimp only at hSw); have c0 : w.cell? ⟨rb, 0, none⟩ = some (sl g nn nn) := hSw.1.cell 0; have d0 : w.cell? ⟨ab, k, none⟩ = some (.int .u32 z) := (hSw.2.cell k).trans HZ.out; go_simp; try with_reducible rfl)
      simp only [Act.put, rn1, rn2, rn3, rn4, rn5, rn6]
      refine rgn 1 (v := ?vq2) hHeld ?yq2 ?_
      case yq2 => (intro w hSw; (try dsimp only at hSw); have c0 : w.cell? ⟨rb, 0, none⟩ = some (sl g nn nn) := hSw.1.cell 0; have d0 : w.cell? ⟨ab, k, none⟩ = some (.int .u32 z) := (hSw.2.cell k).trans HZ.out; go_simp; try with_reducible rfl)
      simp only [Act.put, rn1, rn2, rn3, rn4, rn5, rn6]
      refine rgn 2 (v := ?vq3) hHeld ?yq3 ?_
      case yq3 => (intro w hSw; (try dsimp only at hSw); have c0 : w.cell? ⟨rb, 0, none⟩ = some (sl g nn nn) := hSw.1.cell 0; have d0 : w.cell? ⟨ab, k, none⟩ = some (.int .u32 z) := (hSw.2.cell k).trans HZ.out; go_simp; try with_reducible rfl)
      simp only [Act.put, rn1, rn2, rn3, rn4, rn5, rn6]
      refine rgn 3 (v := ?vq4) hHeld ?yq4 ?_
      case yq4 => (intro w hSw; (try dsimp only at hSw); have c0 : w.cell? ⟨rb, 0, none⟩ = some (sl g nn nn) := hSw.1.cell 0; have d0 : w.cell? ⟨ab, k, none⟩ = some (.int .u32 z) := (hSw.2.cell k).trans HZ.out; go_simp; try with_reducible rfl)
      simp only [Act.put, rn1, rn2, rn3, rn4, rn5, rn6]
      refine rgn 4 (v := ?vq5) hHeld ?yq5 ?_
      case yq5 => (intro w hSw; (try dsimp only at hSw); have c0 : w.cell? ⟨rb, 0, none⟩ = some (sl g nn nn) := hSw.1.cell 0; have d0 : w.cell? ⟨ab, k, none⟩ = some (.int .u32 z) := (hSw.2.cell k).trans HZ.out; go_simp; try with_reducible rfl)
      simp only [Act.put, rn1, rn2, rn3, rn4, rn5, rn6]
      refine rgn 5 (v := ?vq6) hHeld ?yq6 ?_
      case yq6 => (intro w hSw; (try dsimp only at hSw); have c0 : w.cell? ⟨rb, 0, none⟩ = some (sl g nn nn) := hSw.1.cell 0; have d0 : w.cell? ⟨ab, k, none⟩ = some (.int .u32 z) := (hSw.2.cell k).trans HZ.out; go_simp; try with_reducible rfl)
      simp only [Act.put, rn1, rn2, rn3, rn4, rn5, rn6]
      refine rgn 6 (v := ?vq7) hHeld ?yq7 ?_
      case yq7 => (intro w hSw; (try dsimp only at hSw); have c0 : w.cell? ⟨rb, 0, none⟩ = some (sl g nn nn) := hSw.1.cell 0; have d0 : w.cell? ⟨ab, k, none⟩ = some (.int .u32 z) := (hSw.2.cell k).trans HZ.out; go_simp; try with_reducible rfl)
      simp only [Act.put, rn1, rn2, rn3, rn4, rn5, rn6]
      refine rgn 7 (v := ?vq8) hHeld ?yq8 ?_
      case yq8 => (intro w hSw; (try dsimp only at hSw); have c0 : w.cell? ⟨rb, 0, none⟩ = some (sl g nn nn) := hSw.1.cell 0; have d0 : w.cell? ⟨ab, k, none⟩ = some (.int .u32 z) := (hSw.2.cell k).trans HZ.out; go_simp; try with_reducible rfl)
      simp only [Act.put, rn1, rn2, rn3, rn4, rn5, rn6]
      refine rgn 8 (v := ?vq9) hHeld ?yq9 ?_
      case yq9 => (intro w hSw; (try dsimp only at hSw); have c0 : w.cell? ⟨rb, 0, none⟩ = some (sl g nn nn) := hSw.1.cell 0; have d0 : w.cell? ⟨ab, k, none⟩ = some (.int .u32 z) := (hSw.2.cell k).trans HZ.out; go_simp; try with_reducible rfl)
      simp only [Act.put, rn1, rn2, rn3, rn4, rn5, rn6]
      refine rgn 9 (v := ?vq10) hHeld ?yq10 ?_
      case yq10 => (intro w hSw; (try dsimp only at hSw); have c0 : w.cell? ⟨rb, 0, none⟩ = some (sl g nn nn) := hSw.1.cell 0; have d0 : w.cell? ⟨ab, k, none⟩ = some (.int .u32 z) := (hSw.2.cell k).trans HZ.out; go_simp; try with_reducible rfl)
      simp only [Act.put, rn1, rn2, rn3, rn4, rn5, rn6]
      refine rgn 10 (v := ?vq11) hHeld ?yq11 ?_
      case yq11 => (intro w hSw; (try dsimp only at hSw); have c0 : w.cell? ⟨rb, 0, none⟩ = some (sl g nn nn) := hSw.1.cell 0; have d0 : w.cell? ⟨ab, k, none⟩ = some (.int .u32 z) := (hSw.2.cell k).trans HZ.out; go_simp; try with_reducible rfl)
      simp only [Act.put, rn1, rn2, rn3, rn4, rn5, rn6]
      refine reg_step (i := 11) (by kernel_rfl) rfl (by kernel_rfl) (fun K hK => ?_)
      have q0 : X0.cell? ⟨g, pq + k, none⟩ = some (.int .u32 y) := ((HS2.out.box 2 rfl).cell (pq + k)).trans HY.out
      have q1 := (HS2.out.box 2 rfl).frozen (pq + k)
      have hs := HS2.out.set 2 rfl (pq + k) (.int .u32 z)
      go_simp
      obtain ⟨X1, hY⟩ : ∃ X, X0.setCell ⟨g, pq + k, none⟩ (.int .u32 z) = X := ⟨_, rfl⟩
      rw [hY] at hs
      have HS3 : Hid (Sep F W X1 [boxO ab D BT, boxO rb #[sl g nn nn] RMT, boxO g (rowG 16 n (updG B q (mix D (B q) (k + 1)))) UT]) := Lib.hid (by rw [← HST.out]; exact hs)
      have HS : (fun X => Blk X rb #[sl g nn nn] RMT ∧ Blk X ab D BT) X1 := ⟨HS3.out.box 1 rfl, HS3.out.box 0 rfl⟩
      try simp only [hY]
      clear hs hY q0 q1
      refine hK.out _ _ HS (fun hHeld2 => ?_)
      clear hK hHeld2 hHeld; have hHeld := HS; clear HS
      try simp only [Act.put, rn1, rn2, rn3, rn4, rn5, rn6]
      refine wpAnyH_done (by kernel_rfl) ?_ _
      clear hHeld
      go_wp2_with fail
      exact ⟨⟨k + 1, by omega, by go_num, HS3.out⟩, by simp [intOf]; omega⟩
    · obtain rfl : k = 16 := by omega
      have hs := HI.out
      rw [HEA.out] at hs
      have HX := Lib.hid (hs.drop 0 (by simp))
      clear hs HI
      go_wp2
      go_ret
      have hfin := HX.out
      rw [← HNN.out] at hfin
      have h2 := (Sep.unex (f := fun g : Nat => andO (∀ i, IsU (updG B q D i)) (starO (boxO rb #[sl g (16 * n) (16 * n)] RMT) (boxO g (rowG 16 n (updG B q D)) UT))) g (Sep.unpure (fun i => by unfold updG; split; exact HBD.out.2; exact HBD.out.1 i) hfin.unstar)).fin
      exact ⟨rfl, h2⟩
def mkU (l c : Value) : Sem Value := Instr.makeSlice 122 l c
theorem mkU_eq (l c : Value) : Instr.makeSlice 122 l c = mkU l c := rfl
attribute [local go_sem ↓] mkU_eq
theorem infoU : (Tryd.prog.info? UT).map (fun i => (i.zero, i.size, i.bytes)) = some (some (.int .u32 0), 1, 4) := by kernel_rfl
theorem made_one (v : Value) (m : Nat) : madeCells #[v] (m * 1) = Array.replicate m v := by
  apply Array.ext
  · simp [madeCells]
  · intro i h1 h2
    have h0 : i % (#[v] : Array Value).size = 0 := Nat.mod_one i
    simp only [madeCells, Array.getElem_map, Array.getElem_range, Array.getElem_replicate]
    rw [h0]; rfl
theorem rep_row (n : Nat) : Array.replicate (16 * n) (Value.int .u32 0) = rowG 16 n (fun _ => TBlk.Z) := by
  apply Array.ext_getElem?
  intro j
  by_cases hj : j < n * 16
  · obtain ⟨p, r, rfl, hr, hp⟩ := idx_split hj
    rw [rowG_get TBlk.size_Z hp hr, Array.getElem?_replicate, if_pos (by omega)]
    have := part_get TBlk.Z 0 r hr
    rw [part_zero, if_neg (by omega)] at this
    exact this.symm
  · rw [Array.getElem?_eq_none (by rw [Array.size_replicate]; omega), Array.getElem?_eq_none (by rw [rowG_size]; omega)]
theorem mkU_run (n : Nat) (hn : n ≤ 256) (w : World) : (mkU (.int .i64 ((16 * n : Nat) : Int)) (.int .i64 ((16 * n : Nat) : Int))).run Tryd.prog w = .ok (sl w.heap.size (16 * n) (16 * n)) (w.alloc (.cells (rowG 16 n (fun _ => TBlk.Z)) UT)) := by
  obtain ⟨i0, hi, hz0, hz1, hz2⟩ := info_parts infoU
  have h := run_makeSlice (P := Tryd.prog) (w := w) 122 UT i0 (.int .u32 0) Tryd.underlying122 hi hz0 .i64 .i64 ((16 * n : Nat) : Int) ((16 * n : Nat) : Int) (by omega) (Int.le_refl _) (by rw [hz1]; omega) (by rw [hz2]; omega) (by omega)
  unfold mkU
  rw [h, hz1]
  show Result.ok (Value.slice (some ⟨w.heap.size, 0, none⟩) ((16 * n : Nat) : Int).toNat ((16 * n : Nat) : Int).toNat) (w.alloc (.cells (madeCells #[.int .u32 0] (((16 * n : Nat) : Int).toNat * 1)) UT)) = _
  rw [Int.toNat_natCast, made_one, rep_row]
theorem new_ok (n : Nat) (h1 : 1 ≤ n) (h2 : n ≤ 256) (W : World) : Calls Tryd.prog 32 #[.int .i64 n] W fun e W' =>
    ∃ rb, e = .returned (.tuple #[ptr rb, .int .i64 0]) ∧ Upd NoF W W' ∧ (rmO rb n (fun _ => TBlk.Z)).is W' (fun k => W.heap.size ≤ k) := by
  have hm := mkU_run n h2 W
  have HF := Lib.hid ((Upd.alloc NoF W (.cells (rowG 16 n (fun _ => TBlk.Z)) UT)).trans (Upd.alloc NoF _ (.cells #[sl W.heap.size (16 * n) (16 * n)] RMT)) (fun _ _ h => h))
  have hq := Blk.new (W.alloc (.cells (rowG 16 n (fun _ => TBlk.Z)) UT)) #[sl W.heap.size (16 * n) (16 * n)] RMT
  have hr := (Blk.new W (rowG 16 n (fun _ => TBlk.Z)) UT).alloc (.cells #[sl W.heap.size (16 * n) (16 * n)] RMT)
  rw [World.size_alloc] at hq
  have HQ := Lib.hid (And.intro hq hr)
  have d1 : decide ((n : Int) < 1) = false := decide_eq_false (by omega)
  have d2 : decide ((256 : Int) < (n : Int)) = false := decide_eq_false (by omega)
  obtain ⟨nn, hnn⟩ : ∃ x : Nat, 16 * n = x := ⟨_, rfl⟩
  have hw : IntKind.i64.wrap (16 * (n : Int)) = (nn : Int) := by rw [IntWalk.i64_in _ (by omega)]; omega
  rw [hnn] at hm HF HQ
  have HNN := Lib.hid hnn
  clear hq hr hnn
  go_enter Tryd.func32, Tryd.ntmps32
  go_wp2
  go_ret2
  refine ⟨W.heap.size + 1, rfl, HF.out, ?_⟩
  have hq := HQ.out
  rw [← HNN.out] at hq ⊢
  exact rm_shut (fun i => BU.isU_Z) hq.1 (by omega) hq.2 (Nat.le_refl _) (by omega)
theorem new_bad (n : Int) (h : n < 1 ∨ 256 < n) (W : World) : Calls Tryd.prog 32 #[.int .i64 n] W fun e W' => e = .returned (.tuple #[.pointer none, .int .i64 2]) ∧ W = W' := by
  by_cases h1 : n < 1
  · go_enter Tryd.func32, Tryd.ntmps32
    go_wp2
    go_ret2
    exact ⟨rfl, rfl⟩
  · have h2 : 256 < n := by omega
    go_enter Tryd.func32, Tryd.ntmps32
    go_wp2
    go_ret2
    exact ⟨rfl, rfl⟩
end
end Go.Proofs.YtlhbnndnkcpomaaDoor.RM
