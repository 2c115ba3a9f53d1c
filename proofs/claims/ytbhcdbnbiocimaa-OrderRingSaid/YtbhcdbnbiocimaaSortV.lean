/- Sorting numbers of 64 bits without sign: turning a range round; the numbers that are drawn. -/
import Derived.Test.YtbhcdbnbiocimaaSortP
import Derived.Laws.Closers25b
import Derived.Laws.Bits64b
set_option linter.unusedSimpArgs false
set_option linter.unusedVariables false
namespace Go.Proofs.Ytbhcdbnbiocimaa.SU
open Go.RowKit
open Go.Sort (swp size_swp ltInt reverseLoop PermIn)
section
variable {w0 W : World} {g off : Nat} {d : Array Int}
set_option maxRecDepth 100000 in
set_option maxHeartbeats 4000000 in
theorem reverse_any (cap a b : Nat) (h : SA w0 W g off d) (hab : a < b) (hb : b ≤ d.size) (hsz : d.size ≤ 65536) :
    Calls Try.prog 17 #[rowV g off d.size cap, .int .i64 a, .int .i64 b] W fun e w' => e = .returned (.tuple #[]) ∧ SA w0 w' g off (Go.Sort.reverseRange d a b) := by
  have H0 := Lib.hid h
  clear h
  show Calls _ _ _ _ fun e w' => e = .returned (.tuple #[]) ∧ SA w0 w' g off (reverseLoop a (b - 1) d)
  go_enter Try.func17, Try.ntmps17
  go_wp2
  go_loopw [6, 7] (fun vi vj wr => ∃ (i j : Nat) (D : Array Int), vi = .int .i64 i ∧ vj = .int .i64 j ∧ a ≤ i ∧ j < b ∧ i < b ∧ D.size = d.size ∧ Hid (SA w0 wr g off D ∧ reverseLoop i j D = reverseLoop a (b - 1) d)) (fun vi vj _ => (Go.RowKit.intOf vj).toNat - (Go.RowKit.intOf vi).toNat)
  case atStart => exact ⟨a, b - 1, d, rfl, by congr 1; omega, by omega, by omega, hab, rfl, Lib.hid ⟨H0.out, rfl⟩⟩
  case round =>
    obtain ⟨i, j, D, rfl, rfl, hai, hjb, hib, hsD, HK⟩ := hrel
    obtain ⟨wj, hwj⟩ : ∃ x, x = wr := ⟨_, rfl⟩
    subst hwj
    by_cases hlt : i < j
    · have hltI : (i : Int) < (j : Int) := by omega
      have hne : ¬ i = j := by omega
      obtain ⟨G, hG⟩ : ∃ G : Nat → Int, ∀ t, G t = D[t]! := ⟨fun t => D[t]!, fun _ => rfl⟩
      have HG := Lib.hid hG
      clear hG
      have cw : ∀ t, t < d.size → wj.cell? ⟨g, off + t, none⟩ = some (.int .u64 (G t)) := fun t ht => by rw [HG.out]; exact HK.out.1.cell t (by omega)
      have fw : ∀ t, t < d.size → wj.frozen? ⟨g, off + t, none⟩ = false := fun t ht => HK.out.1.free t (by omega)
      go_wp2
      have HSW := Lib.hid ((HK.out.1.drewN 1).swp (i := i) (j := j) (by omega) (by omega))
      simp only [← HG.out] at HSW
      go_upto_region 3 with fail
      go_region
      all_goals
        clear cw fw
        generalize hwk : World.drew _ = wk
        have HSK : Hid (SA w0 wk g off (swp D i j)) := Lib.hid (by rw [← hwk]; exact HSW.out)
        clear hwk HSW
        go_wp2
        go_roundw
        case rel => exact ⟨i + 1, j - 1, swp D i j, by go_num, by congr 1; omega, by omega, by omega, by omega, by rw [size_swp]; exact hsD, Lib.hid ⟨HSK.out, by rw [← HK.out.2]; conv => rhs; rw [reverseLoop, if_pos hlt]⟩⟩
        case measure => simp [Go.RowKit.intOf]; omega
    · have hltI : ¬ (i : Int) < (j : Int) := by omega
      go_wp2
      go_end0
      exact ⟨rfl, by
        have h2 := HK.out.2
        rw [reverseLoop, if_neg hlt] at h2
        rw [← h2]
        exact HK.out.1⟩
end
set_option maxRecDepth 100000 in
set_option maxHeartbeats 4000000 in
theorem next_any (r : Int) (bx : Nat) (W : World) (hc : W.cell? ⟨bx, 0, none⟩ = some (.int .u64 r)) (hf : W.frozen? ⟨bx, 0, none⟩ = false) :
    Calls Try.prog 26 #[.pointer (some ⟨bx, 0, none⟩)] W fun e w' => ∃ x : Int, e = .returned (.int .u64 x) ∧ 0 ≤ x ∧ x < 18446744073709551616 ∧ Upd (OnlyAt bx) W w' ∧ w'.cell? ⟨bx, 0, none⟩ = some (.int .u64 x) ∧ w'.frozen? ⟨bx, 0, none⟩ = false := by
  have U0 : Hid (Upd (OnlyAt bx) W W) := Lib.hid (Upd.refl _ _)
  have c0 := hc
  have f0 := hf
  clear hc hf
  go_enter Try.func26, Try.ntmps26
  go_wp2
  go_region
  all_goals
    generalize hx1 : bits BinOp.xor IntKind.u64 _ _ = x1
    have la1 : 0 ≤ x1 := by rw [← hx1]; exact bits_lo_u64 _ _ _
    have lb1 : x1 ≤ 18446744073709551615 := by rw [← hx1]; exact bits_hi_u64 _ _ _
    generalize hwk : World.drew _ = w1
    have c1 : w1.cell? ⟨bx, 0, none⟩ = some (.int .u64 x1) := by
      rw [← hwk]
      exact World.cell?_setCell_same (W.drewN 1) _ _ (u := .int .u64 _) c0
    have f1 : w1.frozen? ⟨bx, 0, none⟩ = false := by
      rw [← hwk]
      refine Eq.trans ?_ f0
      exact World.frozen?_setCell (W.drewN 1) _ _ _
    have U1 : Hid (Upd (OnlyAt bx) W w1) := Lib.hid (U0.out.trans (by
      rw [← hwk]
      exact (Upd.drewN (OnlyAt bx) W 1).trans (Upd.setCell (F := OnlyAt bx) (W.drewN 1) (p := ⟨bx, 0, none⟩) rfl _) (fun _ _ h => h)) (fun _ _ h => h))
    clear hwk hx1
    clear c0 f0
    go_wp2
    go_region
    all_goals
      generalize hx2 : bits BinOp.xor IntKind.u64 _ _ = x2
      have la2 : 0 ≤ x2 := by rw [← hx2]; exact bits_lo_u64 _ _ _
      have lb2 : x2 ≤ 18446744073709551615 := by rw [← hx2]; exact bits_hi_u64 _ _ _
      generalize hwk : World.drew _ = w2
      have c2 : w2.cell? ⟨bx, 0, none⟩ = some (.int .u64 x2) := by
        rw [← hwk]
        exact World.cell?_setCell_same (w1.drewN 1) _ _ (u := .int .u64 _) c1
      have f2 : w2.frozen? ⟨bx, 0, none⟩ = false := by
        rw [← hwk]
        refine Eq.trans ?_ f1
        exact World.frozen?_setCell (w1.drewN 1) _ _ _
      have U2 : Hid (Upd (OnlyAt bx) W w2) := Lib.hid (U1.out.trans (by
        rw [← hwk]
        exact (Upd.drewN (OnlyAt bx) w1 1).trans (Upd.setCell (F := OnlyAt bx) (w1.drewN 1) (p := ⟨bx, 0, none⟩) rfl _) (fun _ _ h => h)) (fun _ _ h => h))
      clear hwk hx2
      clear c1 f1
      go_wp2
      go_region
      all_goals
        generalize hx3 : bits BinOp.xor IntKind.u64 _ _ = x3
        have la3 : 0 ≤ x3 := by rw [← hx3]; exact bits_lo_u64 _ _ _
        have lb3 : x3 ≤ 18446744073709551615 := by rw [← hx3]; exact bits_hi_u64 _ _ _
        generalize hwk : World.drew _ = w3
        have c3 : w3.cell? ⟨bx, 0, none⟩ = some (.int .u64 x3) := by
          rw [← hwk]
          exact World.cell?_setCell_same (w2.drewN 1) _ _ (u := .int .u64 _) c2
        have f3 : w3.frozen? ⟨bx, 0, none⟩ = false := by
          rw [← hwk]
          refine Eq.trans ?_ f2
          exact World.frozen?_setCell (w2.drewN 1) _ _ _
        have U3 : Hid (Upd (OnlyAt bx) W w3) := Lib.hid (U2.out.trans (by
          rw [← hwk]
          exact (Upd.drewN (OnlyAt bx) w2 1).trans (Upd.setCell (F := OnlyAt bx) (w2.drewN 1) (p := ⟨bx, 0, none⟩) rfl _) (fun _ _ h => h)) (fun _ _ h => h))
        clear hwk hx3
        clear c2 f2
        go_wp2
        go_ret
        exact ⟨x3, rfl, la3, by omega, U3.out, c3, f3⟩
def ltab : Array UInt8 := #[0, 1, 2, 2, 3, 3, 3, 3, 4, 4, 4, 4, 4, 4, 4, 4, 5, 5, 5, 5, 5, 5, 5, 5, 5, 5, 5, 5, 5, 5, 5, 5, 6, 6, 6, 6, 6, 6, 6, 6, 6, 6, 6, 6, 6, 6, 6, 6, 6, 6, 6, 6, 6, 6, 6, 6, 6, 6, 6, 6, 6, 6, 6, 6, 7, 7, 7, 7, 7, 7, 7, 7, 7, 7, 7, 7, 7, 7, 7, 7, 7, 7, 7, 7, 7, 7, 7, 7, 7, 7, 7, 7, 7, 7, 7, 7, 7, 7, 7, 7, 7, 7, 7, 7, 7, 7, 7, 7, 7, 7, 7, 7, 7, 7, 7, 7, 7, 7, 7, 7, 7, 7, 7, 7, 7, 7, 7, 7, 8, 8, 8, 8, 8, 8, 8, 8, 8, 8, 8, 8, 8, 8, 8, 8, 8, 8, 8, 8, 8, 8, 8, 8, 8, 8, 8, 8, 8, 8, 8, 8, 8, 8, 8, 8, 8, 8, 8, 8, 8, 8, 8, 8, 8, 8, 8, 8, 8, 8, 8, 8, 8, 8, 8, 8, 8, 8, 8, 8, 8, 8, 8, 8, 8, 8, 8, 8, 8, 8, 8, 8, 8, 8, 8, 8, 8, 8, 8, 8, 8, 8, 8, 8, 8, 8, 8, 8, 8, 8, 8, 8, 8, 8, 8, 8, 8, 8, 8, 8, 8, 8, 8, 8, 8, 8, 8, 8, 8, 8, 8, 8, 8, 8, 8, 8, 8, 8, 8, 8, 8, 8, 8, 8, 8, 8, 8, 8]
theorem ltab_all : ((List.range 256).all fun x => decide ((ltab.getD x 0).toNat ≤ 8) && (decide (x = 0) || decide (2 ^ (ltab.getD x 0).toNat ≤ 2 * x))) = true := by kernel_rfl
theorem ltab_ok (x : Nat) (hx : x < 256) : (ltab.getD x 0).toNat ≤ 8 ∧ (0 < x → 2 ^ (ltab.getD x 0).toNat ≤ 2 * x) := by
  have h := List.all_eq_true.1 ltab_all x (List.mem_range.2 hx)
  simp only [Bool.and_eq_true, Bool.or_eq_true, decide_eq_true_eq] at h
  exact ⟨h.1, fun h0 => h.2.resolve_left (by omega)⟩
theorem ltab_at (x : Nat) (hx : x < (ByteArray.mk ltab).size) : ((ByteArray.mk ltab)[x]'hx).toNat = (ltab.getD x 0).toNat := by
  show (ltab[x]'hx).toNat = _
  unfold Array.getD
  rw [dif_pos (show x < ltab.size from hx)]
  rfl
set_option maxRecDepth 100000 in
set_option maxHeartbeats 4000000 in
theorem len64_any (x : Nat) (hx : x < 256) (W : World) :
    Calls Try.prog 23 #[.int .u64 x] W fun e w' => ∃ n : Nat, e = .returned (.int .i64 n) ∧ n ≤ 8 ∧ (0 < x → 2 ^ n ≤ 2 * x) ∧ w' = W := by
  have h1 : ¬ (4294967296 : Int) ≤ (x : Int) := by omega
  have h2 : ¬ (65536 : Int) ≤ (x : Int) := by omega
  have h3 : ¬ (256 : Int) ≤ (x : Int) := by omega
  have K := Lib.hid (ltab_ok x hx)
  go_enter Try.func23, Try.ntmps23
  go_wp2
  go_ret
  generalize hk : UInt8.toNat _ = k
  have e : k = (ltab.getD x 0).toNat := hk.symm.trans (ltab_at x _)
  clear hk
  have K2 := K.out
  rw [← e] at K2
  refine ⟨k, ?_, K2.1, K2.2, rfl⟩
  have := K2.1
  have e1 : wrap64 (k : Int) = (k : Int) := by unfold wrap64; omega
  rw [e1, e1]
  rfl
set_option maxRecDepth 100000 in
set_option maxHeartbeats 4000000 in
theorem len_any (x : Nat) (hx : x < 256) (W : World) :
    Calls Try.prog 12 #[.int .u64 x] W fun e w' => ∃ n : Nat, e = .returned (.int .i64 n) ∧ n ≤ 8 ∧ (0 < x → 2 ^ n ≤ 2 * x) ∧ w' = W := by
  go_enter Try.func12, Try.ntmps12
  go_wp2_with (go_at_call 23; refine (len64_any x hx _).mono ?_; rintro e w' ⟨n, rfl, hn, hp, rfl⟩)
  go_ret
  exact ⟨n, rfl, hn, hp, rfl⟩
theorem two_shl (n : Nat) (hn : n ≤ 8) : IntKind.u64.wrap ((1 : Int) * 2 ^ n) = ((2 ^ n : Nat) : Int) := by
  have : n = 0 ∨ n = 1 ∨ n = 2 ∨ n = 3 ∨ n = 4 ∨ n = 5 ∨ n = 6 ∨ n = 7 ∨ n = 8 := by omega
  rcases this with rfl | rfl | rfl | rfl | rfl | rfl | rfl | rfl | rfl <;> rfl
set_option maxRecDepth 100000 in
set_option maxHeartbeats 4000000 in
theorem npow_any (x : Nat) (h0 : 0 < x) (hx : x < 256) (W : World) :
    Calls Try.prog 25 #[.int .i64 x] W fun e w' => ∃ m : Nat, e = .returned (.int .u64 m) ∧ 0 < m ∧ m ≤ 2 * x ∧ w' = W := by
  go_enter Try.func25, Try.ntmps25
  go_wp2_with (go_at_call 12; refine (len_any x hx _).mono ?_; rintro e w' ⟨n, rfl, hn, hp, rfl⟩)
  go_ret
  exact ⟨2 ^ n, by rw [show IntKind.u64.wrap (2 ^ n) = ((2 ^ n : Nat) : Int) from (by have := two_shl n hn; rwa [Int.one_mul] at this)]; rfl, Nat.pow_pos (by omega), hp h0, rfl⟩
theorem SA.other {w0 W W' : World} {g off : Nat} {d : Array Int} {F : Nat → Prop} (h : SA w0 W g off d) (hu : Upd F W W') (hF : ¬ F g) (hn : ∀ i, i < w0.heap.size → ¬ F i) : SA w0 W' g off d := by
  refine ⟨h.upd.trans hu (fun i hi hf => (hn i hi hf).elim), fun t ht => hu.cell (h.cell t ht) hF, fun t ht => ?_⟩
  have hlt : g < W.heap.size := World.block_lt_of_cell? W ⟨g, off + t, none⟩ (h.cell t ht)
  have e := hu.block g hlt (.inl hF)
  have := h.free t ht
  unfold World.frozen? at this ⊢
  rw [e]
  exact this
theorem and_small (x : Int) (m : Nat) (h0 : 0 ≤ x) (h1 : x < 18446744073709551616) (hm : 0 < m) (hm2 : m < 1000) : ∃ o : Nat, bits BinOp.and IntKind.u64 x ((m : Int) - 1) = (o : Int) ∧ o ≤ m - 1 := by
  obtain ⟨n, rfl⟩ : ∃ n : Nat, x = (n : Int) := ⟨x.toNat, by omega⟩
  have e : (m : Int) - 1 = ((m - 1 : Nat) : Int) := by omega
  rw [e]
  exact ⟨_, bits_and_u64_nat n (m - 1) (by omega) (by omega), Nat.and_le_right⟩
/-- The place of the numbers that are drawn. -/
structure Rnd (w0 W : World) (g bx : Nat) (r : Int) : Prop where
  ne : g ≠ bx
  new : w0.heap.size ≤ bx
  cell : W.cell? ⟨bx, 0, none⟩ = some (.int .u64 r)
  free : W.frozen? ⟨bx, 0, none⟩ = false
theorem Rnd.drewN {w0 W : World} {g bx : Nat} {r : Int} (h : Rnd w0 W g bx r) (n : Nat) : Rnd w0 (W.drewN n) g bx r := ⟨h.ne, h.new, h.cell, h.free⟩
theorem Rnd.set {w0 W : World} {g bx : Nat} {r : Int} (h : Rnd w0 W g bx r) (i : Nat) (v : Value) : Rnd w0 (W.setCell ⟨g, i, none⟩ v) g bx r := by
  refine ⟨h.ne, h.new, ?_, ?_⟩
  · refine Eq.trans ?_ h.cell
    apply World.cell?_setCell_other
    intro hh
    injection hh with h1
    exact h.ne h1
  · rw [World.frozen?_setCell]
    exact h.free
section
variable {w0 W : World} {g off : Nat} {d : Array Int}
set_option maxRecDepth 100000 in
set_option maxHeartbeats 4000000 in
theorem break_any (cap a b : Nat) (h : SA w0 W g off d) (hab : a + 12 < b) (hb : b ≤ d.size) (hsz : d.size ≤ 200) :
    Calls Try.prog 15 #[rowV g off d.size cap, .int .i64 a, .int .i64 b] W fun e w' => e = .returned (.tuple #[]) ∧ ∃ D, SA w0 w' g off D ∧ PermIn a b d D := by
  have H0 := Lib.hid h
  have hlt : g < W.heap.size := World.block_lt_of_cell? W ⟨g, off + 0, none⟩ (h.cell 0 (by omega))
  have hle : w0.heap.size ≤ W.heap.size := h.upd.size
  clear h
  obtain ⟨L, hL0⟩ : ∃ L, L = b - a := ⟨_, rfl⟩
  have hL1 : a + L ≤ b := by omega
  have hL2 : b ≤ a + L := by omega
  have hLI := Lib.hid (show (b : Int) - (a : Int) = (L : Int) by omega)
  clear hL0
  obtain ⟨q, hq⟩ : ∃ q, q = L / 4 := ⟨_, rfl⟩
  have hqI := Lib.hid (show Int.tdiv (L : Int) 4 = (q : Int) by rw [Int.tdiv_eq_ediv_of_nonneg (by omega)]; omega)
  have hq1 : 4 * q ≤ L := by omega
  have hq2 : L ≤ 4 * q + 3 := by omega
  clear hq
  have h8 : (8 : Int) ≤ (L : Int) := by omega
  go_enter Try.func15, Try.ntmps15
  go_upto_region 1 with fail
  simp only [hLI.out]
  go_upto_region 3 with fail
  have S1 : Hid (SA w0 (W.alloc (Obj.cells #[Value.int IntKind.u64 ↑L] 47)) g off d) := Lib.hid (H0.out.other (Upd.alloc NoF W _) (fun h => h) (fun _ _ h => h))
  have R1 : Hid (Rnd w0 (W.alloc (Obj.cells #[Value.int IntKind.u64 ↑L] 47)) g W.heap.size (L : Int)) := Lib.hid ⟨by omega, hle, (Blk.new W _ _).cell 0, (Blk.new W _ _).frozen 0⟩
  obtain ⟨bx, hbx⟩ : ∃ x, x = W.heap.size := ⟨_, rfl⟩
  rw [← hbx] at R1 ⊢
  generalize hwk : World.alloc _ _ = wk at *
  clear hwk hbx H0 hlt hle
  go_wp2_with (first | (go_at_call 25; refine (npow_any L (by omega) (by omega) _).mono ?_; rintro e w' ⟨m, rfl, hm0, hm, rfl⟩))
  go_loopw [9] (fun vi wr => ∃ (k : Nat) (D : Array Int) (r : Int), vi = .int .i64 k ∧ a + 2 * q ≤ k + 1 ∧ k ≤ a + 2 * q + 2 ∧ D.size = d.size ∧ Hid (SA w0 wr g off D ∧ PermIn a b d D ∧ Rnd w0 wr g bx r)) (fun vi _ => a + 2 * q + 2 - (Go.RowKit.intOf vi).toNat)
  case atStart => exact ⟨a + 2 * q - 1, d, _, by congr 1; omega, by omega, by omega, rfl, Lib.hid ⟨S1.out, Go.Sort.permIn_refl _ _ _, R1.out⟩⟩
  case round =>
    clear S1 R1
    obtain ⟨k, D2, r, rfl, hk0, hk1, hsD, HK⟩ := hrel
    obtain ⟨wj, hwj⟩ : ∃ x, x = wr := ⟨_, rfl⟩
    subst hwj
    have HP := Lib.hid HK.out.2.1
    by_cases hk : k ≤ a + 2 * q + 1
    · have hkI : (k : Int) ≤ (a : Int) + (L : Int) / 4 * 2 + 1 := by omega
      go_upto_region 8 with (first | (go_at_call 26; refine (next_any r bx _ HK.out.2.2.cell HK.out.2.2.free).mono ?_; rintro e w' ⟨x, rfl, hx0, hx1, hu, hc, hf⟩; obtain ⟨o, hand, ho⟩ := and_small x m hx0 hx1 hm0 (by omega); have HS2 := Lib.hid (HK.out.1.other hu HK.out.2.2.ne (fun i hi h => by have := HK.out.2.2.new; unfold OnlyAt at h; omega)); have HR2 : Hid (Rnd w0 w' g bx x) := Lib.hid ⟨HK.out.2.2.ne, HK.out.2.2.new, hc, hf⟩; have HAND := Lib.hid hand; clear hu hc hf hand) | (simp only [HAND.out]))
      try simp only [HAND.out]
      obtain ⟨G, hG⟩ : ∃ G : Nat → Int, ∀ t, G t = D2[t]! := ⟨fun t => D2[t]!, fun _ => rfl⟩
      have HG := Lib.hid hG
      clear hG
      have cw : ∀ t, t < d.size → w'.cell? ⟨g, off + t, none⟩ = some (.int .u64 (G t)) := fun t ht => by rw [HG.out]; exact HS2.out.cell t (by omega)
      have fw : ∀ t, t < d.size → w'.frozen? ⟨g, off + t, none⟩ = false := fun t ht => HS2.out.free t (by omega)
      by_cases hoL : L ≤ o
      · have hoLI : (L : Int) ≤ (o : Int) := by omega
        obtain ⟨o2, ho2⟩ : ∃ o2 : Nat, (o : Int) - (L : Int) = (o2 : Int) := ⟨o - L, by omega⟩
        have HO2 := Lib.hid ho2
        have ho2L : o2 < L := by omega
        clear ho2
        go_upto_region 10 with fail
        simp only [HO2.out]
        have hj : a + o2 < d.size := by omega
        have hki : k < d.size := by omega
        by_cases hko : k = a + o2
        · subst hko
          have HSW := Lib.hid ((HS2.out.drewN 1).swp (i := (a + o2)) (j := (a + o2)) (by omega) (by omega))
          have HRW := Lib.hid (((HR2.out.drewN 1).set (off + (a + o2)) (.int .u64 D2[(a + o2)]!)).set (off + (a + o2)) (.int .u64 D2[(a + o2)]!))
          simp only [← HG.out] at HSW HRW
          go_upto_region 10 with fail
          go_region
          all_goals
            clear cw fw
            generalize hwk : World.drew _ = wk
            have HSK : Hid (SA w0 wk g off (swp D2 (a + o2) (a + o2))) := Lib.hid (by rw [← hwk]; exact HSW.out)
            have HRK : Hid (Rnd w0 wk g bx x) := Lib.hid (by rw [← hwk]; exact HRW.out)
            clear hwk HSW HRW
            go_wp2
            go_roundw
            case rel => exact ⟨(a + o2) + 1, swp D2 (a + o2) (a + o2), x, by go_num, by omega, by omega, by rw [size_swp]; exact hsD, Lib.hid ⟨HSK.out, Go.Sort.permIn_trans _ _ _ _ _ HP.out (Go.Sort.swp_permIn D2 a b (a + o2) (a + o2) (by omega) (by omega) (by omega) (by omega) (by omega)), HRK.out⟩⟩
            case measure => simp [Go.RowKit.intOf]; omega
        · have hne : ¬ k = a + o2 := hko
          have HSW := Lib.hid ((HS2.out.drewN 1).swp (i := k) (j := (a + o2)) (by omega) (by omega))
          have HRW := Lib.hid (((HR2.out.drewN 1).set (off + k) (.int .u64 D2[(a + o2)]!)).set (off + (a + o2)) (.int .u64 D2[k]!))
          simp only [← HG.out] at HSW HRW
          go_upto_region 10 with fail
          go_region
          all_goals
            clear cw fw
            generalize hwk : World.drew _ = wk
            have HSK : Hid (SA w0 wk g off (swp D2 k (a + o2))) := Lib.hid (by rw [← hwk]; exact HSW.out)
            have HRK : Hid (Rnd w0 wk g bx x) := Lib.hid (by rw [← hwk]; exact HRW.out)
            clear hwk HSW HRW
            go_wp2
            go_roundw
            case rel => exact ⟨k + 1, swp D2 k (a + o2), x, by go_num, by omega, by omega, by rw [size_swp]; exact hsD, Lib.hid ⟨HSK.out, Go.Sort.permIn_trans _ _ _ _ _ HP.out (Go.Sort.swp_permIn D2 a b k (a + o2) (by omega) (by omega) (by omega) (by omega) (by omega)), HRK.out⟩⟩
            case measure => simp [Go.RowKit.intOf]; omega
      · have hoLI : ¬ (L : Int) ≤ (o : Int) := by omega
        go_upto_region 10 with fail
        have hj : a + o < d.size := by omega
        have hki : k < d.size := by omega
        by_cases hko : k = a + o
        · subst hko
          have HSW := Lib.hid ((HS2.out.drewN 1).swp (i := (a + o)) (j := (a + o)) (by omega) (by omega))
          have HRW := Lib.hid (((HR2.out.drewN 1).set (off + (a + o)) (.int .u64 D2[(a + o)]!)).set (off + (a + o)) (.int .u64 D2[(a + o)]!))
          simp only [← HG.out] at HSW HRW
          go_upto_region 10 with fail
          go_region
          all_goals
            clear cw fw
            generalize hwk : World.drew _ = wk
            have HSK : Hid (SA w0 wk g off (swp D2 (a + o) (a + o))) := Lib.hid (by rw [← hwk]; exact HSW.out)
            have HRK : Hid (Rnd w0 wk g bx x) := Lib.hid (by rw [← hwk]; exact HRW.out)
            clear hwk HSW HRW
            go_wp2
            go_roundw
            case rel => exact ⟨(a + o) + 1, swp D2 (a + o) (a + o), x, by go_num, by omega, by omega, by rw [size_swp]; exact hsD, Lib.hid ⟨HSK.out, Go.Sort.permIn_trans _ _ _ _ _ HP.out (Go.Sort.swp_permIn D2 a b (a + o) (a + o) (by omega) (by omega) (by omega) (by omega) (by omega)), HRK.out⟩⟩
            case measure => simp [Go.RowKit.intOf]; omega
        · have hne : ¬ k = a + o := hko
          have HSW := Lib.hid ((HS2.out.drewN 1).swp (i := k) (j := (a + o)) (by omega) (by omega))
          have HRW := Lib.hid (((HR2.out.drewN 1).set (off + k) (.int .u64 D2[(a + o)]!)).set (off + (a + o)) (.int .u64 D2[k]!))
          simp only [← HG.out] at HSW HRW
          go_upto_region 10 with fail
          go_region
          all_goals
            clear cw fw
            generalize hwk : World.drew _ = wk
            have HSK : Hid (SA w0 wk g off (swp D2 k (a + o))) := Lib.hid (by rw [← hwk]; exact HSW.out)
            have HRK : Hid (Rnd w0 wk g bx x) := Lib.hid (by rw [← hwk]; exact HRW.out)
            clear hwk HSW HRW
            go_wp2
            go_roundw
            case rel => exact ⟨k + 1, swp D2 k (a + o), x, by go_num, by omega, by omega, by rw [size_swp]; exact hsD, Lib.hid ⟨HSK.out, Go.Sort.permIn_trans _ _ _ _ _ HP.out (Go.Sort.swp_permIn D2 a b k (a + o) (by omega) (by omega) (by omega) (by omega) (by omega)), HRK.out⟩⟩
            case measure => simp [Go.RowKit.intOf]; omega
    · have hkI : ¬ (k : Int) ≤ (a : Int) + (L : Int) / 4 * 2 + 1 := by omega
      have hkD : decide ((k : Int) ≤ (a : Int) + (L : Int) / 4 * 2 + 1) = false := decide_eq_false hkI
      go_wp2
      go_end0
      exact ⟨rfl, D2, HK.out.1, HP.out⟩
end
end Go.Proofs.Ytbhcdbnbiocimaa.SU
