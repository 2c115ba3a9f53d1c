/- List of the reference, slices.Equal, OnesCount32, and what each statement of layer 2 asks of a set. -/
import Derived.Test.YtlhbnndnkcpomaaDoorMaskLaw
import Derived.Lib.Tables
import Derived.Lib.BitFns
set_option linter.unusedSimpArgs false
set_option linter.unusedVariables false
namespace Go.Proofs.YtlhbnndnkcpomaaDoor.ML
open Go.RowKit
attribute [local go_sem] Oper.semAt_some

/-- The numbers below k that are in a set. -/
def bitsTo (m : Mk) (k : Nat) : List Nat := (List.range k).filter fun i => m.getLsbD i
theorem bitsTo_all (m : Mk) : bitsTo m 32 = bitsL m := rfl
theorem bitsTo_in {m : Mk} {k : Nat} (h : m.getLsbD k = true) : bitsTo m (k + 1) = bitsTo m k ++ [k] := by simp [bitsTo, List.range_succ, h]
theorem bitsTo_out {m : Mk} {k : Nat} (h : m.getLsbD k = false) : bitsTo m (k + 1) = bitsTo m k := by simp [bitsTo, List.range_succ, h]
theorem bitsTo_le (m : Mk) (k : Nat) : (bitsTo m k).length ≤ k := by
  have := List.length_filter_le (fun i => m.getLsbD i) (List.range k)
  simpa [bitsTo] using this

/-- One thing more at the end of a row of the call's own. -/
theorem append_local {W W1 : World} {B n : Nat} {v v' x : Value} {xs : List Value} (hB : B ≤ W.heap.size) (hv : ∀ k, v.ownBlock = some k → B ≤ k) (hr0 : Row W 3 1 v n xs)
    (hg : (W.alloc (.cells #[x] 3)).grownBy W1 v.ownBlock) (hf : v'.ownBlock = v.ownBlock ∨ ∃ g, v'.ownBlock = some g ∧ (W.alloc (.cells #[x] 3)).heap.size ≤ g) :
    (∀ k, v'.ownBlock = some k → B ≤ k) ∧ Upd (From B) W W1 := by
  have hu0 : Upd (From B) W (W.alloc (.cells #[x] 3)) := Upd.alloc _ _ _
  have hu1 : Upd (From B) (W.alloc (.cells #[x] 3)) W1 := Upd.grown hg (fun k hk _ => ⟨hv k hk, (hr0.alloc _).isCells k hk⟩)
  refine ⟨?_, hu0.from hu1⟩
  intro k hk
  rcases hf with h | ⟨g, h, h'⟩
  · exact hv k (h ▸ hk)
  · rw [h] at hk; cases hk; simp at h'; omega

set_option maxRecDepth 100000 in
set_option maxHeartbeats 2000000 in
theorem rlist_any (m : Mk) (w : World) : Calls Tryd.prog 89 #[VM m] w fun e w' =>
    ∃ v, e = .returned v ∧ Row w' 3 1 v (bitsL m).length ((bitsL m).map VI) ∧ (∀ k, v.ownBlock = some k → w.heap.size ≤ k) ∧ Upd (From w.heap.size) w w' := by
  go_enter Tryd.func89, Tryd.ntmps89
  go_wp2
  go_loopw [3, 4] (fun v i wr => ∃ (k : Nat), k ≤ 32 ∧ i = .int .i64 k ∧ (∃ a cap, v = .slice a (bitsTo m k).length cap) ∧ Hid (Row wr 3 1 v (bitsTo m k).length ((bitsTo m k).map VI) ∧ (∀ b, v.ownBlock = some b → w.heap.size ≤ b) ∧ Upd (From w.heap.size) w wr)) (fun _ i _ => 32 - (intOf i).toNat)
  case atStart => exact ⟨0, by omega, rfl, ⟨none, 0, rfl⟩, Row.nil _ _ _, fun k hk => by simp [Value.ownBlock] at hk, Upd.refl _ _⟩
  case round =>
    obtain ⟨k, hk, rfl, ⟨a, cap, rfl⟩, HI⟩ := hrel
    by_cases hlt : k < 32
    · have hle := bitsTo_le m k
      have hin : inM m (k : Int) = m.getLsbD k := by unfold inM; simp; intro _; omega
      cases hb : m.getLsbD k
      · rw [hb] at hin
        have hto := bitsTo_out hb
        have hhas : ∀ W, Calls Tryd.prog 66 #[VM m, .int .i64 (k : Int)] W fun e w' => e = .returned (.bool false) ∧ W = w' := fun W => hin ▸ rhas_any m k W
        have HH := Lib.hid hhas; have HT := Lib.hid hto
        clear hhas hto hin hb
        go_wp2_with (go_at_call 66; refine (HH.out _).mono ?_; rintro e w' ⟨rfl, rfl⟩)
        go_roundw
        case rel => exact ⟨k + 1, by omega, by go_num, by rw [HT.out]; exact ⟨_, _, rfl⟩, by rw [HT.out]; exact HI⟩
        case measure => simp [intOf]; omega
      · rw [hb] at hin
        have hto := bitsTo_in hb
        have hhas : ∀ W, Calls Tryd.prog 66 #[VM m, .int .i64 (k : Int)] W fun e w' => e = .returned (.bool true) ∧ W = w' := fun W => hin ▸ rhas_any m k W
        obtain ⟨i0, hi, hz0, hz1, hz2⟩ := info_parts infoInt
        obtain ⟨v', W1, hrun, hrow, hg, hf⟩ := run_append_row (P := Tryd.prog) (wr.alloc (.cells #[VI k] 3)) 126 126 3 i0 (.int .i64 0) 1 8 Tryd.underlying126 hi hz0 hz1 hz2 rfl (by decide) (.slice a (bitsTo m k).length cap) (bitsTo m k).length ((bitsTo m k).map VI)
          (HI.out.1.alloc _) ⟨wr.heap.size, 0, none⟩ 1 1 [VI k] rfl (cell_one_new _ _ _) (by simp [Value.oneCell']) (by unfold maxLen; omega) (by omega)
        have hsz := HI.out.2.2.size
        obtain ⟨hv', hu'⟩ := append_local hsz HI.out.2.1 HI.out.1 hg hf
        obtain ⟨a', cap', rfl, _⟩ := hrow.slice
        have HR := Lib.hid hrun
        have HJ := Lib.hid (And.intro hrow (And.intro hv' (HI.out.2.2.from hu')))
        have HH := Lib.hid hhas; have HT := Lib.hid hto
        clear hrun hrow hg hf hv' hu' hhas hto hin hb
        go_wp2_with (first | (go_at_call 66; refine (HH.out _).mono ?_; rintro e w' ⟨rfl, rfl⟩) | (at_builtin; refine wpList_append_run rfl _ _ 126 rfl rfl rfl HR.out ?_))
        go_roundw
        case rel => exact ⟨k + 1, by omega, by go_num, by rw [HT.out, List.length_append]; exact ⟨_, _, rfl⟩, by rw [HT.out, List.map_append, List.length_append]; exact HJ.out⟩
        case measure => simp [intOf]; omega
    · obtain rfl : k = 32 := by omega
      go_wp2
      go_ret
      rw [bitsTo_all] at HI
      exact ⟨_, rfl, HI.out.1, HI.out.2.1, HI.out.2.2⟩

theorem fold_pop : (⟨((List.append ([0, 1, 1, 2, 1, 2, 2, 3, 1, 2, 2, 3, 2, 3, 3, 4, 1, 2, 2, 3, 2, 3, 3, 4, 2, 3, 3, 4, 3, 4, 4, 5, 1, 2, 2, 3, 2, 3, 3, 4, 2, 3, 3, 4, 3, 4, 4, 5, 2, 3, 3, 4, 3, 4, 4, 5, 3, 4, 4, 5, 4, 5, 5, 6] : List UInt8) [1, 2, 2, 3, 2, 3, 3, 4, 2, 3, 3, 4, 3, 4, 4, 5, 2, 3, 3, 4, 3, 4, 4, 5, 3, 4, 4, 5, 4, 5, 5, 6, 2, 3, 3, 4, 3, 4, 4, 5, 3, 4, 4, 5, 4, 5, 5, 6, 3, 4, 4, 5, 4, 5, 5, 6, 4, 5, 5, 6, 5, 6, 6, 7]).append (List.append [1, 2, 2, 3, 2, 3, 3, 4, 2, 3, 3, 4, 3, 4, 4, 5, 2, 3, 3, 4, 3, 4, 4, 5, 3, 4, 4, 5, 4, 5, 5, 6, 2, 3, 3, 4, 3, 4, 4, 5, 3, 4, 4, 5, 4, 5, 5, 6, 3, 4, 4, 5, 4, 5, 5, 6, 4, 5, 5, 6, 5, 6, 6, 7] [2, 3, 3, 4, 3, 4, 4, 5, 3, 4, 4, 5, 4, 5, 5, 6, 3, 4, 4, 5, 4, 5, 5, 6, 4, 5, 5, 6, 5, 6, 6, 7, 3, 4, 4, 5, 4, 5, 5, 6, 4, 5, 5, 6, 5, 6, 6, 7, 4, 5, 5, 6, 5, 6, 6, 7, 5, 6, 6, 7, 6, 7, 7, 8])).toArray⟩ : ByteArray) = Lib.pop8tab := by kernel_rfl
theorem and255 (x : Nat) (hx : x < 4294967296) : bits .and .u32 (x : Int) 255 = (x : Int) % 256 := by
  have := bits_and_nat x 255 hx (by decide)
  rw [show ((255 : Nat) : Int) = 255 from rfl] at this
  rw [this, show (255 : Nat) = 2 ^ 8 - 1 from rfl, Nat.and_two_pow_sub_one_eq_mod]
  rfl
theorem and0 (m : Mk) : bits .and .u32 (m.toNat : Int) 255 = (m.toNat : Int) % 256 := and255 _ m.isLt
theorem and16 (m : Mk) : bits .and .u32 ((m.toNat : Int) / 65536) 255 = (m.toNat : Int) / 65536 % 256 := by
  have := m.isLt
  exact and255 (m.toNat / 65536) (by omega)
theorem and8 (m : Mk) : bits .and .u32 ((m.toNat : Int) / 256) 255 = (m.toNat : Int) / 256 % 256 := by
  have := m.isLt
  exact and255 (m.toNat / 256) (by omega)
theorem run24 (m : Mk) (w : World) : (Instr.index 9 (.string Lib.pop8tab) (.int .u32 ((m.toNat : Int) / 16777216))).run Tryd.prog w = .ok (.int .u8 (Lib.pop8 ((m.toNat : Int) / 16777216))) w :=
  Lib.run_index_pop8tab w _ _ _ (by kernel_rfl) (by omega) (by have := m.isLt; omega)
attribute [local go_sem high] fold_pop and0 and16 and8 run24
theorem pop_fin : ∀ n : Fin 256, Lib.pop8 (n.val : Int) = (((List.range 8).countP n.val.testBit : Nat) : Int) := by decide +kernel
theorem pop_at (y : Nat) (h : y < 256) : Lib.pop8 (y : Int) = (((List.range 8).countP y.testBit : Nat) : Int) := pop_fin ⟨y, h⟩
theorem pop_shift (x s : Nat) : (List.range 8).countP (x / 2 ^ s % 256).testBit = (List.range 8).countP (fun i => x.testBit (s + i)) := by
  apply List.countP_congr
  intro i hi
  have hi : i < 8 := List.mem_range.1 hi
  rw [show (256 : Nat) = 2 ^ 8 from rfl, Nat.testBit_mod_two_pow, Nat.testBit_div_two_pow]
  simp [hi, Nat.add_comm]
theorem range32 : List.range 32 = List.range 8 ++ (List.range 8).map (8 + ·) ++ (List.range 8).map (16 + ·) ++ (List.range 8).map (24 + ·) := by decide +kernel
theorem pops (m : Mk) : (Lib.pop8 ((m.toNat : Int) / 16777216) + Lib.pop8 ((m.toNat : Int) / 65536 % 256) + Lib.pop8 ((m.toNat : Int) / 256 % 256) + Lib.pop8 ((m.toNat : Int) % 256)) % 256 = (((bitsL m).length : Nat) : Int) := by
  have hx := m.isLt
  have hl := bitsL_length m
  have e3 : (m.toNat : Int) / 16777216 = ((m.toNat / 2 ^ 24 % 256 : Nat) : Int) := by omega
  have e2 : (m.toNat : Int) / 65536 % 256 = ((m.toNat / 2 ^ 16 % 256 : Nat) : Int) := by omega
  have e1 : (m.toNat : Int) / 256 % 256 = ((m.toNat / 2 ^ 8 % 256 : Nat) : Int) := by omega
  have e0 : (m.toNat : Int) % 256 = ((m.toNat / 2 ^ 0 % 256 : Nat) : Int) := by omega
  rw [e3, e2, e1, e0, pop_at _ (Nat.mod_lt _ (by decide)), pop_at _ (Nat.mod_lt _ (by decide)), pop_at _ (Nat.mod_lt _ (by decide)), pop_at _ (Nat.mod_lt _ (by decide)), pop_shift, pop_shift, pop_shift, pop_shift]
  have h : (bitsL m).length = (List.range 8).countP (fun i => m.toNat.testBit (0 + i)) + (List.range 8).countP (fun i => m.toNat.testBit (8 + i)) + (List.range 8).countP (fun i => m.toNat.testBit (16 + i)) + (List.range 8).countP (fun i => m.toNat.testBit (24 + i)) := by
    unfold bitsL
    rw [← List.countP_eq_length_filter, range32, List.countP_append, List.countP_append, List.countP_append, List.countP_map, List.countP_map, List.countP_map]
    simp only [Nat.zero_add]
    rfl
  omega

set_option maxRecDepth 100000 in
set_option maxHeartbeats 2000000 in
theorem ones_any (m : Mk) (w : World) : Calls Tryd.prog 53 #[.int .u32 (m.toNat : Int)] w fun e w' => e = .returned (.int .i64 ((bitsL m).length : Nat)) ∧ ∃ k, w' = w.drewN k := by
  have hlt : m.toNat < 4294967296 := m.isLt
  go_enter Tryd.func53, Tryd.ntmps53
  go_wp2
  go_quiet (fail)
  rename_i nq
  have HP := Lib.hid (pops m)
  clear hlt
  go_wp2
  go_ret
  exact ⟨congrArg (fun x => Ending.returned (Value.int .i64 x)) HP.out, nq, rfl⟩

theorem count_q (m : Mk) (w : World) : Calls Tryd.prog 21 #[VM m] w fun e w' => e = .returned (.int .i64 ((bitsL m).length : Nat)) ∧ ∃ k, w' = w.drewN k := by
  go_enter Tryd.func21, Tryd.ntmps21
  go_wp2_with (go_at_call 53; refine (ones_any m _).mono ?_; rintro e w1 ⟨rfl, hu⟩; have HU := Lib.hid hu; clear hu)
  go_ret
  exact ⟨rfl, HU.out⟩
theorem count_any (m : Mk) (w : World) : Calls Tryd.prog 21 #[VM m] w fun e w' => e = .returned (.int .i64 ((bitsL m).length : Nat)) ∧ Upd NoF w w' :=
  (count_q m w).mono fun e w' ⟨he, k, hk⟩ => ⟨he, hk ▸ Upd.drewN NoF w k⟩

/-- Numbers written out. -/
theorem lit_is1 {w : World} {g : Nat} {T : TypeId} (L : List Int) (hm : L.length ≤ 9223372036854775807) (hb : Blk w g (L.map (fun z => Value.int .i64 z)).toArray T) :
    IsRow1 w (some ⟨g, 0, none⟩) L.length L.length (fun i => .int .i64 (L.getD i 0)) := by
  refine ⟨Nat.le_refl _, by unfold maxLen; omega, fun k hk => ⟨_, rfl, ?_⟩⟩
  rw [Addr.add_lit, Nat.zero_add, hb.cell k]
  simp [hk]

end Go.Proofs.YtlhbnndnkcpomaaDoor.ML
