/- The contracts of the functions of layer 2 (mask). -/
import Derived.Test.YtlhbnndnkcpomaaDoorMaskPlain
import Derived.Test.YtlhbnndnkcpomaaDoorRange
set_option linter.unusedSimpArgs false
set_option linter.unusedVariables false
namespace Go.Proofs.YtlhbnndnkcpomaaDoor
open Go.RowKit
attribute [local go_sem] Oper.semAt_some

/-- The table of math/bits lies in its variable. -/
def Tab (w : World) : Prop := ∀ i, i < 32 → w.cell? ⟨0, i, none⟩ = some (.int .u8 ((Lib.deBruijn32tab.getD i 0 : Nat) : Int))
theorem Tab.upd {F : Nat → Prop} {w w' : World} (h : Tab w) (hu : Upd F w w') (hF : ¬ F 0) : Tab w' := fun i hi => hu.cell (h i hi) hF
theorem Tab.lt {w : World} (h : Tab w) : 0 < w.heap.size := World.block_lt_of_cell? w _ (h 0 (by decide))
theorem Tab.from {B : Nat} {w w' : World} (h : Tab w) (hu : Upd (From B) w w') (hB : 0 < B) : Tab w' := h.upd hu (by unfold From; omega)

theorem bit_any (n : Int) (w : World) : Calls Tryd.prog 80 #[.int .i64 n] w fun e w' => e = .returned (VM (bitB n)) ∧ w = w' := by
  by_cases h : n < 0 ∨ 31 < n
  · have H := Lib.hid (bitB_out h)
    rcases h with h | h
    · go_enter Tryd.func80, Tryd.ntmps80
      go_wp2
      go_ret
      exact ⟨by rw [H.out]; rfl, rfl⟩
    · have h2 : ¬ n < 0 := by omega
      go_enter Tryd.func80, Tryd.ntmps80
      go_wp2
      go_ret
      exact ⟨by rw [H.out]; rfl, rfl⟩
  · have h0 : 0 ≤ n := by omega
    have h1 : n ≤ 31 := by omega
    have e : (bitB n).toNat = 2 ^ n.toNat := by rw [bitB_in h0 h1, twoPow_toNat _ (by omega)]
    obtain ⟨k, rfl⟩ : ∃ k : Nat, n = k := ⟨n.toNat, by omega⟩
    have hk : k < 32 := by omega
    rw [Int.toNat_natCast] at e
    have H := Lib.hid e
    clear e h
    have hv : ((2 : Int) ^ k % 4294967296) = (((bitB (k : Int)).toNat : Nat) : Int) := by
      have h3 : (2 : Nat) ^ k < 2 ^ 32 := Nat.pow_lt_pow_right (by decide) hk
      rw [H.out]
      have h4 : ((2 ^ k : Nat) : Int) = (2 : Int) ^ k := by push_cast; rfl
      rw [← h4]
      exact Int.emod_eq_of_lt (Int.natCast_nonneg _) (by have h5 : (2 : Nat) ^ k < 4294967296 := h3; exact Int.ofNat_lt.2 h5)
    have HV := Lib.hid hv
    clear hv
    go_enter Tryd.func80, Tryd.ntmps80
    go_wp2
    go_ret
    exact ⟨congrArg (fun x => Ending.returned (Value.int .u32 x)) HV.out, rfl⟩


theorem infoInt : (Tryd.prog.info? 3).map (fun i => (i.zero, i.size, i.bytes)) = some (some (.int .i64 0), 1, 8) := by kernel_rfl
abbrev VI : Nat → Value := fun k => .int .i64 (k : Int)
theorem with_any (m : Mk) (n : Int) (w : World) : Calls Tryd.prog 96 #[VM m, .int .i64 n] w fun e w' => e = .returned (VM (m ||| bitB n)) ∧ w = w' := by
  have hb := bits_or m (bitB n)
  go_enter Tryd.func96, Tryd.ntmps96
  go_wp2_with (go_at_call 80; refine (bit_any _ _).mono ?_; rintro e w' ⟨rfl, rfl⟩)
  go_ret
  exact ⟨rfl, rfl⟩
theorem without_any (m : Mk) (n : Int) (w : World) : Calls Tryd.prog 48 #[VM m, .int .i64 n] w fun e w' => e = .returned (VM (m &&& ~~~ bitB n)) ∧ w = w' := by
  have hb := bits_andNot m (bitB n)
  have hq : ((m.toNat &&& 4294967295 - (bitB n).toNat : Nat) : Int) = (((m &&& ~~~ bitB n).toNat : Nat) : Int) := by simp
  have HQ := Lib.hid hq
  clear hq
  go_enter Tryd.func48, Tryd.ntmps48
  go_wp2_with (go_at_call 80; refine (bit_any _ _).mono ?_; rintro e w' ⟨rfl, rfl⟩)
  go_ret
  exact ⟨congrArg (fun x => Ending.returned (Value.int .u32 x)) HQ.out, rfl⟩
theorem has_any (m : Mk) (n : Int) (w : World) : Calls Tryd.prog 61 #[VM m, .int .i64 n] w fun e w' => e = .returned (.bool (inM m n)) ∧ w = w' := by
  have hb := bits_and m (bitB n)
  have he : ((((m &&& bitB n).toNat : Nat) : Int) != 0) = inM m n := by
    rw [Bool.eq_iff_iff, bne_iff_ne]
    have h1 := and_bitB m n
    constructor
    · intro h
      cases hi : inM m n with
      | true => rfl
      | false => exact (h (by rw [h1.2 hi]; rfl)).elim
    · intro hi h
      have : m &&& bitB n = 0#32 := BitVec.eq_of_toNat_eq (by simpa using h)
      rw [h1.1 this] at hi
      cases hi
  have HE := Lib.hid he
  clear he
  go_enter Tryd.func61, Tryd.ntmps61
  go_wp2_with (go_at_call 80; refine (bit_any _ _).mono ?_; rintro e w' ⟨rfl, rfl⟩)
  go_ret
  exact ⟨congrArg (fun x => Ending.returned (Value.bool x)) HE.out, rfl⟩
theorem bits_and_nat (a b : Nat) (ha : a < 4294967296) (hb : b < 4294967296) : bits .and .u32 (a : Int) (b : Int) = ((a &&& b : Nat) : Int) := by
  have h := bits_and (BitVec.ofNat 32 a) (BitVec.ofNat 32 b)
  rw [BitVec.toNat_ofNat, BitVec.toNat_ofNat, Nat.mod_eq_of_lt (by omega), Nat.mod_eq_of_lt (by omega), BitVec.toNat_and, BitVec.toNat_ofNat, BitVec.toNat_ofNat, Nat.mod_eq_of_lt (by omega), Nat.mod_eq_of_lt (by omega)] at h
  exact h
set_option maxHeartbeats 1000000 in
theorem tz32_core (x k idx : Nat) (w : World) (hx0 : ((x : Int) == 0) = false)
    (key : bits BinOp.and IntKind.u32 (x : Int) (-(x : Int) % 4294967296) * 125613361 % 4294967296 / 134217728 = (idx : Int))
    (hi : idx < 32) (hk : k < 32) (hcell : w.cell? ⟨0, idx, none⟩ = some (.int .u8 k)) :
    Calls Tryd.prog 108 #[.int .u32 x] w fun e w' => e = .returned (.int .i64 k) ∧ w = w' := by
  go_enter Tryd.func108, Tryd.ntmps108
  go_wp2_with (simp only [key])
  go_ret
  exact ⟨rfl, rfl⟩

theorem tz32_key (x a : Nat) (hx : x < 4294967296) (hx0 : x ≠ 0) (hlow : x &&& (4294967296 - x) = a) :
    bits BinOp.and IntKind.u32 (x : Int) (-(x : Int) % 4294967296) * 125613361 % 4294967296 / 134217728 = ((a * 125613361 % 4294967296 / 134217728 : Nat) : Int) := by
  have e1 : -(x : Int) % 4294967296 = ((4294967296 - x : Nat) : Int) := by omega
  rw [e1, bits_and_nat x _ hx (by omega), hlow]
  rw [Int.natCast_ediv, Int.natCast_emod, Int.natCast_mul]
  rfl

theorem tz32_any (m : Mk) (hm : m ≠ 0#32) (w : World) (hT : Tab w) : Calls Tryd.prog 108 #[.int .u32 (m.toNat : Int)] w fun e w' => e = .returned (.int .i64 (Lib.ctz 32 m.toNat : Nat)) ∧ w = w' := by
  have hx0 : m.toNat ≠ 0 := fun e => hm (BitVec.eq_of_toNat_eq (by simpa using e))
  have hx : m.toNat < 4294967296 := m.isLt
  obtain ⟨hlow, hk⟩ := Lib.lowest_bit 32 m.toNat hx0 m.isLt
  obtain ⟨hi, htab⟩ := Lib.deBruijn32_at _ hk
  have hcell := hT _ hi
  rw [htab] at hcell
  exact tz32_core m.toNat _ _ w (by simp; omega) (tz32_key m.toNat _ hx hx0 hlow) hi hk hcell

theorem least_zero (w : World) : Calls Tryd.prog 98 #[VM 0#32] w fun e w' => e = .returned (.int .i64 (-1)) ∧ w = w' := by
  show Calls Tryd.prog 98 #[.int .u32 0] w _
  go_enter Tryd.func98, Tryd.ntmps98
  go_wp2
  go_ret
  exact ⟨rfl, rfl⟩
theorem least_any (m : Mk) (hm : m ≠ 0#32) (w : World) (hT : Tab w) : Calls Tryd.prog 98 #[VM m] w fun e w' => e = .returned (.int .i64 (Lib.ctz 32 m.toNat : Nat)) ∧ w = w' := by
  have hx0 : (((m.toNat : Nat) : Int) == 0) = false := by
    have : m.toNat ≠ 0 := fun e => hm (BitVec.eq_of_toNat_eq (by simpa using e))
    simp; omega
  have HT := Lib.hid hT
  have HM := Lib.hid hm
  clear hT hm
  go_enter Tryd.func98, Tryd.ntmps98
  go_wp2_with (go_at_call 108; refine (tz32_any m HM.out _ HT.out).mono ?_; rintro e w' ⟨rfl, rfl⟩)
  go_ret
  exact ⟨rfl, rfl⟩

theorem mall_any (m : Mk) (w : World) : Calls Tryd.prog 76 #[VM m] w fun e w' => e = .returned (.func (.func 97) #[] #[.pointer (some ⟨w.heap.size, 0, none⟩)]) ∧ w.alloc (.cells #[VM m] 57) = w' := by
  go_enter Tryd.func76, Tryd.ntmps76
  go_wp2
  go_ret
  exact ⟨rfl, rfl⟩

/-- The set that a cell holds. -/
def mkOf : Option Value → Mk
  | some (.int _ n) => BitVec.ofInt 32 n
  | _ => 0#32
theorem mkOf_VM (m : Mk) : mkOf (some (VM m)) = m := ofInt_toNat m

set_option maxRecDepth 100000 in
set_option maxHeartbeats 2000000 in
theorem mall_seq (B : Nat) (m : Mk) (K : Nat → Prop) (hKB : ¬ K B) (hKT : ¬ K 0) (hBT : B ≠ 0) (w : World) (hb0 : Blk w B #[VM m] 57) (hT0 : Tab w) :
    SeqL Tryd.prog 97 #[.pointer (some ⟨B, 0, none⟩)] (fun k : Nat => #[.int .i64 (k : Int)]) (bitsL m) (fun k => k = B) K w := by
  intro l J Jx W hW hJ _ hY h0
  have hb := hb0.upd hW (fun h => h)
  have hT := hT0.upd hW (fun h => h)
  have HJ := Lib.hid hJ
  clear hb0 hT0 hJ
  refine callsIn_of_wp Tryd.func97 rfl trivial ?_ rfl
  simp only [Tryd.ntmps97, List.size_toArray, List.length_cons, List.length_nil, Nat.reduceAdd, Nat.reduceSub, Array.replicate_succ, Array.replicate_zero, List.push_toArray, List.append_toArray, List.nil_append, List.cons_append]
  gi_wp2
  gi_loopw [3] (fun i wr => ∃ (k : Nat) (m' : Mk), Hid ((bitsL m).drop k = bitsL m' ∧ k + (bitsL m').length = (bitsL m).length ∧ Blk wr B #[VM m'] 57 ∧ Tab wr ∧ J k wr))
    (fun _ wr => (bitsL (mkOf (wr.cell? ⟨B, 0, none⟩))).length)
  case atStart => exact ⟨0, m, rfl, by omega, hb, hT, h0⟩
  case round =>
    obtain ⟨k, m', H⟩ := hrel
    have hc : wr.cell? ⟨B, 0, none⟩ = some (.int .u32 (m'.toNat : Int)) := H.out.2.2.1.cell 0
    have hf := H.out.2.2.1.frozen 0
    by_cases hz : m' = 0#32
    · have hz1 : ((m'.toNat : Int) != 0) = false := by rw [hz]; rfl
      have hfin : J (bitsL m).length wr := by
        have h1 := H.out.2.1
        rw [hz, bitsL_zero] at h1
        rw [← h1]; exact H.out.2.2.2.2
      clear hz
      gi_wp2
      go_end0
      exact ⟨⟨_, rfl⟩, .inl hfin⟩
    · have hz1 : ((m'.toNat : Int) != 0) = true := by
        have : m'.toNat ≠ 0 := fun e => hz (BitVec.eq_of_toNat_eq (by simpa using e))
        simp; omega
      have hcons := bitsL_cons m' hz
      obtain ⟨hd1, hd2⟩ : (bitsL m)[k]? = some (Lib.ctz 32 m'.toNat) ∧ (bitsL m).drop (k + 1) = bitsL (m' &&& ~~~ bitB (Lib.ctz 32 m'.toNat : Nat)) := by
        have h1 := H.out.1
        rw [hcons] at h1
        constructor
        · have := congrArg (fun l => l[0]?) h1
          simpa using this
        · rw [← List.drop_drop, h1]; rfl
      have hlen : (bitsL m').length = (bitsL (m' &&& ~~~ bitB (Lib.ctz 32 m'.toNat : Nat))).length + 1 := by rw [hcons]; rfl
      have hwo : ∀ W, Calls Tryd.prog 48 #[VM m', .int .i64 (Lib.ctz 32 m'.toNat : Nat)] W fun e w' => e = .returned (VM (m' &&& ~~~ bitB (Lib.ctz 32 m'.toNat : Nat))) ∧ W = w' := fun W => without_any m' _ W
      generalize m' &&& ~~~ bitB (Lib.ctz 32 m'.toNat : Nat) = m2 at *
      have HWO := Lib.hid hwo
      clear hwo
      have Hlen := Lib.hid hlen
      have Hd := Lib.hid (And.intro hd1 hd2)
      have Hz := Lib.hid hz
      clear hcons hlen hd2 hz
      obtain ⟨fn, tmps, assign, body, hy, hR⟩ := hY k (Lib.ctz 32 m'.toNat) wr H.out.2.2.2.2 hd1
      clear hd1
      gi_wp2_with (refine ⟨trivial, ?_⟩; gi_at_call 98; refine (callsIn_wide.2 (least_any m' Hz.out _ H.out.2.2.2.1)).mono ?_; rintro e w' ⟨rfl, rfl⟩)
      refine hR.mono ?_
      rintro e W3 (⟨rfl, hJ3, hk3⟩ | ⟨rfl, hJx3⟩)
      · have hb3 := H.out.2.2.1.upd hk3 hKB
        have hT3 := H.out.2.2.2.1.upd hk3 hKT
        have hc3 : W3.cell? ⟨B, 0, none⟩ = some (.int .u32 (m'.toNat : Int)) := hb3.cell 0
        have hf3 := hb3.frozen 0
        have hu4 := Upd.setCell (F := fun k => k = B) W3 (p := ⟨B, 0, none⟩) rfl (VM m2)
        have hb4 := hb3.set 0 (VM m2)
        have HN : Hid ((bitsL m).drop (k + 1) = bitsL m2 ∧ (k + 1) + (bitsL m2).length = (bitsL m).length ∧ Blk (W3.setCell ⟨B, 0, none⟩ (VM m2)) B #[VM m2] 57 ∧ Tab (W3.setCell ⟨B, 0, none⟩ (VM m2)) ∧ J (k + 1) (W3.setCell ⟨B, 0, none⟩ (VM m2))) :=
          ⟨Hd.out.2, by have := H.out.2.1; have := Hlen.out; omega, hb4, hT3.upd hu4 (fun h => hBT h.symm), HJ.out _ _ _ hJ3 hu4⟩
        have hm1 : (bitsL (mkOf (wr.cell? ⟨B, 0, none⟩))).length = (bitsL m').length := by rw [H.out.2.2.1.cell 0]; exact congrArg (fun m => (bitsL m).length) (mkOf_VM m')
        have hm2 : (bitsL (mkOf ((W3.setCell ⟨B, 0, none⟩ (VM m2)).cell? ⟨B, 0, none⟩))).length = (bitsL m2).length := by
          rw [hb4.cell 0]; exact congrArg (fun m => (bitsL m).length) (mkOf_VM _)
        have HM := Lib.hid (And.intro hm1 hm2)
        clear hb3 hT3 hu4 hb4 hm1 hm2
        gi_wp2_with (refine ⟨trivial, ?_⟩; gi_at_call 48; refine (callsIn_wide.2 (HWO.out _)).mono ?_; rintro e w' ⟨rfl, rfl⟩)
        go_roundw
        case rel => exact ⟨k + 1, _, HN⟩
        case measure =>
          have h1 := HM.out.1
          have h2 := HM.out.2
          have h3 := Hlen.out
          have h4 : (bitsL (mkOf ((W3.setCell ⟨B, 0, none⟩ (VM m2)).cell? ⟨B, 0, none⟩))).length < (bitsL (mkOf (wr.cell? ⟨B, 0, none⟩))).length := by omega
          exact h4
      · gi_wp2
        refine bodyPost_ret (results_none rfl _ _ _) rfl ?_
        exact ⟨⟨_, rfl⟩, .inr ⟨k, (List.getElem?_eq_some_iff.1 Hd.out.1).1, hJx3⟩⟩


end Go.Proofs.YtlhbnndnkcpomaaDoor
