/- The contracts of the functions of layer 2 (mask). -/
import Derived.Test.YtamebdebpgakfaaDoorMaskPlain
import Derived.Test.YtamebdebpgakfaaDoorRange
set_option linter.unusedSimpArgs false
set_option linter.unusedVariables false
namespace Go.Proofs.YtamebdebpgakfaaDoor
open Go.RowKit
attribute [local go_sem] Oper.semAt_some

/-- The table of math/bits lies in its variable. -/
def Tab (w : World) : Prop := ∀ i, i < 32 → w.cell? ⟨0, i, none⟩ = some (.int .u8 ((Lib.deBruijn32tab.getD i 0 : Nat) : Int))
theorem Tab.upd {F : Nat → Prop} {w w' : World} (h : Tab w) (hu : Upd F w w') (hF : ¬ F 0) : Tab w' := fun i hi => hu.cell (h i hi) hF
theorem Tab.lt {w : World} (h : Tab w) : 0 < w.heap.size := World.block_lt_of_cell? w _ (h 0 (by decide))
theorem Tab.from {B : Nat} {w w' : World} (h : Tab w) (hu : Upd (From B) w w') (hB : 0 < B) : Tab w' := h.upd hu (by unfold From; omega)

theorem bit_any (n : Int) (w : World) : Calls Tryd.prog 24 #[.int .i64 n] w fun e w' => e = .returned (VM (bitB n)) ∧ w = w' := by
  by_cases h : n < 0 ∨ 31 < n
  · have H := Lib.hid (bitB_out h)
    rcases h with h | h
    · go_enter Tryd.func24, Tryd.ntmps24
      go_wp2
      go_ret
      exact ⟨by rw [H.out]; rfl, rfl⟩
    · have h2 : ¬ n < 0 := by omega
      go_enter Tryd.func24, Tryd.ntmps24
      go_wp2
      go_ret
      exact ⟨by rw [H.out]; rfl, rfl⟩
  · have h0 : 0 ≤ n := by omega
    have h1 : n ≤ 31 := by omega
    have e : (bitB n).toNat = 2 ^ n.toNat := by rw [bitB_in h0 h1, twoPow_toNat _ (by omega)]
    obtain ⟨k, rfl⟩ : ∃ k : Nat, n = k := ⟨n.toNat, by omega⟩
    have hk : k < 32 := by omega
    rw [Int.toNat_natCast] at e
    have H := Lib.hid e
    clear e h
    have hv : ((2 : Int) ^ k % 4294967296) = (((bitB (k : Int)).toNat : Nat) : Int) := by
      have h3 : (2 : Nat) ^ k < 2 ^ 32 := Nat.pow_lt_pow_right (by decide) hk
      rw [H.out]
      have h4 : ((2 ^ k : Nat) : Int) = (2 : Int) ^ k := by push_cast; rfl
      rw [← h4]
      exact Int.emod_eq_of_lt (Int.natCast_nonneg _) (by have h5 : (2 : Nat) ^ k < 4294967296 := h3; exact Int.ofNat_lt.2 h5)
    have HV := Lib.hid hv
    clear hv
    go_enter Tryd.func24, Tryd.ntmps24
    go_wp2
    go_ret
    exact ⟨congrArg (fun x => Ending.returned (Value.int .u32 x)) HV.out, rfl⟩


theorem with_any (m : Mk) (n : Int) (w : World) : Calls Tryd.prog 13 #[VM m, .int .i64 n] w fun e w' => e = .returned (VM (m ||| bitB n)) ∧ w = w' := by
  have hb := bits_or m (bitB n)
  go_enter Tryd.func13, Tryd.ntmps13
  go_wp2_with (go_at_call 24; refine (bit_any _ _).mono ?_; rintro e w' ⟨rfl, rfl⟩)
  go_ret
  exact ⟨rfl, rfl⟩
theorem without_any (m : Mk) (n : Int) (w : World) : Calls Tryd.prog 15 #[VM m, .int .i64 n] w fun e w' => e = .returned (VM (m &&& ~~~ bitB n)) ∧ w = w' := by
  have hb := bits_andNot m (bitB n)
  have hq : ((m.toNat &&& 4294967295 - (bitB n).toNat : Nat) : Int) = (((m &&& ~~~ bitB n).toNat : Nat) : Int) := by simp
  have HQ := Lib.hid hq
  clear hq
  go_enter Tryd.func15, Tryd.ntmps15
  go_wp2_with (go_at_call 24; refine (bit_any _ _).mono ?_; rintro e w' ⟨rfl, rfl⟩)
  go_ret
  exact ⟨congrArg (fun x => Ending.returned (Value.int .u32 x)) HQ.out, rfl⟩
theorem has_any (m : Mk) (n : Int) (w : World) : Calls Tryd.prog 17 #[VM m, .int .i64 n] w fun e w' => e = .returned (.bool (inM m n)) ∧ w = w' := by
  have hb := bits_and m (bitB n)
  have he : ((((m &&& bitB n).toNat : Nat) : Int) != 0) = inM m n := by
    rw [Bool.eq_iff_iff, bne_iff_ne]
    have h1 := and_bitB m n
    constructor
    · intro h
      cases hi : inM m n with
      | true => rfl
      | false => exact (h (by rw [h1.2 hi]; rfl)).elim
    · intro hi h
      have : m &&& bitB n = 0#32 := BitVec.eq_of_toNat_eq (by simpa using h)
      rw [h1.1 this] at hi
      cases hi
  have HE := Lib.hid he
  clear he
  go_enter Tryd.func17, Tryd.ntmps17
  go_wp2_with (go_at_call 24; refine (bit_any _ _).mono ?_; rintro e w' ⟨rfl, rfl⟩)
  go_ret
  exact ⟨congrArg (fun x => Ending.returned (Value.bool x)) HE.out, rfl⟩
theorem bits_and_nat (a b : Nat) (ha : a < 4294967296) (hb : b < 4294967296) : bits .and .u32 (a : Int) (b : Int) = ((a &&& b : Nat) : Int) := by
  have h := bits_and (BitVec.ofNat 32 a) (BitVec.ofNat 32 b)
  rw [BitVec.toNat_ofNat, BitVec.toNat_ofNat, Nat.mod_eq_of_lt (by omega), Nat.mod_eq_of_lt (by omega), BitVec.toNat_and, BitVec.toNat_ofNat, BitVec.toNat_ofNat, Nat.mod_eq_of_lt (by omega), Nat.mod_eq_of_lt (by omega)] at h
  exact h
set_option maxHeartbeats 1000000 in
theorem tz32_core (x k idx : Nat) (w : World) (hx0 : ((x : Int) == 0) = false)
    (key : bits BinOp.and IntKind.u32 (x : Int) (-(x : Int) % 4294967296) * 125613361 % 4294967296 / 134217728 = (idx : Int))
    (hi : idx < 32) (hk : k < 32) (hcell : w.cell? ⟨0, idx, none⟩ = some (.int .u8 k)) :
    Calls Tryd.prog 26 #[.int .u32 x] w fun e w' => e = .returned (.int .i64 k) ∧ w = w' := by
  go_enter Tryd.func26, Tryd.ntmps26
  go_wp2_with (simp only [key])
  go_ret
  exact ⟨rfl, rfl⟩

theorem tz32_key (x a : Nat) (hx : x < 4294967296) (hx0 : x ≠ 0) (hlow : x &&& (4294967296 - x) = a) :
    bits BinOp.and IntKind.u32 (x : Int) (-(x : Int) % 4294967296) * 125613361 % 4294967296 / 134217728 = ((a * 125613361 % 4294967296 / 134217728 : Nat) : Int) := by
  have e1 : -(x : Int) % 4294967296 = ((4294967296 - x : Nat) : Int) := by omega
  rw [e1, bits_and_nat x _ hx (by omega), hlow]
  rw [Int.natCast_ediv, Int.natCast_emod, Int.natCast_mul]
  rfl

theorem tz32_any (m : Mk) (hm : m ≠ 0#32) (w : World) (hT : Tab w) : Calls Tryd.prog 26 #[.int .u32 (m.toNat : Int)] w fun e w' => e = .returned (.int .i64 (Lib.ctz 32 m.toNat : Nat)) ∧ w = w' := by
  have hx0 : m.toNat ≠ 0 := fun e => hm (BitVec.eq_of_toNat_eq (by simpa using e))
  have hx : m.toNat < 4294967296 := m.isLt
  obtain ⟨hlow, hk⟩ := Lib.lowest_bit 32 m.toNat hx0 m.isLt
  obtain ⟨hi, htab⟩ := Lib.deBruijn32_at _ hk
  have hcell := hT _ hi
  rw [htab] at hcell
  exact tz32_core m.toNat _ _ w (by simp; omega) (tz32_key m.toNat _ hx hx0 hlow) hi hk hcell

theorem least_zero (w : World) : Calls Tryd.prog 19 #[VM 0#32] w fun e w' => e = .returned (.int .i64 (-1)) ∧ w = w' := by
  show Calls Tryd.prog 19 #[.int .u32 0] w _
  go_enter Tryd.func19, Tryd.ntmps19
  go_wp2
  go_ret
  exact ⟨rfl, rfl⟩
theorem least_any (m : Mk) (hm : m ≠ 0#32) (w : World) (hT : Tab w) : Calls Tryd.prog 19 #[VM m] w fun e w' => e = .returned (.int .i64 (Lib.ctz 32 m.toNat : Nat)) ∧ w = w' := by
  have hx0 : (((m.toNat : Nat) : Int) == 0) = false := by
    have : m.toNat ≠ 0 := fun e => hm (BitVec.eq_of_toNat_eq (by simpa using e))
    simp; omega
  have HT := Lib.hid hT
  have HM := Lib.hid hm
  clear hT hm
  go_enter Tryd.func19, Tryd.ntmps19
  go_wp2_with (go_at_call 26; refine (tz32_any m HM.out _ HT.out).mono ?_; rintro e w' ⟨rfl, rfl⟩)
  go_ret
  exact ⟨rfl, rfl⟩

theorem mall_any (m : Mk) (w : World) : Calls Tryd.prog 23 #[VM m] w fun e w' => e = .returned (.func (.func 28) #[] #[.pointer (some ⟨w.heap.size, 0, none⟩)]) ∧ w.alloc (.cells #[VM m] 25) = w' := by
  go_enter Tryd.func23, Tryd.ntmps23
  go_wp2
  go_ret
  exact ⟨rfl, rfl⟩

/-- The set that a cell holds. -/
def mkOf : Option Value → Mk
  | some (.int _ n) => BitVec.ofInt 32 n
  | _ => 0#32
theorem mkOf_VM (m : Mk) : mkOf (some (VM m)) = m := ofInt_toNat m

set_option maxRecDepth 100000 in
set_option maxHeartbeats 2000000 in
theorem mall_seq (B : Nat) (m : Mk) (K : Nat → Prop) (hKB : ¬ K B) (hKT : ¬ K 0) (hBT : B ≠ 0) (w : World) (hb0 : Blk w B #[VM m] 25) (hT0 : Tab w) :
    SeqL Tryd.prog 28 #[.pointer (some ⟨B, 0, none⟩)] (fun k : Nat => #[.int .i64 (k : Int)]) (bitsL m) (fun k => k = B) K w := by
  intro l J Jx W hW hJ _ hY h0
  have hb := hb0.upd hW (fun h => h)
  have hT := hT0.upd hW (fun h => h)
  have HJ := Lib.hid hJ
  clear hb0 hT0 hJ
  refine callsIn_of_wp Tryd.func28 rfl trivial ?_ rfl
  simp only [Tryd.ntmps28, List.size_toArray, List.length_cons, List.length_nil, Nat.reduceAdd, Nat.reduceSub, Array.replicate_succ, Array.replicate_zero, List.push_toArray, List.append_toArray, List.nil_append, List.cons_append]
  gi_wp2
  gi_loopw [3] (fun i wr => ∃ (k : Nat) (m' : Mk), Hid ((bitsL m).drop k = bitsL m' ∧ k + (bitsL m').length = (bitsL m).length ∧ Blk wr B #[VM m'] 25 ∧ Tab wr ∧ J k wr))
    (fun _ wr => (bitsL (mkOf (wr.cell? ⟨B, 0, none⟩))).length)
  case atStart => exact ⟨0, m, rfl, by omega, hb, hT, h0⟩
  case round =>
    obtain ⟨k, m', H⟩ := hrel
    have hc : wr.cell? ⟨B, 0, none⟩ = some (.int .u32 (m'.toNat : Int)) := H.out.2.2.1.cell 0
    have hf := H.out.2.2.1.frozen 0
    by_cases hz : m' = 0#32
    · have hz1 : ((m'.toNat : Int) != 0) = false := by rw [hz]; rfl
      have hfin : J (bitsL m).length wr := by
        have h1 := H.out.2.1
        rw [hz, bitsL_zero] at h1
        rw [← h1]; exact H.out.2.2.2.2
      clear hz
      gi_wp2
      go_end0
      exact ⟨⟨_, rfl⟩, .inl hfin⟩
    · have hz1 : ((m'.toNat : Int) != 0) = true := by
        have : m'.toNat ≠ 0 := fun e => hz (BitVec.eq_of_toNat_eq (by simpa using e))
        simp; omega
      have hcons := bitsL_cons m' hz
      obtain ⟨hd1, hd2⟩ : (bitsL m)[k]? = some (Lib.ctz 32 m'.toNat) ∧ (bitsL m).drop (k + 1) = bitsL (m' &&& ~~~ bitB (Lib.ctz 32 m'.toNat : Nat)) := by
        have h1 := H.out.1
        rw [hcons] at h1
        constructor
        · have := congrArg (fun l => l[0]?) h1
          simpa using this
        · rw [← List.drop_drop, h1]; rfl
      have hlen : (bitsL m').length = (bitsL (m' &&& ~~~ bitB (Lib.ctz 32 m'.toNat : Nat))).length + 1 := by rw [hcons]; rfl
      have hwo : ∀ W, Calls Tryd.prog 15 #[VM m', .int .i64 (Lib.ctz 32 m'.toNat : Nat)] W fun e w' => e = .returned (VM (m' &&& ~~~ bitB (Lib.ctz 32 m'.toNat : Nat))) ∧ W = w' := fun W => without_any m' _ W
      generalize m' &&& ~~~ bitB (Lib.ctz 32 m'.toNat : Nat) = m2 at *
      have HWO := Lib.hid hwo
      clear hwo
      have Hlen := Lib.hid hlen
      have Hd := Lib.hid (And.intro hd1 hd2)
      have Hz := Lib.hid hz
      clear hcons hlen hd2 hz
      obtain ⟨fn, tmps, assign, body, hy, hR⟩ := hY k (Lib.ctz 32 m'.toNat) wr H.out.2.2.2.2 hd1
      clear hd1
      gi_wp2_with (refine ⟨trivial, ?_⟩; gi_at_call 19; refine (callsIn_wide.2 (least_any m' Hz.out _ H.out.2.2.2.1)).mono ?_; rintro e w' ⟨rfl, rfl⟩)
      refine hR.mono ?_
      rintro e W3 (⟨rfl, hJ3, hk3⟩ | ⟨rfl, hJx3⟩)
      · have hb3 := H.out.2.2.1.upd hk3 hKB
        have hT3 := H.out.2.2.2.1.upd hk3 hKT
        have hc3 : W3.cell? ⟨B, 0, none⟩ = some (.int .u32 (m'.toNat : Int)) := hb3.cell 0
        have hf3 := hb3.frozen 0
        have hu4 := Upd.setCell (F := fun k => k = B) W3 (p := ⟨B, 0, none⟩) rfl (VM m2)
        have hb4 := hb3.set 0 (VM m2)
        have HN : Hid ((bitsL m).drop (k + 1) = bitsL m2 ∧ (k + 1) + (bitsL m2).length = (bitsL m).length ∧ Blk (W3.setCell ⟨B, 0, none⟩ (VM m2)) B #[VM m2] 25 ∧ Tab (W3.setCell ⟨B, 0, none⟩ (VM m2)) ∧ J (k + 1) (W3.setCell ⟨B, 0, none⟩ (VM m2))) :=
          ⟨Hd.out.2, by have := H.out.2.1; have := Hlen.out; omega, hb4, hT3.upd hu4 (fun h => hBT h.symm), HJ.out _ _ _ hJ3 hu4⟩
        have hm1 : (bitsL (mkOf (wr.cell? ⟨B, 0, none⟩))).length = (bitsL m').length := by rw [H.out.2.2.1.cell 0]; exact congrArg (fun m => (bitsL m).length) (mkOf_VM m')
        have hm2 : (bitsL (mkOf ((W3.setCell ⟨B, 0, none⟩ (VM m2)).cell? ⟨B, 0, none⟩))).length = (bitsL m2).length := by
          rw [hb4.cell 0]; exact congrArg (fun m => (bitsL m).length) (mkOf_VM _)
        have HM := Lib.hid (And.intro hm1 hm2)
        clear hb3 hT3 hu4 hb4 hm1 hm2
        gi_wp2_with (refine ⟨trivial, ?_⟩; gi_at_call 15; refine (callsIn_wide.2 (HWO.out _)).mono ?_; rintro e w' ⟨rfl, rfl⟩)
        go_roundw
        case rel => exact ⟨k + 1, _, HN⟩
        case measure =>
          have h1 := HM.out.1
          have h2 := HM.out.2
          have h3 := Hlen.out
          have h4 : (bitsL (mkOf ((W3.setCell ⟨B, 0, none⟩ (VM m2)).cell? ⟨B, 0, none⟩))).length < (bitsL (mkOf (wr.cell? ⟨B, 0, none⟩))).length := by omega
          exact h4
      · gi_wp2
        refine bodyPost_ret (results_none rfl _ _ _) rfl ?_
        exact ⟨⟨_, rfl⟩, .inr ⟨k, (List.getElem?_eq_some_iff.1 Hd.out.1).1, hJx3⟩⟩

theorem infoInt : (Tryd.prog.info? 3).map (fun i => (i.zero, i.size, i.bytes)) = some (some (.int .i64 0), 1, 8) := by kernel_rfl
abbrev VI : Nat → Value := fun k => .int .i64 (k : Int)

/-- One thing more at the end of a row that lies behind a box. -/
theorem append_boxed {W W1 : World} {bo n : Nat} {v v' x : Value} {xs : List Value} {lo : Nat} (hb : Blk W bo #[v] 22) (hbo : bo < lo) (hlo : lo ≤ W.heap.size) (hv : ∀ k, v.ownBlock = some k → lo ≤ k) (hr0 : Row W 3 1 v n xs)
    (hg : (W.alloc (.cells #[x] 3)).grownBy W1 v.ownBlock) (hr : Row W1 3 1 v' (n + 1) (xs ++ [x])) (hf : v'.ownBlock = v.ownBlock ∨ ∃ g, v'.ownBlock = some g ∧ (W.alloc (.cells #[x] 3)).heap.size ≤ g) :
    W1.cell? ⟨bo, 0, none⟩ = some v ∧ W1.frozen? ⟨bo, 0, none⟩ = false ∧ Blk (W1.setCell ⟨bo, 0, none⟩ v') bo #[v'] 22 ∧ Row (W1.setCell ⟨bo, 0, none⟩ v') 3 1 v' (n + 1) (xs ++ [x]) ∧
      (∀ k, v'.ownBlock = some k → lo ≤ k) ∧ Upd (fun k => k = bo ∨ lo ≤ k) W (W1.setCell ⟨bo, 0, none⟩ v') := by
  have hu0 : Upd (fun k => lo ≤ k) W (W.alloc (.cells #[x] 3)) := Upd.alloc _ _ _
  have hu1 : Upd (fun k => lo ≤ k) (W.alloc (.cells #[x] 3)) W1 := Upd.grown hg (fun k hk _ => ⟨hv k hk, (hr0.alloc _).isCells k hk⟩)
  have hu := hu0.trans hu1 (fun _ _ h => h)
  have hb1 := hb.upd hu (by omega)
  have hv' : ∀ k, v'.ownBlock = some k → lo ≤ k := by
    intro k hk
    rcases hf with h | ⟨g, h, h'⟩
    · exact hv k (h ▸ hk)
    · rw [h] at hk; cases hk; simp at h'; omega
  refine ⟨hb1.cell 0, hb1.frozen 0, hb1.set 0 v', hr.upd (Upd.setCell (F := fun k => k = bo) W1 (p := ⟨bo, 0, none⟩) rfl v') (fun k hk h => by have := hv' k hk; omega), hv', ?_⟩
  exact (hu.mono (fun _ _ h => .inr h)).trans (Upd.setCell (F := fun k => k = bo ∨ lo ≤ k) W1 (p := ⟨bo, 0, none⟩) (.inl rfl) v') (fun _ _ h => h)

set_option maxRecDepth 100000 in
set_option maxHeartbeats 4000000 in
theorem list_any (m : Mk) (w : World) (hT : Tab w) : Calls Tryd.prog 12 #[VM m] w fun e w' =>
    ∃ v, e = .returned v ∧ Row w' 3 1 v (bitsL m).length ((bitsL m).map VI) ∧ (∀ k, v.ownBlock = some k → w.heap.size ≤ k) ∧ Upd NoF w w' := by
  have hlt := hT.lt
  have HT := Lib.hid hT
  have hL := bitsL_length m
  clear hT
  refine calls_of_wp_marks Tryd.func12 rfl ?_
  simp only [Tryd.ntmps12, List.size_toArray, List.length_cons, List.length_nil, Nat.reduceAdd, Nat.reduceSub, Array.replicate_succ, Array.replicate_zero, List.push_toArray, List.append_toArray, List.nil_append, List.cons_append]
  go_wp2_with (go_at_call 23; refine (mall_any _ _).mono ?_; rintro e w' ⟨rfl, rfl⟩)
  obtain ⟨W0, hW0⟩ : ∃ W0, (w.alloc (.cells #[.slice none 0 0] 22)).alloc (.cells #[VM m] 25) = W0 := ⟨_, rfl⟩
  have hU0 : Upd NoF w W0 := by rw [← hW0]; exact (Upd.alloc NoF w _).trans (Upd.alloc NoF _ _) (fun _ _ h => h)
  have b1 : Blk W0 w.heap.size #[.slice none 0 0] 22 := by rw [← hW0]; exact (Blk.new w _ _).alloc _
  have b2 : Blk W0 (w.heap.size + 1) #[VM m] 25 := by
    rw [← hW0]; have := Blk.new (w.alloc (.cells #[.slice none 0 0] 22)) #[VM m] 25
    rwa [World.size_alloc] at this
  have hs0 : W0.heap.size = w.heap.size + 2 := by rw [← hW0]; simp
  rw [hW0]
  clear hW0
  have hT0 := HT.out.upd hU0 (fun h => h)
  refine wp_range (gf := 28) (lb := #[.pointer (some ⟨w.heap.size + 1, 0, none⟩)]) rfl (enters_of Tryd.func28 (by kernel_rfl) rfl)
    (mall_seq (w.heap.size + 1) m (fun k => k = w.heap.size ∨ w.heap.size + 2 ≤ k) (by omega) (by omega) (by omega) W0 b2 hT0) (fun _ => rfl) (fun k hk => by omega) (fun k hk => .inr (by omega))
    (fun k W => ∃ v, Blk W w.heap.size #[v] 22 ∧ Row W 3 1 v k (((bitsL m).take k).map VI) ∧ (∀ b, v.ownBlock = some b → w.heap.size + 2 ≤ b) ∧ Upd NoF w W ∧ w.heap.size + 2 ≤ W.heap.size)
    (fun _ _ _ => False)
    (fun k A B hs hb => by
      obtain ⟨v, h1, h2, h3, h4, h5⟩ := hs
      exact ⟨v, h1.bk hb (by omega), h2.bk hb (fun b hb' => by have := h3 b hb'; omega), h3, h4.bk hb (by omega) (fun b hb' => by omega), Nat.le_trans h5 hb.size⟩)
    (fun _ _ _ _ h _ => h)
    ⟨_, b1, Row.nil _ _ _, fun k hk => by simp [Value.ownBlock] at hk, hU0, by omega⟩
    ?rnd ?dn ?stp
  case rnd =>
    intro l k x hx W9 K' hK'
    gi_wp2
    rintro W ⟨v, q1, q2, q3, q4, q5⟩
    obtain ⟨a, cap, rfl, _⟩ := q2.slice
    obtain ⟨i0, hi, hz0, hz1, hz2⟩ := info_parts infoInt
    have hk : k < (bitsL m).length := (List.getElem?_eq_some_iff.1 hx).1
    obtain ⟨v', W1, hrun, hrow, hg, hf⟩ := run_append_row (P := Tryd.prog) (W.alloc (.cells #[VI x] 3)) 22 22 3 i0 (.int .i64 0) 1 8 Tryd.underlying22 hi hz0 hz1 hz2 rfl (by decide) (.slice a k cap) k (((bitsL m).take k).map VI)
      (q2.alloc _) ⟨W.heap.size, 0, none⟩ 1 1 [VI x] rfl (cell_one_new _ _ _) (by simp [Value.oneCell']) (by unfold maxLen; omega) (by omega)
    obtain ⟨c1, f1, hb', hr', hv', hu'⟩ := append_boxed (lo := w.heap.size + 2) q1 (by omega) q5 q3 q2 hg hrow hf
    have c0 : W.cell? ⟨w.heap.size, 0, none⟩ = some (.slice a k cap) := q1.cell 0
    obtain ⟨a', cap', rfl, _⟩ := hrow.slice
    have HR := Lib.hid hrun
    have HX := Lib.hid hx
    have HU := Lib.hid (And.intro hb' (And.intro hr' (And.intro hv' (And.intro hu' (q4.trans hu' (fun i hi h => by omega))))))
    have hsz := hu'.size
    clear hrun hrow hg hf hb' hr' hv' hu' q1 q2 q3 q4 hx
    gi_wp2_with (gi_at_builtin; refine wpListIn_append_run rfl _ _ 22 rfl rfl rfl HR.out ?_)
    refine ⟨HU.out.2.2.2.1, _, HU.out.1, ?_, HU.out.2.2.1, HU.out.2.2.2.2, by omega⟩
    have e : (bitsL m).take (k + 1) = (bitsL m).take k ++ [x] := by
      obtain ⟨h1, h2⟩ := List.getElem?_eq_some_iff.1 HX.out
      rw [List.take_succ_eq_append_getElem h1, h2]
    rw [e, List.map_append]
    exact HU.out.2.1
  case dn =>
    rintro D W hD ⟨v, q1, q2, q3, q4, q5⟩ hK
    obtain ⟨a, cap, rfl, _⟩ := q2.slice
    have c0 : W.cell? ⟨w.heap.size, 0, none⟩ = some (.slice a (bitsL m).length cap) := q1.cell 0
    have HQ := Lib.hid (And.intro q2 (And.intro q3 q4))
    clear q1 q2 q3 q4
    go_wp2
    refine postM_ret1 hK (v := .slice a (bitsL m).length cap) (by simp [results, Tryd.f12, go_sem]) ⟨_, rfl, ?_, fun b hb => by have := HQ.out.2.1 b hb; omega, HQ.out.2.2.bk (Bk.putObj (n := w.heap.size) (G := NoF) hK rfl (by omega) _) (Nat.le_refl _) (fun _ h => h.elim)⟩
    have := HQ.out.1.bk (Bk.putObj (n := w.heap.size) (G := NoF) hK rfl (by omega) (.deferred none)) (fun _ _ h => h)
    rwa [List.take_of_length_le (Nat.le_refl _)] at this
  case stp =>
    rintro D c k W hD hkl h hK
    exact h.elim

set_option maxRecDepth 100000 in
theorem of_any (a : Option Addr) (len cap : Nat) (Z : Nat → Int) (w : World) (h : IsRow1 w a len cap (fun i => .int .i64 (Z i))) : Calls Tryd.prog 10 #[.slice a len cap] w fun e w' =>
    e = .returned (match ofGo 0#32 (upTo Z len) with | some m => .tuple #[VM m, .int .i64 0] | none => .tuple #[VM 0#32, .int .i64 5]) ∧ w = w' := by
  obtain ⟨l1, m1, c1⟩ := h
  unfold maxLen at m1
  have C1 := Lib.hid c1
  clear c1
  generalize hR : (match ofGo 0#32 (upTo Z len) with | some m => Value.tuple #[VM m, .int .i64 0] | none => .tuple #[VM 0#32, .int .i64 5]) = R
  have HR := Lib.hid hR
  clear hR
  go_enter Tryd.func10, Tryd.ntmps10
  go_wp2
  go_loop [4, 9] (fun mv i => ∃ (k : Nat) (m : Mk), k ≤ len ∧ Hid (ofGo 0#32 (upTo Z k) = some m) ∧ i = .int .i64 k ∧ mv = VM m) (fun _ i => len - (intOf i).toNat)
  case atStart => exact ⟨0, 0#32, Nat.zero_le _, rfl, rfl, rfl⟩
  case round =>
    obtain ⟨k, m, hk, hm, rfl, rfl⟩ := hrel
    by_cases hlt : k < len
    · obtain ⟨x, rfl, g1⟩ := C1.out k hlt
      have hsn := ofGo_snoc (upTo Z k) (Z k) 0#32
      rw [← upTo_succ, hm.out] at hsn
      generalize hz : Z k = z at *
      have HZ := Lib.hid hz
      clear hz
      by_cases hb : bitB z = 0#32
      · have hout := (bitB_zero_iff z).1 hb
        have hnone : ofGo 0#32 (upTo Z (k + 1)) = none := by rw [hsn]; simp only [Option.bind_some]; rw [if_pos hout]
        have hall := ofGo_upTo_none hnone (show k + 1 ≤ len by omega)
        have hR := HR.out
        rw [hall] at hR
        have HR2 := Lib.hid hR
        have Hb := Lib.hid hb
        clear hb hsn hout hnone hall hR
        go_wp2_with (go_at_call 24; refine (bit_any _ _).mono ?_; rintro e w' ⟨rfl, rfl⟩; rw [Hb.out])
        go_ret2
        exact ⟨congrArg Ending.returned HR2.out, rfl⟩
      · have hin : ¬ (z < 0 ∨ 31 < z) := fun h => hb ((bitB_zero_iff z).2 h)
        have hsome : ofGo 0#32 (upTo Z (k + 1)) = some (m ||| bitB z) := by rw [hsn]; simp only [Option.bind_some]; rw [if_neg hin]
        have hor := bits_or m (bitB z)
        have hb1 : (((bitB z).toNat : Int) == 0) = false := by
          have : (bitB z).toNat ≠ 0 := fun e => hb (BitVec.eq_of_toNat_eq (by simpa using e))
          simp; omega
        have hbit : ∀ W, Calls Tryd.prog 24 #[.int .i64 z] W fun e w' => e = .returned (VM (bitB z)) ∧ W = w' := fun W => bit_any z W
        generalize bitB z = bz at *
        generalize m ||| bz = m2 at *
        have Hbit := Lib.hid hbit
        have HS := Lib.hid hsome
        clear hbit hsome hsn hin hb
        go_wp2_with (go_at_call 24; refine (Hbit.out _).mono ?_; rintro e w' ⟨rfl, rfl⟩)
        go_round
        case rel => exact ⟨k + 1, m2, by omega, HS, by go_num, rfl⟩
        case measure => simp [intOf]; omega
    · obtain rfl : len = k := by omega
      have hR := HR.out
      rw [hm.out] at hR
      have HR2 := Lib.hid hR
      clear hR
      go_wp2
      go_ret2
      exact ⟨congrArg Ending.returned HR2.out, rfl⟩
end Go.Proofs.YtamebdebpgakfaaDoor
