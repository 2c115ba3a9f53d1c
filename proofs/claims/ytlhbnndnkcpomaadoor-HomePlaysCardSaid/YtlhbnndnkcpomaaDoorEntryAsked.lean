/- Package entry: who must be asked. -/
import Derived.Test.YtlhbnndnkcpomaaDoorEntryFns
set_option linter.unusedSimpArgs false
set_option linter.unusedVariables false
namespace Go.Proofs.YtlhbnndnkcpomaaDoor.ET
open Go.RowKit
open ML
attribute [local go_sem] Oper.semAt_some run_eql_entry run_neq_entry

/-- Who must be asked. -/
def whoE (o : Int) (s : Mk) (k x : Int) : Mk := (if k = 2 then (0#32 ||| bitB o) ||| s else 0#32 ||| bitB o) &&& ~~~ bitB x
def askedV (o : Int) (s : Mk) (k x : Int) : Value :=
  if askE o s k x then .tuple #[VM (whoE o s k x), .int .u8 (k + 3), .int .i64 0] else .tuple #[.int .u32 0, .int .u8 0, .int .i64 2]

set_option maxRecDepth 100000 in
set_option maxHeartbeats 1000000 in
theorem asked_e (o : Int) (s : Mk) (k x : Int) (w : World) (hT : Tab w) : Calls Tryd.prog 75 #[VE o s, .int .u8 k, .int .i64 x] w fun e w' => e = .returned (askedV o s k x) ∧ Upd NoF w w' := by
  generalize hr : askedV o s k x = r
  have HR := Lib.hid hr
  clear hr
  have HT := Lib.hid hT; clear hT
  go_enter Tryd.func75, Tryd.ntmps75
  go_wp2_with fail
  obtain ⟨W0, hW0⟩ : ∃ W0, w.alloc (.cells #[.int .i64 o, VM s] 59) = W0 := ⟨_, rfl⟩
  have hU0 : Upd NoF w W0 := by rw [← hW0]; exact Upd.alloc NoF w _
  have b1 : Blk W0 w.heap.size #[.int .i64 o, VM s] 59 := by rw [← hW0]; exact Blk.new w _ _
  rw [hW0]
  clear hW0
  refine (ask_any o s k x W0 (HT.out.upd hU0 (fun h => h))).mono ?_
  rintro e w1 ⟨rfl, hu⟩
  have HU := Lib.hid (hU0.trans hu (fun _ _ h => h))
  have q1 := b1.upd hu (fun h => h)
  have c0 : w1.cell? ⟨w.heap.size, 0, none⟩ = some (.int .i64 o) := q1.cell 0
  have c1 : w1.cell? ⟨w.heap.size, 1, none⟩ = some (VM s) := q1.cell 1
  clear hu hU0 b1 q1
  cases ha : askE o s k x
  · have HV := Lib.hid (show r = .tuple #[.int .u32 0, .int .u8 0, .int .i64 2] from by rw [← HR.out]; unfold askedV; rw [ha]; rfl)
    clear ha
    go_wp2
    go_ret3
    exact ⟨by rw [HV.out]; rfl, HU.out⟩
  · have hk : k = 1 ∨ k = 2 := by
      unfold askE at ha
      simp at ha
      exact ha.1.2
    have a1 : ∀ W, Calls Tryd.prog 96 #[.int .u32 0, .int .i64 o] W fun e w' => e = .returned (VM (0#32 ||| bitB o)) ∧ W = w' := fun W => with_any 0#32 o W
    have hV : r = .tuple #[VM (whoE o s k x), .int .u8 (k + 3), .int .i64 0] := by rw [← HR.out]; unfold askedV; rw [ha, if_pos rfl]
    clear ha HR
    rcases hk with rfl | rfl
    · have a2 : ∀ W, Calls Tryd.prog 48 #[VM (0#32 ||| bitB o), .int .i64 x] W fun e w' => e = .returned (VM (whoE o s 1 x)) ∧ W = w' := fun W => without_any (0#32 ||| bitB o) x W
      generalize whoE o s 1 x = wh at *
      generalize (0#32 ||| bitB o) = b0 at *
      have A1 := Lib.hid a1; have A2 := Lib.hid a2; have HV := Lib.hid hV
      clear a1 a2 hV
      go_wp2_with (first | (go_at_call_of 96 o; refine (A1.out _).mono ?_; rintro e w' ⟨rfl, rfl⟩) | (go_at_call_of 48 b0; refine (A2.out _).mono ?_; rintro e w' ⟨rfl, rfl⟩))
      go_ret3
      exact ⟨by rw [HV.out]; rfl, HU.out⟩
    · have a2 : ∀ W, Calls Tryd.prog 48 #[VM ((0#32 ||| bitB o) ||| s), .int .i64 x] W fun e w' => e = .returned (VM (whoE o s 2 x)) ∧ W = w' := fun W => without_any ((0#32 ||| bitB o) ||| s) x W
      have hor := bits_or (0#32 ||| bitB o) s
      generalize whoE o s 2 x = wh at *
      generalize (0#32 ||| bitB o) = b0 at *
      generalize b0 ||| s = m1 at *
      have A1 := Lib.hid a1; have A2 := Lib.hid a2; have HV := Lib.hid hV
      clear a1 a2 hV
      go_wp2_with (first | (go_at_call_of 96 o; refine (A1.out _).mono ?_; rintro e w' ⟨rfl, rfl⟩) | (go_at_call_of 48 m1; refine (A2.out _).mono ?_; rintro e w' ⟨rfl, rfl⟩))
      go_ret3
      exact ⟨by rw [HV.out]; rfl, HU.out⟩

/-- The bits that the document's loop has put behind n rounds. -/
def askedBit (o : Int) (s : Mk) (two : Bool) (x : Int) (n i : Nat) : Bool := decide (i < n) && (decide ((i : Int) ≠ x) && (decide (o = i) || (two && s.getLsbD i)))
theorem who_bits {o x : Int} {s : Mk} {k : Int} (hm : mayE o s = true) (hx : coreB x = true) {m : Mk} (h : ∀ i, i < 32 → m.getLsbD i = askedBit o s (decide (k = 2)) x 16 i) : m = whoE o s k x := by
  apply ext_inM
  intro i hi
  rw [h i hi]
  unfold askedBit whoE
  have hx2 : 0 ≤ x ∧ x ≤ 15 := by unfold coreB at hx; simp at hx; exact hx
  have hs : 16 ≤ i → s.getLsbD i = false := by
    intro h16
    by_cases ho : o = -1
    · rw [mayE_in ho, decide_eq_true_eq, high_iff] at hm
      exact hm i h16 hi
    · rw [mayE_own ho] at hm
      simp at hm
      rw [hm.2]; simp
  have ho2 : o ≤ 15 := by
    unfold mayE at hm
    simp at hm
    rcases hm with hm | hm
    · omega
    · exact hm.1.2
  have hbo : (bitB o).getLsbD i = decide (o = i) := by
    by_cases h0 : 0 ≤ o
    · rw [bitB_in h0 (by omega), BitVec.getLsbD_twoPow]
      by_cases e : o = i
      · have : o.toNat = i := by omega
        simp [e, this, hi]
      · have : o.toNat ≠ i := by omega
        simp [e, this]
    · rw [bitB_out (by omega)]
      have : ¬ o = i := by omega
      simp [this]
  have hbx : (bitB x).getLsbD i = decide ((i : Int) = x) := by
    rw [bitB_in hx2.1 (by omega), BitVec.getLsbD_twoPow]
    by_cases e : (i : Int) = x
    · have : x.toNat = i := by omega
      simp [e, this, hi]
    · have : x.toNat ≠ i := by omega
      simp [e, this]
  by_cases h16 : i < 16
  · by_cases hk : k = 2
    · simp only [hk, if_true, BitVec.getLsbD_and, BitVec.getLsbD_or, BitVec.getLsbD_not, BitVec.getLsbD_zero, hi, h16, hbo, hbx, decide_true, Bool.true_and, Bool.false_or]
      cases decide (o = (i : Int)) <;> cases s.getLsbD i <;> by_cases e : (i : Int) = x <;> simp [e]
    · simp only [hk, if_false, BitVec.getLsbD_and, BitVec.getLsbD_or, BitVec.getLsbD_not, BitVec.getLsbD_zero, hi, h16, hbo, hbx, decide_true, decide_false, Bool.true_and, Bool.false_or, Bool.false_and, Bool.or_false]
      cases decide (o = (i : Int)) <;> by_cases e : (i : Int) = x <;> simp [e]
  · have hso := hs (by omega)
    have hoi : ¬ o = (i : Int) := by omega
    by_cases hk : k = 2
    · simp [hk, BitVec.getLsbD_and, BitVec.getLsbD_or, h16, hbo, hoi, hso]
    · simp [hk, BitVec.getLsbD_and, BitVec.getLsbD_or, h16, hbo, hoi]
end Go.Proofs.YtlhbnndnkcpomaaDoor.ET
