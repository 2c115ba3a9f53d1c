/- The contracts of package entry, and of the document's answer for it. -/
import Derived.Test.YtlhbnndnkcpomaaDoorMaskWorks
set_option linter.unusedSimpArgs false
set_option linter.unusedVariables false
namespace Go.Proofs.YtlhbnndnkcpomaaDoor.ET
open Go.RowKit
open ML
attribute [local go_sem] Oper.semAt_some

/-- A region that does not panic, in a body whose posts look at the frame behind a panic, too. -/
def NoPanic (Q : Exit → Act → World → Prop) : Exit → Act → World → Prop
  | .panic _, _, _ => False
  | .normal, a, w => Q .normal a w
  | .ret, a, w => Q .ret a w
  | .exit i, a, w => Q (.exit i) a w
  | .goto i, a, w => Q (.goto i) a w
  | .outgrown, a, w => Q .outgrown a w
theorem wp_noPanic {P : Program} {c : Code} {Q : Exit → Act → World → Prop} {a : Act} {w : World} (h : c.wp P (NoPanic Q) a w) : c.wp P Q a w :=
  Code.wp_mono (fun e a w q => by cases e <;> first | exact q | exact q.elim) h

/-- What the home knows of a block. -/
abbrev VE (o : Int) (s : Mk) : Value := .agg #[.int .i64 o, VM s]

theorem run_eql_entry (w : World) (a b c d : Int) : (binOp .eql 59 (.agg #[.int .i64 a, .int .u32 b]) (.agg #[.int .i64 c, .int .u32 d])).run Tryd.prog w = .ok (.bool ((a == c) && (b == d))) w := by
  cases h1 : (a == c) <;> cases h2 : (b == d) <;> simp [go_sem, h1, h2]
theorem run_neq_entry (w : World) (a b c d : Int) : (binOp .neq 59 (.agg #[.int .i64 a, .int .u32 b]) (.agg #[.int .i64 c, .int .u32 d])).run Tryd.prog w = .ok (.bool (!((a == c) && (b == d)))) w := by
  cases h1 : (a == c) <;> cases h2 : (b == d) <;> simp [go_sem, h1, h2]
attribute [local go_sem high] run_eql_entry run_neq_entry

/-- May it be? -/
def mayE (o : Int) (s : Mk) : Bool := (decide (o = -1) && decide (s.toNat < 65536)) || (decide (0 ≤ o) && decide (o ≤ 15) && decide (s = 0#32))
def coreB (x : Int) : Bool := decide (0 ≤ x) && decide (x ≤ 15)

theorem free_any (w : World) : Calls Tryd.prog 42 #[] w fun e w' => e = .returned (VE (-1) 0#32) ∧ Upd NoF w w' := by
  show Calls Tryd.prog 42 #[] w fun e w' => e = .returned (.agg #[.int .i64 (-1), .int .u32 0]) ∧ Upd NoF w w'
  go_enter Tryd.func42, Tryd.ntmps42
  go_wp2
  exact bodyPost_ret (v := .agg #[.int .i64 (-1), .int .u32 0]) (by simp [results, Tryd.f42, go_sem]) rfl ⟨rfl, Upd.alloc NoF w _⟩

theorem core_any (x : Int) (w : World) : Calls Tryd.prog 94 #[.int .i64 x] w fun e w' => e = .returned (.bool (coreB x)) ∧ w = w' := by
  unfold coreB
  by_cases h : 0 ≤ x
  · have e : decide (x ≤ 15) = decide (x < 16) := by rw [decide_eq_decide]; omega
    rw [e]
    have hd : decide (0 ≤ x) = true := by simp [h]
    go_enter Tryd.func94, Tryd.ntmps94
    go_wp2
    go_ret
    exact ⟨by rw [hd]; rfl, rfl⟩
  · have hd : decide (0 ≤ x) = false := by simp [h]
    rw [hd]
    go_enter Tryd.func94, Tryd.ntmps94
    go_wp2
    go_ret
    exact ⟨rfl, rfl⟩

theorem below16 (s : Mk) : s.toNat < 65536 ↔ ∀ x ∈ bitsL s, x ≤ 15 := by
  constructor
  · intro h x hx
    rw [bitsL_mem] at hx
    by_cases hx15 : x ≤ 15
    · exact hx15
    · exfalso
      have h1 : 2 ^ x ≤ s.toNat := Nat.ge_two_pow_of_testBit hx
      have h2 : 2 ^ 16 ≤ 2 ^ x := Nat.pow_le_pow_right (by decide) (by omega)
      have h3 : (2 : Nat) ^ 16 = 65536 := rfl
      omega
  · intro h
    have : s.toNat < 2 ^ 16 := Nat.lt_pow_two_of_testBit s.toNat (fun i hi => by
      by_cases hb : s.toNat.testBit i = true
      · have := h i ((bitsL_mem s i).2 hb)
        omega
      · simpa using hb)
    exact this
theorem mayE_in {o : Int} {s : Mk} (ho : o = -1) : mayE o s = decide (∀ x ∈ bitsL s, x ≤ 15) := by
  subst ho
  unfold mayE
  simp [below16]
theorem mayE_own {o : Int} {s : Mk} (ho : ¬ o = -1) : mayE o s = (coreB o && decide (s = 0#32)) := by
  unfold mayE coreB
  simp [ho]

set_option maxRecDepth 100000 in
set_option maxHeartbeats 4000000 in
theorem may_any (o : Int) (s : Mk) (w : World) (hT : Tab w) : Calls Tryd.prog 93 #[VE o s] w fun e w' => e = .returned (.int .i64 (if mayE o s then 0 else 2)) ∧ Upd NoF w w' := by
  generalize hr : (if mayE o s then (0 : Int) else 2) = r
  obtain ⟨L, HL⟩ : ∃ L, Hid (bitsL s = L) := ⟨_, rfl⟩
  have hlt := hT.lt
  have HR := Lib.hid hr
  have HT := Lib.hid hT
  clear hT hr
  refine calls_of_wp_marks Tryd.func93 rfl ?_
  simp only [Tryd.ntmps93, List.size_toArray, List.length_cons, List.length_nil, Nat.reduceAdd, Nat.reduceSub, Array.replicate_succ, Array.replicate_zero, List.push_toArray, List.append_toArray, List.nil_append, List.cons_append]
  go_wp2_with fail
  obtain ⟨W0, hW0⟩ : ∃ W0, (w.alloc (.cells #[.int .i64 o, VM s] 59)).alloc (.cells #[.int .i64 0] 25) = W0 := ⟨_, rfl⟩
  have hU0 : Upd NoF w W0 := by rw [← hW0]; exact (Upd.alloc NoF w _).trans (Upd.alloc NoF _ _) (fun _ _ h => h)
  have b1 : Blk W0 w.heap.size #[.int .i64 o, VM s] 59 := by rw [← hW0]; exact (Blk.new w _ _).alloc _
  have b2 : Blk W0 (w.heap.size + 1) #[.int .i64 0] 25 := by
    rw [← hW0]; have := Blk.new (w.alloc (.cells #[.int .i64 o, VM s] 59)) #[.int .i64 0] 25
    rwa [World.size_alloc] at this
  have hs0 : W0.heap.size = w.heap.size + 2 := by rw [← hW0]; simp
  rw [hW0]
  clear hW0
  have HU0 := Lib.hid (hU0.toFrom (B := w.heap.size)); have B1 := Lib.hid b1; have B2 := Lib.hid b2
  have c0 : W0.cell? ⟨w.heap.size, 0, none⟩ = some (.int .i64 o) := b1.cell 0
  have c1 : W0.cell? ⟨w.heap.size, 1, none⟩ = some (VM s) := b1.cell 1
  clear b1 b2 hU0
  by_cases ho : o = -1
  · have hbo : (o == -1) = true := by simp [ho]
    by_cases hs : s = 0#32
    · have hbs : ((s.toNat : Int) == 0) = true := by simp [hs]
      have hm : mayE o s = true := by subst ho; subst hs; rfl
      have hr0 : r = 0 := by rw [← HR.out, hm]; rfl
      have HR0 := Lib.hid hr0
      clear ho hs hm hr0
      refine wp_noPanic ?_
      go_region_with (go_at_call 42; refine (free_any _).mono ?_; rintro e w1 ⟨rfl, hu⟩; have HU := Lib.hid (HU0.out.from (((Upd.drew NoF W0).toFrom (B := w.heap.size)).from (hu.toFrom (B := w.heap.size)))); have q1 := hu.heap B1.out (fun h => h); have q2 := hu.heap B2.out (fun h => h); have HQ1 := Lib.hid q1; have HQ2 := Lib.hid q2; have d0 : w1.cell? ⟨w.heap.size, 0, none⟩ = some (.int .i64 o) := Blk.cell q1 0; have d1 : w1.cell? ⟨w.heap.size, 1, none⟩ = some (VM s) := Blk.cell q1 1; have d2 : w1.cell? ⟨w.heap.size + 1, 0, none⟩ = some (.int .i64 0) := Blk.cell q2 0; have f2 : w1.frozen? ⟨w.heap.size + 1, 0, none⟩ = false := Blk.frozen q2 0; have hs1 := hu.size; clear hu q1 q2)
      all_goals (
        dsimp only [NoPanic]
        go_wp2
        have hq := Blk.set (W := w1) HQ2.out 0 (.int .i64 0)
        have hc : _ = some (Value.int .i64 0) := hq.cell 0
        refine postM_ret0 (v := .int .i64 0) (by simp [results, Tryd.f93, go_sem, hc]) ⟨by rw [HR0.out], ?_⟩
        exact (HU.out.from (Upd.setCell (F := From w.heap.size) w1 (p := ⟨w.heap.size + 1, 0, none⟩) (show w.heap.size ≤ w.heap.size + 1 by omega) _)).mono (fun i hi h => by unfold From at h; omega)
        )
    · have hbs : ((s.toNat : Int) == 0) = false := by
        have : s.toNat ≠ 0 := fun e => hs (BitVec.eq_of_toNat_eq (by simpa using e))
        simp; omega
      have hbo2 : (o != -1) = false := by simp [ho]
      have HA := Lib.hid (show (∀ x ∈ L, x ≤ 15) → r = 0 from fun h => by rw [← HR.out, mayE_in ho, HL.out, if_pos (by simpa using h)])
      have HE := Lib.hid (show (∃ x ∈ L, 16 ≤ x) → r = 2 from fun ⟨x, h1, h2⟩ => by rw [← HR.out, mayE_in ho, HL.out, if_neg (by simp; exact ⟨x, h1, by omega⟩)])
      clear ho hs
      refine wp_noPanic ?_
      go_region_with (go_at_call 42; refine (free_any _).mono ?_; rintro e w1 ⟨rfl, hu⟩; have HU := Lib.hid (HU0.out.from (((Upd.drew NoF W0).toFrom (B := w.heap.size)).from (hu.toFrom (B := w.heap.size)))); have q1 := hu.heap B1.out (fun h => h); have q2 := hu.heap B2.out (fun h => h); have HQ1 := Lib.hid q1; have HQ2 := Lib.hid q2; have d0 : w1.cell? ⟨w.heap.size, 0, none⟩ = some (.int .i64 o) := Blk.cell q1 0; have d1 : w1.cell? ⟨w.heap.size, 1, none⟩ = some (VM s) := Blk.cell q1 1; have d2 : w1.cell? ⟨w.heap.size + 1, 0, none⟩ = some (.int .i64 0) := Blk.cell q2 0; have f2 : w1.frozen? ⟨w.heap.size + 1, 0, none⟩ = false := Blk.frozen q2 0; have hs1 := hu.size; clear hu q1 q2)
      all_goals (
        dsimp only [NoPanic]
        go_wp2_with (first | (go_at_call 94; refine (core_any _ _).mono ?_; rintro e w' ⟨rfl, rfl⟩) | (go_at_call 76; refine (mall_any _ _).mono ?_; rintro e w' ⟨rfl, rfl⟩))
        obtain ⟨W3, hW3⟩ : ∃ W3, w1.alloc (.cells #[VM s] 57) = W3 := ⟨_, rfl⟩
        have hu3 : Upd NoF w1 W3 := by rw [← hW3]; exact Upd.alloc NoF w1 _
        have qp : Blk W3 w1.heap.size #[VM s] 57 := by rw [← hW3]; exact Blk.new w1 _ _
        have hsz3 : W3.heap.size = w1.heap.size + 1 := by rw [← hW3]; simp
        have hU3 := HU.out.from hu3.toFrom
        have qr : Blk W3 (w.heap.size + 1) #[.int .i64 0] 25 := Blk.upd HQ2.out hu3 (fun h => h)
        have hT3 := HT.out.from hU3 (by omega)
        have hs1' : w.heap.size + 2 ≤ w1.heap.size := by have : W0.heap.size ≤ w1.heap.size := hs1; omega
        rw [hW3]
        clear hW3 hu3
        have hseq := mall_seq w1.heap.size s (fun k => k = w.heap.size + 1 ∨ W3.heap.size ≤ k) (by omega) (by omega) (by omega) W3 qp hT3
        rw [HL.out] at hseq
        refine wp_range (gf := 97) (lb := #[.pointer (some ⟨w1.heap.size, 0, none⟩)]) rfl (enters_of Tryd.func97 (by kernel_rfl) rfl)
          hseq (fun _ => rfl) (fun k hk => by omega) (fun k hk => .inr hk)
          (fun k W => (∀ x ∈ L.take k, x ≤ 15) ∧ Blk W (w.heap.size + 1) #[.int .i64 0] 25 ∧ Upd (From w.heap.size) w W)
          (fun c k W => c = .ret ∧ (∃ x ∈ L, 16 ≤ x) ∧ Blk W (w.heap.size + 1) #[.int .i64 2] 25 ∧ Upd (From w.heap.size) w W)
          (fun k A B hs hb => ⟨hs.1, hs.2.1.bk hb (by omega), hs.2.2.bk hb (by omega) (fun _ h => by omega)⟩)
          (fun c k A B hs hb => ⟨hs.1, hs.2.1, hs.2.2.1.bk hb (by omega), hs.2.2.2.bk hb (by omega) (fun _ h => by omega)⟩)
          ⟨fun x hx => by simp at hx, qr, hU3⟩
          ?rnd ?dn ?stp
        case rnd =>
          intro l k x hx W9 K' hK'
          gi_wp2
          rintro W ⟨hall, n1, hB⟩
          have hmem : x ∈ L := List.mem_of_getElem? hx
          have htk : L.take (k + 1) = L.take k ++ [x] := by
            obtain ⟨h1, h2⟩ := List.getElem?_eq_some_iff.1 hx
            rw [List.take_succ_eq_append_getElem h1, h2]
          have m1 : W.cell? ⟨w.heap.size + 1, 0, none⟩ = some (.int .i64 0) := n1.cell 0
          have m1' := n1.frozen 0
          by_cases hx15 : x ≤ 15
          · have hcx : coreB (x : Int) = true := by unfold coreB; simp; omega
            have hcall : ∀ W, Calls Tryd.prog 94 #[.int .i64 (x : Int)] W fun e w' => e = .returned (.bool true) ∧ W = w' := fun W => hcx ▸ core_any x W
            have HC := Lib.hid hcall; have HALL := Lib.hid hall; have HTK := Lib.hid htk; have HN := Lib.hid n1
            clear hcall hcx hall htk n1
            gi_wp2_with (refine ⟨trivial, ?_⟩; gi_at_call 94; refine ((callsIn_wide.2 (HC.out _)).inRound l).mono ?_; rintro e w' ⟨rfl, rfl⟩)
            refine ⟨Upd.refl _ _, ?_, HN.out, hB⟩
            rw [HTK.out]
            intro y hy
            rcases List.mem_append.1 hy with h | h
            · exact HALL.out y h
            · simp at h; omega
          · have hcx : coreB (x : Int) = false := by unfold coreB; simp; omega
            have hcall : ∀ W, Calls Tryd.prog 94 #[.int .i64 (x : Int)] W fun e w' => e = .returned (.bool false) ∧ W = w' := fun W => hcx ▸ core_any x W
            have HC := Lib.hid hcall; have HN := Lib.hid n1
            clear hcall hcx hall htk n1
            gi_wp2_with (refine ⟨trivial, ?_⟩; gi_at_call 94; refine ((callsIn_wide.2 (HC.out _)).inRound l).mono ?_; rintro e w' ⟨rfl, rfl⟩)
            exact ⟨Upd.setCell _ (p := ⟨w.heap.size + 1, 0, none⟩) (.inl rfl) _, rfl, ⟨x, hmem, by omega⟩, HN.out.set 0 _, hB.from (Upd.setCell _ (p := ⟨w.heap.size + 1, 0, none⟩) (show w.heap.size ≤ w.heap.size + 1 by omega) _)⟩
        case dn =>
          rintro D W hD ⟨hall, n1, hB⟩ hK
          rw [List.take_of_length_le (Nat.le_refl _)] at hall
          have HR0 := Lib.hid (HA.out hall)
          have m1 : W.cell? ⟨w.heap.size + 1, 0, none⟩ = some (.int .i64 0) := n1.cell 0
          have m1' := n1.frozen 0
          have HN := Lib.hid (n1.set 0 (.int .i64 0)); have HB := Lib.hid hB; have HK := Lib.hid hK
          clear hall n1 hB hK
          go_wp2
          have hu := Upd.setCell (F := From w.heap.size) W (p := ⟨w.heap.size + 1, 0, none⟩) (show w.heap.size ≤ w.heap.size + 1 by omega) (.int .i64 0)
          have hK7 := hu.others.same D _ HK.out rfl
          have q5 := HN.out.bk (Bk.putObj (n := w.heap.size) (G := NoF) hK7 rfl (by omega) (.deferred none)) (fun h => h)
          have hc : _ = some (Value.int .i64 0) := q5.cell 0
          refine postM_ret1 hK7 (v := .int .i64 0) (by simp [results, Tryd.f93, go_sem, hc]) ⟨by rw [HR0.out], ?_⟩
          exact ((HB.out.from hu).bk (Bk.putObj (n := w.heap.size) (G := NoF) hK7 rfl (by omega) _) (Nat.le_refl _) (fun _ h => h.elim)).mono (fun i hi h => by unfold From at h; omega)
        case stp =>
          rintro D c k W hD hkl ⟨rfl, hex, n1, hB⟩ hK
          have HR0 := Lib.hid (HE.out hex)
          have q5 := n1.bk (Bk.putObj (n := w.heap.size) (G := NoF) hK rfl (by omega) (.deferred none)) (fun h => h)
          have hc : _ = some (Value.int .i64 2) := q5.cell 0
          have HB := Lib.hid hB
          clear n1 hB
          go_wp2
          refine postM_ret1 hK (v := .int .i64 2) (by simp [results, Tryd.f93, go_sem, hc]) ⟨by rw [HR0.out], ?_⟩
          exact (HB.out.bk (Bk.putObj (n := w.heap.size) (G := NoF) hK rfl (by omega) _) (Nat.le_refl _) (fun _ h => h.elim)).mono (fun i hi h => by unfold From at h; omega))
  · have hbo : (o == -1) = false := by simp [ho]
    have hbo2 : (o != -1) = true := by simp [ho]
    by_cases hcb : coreB o = true
    · by_cases hs : s = 0#32
      · have hbs : ((s.toNat : Int) == 0) = true := by simp [hs]
        have hbs2 : ((s.toNat : Int) != 0) = false := by simp [hs]
        have hL0 : L = [] := by rw [← HL.out, hs, bitsL_zero]
        have HA := Lib.hid (show (∀ x ∈ L, x ≤ 15) → r = 0 from fun _ => by rw [← HR.out, mayE_own ho, hcb, hs]; rfl)
        have HE := Lib.hid (show (∃ x ∈ L, 16 ≤ x) → r = 2 from fun ⟨x, h1, _⟩ => by rw [hL0] at h1; cases h1)
        clear ho hs hL0
        refine wp_noPanic ?_
        go_region_with (go_at_call 42; refine (free_any _).mono ?_; rintro e w1 ⟨rfl, hu⟩; have HU := Lib.hid (HU0.out.from (((Upd.drew NoF W0).toFrom (B := w.heap.size)).from (hu.toFrom (B := w.heap.size)))); have q1 := hu.heap B1.out (fun h => h); have q2 := hu.heap B2.out (fun h => h); have HQ1 := Lib.hid q1; have HQ2 := Lib.hid q2; have d0 : w1.cell? ⟨w.heap.size, 0, none⟩ = some (.int .i64 o) := Blk.cell q1 0; have d1 : w1.cell? ⟨w.heap.size, 1, none⟩ = some (VM s) := Blk.cell q1 1; have d2 : w1.cell? ⟨w.heap.size + 1, 0, none⟩ = some (.int .i64 0) := Blk.cell q2 0; have f2 : w1.frozen? ⟨w.heap.size + 1, 0, none⟩ = false := Blk.frozen q2 0; have hs1 := hu.size; clear hu q1 q2)
        all_goals (
          dsimp only [NoPanic]
          go_wp2_with (first | (go_at_call 94; refine (core_any _ _).mono ?_; rintro e w' ⟨rfl, rfl⟩; rw [hcb]) | (go_at_call 76; refine (mall_any _ _).mono ?_; rintro e w' ⟨rfl, rfl⟩))
          obtain ⟨W3, hW3⟩ : ∃ W3, w1.alloc (.cells #[VM s] 57) = W3 := ⟨_, rfl⟩
          have hu3 : Upd NoF w1 W3 := by rw [← hW3]; exact Upd.alloc NoF w1 _
          have qp : Blk W3 w1.heap.size #[VM s] 57 := by rw [← hW3]; exact Blk.new w1 _ _
          have hsz3 : W3.heap.size = w1.heap.size + 1 := by rw [← hW3]; simp
          have hU3 := HU.out.from hu3.toFrom
          have qr : Blk W3 (w.heap.size + 1) #[.int .i64 0] 25 := Blk.upd HQ2.out hu3 (fun h => h)
          have hT3 := HT.out.from hU3 (by omega)
          have hs1' : w.heap.size + 2 ≤ w1.heap.size := by have : W0.heap.size ≤ w1.heap.size := hs1; omega
          rw [hW3]
          clear hW3 hu3
          have hseq := mall_seq w1.heap.size s (fun k => k = w.heap.size + 1 ∨ W3.heap.size ≤ k) (by omega) (by omega) (by omega) W3 qp hT3
          rw [HL.out] at hseq
          refine wp_range (gf := 97) (lb := #[.pointer (some ⟨w1.heap.size, 0, none⟩)]) rfl (enters_of Tryd.func97 (by kernel_rfl) rfl)
            hseq (fun _ => rfl) (fun k hk => by omega) (fun k hk => .inr hk)
            (fun k W => (∀ x ∈ L.take k, x ≤ 15) ∧ Blk W (w.heap.size + 1) #[.int .i64 0] 25 ∧ Upd (From w.heap.size) w W)
            (fun c k W => c = .ret ∧ (∃ x ∈ L, 16 ≤ x) ∧ Blk W (w.heap.size + 1) #[.int .i64 2] 25 ∧ Upd (From w.heap.size) w W)
            (fun k A B hs hb => ⟨hs.1, hs.2.1.bk hb (by omega), hs.2.2.bk hb (by omega) (fun _ h => by omega)⟩)
            (fun c k A B hs hb => ⟨hs.1, hs.2.1, hs.2.2.1.bk hb (by omega), hs.2.2.2.bk hb (by omega) (fun _ h => by omega)⟩)
            ⟨fun x hx => by simp at hx, qr, hU3⟩
            ?rnd ?dn ?stp
          case rnd =>
            intro l k x hx W9 K' hK'
            gi_wp2
            rintro W ⟨hall, n1, hB⟩
            have hmem : x ∈ L := List.mem_of_getElem? hx
            have htk : L.take (k + 1) = L.take k ++ [x] := by
              obtain ⟨h1, h2⟩ := List.getElem?_eq_some_iff.1 hx
              rw [List.take_succ_eq_append_getElem h1, h2]
            have m1 : W.cell? ⟨w.heap.size + 1, 0, none⟩ = some (.int .i64 0) := n1.cell 0
            have m1' := n1.frozen 0
            by_cases hx15 : x ≤ 15
            · have hcx : coreB (x : Int) = true := by unfold coreB; simp; omega
              have hcall : ∀ W, Calls Tryd.prog 94 #[.int .i64 (x : Int)] W fun e w' => e = .returned (.bool true) ∧ W = w' := fun W => hcx ▸ core_any x W
              have HC := Lib.hid hcall; have HALL := Lib.hid hall; have HTK := Lib.hid htk; have HN := Lib.hid n1
              clear hcall hcx hall htk n1
              gi_wp2_with (refine ⟨trivial, ?_⟩; gi_at_call 94; refine ((callsIn_wide.2 (HC.out _)).inRound l).mono ?_; rintro e w' ⟨rfl, rfl⟩)
              refine ⟨Upd.refl _ _, ?_, HN.out, hB⟩
              rw [HTK.out]
              intro y hy
              rcases List.mem_append.1 hy with h | h
              · exact HALL.out y h
              · simp at h; omega
            · have hcx : coreB (x : Int) = false := by unfold coreB; simp; omega
              have hcall : ∀ W, Calls Tryd.prog 94 #[.int .i64 (x : Int)] W fun e w' => e = .returned (.bool false) ∧ W = w' := fun W => hcx ▸ core_any x W
              have HC := Lib.hid hcall; have HN := Lib.hid n1
              clear hcall hcx hall htk n1
              gi_wp2_with (refine ⟨trivial, ?_⟩; gi_at_call 94; refine ((callsIn_wide.2 (HC.out _)).inRound l).mono ?_; rintro e w' ⟨rfl, rfl⟩)
              exact ⟨Upd.setCell _ (p := ⟨w.heap.size + 1, 0, none⟩) (.inl rfl) _, rfl, ⟨x, hmem, by omega⟩, HN.out.set 0 _, hB.from (Upd.setCell _ (p := ⟨w.heap.size + 1, 0, none⟩) (show w.heap.size ≤ w.heap.size + 1 by omega) _)⟩
          case dn =>
            rintro D W hD ⟨hall, n1, hB⟩ hK
            rw [List.take_of_length_le (Nat.le_refl _)] at hall
            have HR0 := Lib.hid (HA.out hall)
            have m1 : W.cell? ⟨w.heap.size + 1, 0, none⟩ = some (.int .i64 0) := n1.cell 0
            have m1' := n1.frozen 0
            have HN := Lib.hid (n1.set 0 (.int .i64 0)); have HB := Lib.hid hB; have HK := Lib.hid hK
            clear hall n1 hB hK
            go_wp2
            have hu := Upd.setCell (F := From w.heap.size) W (p := ⟨w.heap.size + 1, 0, none⟩) (show w.heap.size ≤ w.heap.size + 1 by omega) (.int .i64 0)
            have hK7 := hu.others.same D _ HK.out rfl
            have q5 := HN.out.bk (Bk.putObj (n := w.heap.size) (G := NoF) hK7 rfl (by omega) (.deferred none)) (fun h => h)
            have hc : _ = some (Value.int .i64 0) := q5.cell 0
            refine postM_ret1 hK7 (v := .int .i64 0) (by simp [results, Tryd.f93, go_sem, hc]) ⟨by rw [HR0.out], ?_⟩
            exact ((HB.out.from hu).bk (Bk.putObj (n := w.heap.size) (G := NoF) hK7 rfl (by omega) _) (Nat.le_refl _) (fun _ h => h.elim)).mono (fun i hi h => by unfold From at h; omega)
          case stp =>
            rintro D c k W hD hkl ⟨rfl, hex, n1, hB⟩ hK
            have HR0 := Lib.hid (HE.out hex)
            have q5 := n1.bk (Bk.putObj (n := w.heap.size) (G := NoF) hK rfl (by omega) (.deferred none)) (fun h => h)
            have hc : _ = some (Value.int .i64 2) := q5.cell 0
            have HB := Lib.hid hB
            clear n1 hB
            go_wp2
            refine postM_ret1 hK (v := .int .i64 2) (by simp [results, Tryd.f93, go_sem, hc]) ⟨by rw [HR0.out], ?_⟩
            exact (HB.out.bk (Bk.putObj (n := w.heap.size) (G := NoF) hK rfl (by omega) _) (Nat.le_refl _) (fun _ h => h.elim)).mono (fun i hi h => by unfold From at h; omega))
      · have hbs : ((s.toNat : Int) == 0) = false := by
          have : s.toNat ≠ 0 := fun e => hs (BitVec.eq_of_toNat_eq (by simpa using e))
          simp; omega
        have hbs2 : ((s.toNat : Int) != 0) = true := by simp [bne, hbs]
        have HR0 := Lib.hid (show r = 2 from by rw [← HR.out, mayE_own ho, hcb]; simp [hs])
        clear ho hs
        refine wp_noPanic ?_
        go_region_with (go_at_call 42; refine (free_any _).mono ?_; rintro e w1 ⟨rfl, hu⟩; have HU := Lib.hid (HU0.out.from (((Upd.drew NoF W0).toFrom (B := w.heap.size)).from (hu.toFrom (B := w.heap.size)))); have q1 := hu.heap B1.out (fun h => h); have q2 := hu.heap B2.out (fun h => h); have HQ1 := Lib.hid q1; have HQ2 := Lib.hid q2; have d0 : w1.cell? ⟨w.heap.size, 0, none⟩ = some (.int .i64 o) := Blk.cell q1 0; have d1 : w1.cell? ⟨w.heap.size, 1, none⟩ = some (VM s) := Blk.cell q1 1; have d2 : w1.cell? ⟨w.heap.size + 1, 0, none⟩ = some (.int .i64 0) := Blk.cell q2 0; have f2 : w1.frozen? ⟨w.heap.size + 1, 0, none⟩ = false := Blk.frozen q2 0; have hs1 := hu.size; clear hu q1 q2)
        all_goals (
          dsimp only [NoPanic]
          go_wp2_with (go_at_call 94; refine (core_any _ _).mono ?_; rintro e w' ⟨rfl, rfl⟩; rw [hcb])
          have hq := Blk.set (W := w1) HQ2.out 0 (.int .i64 2)
          have hc : _ = some (Value.int .i64 2) := hq.cell 0
          refine postM_ret0 (v := .int .i64 2) (by simp [results, Tryd.f93, go_sem, hc]) ⟨by rw [HR0.out], ?_⟩
          exact (HU.out.from (Upd.setCell (F := From w.heap.size) w1 (p := ⟨w.heap.size + 1, 0, none⟩) (show w.heap.size ≤ w.heap.size + 1 by omega) _)).mono (fun i hi h => by unfold From at h; omega)
          )
    · have hcb : coreB o = false := by simpa using hcb
      have HR0 := Lib.hid (show r = 2 from by rw [← HR.out, mayE_own ho, hcb]; rfl)
      clear ho
      by_cases hs : ((s.toNat : Int) == 0) = true
      · refine wp_noPanic ?_
        go_region_with (go_at_call 42; refine (free_any _).mono ?_; rintro e w1 ⟨rfl, hu⟩; have HU := Lib.hid (HU0.out.from (((Upd.drew NoF W0).toFrom (B := w.heap.size)).from (hu.toFrom (B := w.heap.size)))); have q1 := hu.heap B1.out (fun h => h); have q2 := hu.heap B2.out (fun h => h); have HQ1 := Lib.hid q1; have HQ2 := Lib.hid q2; have d0 : w1.cell? ⟨w.heap.size, 0, none⟩ = some (.int .i64 o) := Blk.cell q1 0; have d1 : w1.cell? ⟨w.heap.size, 1, none⟩ = some (VM s) := Blk.cell q1 1; have d2 : w1.cell? ⟨w.heap.size + 1, 0, none⟩ = some (.int .i64 0) := Blk.cell q2 0; have f2 : w1.frozen? ⟨w.heap.size + 1, 0, none⟩ = false := Blk.frozen q2 0; have hs1 := hu.size; clear hu q1 q2)
        all_goals (
          dsimp only [NoPanic]
          go_wp2_with (go_at_call 94; refine (core_any _ _).mono ?_; rintro e w' ⟨rfl, rfl⟩; rw [hcb])
          have hq := Blk.set (W := w1) HQ2.out 0 (.int .i64 2)
          have hc : _ = some (Value.int .i64 2) := hq.cell 0
          refine postM_ret0 (v := .int .i64 2) (by simp [results, Tryd.f93, go_sem, hc]) ⟨by rw [HR0.out], ?_⟩
          exact (HU.out.from (Upd.setCell (F := From w.heap.size) w1 (p := ⟨w.heap.size + 1, 0, none⟩) (show w.heap.size ≤ w.heap.size + 1 by omega) _)).mono (fun i hi h => by unfold From at h; omega)
          )
      · have hs : ((s.toNat : Int) == 0) = false := by simpa using hs
        refine wp_noPanic ?_
        go_region_with (go_at_call 42; refine (free_any _).mono ?_; rintro e w1 ⟨rfl, hu⟩; have HU := Lib.hid (HU0.out.from (((Upd.drew NoF W0).toFrom (B := w.heap.size)).from (hu.toFrom (B := w.heap.size)))); have q1 := hu.heap B1.out (fun h => h); have q2 := hu.heap B2.out (fun h => h); have HQ1 := Lib.hid q1; have HQ2 := Lib.hid q2; have d0 : w1.cell? ⟨w.heap.size, 0, none⟩ = some (.int .i64 o) := Blk.cell q1 0; have d1 : w1.cell? ⟨w.heap.size, 1, none⟩ = some (VM s) := Blk.cell q1 1; have d2 : w1.cell? ⟨w.heap.size + 1, 0, none⟩ = some (.int .i64 0) := Blk.cell q2 0; have f2 : w1.frozen? ⟨w.heap.size + 1, 0, none⟩ = false := Blk.frozen q2 0; have hs1 := hu.size; clear hu q1 q2)
        all_goals (
          dsimp only [NoPanic]
          go_wp2_with (go_at_call 94; refine (core_any _ _).mono ?_; rintro e w' ⟨rfl, rfl⟩; rw [hcb])
          have hq := Blk.set (W := w1) HQ2.out 0 (.int .i64 2)
          have hc : _ = some (Value.int .i64 2) := hq.cell 0
          refine postM_ret0 (v := .int .i64 2) (by simp [results, Tryd.f93, go_sem, hc]) ⟨by rw [HR0.out], ?_⟩
          exact (HU.out.from (Upd.setCell (F := From w.heap.size) w1 (p := ⟨w.heap.size + 1, 0, none⟩) (show w.heap.size ≤ w.heap.size + 1 by omega) _)).mono (fun i hi h => by unfold From at h; omega)
          )
end Go.Proofs.YtlhbnndnkcpomaaDoor.ET
