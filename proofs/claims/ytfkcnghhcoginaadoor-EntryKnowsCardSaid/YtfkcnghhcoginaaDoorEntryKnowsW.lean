/- The walk of the statement EntryKnows. -/
import Derived.Test.YtfkcnghhcoginaaDoorEntryOneW
set_option linter.unusedSimpArgs false
set_option linter.unusedVariables false
namespace Go.Proofs.YtfkcnghhcoginaaDoor.ET
open Go.RowKit
open ML
attribute [local go_sem] Oper.semAt_some run_eql_entry run_neq_entry

/-- A call that leaves the world as it was. -/
theorem NOFW {f : FuncId} {args : Array Value} {e₀ : Ending} {W : World} (h : Calls Tryd.prog f args W fun e w' => e = e₀ ∧ W = w') : Calls Tryd.prog f args W fun e w' => e = e₀ ∧ Upd NoF W w' :=
  h.mono fun _ _ ⟨h1, h2⟩ => ⟨h1, by subst h2; exact Upd.refl NoF W⟩

/-- What is told behind an ask that may be: who is known still. -/
theorem knows_facts {o k x : Int} {s : Mk} (stick : Bool) (ha : askE o s k x = true) : ∃ (p : Int) (q : Mk) (st : Int) (p' : Int) (q' : Mk) (bb : Bool),
    getsV o s k x = .tuple #[.agg #[.int .i64 p, VM q], .int .u8 st, .int .i64 0] ∧ askedV o s k x = .tuple #[VM (whoE o s k x), .int .u8 (k + 3), .int .i64 0] ∧
    backV o s x stick = .tuple #[.agg #[.int .i64 p', VM q'], .bool bb, .int .i64 0] ∧ lostE o s p q x &&& ~~~ whoE o s k x = 0#32 ∧ (k = 2 ∨ lostE o s p q x = 0#32) ∧
    (knownE o s &&& ~~~ knownE p' q') &&& ~~~ bitB x = 0#32 ∧ (stick = true → knownE o s &&& ~~~ knownE p' q' = 0#32) := by
  obtain ⟨⟨hm, hk⟩, hx⟩ : (mayE o s = true ∧ (k = 1 ∨ k = 2)) ∧ coreB x = true := by
    unfold askE at ha
    simpa using ha
  have hx' := hx
  unfold coreB at hx'; simp at hx'
  have h1 : askedV o s k x = .tuple #[VM (whoE o s k x), .int .u8 (k + 3), .int .i64 0] := by unfold askedV; rw [ha, if_pos rfl]
  obtain ⟨p', q', bb, hb, hb1, hb2⟩ : ∃ (p' : Int) (q' : Mk) (bb : Bool), backV o s x stick = .tuple #[.agg #[.int .i64 p', VM q'], .bool bb, .int .i64 0] ∧ (knownE o s &&& ~~~ knownE p' q') &&& ~~~ bitB x = 0#32 ∧ (stick = true → knownE o s &&& ~~~ knownE p' q' = 0#32) := by
    unfold backV
    rw [hm, hx]
    by_cases ho : o = x
    · cases stick
      · refine ⟨-1, 0#32, true, by rw [if_pos (by rfl), if_pos ho]; rfl, ?_, fun h => by cases h⟩
        rw [ho] at hm ⊢
        exact gone_owner hm hx'.1
      · exact ⟨o, s, true, by rw [if_pos (by rfl), if_pos ho]; rfl, by simp, fun _ => by simp⟩
    · exact ⟨o, s, false, by rw [if_pos (by rfl), if_neg ho], by simp, fun _ => by simp⟩
  by_cases h2 : k = 2
  · exact ⟨x, 0#32, 3, p', q', bb, by unfold getsV; rw [ha, if_pos rfl, if_pos h2], h1, hb, by rw [h2]; exact lost_mine hm hx, .inl h2, hb1, hb2⟩
  · by_cases h3 : othersE o s x = 0#32
    · have hl := lost_alone h3
      exact ⟨x, 0#32, 2, p', q', bb, by unfold getsV; rw [ha, if_pos rfl, if_neg h2, if_pos h3], h1, hb, by rw [hl]; simp, .inr hl, hb1, hb2⟩
    · have hl := lost_shared (o := o) (x := x) (s := s)
      exact ⟨-1, othersE o s x ||| bitB x, 1, p', q', bb, by unfold getsV; rw [ha, if_pos rfl, if_neg h2, if_neg h3], h1, hb, by rw [hl]; simp, .inr hl, hb1, hb2⟩

set_option maxRecDepth 100000 in
set_option maxHeartbeats 4000000 in
theorem knows_law (o : Int) (s : Mk) (k x : Int) (stick : Bool) (w : World) (hT : Tab w) : Calls Tryd.prog 8 #[VE o s, .int .u8 k, .int .i64 x, .bool stick] w fun e w' => e = .returned (.bool true) ∧ Below w.heap.size w w' := by
  have HT := Lib.hid hT; clear hT
  have ha := fun W hW => asked_e o s k x W hW
  have hc := fun W hW => gets_e o s k x W hW
  have hb := fun W hW => back_e o s x stick W hW
  cases hask : askE o s k x
  · rw [show askedV o s k x = .tuple #[.int .u32 0, .int .u8 0, .int .i64 2] from by unfold askedV; rw [hask]; rfl] at ha
    rw [show getsV o s k x = .tuple #[.agg #[.int .i64 0, .int .u32 0], .int .u8 0, .int .i64 2] from by unfold getsV; rw [hask]; rfl] at hc
    have HA := Lib.hid ha; have HC := Lib.hid hc
    clear ha hc hb hask
    go_enter Tryd.func8, Tryd.ntmps8
    go_wp2_with fail
    obtain ⟨w0, hw0⟩ : ∃ W, (w.alloc (.cells #[.int .i64 o, VM s] 25)) = W := ⟨_, rfl⟩
    have hu : Upd NoF w w0 := by rw [← hw0]; exact Upd.alloc NoF w _
    have HQ_e : Hid (Blk w0 w.heap.size #[.int .i64 o, VM s] 25) := by
      have hb := Blk.new w #[.int .i64 o, VM s] 25
      rw [← hw0]; exact hb
    rw [hw0]
    have HU0 := Lib.hid hu
    clear hw0 hu
    have c_e_0 : w0.cell? ⟨w.heap.size, 0, none⟩ = some (.int .i64 o) := HQ_e.out.cell 0
    have c_e_1 : w0.cell? ⟨w.heap.size, 1, none⟩ = some (VM s) := HQ_e.out.cell 1
    refine (HA.out w0 (HT.out.upd HU0.out (fun h => h))).mono ?_
    rintro e w1 ⟨rfl, hu⟩
    have HU1 := Lib.hid (HU0.out.trans hu (fun _ _ h => h))
    replace HQ_e := Lib.hid (HQ_e.out.upd hu (fun h => h))
    clear hu
    clear c_e_0 c_e_1
    have c_e_0 : w1.cell? ⟨w.heap.size, 0, none⟩ = some (.int .i64 o) := HQ_e.out.cell 0
    have c_e_1 : w1.cell? ⟨w.heap.size, 1, none⟩ = some (VM s) := HQ_e.out.cell 1
    go_wp2_with fail
    refine (HC.out w1 (HT.out.upd HU1.out (fun h => h))).mono ?_
    rintro e w2 ⟨rfl, hu⟩
    have HU2 := Lib.hid (HU1.out.trans hu (fun _ _ h => h))
    replace HQ_e := Lib.hid (HQ_e.out.upd hu (fun h => h))
    clear hu
    clear c_e_0 c_e_1
    have c_e_0 : w2.cell? ⟨w.heap.size, 0, none⟩ = some (.int .i64 o) := HQ_e.out.cell 0
    have c_e_1 : w2.cell? ⟨w.heap.size, 1, none⟩ = some (VM s) := HQ_e.out.cell 1
    go_wp2_with fail
    obtain ⟨w3, hw3⟩ : ∃ W, (w2.alloc (.cells #[.int .i64 0, .int .u32 0] 25)) = W := ⟨_, rfl⟩
    have hu : Upd NoF w2 w3 := by rw [← hw3]; exact Upd.alloc NoF w2 _
    replace HQ_e := Lib.hid (HQ_e.out.upd hu (fun h => h))
    have HQ_p : Hid (Blk w3 w2.heap.size #[.int .i64 0, .int .u32 0] 25) := by
      have hb := Blk.new w2 #[.int .i64 0, .int .u32 0] 25
      rw [← hw3]; exact hb
    rw [hw3]
    have HU3 := Lib.hid (HU2.out.trans hu (fun _ _ h => h))
    clear hw3 hu
    clear c_e_0 c_e_1
    have c_e_0 : w3.cell? ⟨w.heap.size, 0, none⟩ = some (.int .i64 o) := HQ_e.out.cell 0
    have c_e_1 : w3.cell? ⟨w.heap.size, 1, none⟩ = some (VM s) := HQ_e.out.cell 1
    refine (works_e w3 (HT.out.upd HU3.out (fun h => h))).mono ?_
    rintro e w4 ⟨rfl, hu⟩
    have HU4 := Lib.hid (HU3.out.trans hu (fun _ _ h => h))
    replace HQ_e := Lib.hid (HQ_e.out.upd hu (fun h => h))
    replace HQ_p := Lib.hid (HQ_p.out.upd hu (fun h => h))
    clear hu
    clear c_e_0 c_e_1
    have c_e_0 : w4.cell? ⟨w.heap.size, 0, none⟩ = some (.int .i64 o) := HQ_e.out.cell 0
    have c_e_1 : w4.cell? ⟨w.heap.size, 1, none⟩ = some (VM s) := HQ_e.out.cell 1
    go_wp2
    go_ret
    exact ⟨rfl, (HU4.out.toFrom (B := w.heap.size)).belowFrom (Nat.le_refl _)⟩
  · obtain ⟨p, q, st, p', q', bb, hg, hv, hbk, hl1, hl2, hg1, hg2⟩ := knows_facts stick hask
    rw [hv] at ha
    rw [hg] at hc
    rw [hbk] at hb
    have hK := fun W => known_e o s W
    have hN := fun W => known_e p q W
    have hG := fun W => known_e p' q' W
    have a1 := bits_andNot (knownE o s) (knownE p q)
    have a2 := fun W => without_any (knownE o s &&& ~~~ knownE p q) x W
    have a3 := bits_andNot (lostE o s p q x) (whoE o s k x)
    have a4 := bits_andNot (whoE o s k x) (knownE o s)
    have a5 := bits_andNot (knownE o s) (knownE p' q')
    have a6 := fun W => without_any (knownE o s &&& ~~~ knownE p' q') x W
    have hlo : (knownE o s &&& ~~~ knownE p q) &&& ~~~ bitB x = lostE o s p q x := rfl
    rw [hl1] at a3
    rw [who_known] at a4
    rw [hlo] at a2
    rw [hg1] at a6
    have a3' : bits .andNot .u32 ((lostE o s p q x).toNat : Int) ((whoE o s k x).toNat : Int) = 0 := a3
    have a4' : bits .andNot .u32 ((whoE o s k x).toNat : Int) ((knownE o s).toNat : Int) = 0 := a4
    clear a3 a4 hl1 hlo hg hv hbk hg1
    generalize whoE o s k x = wh at *
    generalize lostE o s p q x = lo at *
    generalize knownE o s &&& ~~~ knownE p q = d1 at *
    generalize knownE o s &&& ~~~ knownE p' q' = d2 at *
    generalize knownE o s = kn at *
    generalize knownE p q = kp at *
    generalize knownE p' q' = kb at *
    have HA := Lib.hid ha; have HC := Lib.hid hc; have HB := Lib.hid hb; have HK := Lib.hid hK; have HN := Lib.hid hN; have HG := Lib.hid hG; have HX := Lib.hid a2; have HY := Lib.hid a6
    clear ha hc hb hK hN hG a2 a6 hask
    by_cases hlz : lo = 0#32
    · have hlb : ((lo.toNat : Int) != 0) = false := by simp [hlz]
      clear hl2 hlz
      cases stick
      · clear hg2
        go_enter Tryd.func8, Tryd.ntmps8
        go_wp2_with fail
        obtain ⟨w0, hw0⟩ : ∃ W, (w.alloc (.cells #[.int .i64 o, VM s] 25)) = W := ⟨_, rfl⟩
        have hu : Upd NoF w w0 := by rw [← hw0]; exact Upd.alloc NoF w _
        have HQ_e : Hid (Blk w0 w.heap.size #[.int .i64 o, VM s] 25) := by
          have hb := Blk.new w #[.int .i64 o, VM s] 25
          rw [← hw0]; exact hb
        rw [hw0]
        have HU0 := Lib.hid hu
        clear hw0 hu
        have c_e_0 : w0.cell? ⟨w.heap.size, 0, none⟩ = some (.int .i64 o) := HQ_e.out.cell 0
        have c_e_1 : w0.cell? ⟨w.heap.size, 1, none⟩ = some (VM s) := HQ_e.out.cell 1
        refine (HA.out w0 (HT.out.upd HU0.out (fun h => h))).mono ?_
        rintro e w1 ⟨rfl, hu⟩
        have HU1 := Lib.hid (HU0.out.trans hu (fun _ _ h => h))
        replace HQ_e := Lib.hid (HQ_e.out.upd hu (fun h => h))
        clear hu
        clear c_e_0 c_e_1
        have c_e_0 : w1.cell? ⟨w.heap.size, 0, none⟩ = some (.int .i64 o) := HQ_e.out.cell 0
        have c_e_1 : w1.cell? ⟨w.heap.size, 1, none⟩ = some (VM s) := HQ_e.out.cell 1
        go_wp2_with fail
        refine (HC.out w1 (HT.out.upd HU1.out (fun h => h))).mono ?_
        rintro e w2 ⟨rfl, hu⟩
        have HU2 := Lib.hid (HU1.out.trans hu (fun _ _ h => h))
        replace HQ_e := Lib.hid (HQ_e.out.upd hu (fun h => h))
        clear hu
        clear c_e_0 c_e_1
        have c_e_0 : w2.cell? ⟨w.heap.size, 0, none⟩ = some (.int .i64 o) := HQ_e.out.cell 0
        have c_e_1 : w2.cell? ⟨w.heap.size, 1, none⟩ = some (VM s) := HQ_e.out.cell 1
        go_wp2_with fail
        obtain ⟨w3, hw3⟩ : ∃ W, (w2.alloc (.cells #[.int .i64 p, VM q] 25)) = W := ⟨_, rfl⟩
        have hu : Upd NoF w2 w3 := by rw [← hw3]; exact Upd.alloc NoF w2 _
        replace HQ_e := Lib.hid (HQ_e.out.upd hu (fun h => h))
        have HQ_p : Hid (Blk w3 w2.heap.size #[.int .i64 p, VM q] 25) := by
          have hb := Blk.new w2 #[.int .i64 p, VM q] 25
          rw [← hw3]; exact hb
        rw [hw3]
        have HU3 := Lib.hid (HU2.out.trans hu (fun _ _ h => h))
        clear hw3 hu
        clear c_e_0 c_e_1
        have c_e_0 : w3.cell? ⟨w.heap.size, 0, none⟩ = some (.int .i64 o) := HQ_e.out.cell 0
        have c_e_1 : w3.cell? ⟨w.heap.size, 1, none⟩ = some (VM s) := HQ_e.out.cell 1
        have c_p_0 : w3.cell? ⟨w2.heap.size, 0, none⟩ = some (.int .i64 p) := HQ_p.out.cell 0
        have c_p_1 : w3.cell? ⟨w2.heap.size, 1, none⟩ = some (VM q) := HQ_p.out.cell 1
        go_region_held3 (fun W => Upd NoF w W ∧ Blk W w.heap.size #[.int .i64 o, VM s] 25 ∧ Blk W w2.heap.size #[.int .i64 p, VM q] 25 ∧ W.cell? ⟨w.heap.size, 0, none⟩ = some (.int .i64 o) ∧ W.cell? ⟨w.heap.size, 1, none⟩ = some (VM s) ∧ W.cell? ⟨w2.heap.size, 0, none⟩ = some (.int .i64 p) ∧ W.cell? ⟨w2.heap.size, 1, none⟩ = some (VM q)) (first | assumption | exact ⟨HU3.out.trans (Upd.drew NoF w3) (fun _ _ h => h), HQ_e.out.upd (Upd.drew NoF w3) (fun h => h), HQ_p.out.upd (Upd.drew NoF w3) (fun h => h), c_e_0, c_e_1, c_p_0, c_p_1⟩) (first | (go_at_call_of 20 o; have hS : Upd NoF w _ ∧ _ := ‹_›; refine (HK.out _).mono ?_; rintro e wm1 ⟨rfl, hu⟩; have hS' : (fun W => Upd NoF w W ∧ Blk W w.heap.size #[.int .i64 o, VM s] 25 ∧ Blk W w2.heap.size #[.int .i64 p, VM q] 25 ∧ W.cell? ⟨w.heap.size, 0, none⟩ = some (.int .i64 o) ∧ W.cell? ⟨w.heap.size, 1, none⟩ = some (VM s) ∧ W.cell? ⟨w2.heap.size, 0, none⟩ = some (.int .i64 p) ∧ W.cell? ⟨w2.heap.size, 1, none⟩ = some (VM q)) wm1 := ⟨hS.1.trans hu (fun _ _ h => h), hS.2.1.upd hu (fun h => h), hS.2.2.1.upd hu (fun h => h), (hS.2.1.upd hu (fun h => h)).cell 0, (hS.2.1.upd hu (fun h => h)).cell 1, (hS.2.2.1.upd hu (fun h => h)).cell 0, (hS.2.2.1.upd hu (fun h => h)).cell 1⟩; clear hu hS) | (go_at_call_of 20 p; have hS : Upd NoF w _ ∧ _ := ‹_›; refine (HN.out _).mono ?_; rintro e wm1 ⟨rfl, hu⟩; have hS' : (fun W => Upd NoF w W ∧ Blk W w.heap.size #[.int .i64 o, VM s] 25 ∧ Blk W w2.heap.size #[.int .i64 p, VM q] 25 ∧ W.cell? ⟨w.heap.size, 0, none⟩ = some (.int .i64 o) ∧ W.cell? ⟨w.heap.size, 1, none⟩ = some (VM s) ∧ W.cell? ⟨w2.heap.size, 0, none⟩ = some (.int .i64 p) ∧ W.cell? ⟨w2.heap.size, 1, none⟩ = some (VM q)) wm1 := ⟨hS.1.trans hu (fun _ _ h => h), hS.2.1.upd hu (fun h => h), hS.2.2.1.upd hu (fun h => h), (hS.2.1.upd hu (fun h => h)).cell 0, (hS.2.1.upd hu (fun h => h)).cell 1, (hS.2.2.1.upd hu (fun h => h)).cell 0, (hS.2.2.1.upd hu (fun h => h)).cell 1⟩; clear hu hS) | (go_at_call 23; have hS : Upd NoF w _ ∧ _ := ‹_›; refine (NOFW (HX.out _)).mono ?_; rintro e wm1 ⟨rfl, hu⟩; have hS' : (fun W => Upd NoF w W ∧ Blk W w.heap.size #[.int .i64 o, VM s] 25 ∧ Blk W w2.heap.size #[.int .i64 p, VM q] 25 ∧ W.cell? ⟨w.heap.size, 0, none⟩ = some (.int .i64 o) ∧ W.cell? ⟨w.heap.size, 1, none⟩ = some (VM s) ∧ W.cell? ⟨w2.heap.size, 0, none⟩ = some (.int .i64 p) ∧ W.cell? ⟨w2.heap.size, 1, none⟩ = some (VM q)) wm1 := ⟨hS.1.trans hu (fun _ _ h => h), hS.2.1.upd hu (fun h => h), hS.2.2.1.upd hu (fun h => h), (hS.2.1.upd hu (fun h => h)).cell 0, (hS.2.1.upd hu (fun h => h)).cell 1, (hS.2.2.1.upd hu (fun h => h)).cell 0, (hS.2.2.1.upd hu (fun h => h)).cell 1⟩; clear hu hS))
        obtain ⟨hU, hq_e, hq_p, hc_e_0, hc_e_1, hc_p_0, hc_p_1⟩ : Upd NoF w wm1 ∧ _ := ‹Upd NoF w wm1 ∧ _›
        have HU4 := Lib.hid hU
        replace HQ_e := Lib.hid hq_e
        replace HQ_p := Lib.hid hq_p
        clear hU hq_e hq_p hc_e_0 hc_e_1 hc_p_0 hc_p_1
        clear c_e_0 c_e_1 c_p_0 c_p_1
        have c_e_0 : wm1.cell? ⟨w.heap.size, 0, none⟩ = some (.int .i64 o) := HQ_e.out.cell 0
        have c_e_1 : wm1.cell? ⟨w.heap.size, 1, none⟩ = some (VM s) := HQ_e.out.cell 1
        have c_p_0 : wm1.cell? ⟨w2.heap.size, 0, none⟩ = some (.int .i64 p) := HQ_p.out.cell 0
        have c_p_1 : wm1.cell? ⟨w2.heap.size, 1, none⟩ = some (VM q) := HQ_p.out.cell 1
        go_wp2_with fail
        refine (HK.out wm1).mono ?_
        rintro e w5 ⟨rfl, hu⟩
        have HU5 := Lib.hid (HU4.out.trans hu (fun _ _ h => h))
        replace HQ_e := Lib.hid (HQ_e.out.upd hu (fun h => h))
        replace HQ_p := Lib.hid (HQ_p.out.upd hu (fun h => h))
        clear hu
        clear c_e_0 c_e_1 c_p_0 c_p_1
        have c_e_0 : w5.cell? ⟨w.heap.size, 0, none⟩ = some (.int .i64 o) := HQ_e.out.cell 0
        have c_e_1 : w5.cell? ⟨w.heap.size, 1, none⟩ = some (VM s) := HQ_e.out.cell 1
        have c_p_0 : w5.cell? ⟨w2.heap.size, 0, none⟩ = some (.int .i64 p) := HQ_p.out.cell 0
        have c_p_1 : w5.cell? ⟨w2.heap.size, 1, none⟩ = some (VM q) := HQ_p.out.cell 1
        go_wp2_with fail
        refine (HB.out w5 (HT.out.upd HU5.out (fun h => h))).mono ?_
        rintro e w6 ⟨rfl, hu⟩
        have HU6 := Lib.hid (HU5.out.trans hu (fun _ _ h => h))
        replace HQ_e := Lib.hid (HQ_e.out.upd hu (fun h => h))
        replace HQ_p := Lib.hid (HQ_p.out.upd hu (fun h => h))
        clear hu
        clear c_e_0 c_e_1 c_p_0 c_p_1
        have c_e_0 : w6.cell? ⟨w.heap.size, 0, none⟩ = some (.int .i64 o) := HQ_e.out.cell 0
        have c_e_1 : w6.cell? ⟨w.heap.size, 1, none⟩ = some (VM s) := HQ_e.out.cell 1
        have c_p_0 : w6.cell? ⟨w2.heap.size, 0, none⟩ = some (.int .i64 p) := HQ_p.out.cell 0
        have c_p_1 : w6.cell? ⟨w2.heap.size, 1, none⟩ = some (VM q) := HQ_p.out.cell 1
        go_wp2_with fail
        obtain ⟨w7, hw7⟩ : ∃ W, (w6.alloc (.cells #[.int .i64 p', VM q'] 25)) = W := ⟨_, rfl⟩
        have hu : Upd NoF w6 w7 := by rw [← hw7]; exact Upd.alloc NoF w6 _
        replace HQ_e := Lib.hid (HQ_e.out.upd hu (fun h => h))
        replace HQ_p := Lib.hid (HQ_p.out.upd hu (fun h => h))
        have HQ_b : Hid (Blk w7 w6.heap.size #[.int .i64 p', VM q'] 25) := by
          have hb := Blk.new w6 #[.int .i64 p', VM q'] 25
          rw [← hw7]; exact hb
        rw [hw7]
        have HU7 := Lib.hid (HU6.out.trans hu (fun _ _ h => h))
        clear hw7 hu
        clear c_e_0 c_e_1 c_p_0 c_p_1
        have c_e_0 : w7.cell? ⟨w.heap.size, 0, none⟩ = some (.int .i64 o) := HQ_e.out.cell 0
        have c_e_1 : w7.cell? ⟨w.heap.size, 1, none⟩ = some (VM s) := HQ_e.out.cell 1
        have c_p_0 : w7.cell? ⟨w2.heap.size, 0, none⟩ = some (.int .i64 p) := HQ_p.out.cell 0
        have c_p_1 : w7.cell? ⟨w2.heap.size, 1, none⟩ = some (VM q) := HQ_p.out.cell 1
        have c_b_0 : w7.cell? ⟨w6.heap.size, 0, none⟩ = some (.int .i64 p') := HQ_b.out.cell 0
        have c_b_1 : w7.cell? ⟨w6.heap.size, 1, none⟩ = some (VM q') := HQ_b.out.cell 1
        go_region_held3 (fun W => Upd NoF w W ∧ Blk W w.heap.size #[.int .i64 o, VM s] 25 ∧ Blk W w2.heap.size #[.int .i64 p, VM q] 25 ∧ Blk W w6.heap.size #[.int .i64 p', VM q'] 25 ∧ W.cell? ⟨w.heap.size, 0, none⟩ = some (.int .i64 o) ∧ W.cell? ⟨w.heap.size, 1, none⟩ = some (VM s) ∧ W.cell? ⟨w2.heap.size, 0, none⟩ = some (.int .i64 p) ∧ W.cell? ⟨w2.heap.size, 1, none⟩ = some (VM q) ∧ W.cell? ⟨w6.heap.size, 0, none⟩ = some (.int .i64 p') ∧ W.cell? ⟨w6.heap.size, 1, none⟩ = some (VM q')) (first | assumption | exact ⟨HU7.out.trans (Upd.drew NoF w7) (fun _ _ h => h), HQ_e.out.upd (Upd.drew NoF w7) (fun h => h), HQ_p.out.upd (Upd.drew NoF w7) (fun h => h), HQ_b.out.upd (Upd.drew NoF w7) (fun h => h), c_e_0, c_e_1, c_p_0, c_p_1, c_b_0, c_b_1⟩) (first | (go_at_call_of 20 o; have hS : Upd NoF w _ ∧ _ := ‹_›; refine (HK.out _).mono ?_; rintro e wm2 ⟨rfl, hu⟩; have hS' : (fun W => Upd NoF w W ∧ Blk W w.heap.size #[.int .i64 o, VM s] 25 ∧ Blk W w2.heap.size #[.int .i64 p, VM q] 25 ∧ Blk W w6.heap.size #[.int .i64 p', VM q'] 25 ∧ W.cell? ⟨w.heap.size, 0, none⟩ = some (.int .i64 o) ∧ W.cell? ⟨w.heap.size, 1, none⟩ = some (VM s) ∧ W.cell? ⟨w2.heap.size, 0, none⟩ = some (.int .i64 p) ∧ W.cell? ⟨w2.heap.size, 1, none⟩ = some (VM q) ∧ W.cell? ⟨w6.heap.size, 0, none⟩ = some (.int .i64 p') ∧ W.cell? ⟨w6.heap.size, 1, none⟩ = some (VM q')) wm2 := ⟨hS.1.trans hu (fun _ _ h => h), hS.2.1.upd hu (fun h => h), hS.2.2.1.upd hu (fun h => h), hS.2.2.2.1.upd hu (fun h => h), (hS.2.1.upd hu (fun h => h)).cell 0, (hS.2.1.upd hu (fun h => h)).cell 1, (hS.2.2.1.upd hu (fun h => h)).cell 0, (hS.2.2.1.upd hu (fun h => h)).cell 1, (hS.2.2.2.1.upd hu (fun h => h)).cell 0, (hS.2.2.2.1.upd hu (fun h => h)).cell 1⟩; clear hu hS) | (go_at_call_of 20 p'; have hS : Upd NoF w _ ∧ _ := ‹_›; refine (HG.out _).mono ?_; rintro e wm2 ⟨rfl, hu⟩; have hS' : (fun W => Upd NoF w W ∧ Blk W w.heap.size #[.int .i64 o, VM s] 25 ∧ Blk W w2.heap.size #[.int .i64 p, VM q] 25 ∧ Blk W w6.heap.size #[.int .i64 p', VM q'] 25 ∧ W.cell? ⟨w.heap.size, 0, none⟩ = some (.int .i64 o) ∧ W.cell? ⟨w.heap.size, 1, none⟩ = some (VM s) ∧ W.cell? ⟨w2.heap.size, 0, none⟩ = some (.int .i64 p) ∧ W.cell? ⟨w2.heap.size, 1, none⟩ = some (VM q) ∧ W.cell? ⟨w6.heap.size, 0, none⟩ = some (.int .i64 p') ∧ W.cell? ⟨w6.heap.size, 1, none⟩ = some (VM q')) wm2 := ⟨hS.1.trans hu (fun _ _ h => h), hS.2.1.upd hu (fun h => h), hS.2.2.1.upd hu (fun h => h), hS.2.2.2.1.upd hu (fun h => h), (hS.2.1.upd hu (fun h => h)).cell 0, (hS.2.1.upd hu (fun h => h)).cell 1, (hS.2.2.1.upd hu (fun h => h)).cell 0, (hS.2.2.1.upd hu (fun h => h)).cell 1, (hS.2.2.2.1.upd hu (fun h => h)).cell 0, (hS.2.2.2.1.upd hu (fun h => h)).cell 1⟩; clear hu hS))
        obtain ⟨hU, hq_e, hq_p, hq_b, hc_e_0, hc_e_1, hc_p_0, hc_p_1, hc_b_0, hc_b_1⟩ : Upd NoF w wm2 ∧ _ := ‹Upd NoF w wm2 ∧ _›
        have HU8 := Lib.hid hU
        replace HQ_e := Lib.hid hq_e
        replace HQ_p := Lib.hid hq_p
        replace HQ_b := Lib.hid hq_b
        clear hU hq_e hq_p hq_b hc_e_0 hc_e_1 hc_p_0 hc_p_1 hc_b_0 hc_b_1
        clear c_e_0 c_e_1 c_p_0 c_p_1 c_b_0 c_b_1
        have c_e_0 : wm2.cell? ⟨w.heap.size, 0, none⟩ = some (.int .i64 o) := HQ_e.out.cell 0
        have c_e_1 : wm2.cell? ⟨w.heap.size, 1, none⟩ = some (VM s) := HQ_e.out.cell 1
        have c_p_0 : wm2.cell? ⟨w2.heap.size, 0, none⟩ = some (.int .i64 p) := HQ_p.out.cell 0
        have c_p_1 : wm2.cell? ⟨w2.heap.size, 1, none⟩ = some (VM q) := HQ_p.out.cell 1
        have c_b_0 : wm2.cell? ⟨w6.heap.size, 0, none⟩ = some (.int .i64 p') := HQ_b.out.cell 0
        have c_b_1 : wm2.cell? ⟨w6.heap.size, 1, none⟩ = some (VM q') := HQ_b.out.cell 1
        go_wp2_with (go_at_call 23; refine (HY.out _).mono ?_; rintro e w' ⟨rfl, rfl⟩)
        refine (works_e wm2 (HT.out.upd HU8.out (fun h => h))).mono ?_
        rintro e w9 ⟨rfl, hu⟩
        have HU9 := Lib.hid (HU8.out.trans hu (fun _ _ h => h))
        replace HQ_e := Lib.hid (HQ_e.out.upd hu (fun h => h))
        replace HQ_p := Lib.hid (HQ_p.out.upd hu (fun h => h))
        replace HQ_b := Lib.hid (HQ_b.out.upd hu (fun h => h))
        clear hu
        clear c_e_0 c_e_1 c_p_0 c_p_1 c_b_0 c_b_1
        have c_e_0 : w9.cell? ⟨w.heap.size, 0, none⟩ = some (.int .i64 o) := HQ_e.out.cell 0
        have c_e_1 : w9.cell? ⟨w.heap.size, 1, none⟩ = some (VM s) := HQ_e.out.cell 1
        have c_p_0 : w9.cell? ⟨w2.heap.size, 0, none⟩ = some (.int .i64 p) := HQ_p.out.cell 0
        have c_p_1 : w9.cell? ⟨w2.heap.size, 1, none⟩ = some (VM q) := HQ_p.out.cell 1
        have c_b_0 : w9.cell? ⟨w6.heap.size, 0, none⟩ = some (.int .i64 p') := HQ_b.out.cell 0
        have c_b_1 : w9.cell? ⟨w6.heap.size, 1, none⟩ = some (VM q') := HQ_b.out.cell 1
        go_wp2
        go_ret
        exact ⟨rfl, (HU9.out.toFrom (B := w.heap.size)).belowFrom (Nat.le_refl _)⟩
      · have hgb : ((d2.toNat : Int) == 0) = true := by simp [hg2 rfl]
        clear hg2
        go_enter Tryd.func8, Tryd.ntmps8
        go_wp2_with fail
        obtain ⟨w0, hw0⟩ : ∃ W, (w.alloc (.cells #[.int .i64 o, VM s] 25)) = W := ⟨_, rfl⟩
        have hu : Upd NoF w w0 := by rw [← hw0]; exact Upd.alloc NoF w _
        have HQ_e : Hid (Blk w0 w.heap.size #[.int .i64 o, VM s] 25) := by
          have hb := Blk.new w #[.int .i64 o, VM s] 25
          rw [← hw0]; exact hb
        rw [hw0]
        have HU0 := Lib.hid hu
        clear hw0 hu
        have c_e_0 : w0.cell? ⟨w.heap.size, 0, none⟩ = some (.int .i64 o) := HQ_e.out.cell 0
        have c_e_1 : w0.cell? ⟨w.heap.size, 1, none⟩ = some (VM s) := HQ_e.out.cell 1
        refine (HA.out w0 (HT.out.upd HU0.out (fun h => h))).mono ?_
        rintro e w1 ⟨rfl, hu⟩
        have HU1 := Lib.hid (HU0.out.trans hu (fun _ _ h => h))
        replace HQ_e := Lib.hid (HQ_e.out.upd hu (fun h => h))
        clear hu
        clear c_e_0 c_e_1
        have c_e_0 : w1.cell? ⟨w.heap.size, 0, none⟩ = some (.int .i64 o) := HQ_e.out.cell 0
        have c_e_1 : w1.cell? ⟨w.heap.size, 1, none⟩ = some (VM s) := HQ_e.out.cell 1
        go_wp2_with fail
        refine (HC.out w1 (HT.out.upd HU1.out (fun h => h))).mono ?_
        rintro e w2 ⟨rfl, hu⟩
        have HU2 := Lib.hid (HU1.out.trans hu (fun _ _ h => h))
        replace HQ_e := Lib.hid (HQ_e.out.upd hu (fun h => h))
        clear hu
        clear c_e_0 c_e_1
        have c_e_0 : w2.cell? ⟨w.heap.size, 0, none⟩ = some (.int .i64 o) := HQ_e.out.cell 0
        have c_e_1 : w2.cell? ⟨w.heap.size, 1, none⟩ = some (VM s) := HQ_e.out.cell 1
        go_wp2_with fail
        obtain ⟨w3, hw3⟩ : ∃ W, (w2.alloc (.cells #[.int .i64 p, VM q] 25)) = W := ⟨_, rfl⟩
        have hu : Upd NoF w2 w3 := by rw [← hw3]; exact Upd.alloc NoF w2 _
        replace HQ_e := Lib.hid (HQ_e.out.upd hu (fun h => h))
        have HQ_p : Hid (Blk w3 w2.heap.size #[.int .i64 p, VM q] 25) := by
          have hb := Blk.new w2 #[.int .i64 p, VM q] 25
          rw [← hw3]; exact hb
        rw [hw3]
        have HU3 := Lib.hid (HU2.out.trans hu (fun _ _ h => h))
        clear hw3 hu
        clear c_e_0 c_e_1
        have c_e_0 : w3.cell? ⟨w.heap.size, 0, none⟩ = some (.int .i64 o) := HQ_e.out.cell 0
        have c_e_1 : w3.cell? ⟨w.heap.size, 1, none⟩ = some (VM s) := HQ_e.out.cell 1
        have c_p_0 : w3.cell? ⟨w2.heap.size, 0, none⟩ = some (.int .i64 p) := HQ_p.out.cell 0
        have c_p_1 : w3.cell? ⟨w2.heap.size, 1, none⟩ = some (VM q) := HQ_p.out.cell 1
        go_region_held3 (fun W => Upd NoF w W ∧ Blk W w.heap.size #[.int .i64 o, VM s] 25 ∧ Blk W w2.heap.size #[.int .i64 p, VM q] 25 ∧ W.cell? ⟨w.heap.size, 0, none⟩ = some (.int .i64 o) ∧ W.cell? ⟨w.heap.size, 1, none⟩ = some (VM s) ∧ W.cell? ⟨w2.heap.size, 0, none⟩ = some (.int .i64 p) ∧ W.cell? ⟨w2.heap.size, 1, none⟩ = some (VM q)) (first | assumption | exact ⟨HU3.out.trans (Upd.drew NoF w3) (fun _ _ h => h), HQ_e.out.upd (Upd.drew NoF w3) (fun h => h), HQ_p.out.upd (Upd.drew NoF w3) (fun h => h), c_e_0, c_e_1, c_p_0, c_p_1⟩) (first | (go_at_call_of 20 o; have hS : Upd NoF w _ ∧ _ := ‹_›; refine (HK.out _).mono ?_; rintro e wm1 ⟨rfl, hu⟩; have hS' : (fun W => Upd NoF w W ∧ Blk W w.heap.size #[.int .i64 o, VM s] 25 ∧ Blk W w2.heap.size #[.int .i64 p, VM q] 25 ∧ W.cell? ⟨w.heap.size, 0, none⟩ = some (.int .i64 o) ∧ W.cell? ⟨w.heap.size, 1, none⟩ = some (VM s) ∧ W.cell? ⟨w2.heap.size, 0, none⟩ = some (.int .i64 p) ∧ W.cell? ⟨w2.heap.size, 1, none⟩ = some (VM q)) wm1 := ⟨hS.1.trans hu (fun _ _ h => h), hS.2.1.upd hu (fun h => h), hS.2.2.1.upd hu (fun h => h), (hS.2.1.upd hu (fun h => h)).cell 0, (hS.2.1.upd hu (fun h => h)).cell 1, (hS.2.2.1.upd hu (fun h => h)).cell 0, (hS.2.2.1.upd hu (fun h => h)).cell 1⟩; clear hu hS) | (go_at_call_of 20 p; have hS : Upd NoF w _ ∧ _ := ‹_›; refine (HN.out _).mono ?_; rintro e wm1 ⟨rfl, hu⟩; have hS' : (fun W => Upd NoF w W ∧ Blk W w.heap.size #[.int .i64 o, VM s] 25 ∧ Blk W w2.heap.size #[.int .i64 p, VM q] 25 ∧ W.cell? ⟨w.heap.size, 0, none⟩ = some (.int .i64 o) ∧ W.cell? ⟨w.heap.size, 1, none⟩ = some (VM s) ∧ W.cell? ⟨w2.heap.size, 0, none⟩ = some (.int .i64 p) ∧ W.cell? ⟨w2.heap.size, 1, none⟩ = some (VM q)) wm1 := ⟨hS.1.trans hu (fun _ _ h => h), hS.2.1.upd hu (fun h => h), hS.2.2.1.upd hu (fun h => h), (hS.2.1.upd hu (fun h => h)).cell 0, (hS.2.1.upd hu (fun h => h)).cell 1, (hS.2.2.1.upd hu (fun h => h)).cell 0, (hS.2.2.1.upd hu (fun h => h)).cell 1⟩; clear hu hS) | (go_at_call 23; have hS : Upd NoF w _ ∧ _ := ‹_›; refine (NOFW (HX.out _)).mono ?_; rintro e wm1 ⟨rfl, hu⟩; have hS' : (fun W => Upd NoF w W ∧ Blk W w.heap.size #[.int .i64 o, VM s] 25 ∧ Blk W w2.heap.size #[.int .i64 p, VM q] 25 ∧ W.cell? ⟨w.heap.size, 0, none⟩ = some (.int .i64 o) ∧ W.cell? ⟨w.heap.size, 1, none⟩ = some (VM s) ∧ W.cell? ⟨w2.heap.size, 0, none⟩ = some (.int .i64 p) ∧ W.cell? ⟨w2.heap.size, 1, none⟩ = some (VM q)) wm1 := ⟨hS.1.trans hu (fun _ _ h => h), hS.2.1.upd hu (fun h => h), hS.2.2.1.upd hu (fun h => h), (hS.2.1.upd hu (fun h => h)).cell 0, (hS.2.1.upd hu (fun h => h)).cell 1, (hS.2.2.1.upd hu (fun h => h)).cell 0, (hS.2.2.1.upd hu (fun h => h)).cell 1⟩; clear hu hS))
        obtain ⟨hU, hq_e, hq_p, hc_e_0, hc_e_1, hc_p_0, hc_p_1⟩ : Upd NoF w wm1 ∧ _ := ‹Upd NoF w wm1 ∧ _›
        have HU4 := Lib.hid hU
        replace HQ_e := Lib.hid hq_e
        replace HQ_p := Lib.hid hq_p
        clear hU hq_e hq_p hc_e_0 hc_e_1 hc_p_0 hc_p_1
        clear c_e_0 c_e_1 c_p_0 c_p_1
        have c_e_0 : wm1.cell? ⟨w.heap.size, 0, none⟩ = some (.int .i64 o) := HQ_e.out.cell 0
        have c_e_1 : wm1.cell? ⟨w.heap.size, 1, none⟩ = some (VM s) := HQ_e.out.cell 1
        have c_p_0 : wm1.cell? ⟨w2.heap.size, 0, none⟩ = some (.int .i64 p) := HQ_p.out.cell 0
        have c_p_1 : wm1.cell? ⟨w2.heap.size, 1, none⟩ = some (VM q) := HQ_p.out.cell 1
        go_wp2_with fail
        refine (HK.out wm1).mono ?_
        rintro e w5 ⟨rfl, hu⟩
        have HU5 := Lib.hid (HU4.out.trans hu (fun _ _ h => h))
        replace HQ_e := Lib.hid (HQ_e.out.upd hu (fun h => h))
        replace HQ_p := Lib.hid (HQ_p.out.upd hu (fun h => h))
        clear hu
        clear c_e_0 c_e_1 c_p_0 c_p_1
        have c_e_0 : w5.cell? ⟨w.heap.size, 0, none⟩ = some (.int .i64 o) := HQ_e.out.cell 0
        have c_e_1 : w5.cell? ⟨w.heap.size, 1, none⟩ = some (VM s) := HQ_e.out.cell 1
        have c_p_0 : w5.cell? ⟨w2.heap.size, 0, none⟩ = some (.int .i64 p) := HQ_p.out.cell 0
        have c_p_1 : w5.cell? ⟨w2.heap.size, 1, none⟩ = some (VM q) := HQ_p.out.cell 1
        go_wp2_with fail
        refine (HB.out w5 (HT.out.upd HU5.out (fun h => h))).mono ?_
        rintro e w6 ⟨rfl, hu⟩
        have HU6 := Lib.hid (HU5.out.trans hu (fun _ _ h => h))
        replace HQ_e := Lib.hid (HQ_e.out.upd hu (fun h => h))
        replace HQ_p := Lib.hid (HQ_p.out.upd hu (fun h => h))
        clear hu
        clear c_e_0 c_e_1 c_p_0 c_p_1
        have c_e_0 : w6.cell? ⟨w.heap.size, 0, none⟩ = some (.int .i64 o) := HQ_e.out.cell 0
        have c_e_1 : w6.cell? ⟨w.heap.size, 1, none⟩ = some (VM s) := HQ_e.out.cell 1
        have c_p_0 : w6.cell? ⟨w2.heap.size, 0, none⟩ = some (.int .i64 p) := HQ_p.out.cell 0
        have c_p_1 : w6.cell? ⟨w2.heap.size, 1, none⟩ = some (VM q) := HQ_p.out.cell 1
        go_wp2_with fail
        obtain ⟨w7, hw7⟩ : ∃ W, (w6.alloc (.cells #[.int .i64 p', VM q'] 25)) = W := ⟨_, rfl⟩
        have hu : Upd NoF w6 w7 := by rw [← hw7]; exact Upd.alloc NoF w6 _
        replace HQ_e := Lib.hid (HQ_e.out.upd hu (fun h => h))
        replace HQ_p := Lib.hid (HQ_p.out.upd hu (fun h => h))
        have HQ_b : Hid (Blk w7 w6.heap.size #[.int .i64 p', VM q'] 25) := by
          have hb := Blk.new w6 #[.int .i64 p', VM q'] 25
          rw [← hw7]; exact hb
        rw [hw7]
        have HU7 := Lib.hid (HU6.out.trans hu (fun _ _ h => h))
        clear hw7 hu
        clear c_e_0 c_e_1 c_p_0 c_p_1
        have c_e_0 : w7.cell? ⟨w.heap.size, 0, none⟩ = some (.int .i64 o) := HQ_e.out.cell 0
        have c_e_1 : w7.cell? ⟨w.heap.size, 1, none⟩ = some (VM s) := HQ_e.out.cell 1
        have c_p_0 : w7.cell? ⟨w2.heap.size, 0, none⟩ = some (.int .i64 p) := HQ_p.out.cell 0
        have c_p_1 : w7.cell? ⟨w2.heap.size, 1, none⟩ = some (VM q) := HQ_p.out.cell 1
        have c_b_0 : w7.cell? ⟨w6.heap.size, 0, none⟩ = some (.int .i64 p') := HQ_b.out.cell 0
        have c_b_1 : w7.cell? ⟨w6.heap.size, 1, none⟩ = some (VM q') := HQ_b.out.cell 1
        go_region_held3 (fun W => Upd NoF w W ∧ Blk W w.heap.size #[.int .i64 o, VM s] 25 ∧ Blk W w2.heap.size #[.int .i64 p, VM q] 25 ∧ Blk W w6.heap.size #[.int .i64 p', VM q'] 25 ∧ W.cell? ⟨w.heap.size, 0, none⟩ = some (.int .i64 o) ∧ W.cell? ⟨w.heap.size, 1, none⟩ = some (VM s) ∧ W.cell? ⟨w2.heap.size, 0, none⟩ = some (.int .i64 p) ∧ W.cell? ⟨w2.heap.size, 1, none⟩ = some (VM q) ∧ W.cell? ⟨w6.heap.size, 0, none⟩ = some (.int .i64 p') ∧ W.cell? ⟨w6.heap.size, 1, none⟩ = some (VM q')) (first | assumption | exact ⟨HU7.out.trans (Upd.drew NoF w7) (fun _ _ h => h), HQ_e.out.upd (Upd.drew NoF w7) (fun h => h), HQ_p.out.upd (Upd.drew NoF w7) (fun h => h), HQ_b.out.upd (Upd.drew NoF w7) (fun h => h), c_e_0, c_e_1, c_p_0, c_p_1, c_b_0, c_b_1⟩) (first | (go_at_call_of 20 o; have hS : Upd NoF w _ ∧ _ := ‹_›; refine (HK.out _).mono ?_; rintro e wm2 ⟨rfl, hu⟩; have hS' : (fun W => Upd NoF w W ∧ Blk W w.heap.size #[.int .i64 o, VM s] 25 ∧ Blk W w2.heap.size #[.int .i64 p, VM q] 25 ∧ Blk W w6.heap.size #[.int .i64 p', VM q'] 25 ∧ W.cell? ⟨w.heap.size, 0, none⟩ = some (.int .i64 o) ∧ W.cell? ⟨w.heap.size, 1, none⟩ = some (VM s) ∧ W.cell? ⟨w2.heap.size, 0, none⟩ = some (.int .i64 p) ∧ W.cell? ⟨w2.heap.size, 1, none⟩ = some (VM q) ∧ W.cell? ⟨w6.heap.size, 0, none⟩ = some (.int .i64 p') ∧ W.cell? ⟨w6.heap.size, 1, none⟩ = some (VM q')) wm2 := ⟨hS.1.trans hu (fun _ _ h => h), hS.2.1.upd hu (fun h => h), hS.2.2.1.upd hu (fun h => h), hS.2.2.2.1.upd hu (fun h => h), (hS.2.1.upd hu (fun h => h)).cell 0, (hS.2.1.upd hu (fun h => h)).cell 1, (hS.2.2.1.upd hu (fun h => h)).cell 0, (hS.2.2.1.upd hu (fun h => h)).cell 1, (hS.2.2.2.1.upd hu (fun h => h)).cell 0, (hS.2.2.2.1.upd hu (fun h => h)).cell 1⟩; clear hu hS) | (go_at_call_of 20 p'; have hS : Upd NoF w _ ∧ _ := ‹_›; refine (HG.out _).mono ?_; rintro e wm2 ⟨rfl, hu⟩; have hS' : (fun W => Upd NoF w W ∧ Blk W w.heap.size #[.int .i64 o, VM s] 25 ∧ Blk W w2.heap.size #[.int .i64 p, VM q] 25 ∧ Blk W w6.heap.size #[.int .i64 p', VM q'] 25 ∧ W.cell? ⟨w.heap.size, 0, none⟩ = some (.int .i64 o) ∧ W.cell? ⟨w.heap.size, 1, none⟩ = some (VM s) ∧ W.cell? ⟨w2.heap.size, 0, none⟩ = some (.int .i64 p) ∧ W.cell? ⟨w2.heap.size, 1, none⟩ = some (VM q) ∧ W.cell? ⟨w6.heap.size, 0, none⟩ = some (.int .i64 p') ∧ W.cell? ⟨w6.heap.size, 1, none⟩ = some (VM q')) wm2 := ⟨hS.1.trans hu (fun _ _ h => h), hS.2.1.upd hu (fun h => h), hS.2.2.1.upd hu (fun h => h), hS.2.2.2.1.upd hu (fun h => h), (hS.2.1.upd hu (fun h => h)).cell 0, (hS.2.1.upd hu (fun h => h)).cell 1, (hS.2.2.1.upd hu (fun h => h)).cell 0, (hS.2.2.1.upd hu (fun h => h)).cell 1, (hS.2.2.2.1.upd hu (fun h => h)).cell 0, (hS.2.2.2.1.upd hu (fun h => h)).cell 1⟩; clear hu hS))
        obtain ⟨hU, hq_e, hq_p, hq_b, hc_e_0, hc_e_1, hc_p_0, hc_p_1, hc_b_0, hc_b_1⟩ : Upd NoF w wm2 ∧ _ := ‹Upd NoF w wm2 ∧ _›
        have HU8 := Lib.hid hU
        replace HQ_e := Lib.hid hq_e
        replace HQ_p := Lib.hid hq_p
        replace HQ_b := Lib.hid hq_b
        clear hU hq_e hq_p hq_b hc_e_0 hc_e_1 hc_p_0 hc_p_1 hc_b_0 hc_b_1
        clear c_e_0 c_e_1 c_p_0 c_p_1 c_b_0 c_b_1
        have c_e_0 : wm2.cell? ⟨w.heap.size, 0, none⟩ = some (.int .i64 o) := HQ_e.out.cell 0
        have c_e_1 : wm2.cell? ⟨w.heap.size, 1, none⟩ = some (VM s) := HQ_e.out.cell 1
        have c_p_0 : wm2.cell? ⟨w2.heap.size, 0, none⟩ = some (.int .i64 p) := HQ_p.out.cell 0
        have c_p_1 : wm2.cell? ⟨w2.heap.size, 1, none⟩ = some (VM q) := HQ_p.out.cell 1
        have c_b_0 : wm2.cell? ⟨w6.heap.size, 0, none⟩ = some (.int .i64 p') := HQ_b.out.cell 0
        have c_b_1 : wm2.cell? ⟨w6.heap.size, 1, none⟩ = some (VM q') := HQ_b.out.cell 1
        go_wp2_with (go_at_call 23; refine (HY.out _).mono ?_; rintro e w' ⟨rfl, rfl⟩)
        refine (works_e wm2 (HT.out.upd HU8.out (fun h => h))).mono ?_
        rintro e w9 ⟨rfl, hu⟩
        have HU9 := Lib.hid (HU8.out.trans hu (fun _ _ h => h))
        replace HQ_e := Lib.hid (HQ_e.out.upd hu (fun h => h))
        replace HQ_p := Lib.hid (HQ_p.out.upd hu (fun h => h))
        replace HQ_b := Lib.hid (HQ_b.out.upd hu (fun h => h))
        clear hu
        clear c_e_0 c_e_1 c_p_0 c_p_1 c_b_0 c_b_1
        have c_e_0 : w9.cell? ⟨w.heap.size, 0, none⟩ = some (.int .i64 o) := HQ_e.out.cell 0
        have c_e_1 : w9.cell? ⟨w.heap.size, 1, none⟩ = some (VM s) := HQ_e.out.cell 1
        have c_p_0 : w9.cell? ⟨w2.heap.size, 0, none⟩ = some (.int .i64 p) := HQ_p.out.cell 0
        have c_p_1 : w9.cell? ⟨w2.heap.size, 1, none⟩ = some (VM q) := HQ_p.out.cell 1
        have c_b_0 : w9.cell? ⟨w6.heap.size, 0, none⟩ = some (.int .i64 p') := HQ_b.out.cell 0
        have c_b_1 : w9.cell? ⟨w6.heap.size, 1, none⟩ = some (VM q') := HQ_b.out.cell 1
        go_wp2
        go_ret
        exact ⟨rfl, (HU9.out.toFrom (B := w.heap.size)).belowFrom (Nat.le_refl _)⟩
    · have hlb : ((lo.toNat : Int) != 0) = true := by
        have : lo.toNat ≠ 0 := fun e => hlz (BitVec.eq_of_toNat_eq (by simpa using e))
        simp; omega
      obtain rfl : k = 2 := hl2.resolve_right hlz
      clear hl2 hlz
      cases stick
      · clear hg2
        go_enter Tryd.func8, Tryd.ntmps8
        go_wp2_with fail
        obtain ⟨w0, hw0⟩ : ∃ W, (w.alloc (.cells #[.int .i64 o, VM s] 25)) = W := ⟨_, rfl⟩
        have hu : Upd NoF w w0 := by rw [← hw0]; exact Upd.alloc NoF w _
        have HQ_e : Hid (Blk w0 w.heap.size #[.int .i64 o, VM s] 25) := by
          have hb := Blk.new w #[.int .i64 o, VM s] 25
          rw [← hw0]; exact hb
        rw [hw0]
        have HU0 := Lib.hid hu
        clear hw0 hu
        have c_e_0 : w0.cell? ⟨w.heap.size, 0, none⟩ = some (.int .i64 o) := HQ_e.out.cell 0
        have c_e_1 : w0.cell? ⟨w.heap.size, 1, none⟩ = some (VM s) := HQ_e.out.cell 1
        refine (HA.out w0 (HT.out.upd HU0.out (fun h => h))).mono ?_
        rintro e w1 ⟨rfl, hu⟩
        have HU1 := Lib.hid (HU0.out.trans hu (fun _ _ h => h))
        replace HQ_e := Lib.hid (HQ_e.out.upd hu (fun h => h))
        clear hu
        clear c_e_0 c_e_1
        have c_e_0 : w1.cell? ⟨w.heap.size, 0, none⟩ = some (.int .i64 o) := HQ_e.out.cell 0
        have c_e_1 : w1.cell? ⟨w.heap.size, 1, none⟩ = some (VM s) := HQ_e.out.cell 1
        go_wp2_with fail
        refine (HC.out w1 (HT.out.upd HU1.out (fun h => h))).mono ?_
        rintro e w2 ⟨rfl, hu⟩
        have HU2 := Lib.hid (HU1.out.trans hu (fun _ _ h => h))
        replace HQ_e := Lib.hid (HQ_e.out.upd hu (fun h => h))
        clear hu
        clear c_e_0 c_e_1
        have c_e_0 : w2.cell? ⟨w.heap.size, 0, none⟩ = some (.int .i64 o) := HQ_e.out.cell 0
        have c_e_1 : w2.cell? ⟨w.heap.size, 1, none⟩ = some (VM s) := HQ_e.out.cell 1
        go_wp2_with fail
        obtain ⟨w3, hw3⟩ : ∃ W, (w2.alloc (.cells #[.int .i64 p, VM q] 25)) = W := ⟨_, rfl⟩
        have hu : Upd NoF w2 w3 := by rw [← hw3]; exact Upd.alloc NoF w2 _
        replace HQ_e := Lib.hid (HQ_e.out.upd hu (fun h => h))
        have HQ_p : Hid (Blk w3 w2.heap.size #[.int .i64 p, VM q] 25) := by
          have hb := Blk.new w2 #[.int .i64 p, VM q] 25
          rw [← hw3]; exact hb
        rw [hw3]
        have HU3 := Lib.hid (HU2.out.trans hu (fun _ _ h => h))
        clear hw3 hu
        clear c_e_0 c_e_1
        have c_e_0 : w3.cell? ⟨w.heap.size, 0, none⟩ = some (.int .i64 o) := HQ_e.out.cell 0
        have c_e_1 : w3.cell? ⟨w.heap.size, 1, none⟩ = some (VM s) := HQ_e.out.cell 1
        have c_p_0 : w3.cell? ⟨w2.heap.size, 0, none⟩ = some (.int .i64 p) := HQ_p.out.cell 0
        have c_p_1 : w3.cell? ⟨w2.heap.size, 1, none⟩ = some (VM q) := HQ_p.out.cell 1
        go_region_held3 (fun W => Upd NoF w W ∧ Blk W w.heap.size #[.int .i64 o, VM s] 25 ∧ Blk W w2.heap.size #[.int .i64 p, VM q] 25 ∧ W.cell? ⟨w.heap.size, 0, none⟩ = some (.int .i64 o) ∧ W.cell? ⟨w.heap.size, 1, none⟩ = some (VM s) ∧ W.cell? ⟨w2.heap.size, 0, none⟩ = some (.int .i64 p) ∧ W.cell? ⟨w2.heap.size, 1, none⟩ = some (VM q)) (first | assumption | exact ⟨HU3.out.trans (Upd.drew NoF w3) (fun _ _ h => h), HQ_e.out.upd (Upd.drew NoF w3) (fun h => h), HQ_p.out.upd (Upd.drew NoF w3) (fun h => h), c_e_0, c_e_1, c_p_0, c_p_1⟩) (first | (go_at_call_of 20 o; have hS : Upd NoF w _ ∧ _ := ‹_›; refine (HK.out _).mono ?_; rintro e wm1 ⟨rfl, hu⟩; have hS' : (fun W => Upd NoF w W ∧ Blk W w.heap.size #[.int .i64 o, VM s] 25 ∧ Blk W w2.heap.size #[.int .i64 p, VM q] 25 ∧ W.cell? ⟨w.heap.size, 0, none⟩ = some (.int .i64 o) ∧ W.cell? ⟨w.heap.size, 1, none⟩ = some (VM s) ∧ W.cell? ⟨w2.heap.size, 0, none⟩ = some (.int .i64 p) ∧ W.cell? ⟨w2.heap.size, 1, none⟩ = some (VM q)) wm1 := ⟨hS.1.trans hu (fun _ _ h => h), hS.2.1.upd hu (fun h => h), hS.2.2.1.upd hu (fun h => h), (hS.2.1.upd hu (fun h => h)).cell 0, (hS.2.1.upd hu (fun h => h)).cell 1, (hS.2.2.1.upd hu (fun h => h)).cell 0, (hS.2.2.1.upd hu (fun h => h)).cell 1⟩; clear hu hS) | (go_at_call_of 20 p; have hS : Upd NoF w _ ∧ _ := ‹_›; refine (HN.out _).mono ?_; rintro e wm1 ⟨rfl, hu⟩; have hS' : (fun W => Upd NoF w W ∧ Blk W w.heap.size #[.int .i64 o, VM s] 25 ∧ Blk W w2.heap.size #[.int .i64 p, VM q] 25 ∧ W.cell? ⟨w.heap.size, 0, none⟩ = some (.int .i64 o) ∧ W.cell? ⟨w.heap.size, 1, none⟩ = some (VM s) ∧ W.cell? ⟨w2.heap.size, 0, none⟩ = some (.int .i64 p) ∧ W.cell? ⟨w2.heap.size, 1, none⟩ = some (VM q)) wm1 := ⟨hS.1.trans hu (fun _ _ h => h), hS.2.1.upd hu (fun h => h), hS.2.2.1.upd hu (fun h => h), (hS.2.1.upd hu (fun h => h)).cell 0, (hS.2.1.upd hu (fun h => h)).cell 1, (hS.2.2.1.upd hu (fun h => h)).cell 0, (hS.2.2.1.upd hu (fun h => h)).cell 1⟩; clear hu hS) | (go_at_call 23; have hS : Upd NoF w _ ∧ _ := ‹_›; refine (NOFW (HX.out _)).mono ?_; rintro e wm1 ⟨rfl, hu⟩; have hS' : (fun W => Upd NoF w W ∧ Blk W w.heap.size #[.int .i64 o, VM s] 25 ∧ Blk W w2.heap.size #[.int .i64 p, VM q] 25 ∧ W.cell? ⟨w.heap.size, 0, none⟩ = some (.int .i64 o) ∧ W.cell? ⟨w.heap.size, 1, none⟩ = some (VM s) ∧ W.cell? ⟨w2.heap.size, 0, none⟩ = some (.int .i64 p) ∧ W.cell? ⟨w2.heap.size, 1, none⟩ = some (VM q)) wm1 := ⟨hS.1.trans hu (fun _ _ h => h), hS.2.1.upd hu (fun h => h), hS.2.2.1.upd hu (fun h => h), (hS.2.1.upd hu (fun h => h)).cell 0, (hS.2.1.upd hu (fun h => h)).cell 1, (hS.2.2.1.upd hu (fun h => h)).cell 0, (hS.2.2.1.upd hu (fun h => h)).cell 1⟩; clear hu hS))
        obtain ⟨hU, hq_e, hq_p, hc_e_0, hc_e_1, hc_p_0, hc_p_1⟩ : Upd NoF w wm1 ∧ _ := ‹Upd NoF w wm1 ∧ _›
        have HU4 := Lib.hid hU
        replace HQ_e := Lib.hid hq_e
        replace HQ_p := Lib.hid hq_p
        clear hU hq_e hq_p hc_e_0 hc_e_1 hc_p_0 hc_p_1
        clear c_e_0 c_e_1 c_p_0 c_p_1
        have c_e_0 : wm1.cell? ⟨w.heap.size, 0, none⟩ = some (.int .i64 o) := HQ_e.out.cell 0
        have c_e_1 : wm1.cell? ⟨w.heap.size, 1, none⟩ = some (VM s) := HQ_e.out.cell 1
        have c_p_0 : wm1.cell? ⟨w2.heap.size, 0, none⟩ = some (.int .i64 p) := HQ_p.out.cell 0
        have c_p_1 : wm1.cell? ⟨w2.heap.size, 1, none⟩ = some (VM q) := HQ_p.out.cell 1
        go_wp2_with fail
        refine (HK.out wm1).mono ?_
        rintro e w5 ⟨rfl, hu⟩
        have HU5 := Lib.hid (HU4.out.trans hu (fun _ _ h => h))
        replace HQ_e := Lib.hid (HQ_e.out.upd hu (fun h => h))
        replace HQ_p := Lib.hid (HQ_p.out.upd hu (fun h => h))
        clear hu
        clear c_e_0 c_e_1 c_p_0 c_p_1
        have c_e_0 : w5.cell? ⟨w.heap.size, 0, none⟩ = some (.int .i64 o) := HQ_e.out.cell 0
        have c_e_1 : w5.cell? ⟨w.heap.size, 1, none⟩ = some (VM s) := HQ_e.out.cell 1
        have c_p_0 : w5.cell? ⟨w2.heap.size, 0, none⟩ = some (.int .i64 p) := HQ_p.out.cell 0
        have c_p_1 : w5.cell? ⟨w2.heap.size, 1, none⟩ = some (VM q) := HQ_p.out.cell 1
        go_wp2_with fail
        refine (HB.out w5 (HT.out.upd HU5.out (fun h => h))).mono ?_
        rintro e w6 ⟨rfl, hu⟩
        have HU6 := Lib.hid (HU5.out.trans hu (fun _ _ h => h))
        replace HQ_e := Lib.hid (HQ_e.out.upd hu (fun h => h))
        replace HQ_p := Lib.hid (HQ_p.out.upd hu (fun h => h))
        clear hu
        clear c_e_0 c_e_1 c_p_0 c_p_1
        have c_e_0 : w6.cell? ⟨w.heap.size, 0, none⟩ = some (.int .i64 o) := HQ_e.out.cell 0
        have c_e_1 : w6.cell? ⟨w.heap.size, 1, none⟩ = some (VM s) := HQ_e.out.cell 1
        have c_p_0 : w6.cell? ⟨w2.heap.size, 0, none⟩ = some (.int .i64 p) := HQ_p.out.cell 0
        have c_p_1 : w6.cell? ⟨w2.heap.size, 1, none⟩ = some (VM q) := HQ_p.out.cell 1
        go_wp2_with fail
        obtain ⟨w7, hw7⟩ : ∃ W, (w6.alloc (.cells #[.int .i64 p', VM q'] 25)) = W := ⟨_, rfl⟩
        have hu : Upd NoF w6 w7 := by rw [← hw7]; exact Upd.alloc NoF w6 _
        replace HQ_e := Lib.hid (HQ_e.out.upd hu (fun h => h))
        replace HQ_p := Lib.hid (HQ_p.out.upd hu (fun h => h))
        have HQ_b : Hid (Blk w7 w6.heap.size #[.int .i64 p', VM q'] 25) := by
          have hb := Blk.new w6 #[.int .i64 p', VM q'] 25
          rw [← hw7]; exact hb
        rw [hw7]
        have HU7 := Lib.hid (HU6.out.trans hu (fun _ _ h => h))
        clear hw7 hu
        clear c_e_0 c_e_1 c_p_0 c_p_1
        have c_e_0 : w7.cell? ⟨w.heap.size, 0, none⟩ = some (.int .i64 o) := HQ_e.out.cell 0
        have c_e_1 : w7.cell? ⟨w.heap.size, 1, none⟩ = some (VM s) := HQ_e.out.cell 1
        have c_p_0 : w7.cell? ⟨w2.heap.size, 0, none⟩ = some (.int .i64 p) := HQ_p.out.cell 0
        have c_p_1 : w7.cell? ⟨w2.heap.size, 1, none⟩ = some (VM q) := HQ_p.out.cell 1
        have c_b_0 : w7.cell? ⟨w6.heap.size, 0, none⟩ = some (.int .i64 p') := HQ_b.out.cell 0
        have c_b_1 : w7.cell? ⟨w6.heap.size, 1, none⟩ = some (VM q') := HQ_b.out.cell 1
        go_region_held3 (fun W => Upd NoF w W ∧ Blk W w.heap.size #[.int .i64 o, VM s] 25 ∧ Blk W w2.heap.size #[.int .i64 p, VM q] 25 ∧ Blk W w6.heap.size #[.int .i64 p', VM q'] 25 ∧ W.cell? ⟨w.heap.size, 0, none⟩ = some (.int .i64 o) ∧ W.cell? ⟨w.heap.size, 1, none⟩ = some (VM s) ∧ W.cell? ⟨w2.heap.size, 0, none⟩ = some (.int .i64 p) ∧ W.cell? ⟨w2.heap.size, 1, none⟩ = some (VM q) ∧ W.cell? ⟨w6.heap.size, 0, none⟩ = some (.int .i64 p') ∧ W.cell? ⟨w6.heap.size, 1, none⟩ = some (VM q')) (first | assumption | exact ⟨HU7.out.trans (Upd.drew NoF w7) (fun _ _ h => h), HQ_e.out.upd (Upd.drew NoF w7) (fun h => h), HQ_p.out.upd (Upd.drew NoF w7) (fun h => h), HQ_b.out.upd (Upd.drew NoF w7) (fun h => h), c_e_0, c_e_1, c_p_0, c_p_1, c_b_0, c_b_1⟩) (first | (go_at_call_of 20 o; have hS : Upd NoF w _ ∧ _ := ‹_›; refine (HK.out _).mono ?_; rintro e wm2 ⟨rfl, hu⟩; have hS' : (fun W => Upd NoF w W ∧ Blk W w.heap.size #[.int .i64 o, VM s] 25 ∧ Blk W w2.heap.size #[.int .i64 p, VM q] 25 ∧ Blk W w6.heap.size #[.int .i64 p', VM q'] 25 ∧ W.cell? ⟨w.heap.size, 0, none⟩ = some (.int .i64 o) ∧ W.cell? ⟨w.heap.size, 1, none⟩ = some (VM s) ∧ W.cell? ⟨w2.heap.size, 0, none⟩ = some (.int .i64 p) ∧ W.cell? ⟨w2.heap.size, 1, none⟩ = some (VM q) ∧ W.cell? ⟨w6.heap.size, 0, none⟩ = some (.int .i64 p') ∧ W.cell? ⟨w6.heap.size, 1, none⟩ = some (VM q')) wm2 := ⟨hS.1.trans hu (fun _ _ h => h), hS.2.1.upd hu (fun h => h), hS.2.2.1.upd hu (fun h => h), hS.2.2.2.1.upd hu (fun h => h), (hS.2.1.upd hu (fun h => h)).cell 0, (hS.2.1.upd hu (fun h => h)).cell 1, (hS.2.2.1.upd hu (fun h => h)).cell 0, (hS.2.2.1.upd hu (fun h => h)).cell 1, (hS.2.2.2.1.upd hu (fun h => h)).cell 0, (hS.2.2.2.1.upd hu (fun h => h)).cell 1⟩; clear hu hS) | (go_at_call_of 20 p'; have hS : Upd NoF w _ ∧ _ := ‹_›; refine (HG.out _).mono ?_; rintro e wm2 ⟨rfl, hu⟩; have hS' : (fun W => Upd NoF w W ∧ Blk W w.heap.size #[.int .i64 o, VM s] 25 ∧ Blk W w2.heap.size #[.int .i64 p, VM q] 25 ∧ Blk W w6.heap.size #[.int .i64 p', VM q'] 25 ∧ W.cell? ⟨w.heap.size, 0, none⟩ = some (.int .i64 o) ∧ W.cell? ⟨w.heap.size, 1, none⟩ = some (VM s) ∧ W.cell? ⟨w2.heap.size, 0, none⟩ = some (.int .i64 p) ∧ W.cell? ⟨w2.heap.size, 1, none⟩ = some (VM q) ∧ W.cell? ⟨w6.heap.size, 0, none⟩ = some (.int .i64 p') ∧ W.cell? ⟨w6.heap.size, 1, none⟩ = some (VM q')) wm2 := ⟨hS.1.trans hu (fun _ _ h => h), hS.2.1.upd hu (fun h => h), hS.2.2.1.upd hu (fun h => h), hS.2.2.2.1.upd hu (fun h => h), (hS.2.1.upd hu (fun h => h)).cell 0, (hS.2.1.upd hu (fun h => h)).cell 1, (hS.2.2.1.upd hu (fun h => h)).cell 0, (hS.2.2.1.upd hu (fun h => h)).cell 1, (hS.2.2.2.1.upd hu (fun h => h)).cell 0, (hS.2.2.2.1.upd hu (fun h => h)).cell 1⟩; clear hu hS))
        obtain ⟨hU, hq_e, hq_p, hq_b, hc_e_0, hc_e_1, hc_p_0, hc_p_1, hc_b_0, hc_b_1⟩ : Upd NoF w wm2 ∧ _ := ‹Upd NoF w wm2 ∧ _›
        have HU8 := Lib.hid hU
        replace HQ_e := Lib.hid hq_e
        replace HQ_p := Lib.hid hq_p
        replace HQ_b := Lib.hid hq_b
        clear hU hq_e hq_p hq_b hc_e_0 hc_e_1 hc_p_0 hc_p_1 hc_b_0 hc_b_1
        clear c_e_0 c_e_1 c_p_0 c_p_1 c_b_0 c_b_1
        have c_e_0 : wm2.cell? ⟨w.heap.size, 0, none⟩ = some (.int .i64 o) := HQ_e.out.cell 0
        have c_e_1 : wm2.cell? ⟨w.heap.size, 1, none⟩ = some (VM s) := HQ_e.out.cell 1
        have c_p_0 : wm2.cell? ⟨w2.heap.size, 0, none⟩ = some (.int .i64 p) := HQ_p.out.cell 0
        have c_p_1 : wm2.cell? ⟨w2.heap.size, 1, none⟩ = some (VM q) := HQ_p.out.cell 1
        have c_b_0 : wm2.cell? ⟨w6.heap.size, 0, none⟩ = some (.int .i64 p') := HQ_b.out.cell 0
        have c_b_1 : wm2.cell? ⟨w6.heap.size, 1, none⟩ = some (VM q') := HQ_b.out.cell 1
        go_wp2_with (go_at_call 23; refine (HY.out _).mono ?_; rintro e w' ⟨rfl, rfl⟩)
        refine (works_e wm2 (HT.out.upd HU8.out (fun h => h))).mono ?_
        rintro e w9 ⟨rfl, hu⟩
        have HU9 := Lib.hid (HU8.out.trans hu (fun _ _ h => h))
        replace HQ_e := Lib.hid (HQ_e.out.upd hu (fun h => h))
        replace HQ_p := Lib.hid (HQ_p.out.upd hu (fun h => h))
        replace HQ_b := Lib.hid (HQ_b.out.upd hu (fun h => h))
        clear hu
        clear c_e_0 c_e_1 c_p_0 c_p_1 c_b_0 c_b_1
        have c_e_0 : w9.cell? ⟨w.heap.size, 0, none⟩ = some (.int .i64 o) := HQ_e.out.cell 0
        have c_e_1 : w9.cell? ⟨w.heap.size, 1, none⟩ = some (VM s) := HQ_e.out.cell 1
        have c_p_0 : w9.cell? ⟨w2.heap.size, 0, none⟩ = some (.int .i64 p) := HQ_p.out.cell 0
        have c_p_1 : w9.cell? ⟨w2.heap.size, 1, none⟩ = some (VM q) := HQ_p.out.cell 1
        have c_b_0 : w9.cell? ⟨w6.heap.size, 0, none⟩ = some (.int .i64 p') := HQ_b.out.cell 0
        have c_b_1 : w9.cell? ⟨w6.heap.size, 1, none⟩ = some (VM q') := HQ_b.out.cell 1
        go_wp2
        go_ret
        exact ⟨rfl, (HU9.out.toFrom (B := w.heap.size)).belowFrom (Nat.le_refl _)⟩
      · have hgb : ((d2.toNat : Int) == 0) = true := by simp [hg2 rfl]
        clear hg2
        go_enter Tryd.func8, Tryd.ntmps8
        go_wp2_with fail
        obtain ⟨w0, hw0⟩ : ∃ W, (w.alloc (.cells #[.int .i64 o, VM s] 25)) = W := ⟨_, rfl⟩
        have hu : Upd NoF w w0 := by rw [← hw0]; exact Upd.alloc NoF w _
        have HQ_e : Hid (Blk w0 w.heap.size #[.int .i64 o, VM s] 25) := by
          have hb := Blk.new w #[.int .i64 o, VM s] 25
          rw [← hw0]; exact hb
        rw [hw0]
        have HU0 := Lib.hid hu
        clear hw0 hu
        have c_e_0 : w0.cell? ⟨w.heap.size, 0, none⟩ = some (.int .i64 o) := HQ_e.out.cell 0
        have c_e_1 : w0.cell? ⟨w.heap.size, 1, none⟩ = some (VM s) := HQ_e.out.cell 1
        refine (HA.out w0 (HT.out.upd HU0.out (fun h => h))).mono ?_
        rintro e w1 ⟨rfl, hu⟩
        have HU1 := Lib.hid (HU0.out.trans hu (fun _ _ h => h))
        replace HQ_e := Lib.hid (HQ_e.out.upd hu (fun h => h))
        clear hu
        clear c_e_0 c_e_1
        have c_e_0 : w1.cell? ⟨w.heap.size, 0, none⟩ = some (.int .i64 o) := HQ_e.out.cell 0
        have c_e_1 : w1.cell? ⟨w.heap.size, 1, none⟩ = some (VM s) := HQ_e.out.cell 1
        go_wp2_with fail
        refine (HC.out w1 (HT.out.upd HU1.out (fun h => h))).mono ?_
        rintro e w2 ⟨rfl, hu⟩
        have HU2 := Lib.hid (HU1.out.trans hu (fun _ _ h => h))
        replace HQ_e := Lib.hid (HQ_e.out.upd hu (fun h => h))
        clear hu
        clear c_e_0 c_e_1
        have c_e_0 : w2.cell? ⟨w.heap.size, 0, none⟩ = some (.int .i64 o) := HQ_e.out.cell 0
        have c_e_1 : w2.cell? ⟨w.heap.size, 1, none⟩ = some (VM s) := HQ_e.out.cell 1
        go_wp2_with fail
        obtain ⟨w3, hw3⟩ : ∃ W, (w2.alloc (.cells #[.int .i64 p, VM q] 25)) = W := ⟨_, rfl⟩
        have hu : Upd NoF w2 w3 := by rw [← hw3]; exact Upd.alloc NoF w2 _
        replace HQ_e := Lib.hid (HQ_e.out.upd hu (fun h => h))
        have HQ_p : Hid (Blk w3 w2.heap.size #[.int .i64 p, VM q] 25) := by
          have hb := Blk.new w2 #[.int .i64 p, VM q] 25
          rw [← hw3]; exact hb
        rw [hw3]
        have HU3 := Lib.hid (HU2.out.trans hu (fun _ _ h => h))
        clear hw3 hu
        clear c_e_0 c_e_1
        have c_e_0 : w3.cell? ⟨w.heap.size, 0, none⟩ = some (.int .i64 o) := HQ_e.out.cell 0
        have c_e_1 : w3.cell? ⟨w.heap.size, 1, none⟩ = some (VM s) := HQ_e.out.cell 1
        have c_p_0 : w3.cell? ⟨w2.heap.size, 0, none⟩ = some (.int .i64 p) := HQ_p.out.cell 0
        have c_p_1 : w3.cell? ⟨w2.heap.size, 1, none⟩ = some (VM q) := HQ_p.out.cell 1
        go_region_held3 (fun W => Upd NoF w W ∧ Blk W w.heap.size #[.int .i64 o, VM s] 25 ∧ Blk W w2.heap.size #[.int .i64 p, VM q] 25 ∧ W.cell? ⟨w.heap.size, 0, none⟩ = some (.int .i64 o) ∧ W.cell? ⟨w.heap.size, 1, none⟩ = some (VM s) ∧ W.cell? ⟨w2.heap.size, 0, none⟩ = some (.int .i64 p) ∧ W.cell? ⟨w2.heap.size, 1, none⟩ = some (VM q)) (first | assumption | exact ⟨HU3.out.trans (Upd.drew NoF w3) (fun _ _ h => h), HQ_e.out.upd (Upd.drew NoF w3) (fun h => h), HQ_p.out.upd (Upd.drew NoF w3) (fun h => h), c_e_0, c_e_1, c_p_0, c_p_1⟩) (first | (go_at_call_of 20 o; have hS : Upd NoF w _ ∧ _ := ‹_›; refine (HK.out _).mono ?_; rintro e wm1 ⟨rfl, hu⟩; have hS' : (fun W => Upd NoF w W ∧ Blk W w.heap.size #[.int .i64 o, VM s] 25 ∧ Blk W w2.heap.size #[.int .i64 p, VM q] 25 ∧ W.cell? ⟨w.heap.size, 0, none⟩ = some (.int .i64 o) ∧ W.cell? ⟨w.heap.size, 1, none⟩ = some (VM s) ∧ W.cell? ⟨w2.heap.size, 0, none⟩ = some (.int .i64 p) ∧ W.cell? ⟨w2.heap.size, 1, none⟩ = some (VM q)) wm1 := ⟨hS.1.trans hu (fun _ _ h => h), hS.2.1.upd hu (fun h => h), hS.2.2.1.upd hu (fun h => h), (hS.2.1.upd hu (fun h => h)).cell 0, (hS.2.1.upd hu (fun h => h)).cell 1, (hS.2.2.1.upd hu (fun h => h)).cell 0, (hS.2.2.1.upd hu (fun h => h)).cell 1⟩; clear hu hS) | (go_at_call_of 20 p; have hS : Upd NoF w _ ∧ _ := ‹_›; refine (HN.out _).mono ?_; rintro e wm1 ⟨rfl, hu⟩; have hS' : (fun W => Upd NoF w W ∧ Blk W w.heap.size #[.int .i64 o, VM s] 25 ∧ Blk W w2.heap.size #[.int .i64 p, VM q] 25 ∧ W.cell? ⟨w.heap.size, 0, none⟩ = some (.int .i64 o) ∧ W.cell? ⟨w.heap.size, 1, none⟩ = some (VM s) ∧ W.cell? ⟨w2.heap.size, 0, none⟩ = some (.int .i64 p) ∧ W.cell? ⟨w2.heap.size, 1, none⟩ = some (VM q)) wm1 := ⟨hS.1.trans hu (fun _ _ h => h), hS.2.1.upd hu (fun h => h), hS.2.2.1.upd hu (fun h => h), (hS.2.1.upd hu (fun h => h)).cell 0, (hS.2.1.upd hu (fun h => h)).cell 1, (hS.2.2.1.upd hu (fun h => h)).cell 0, (hS.2.2.1.upd hu (fun h => h)).cell 1⟩; clear hu hS) | (go_at_call 23; have hS : Upd NoF w _ ∧ _ := ‹_›; refine (NOFW (HX.out _)).mono ?_; rintro e wm1 ⟨rfl, hu⟩; have hS' : (fun W => Upd NoF w W ∧ Blk W w.heap.size #[.int .i64 o, VM s] 25 ∧ Blk W w2.heap.size #[.int .i64 p, VM q] 25 ∧ W.cell? ⟨w.heap.size, 0, none⟩ = some (.int .i64 o) ∧ W.cell? ⟨w.heap.size, 1, none⟩ = some (VM s) ∧ W.cell? ⟨w2.heap.size, 0, none⟩ = some (.int .i64 p) ∧ W.cell? ⟨w2.heap.size, 1, none⟩ = some (VM q)) wm1 := ⟨hS.1.trans hu (fun _ _ h => h), hS.2.1.upd hu (fun h => h), hS.2.2.1.upd hu (fun h => h), (hS.2.1.upd hu (fun h => h)).cell 0, (hS.2.1.upd hu (fun h => h)).cell 1, (hS.2.2.1.upd hu (fun h => h)).cell 0, (hS.2.2.1.upd hu (fun h => h)).cell 1⟩; clear hu hS))
        obtain ⟨hU, hq_e, hq_p, hc_e_0, hc_e_1, hc_p_0, hc_p_1⟩ : Upd NoF w wm1 ∧ _ := ‹Upd NoF w wm1 ∧ _›
        have HU4 := Lib.hid hU
        replace HQ_e := Lib.hid hq_e
        replace HQ_p := Lib.hid hq_p
        clear hU hq_e hq_p hc_e_0 hc_e_1 hc_p_0 hc_p_1
        clear c_e_0 c_e_1 c_p_0 c_p_1
        have c_e_0 : wm1.cell? ⟨w.heap.size, 0, none⟩ = some (.int .i64 o) := HQ_e.out.cell 0
        have c_e_1 : wm1.cell? ⟨w.heap.size, 1, none⟩ = some (VM s) := HQ_e.out.cell 1
        have c_p_0 : wm1.cell? ⟨w2.heap.size, 0, none⟩ = some (.int .i64 p) := HQ_p.out.cell 0
        have c_p_1 : wm1.cell? ⟨w2.heap.size, 1, none⟩ = some (VM q) := HQ_p.out.cell 1
        go_wp2_with fail
        refine (HK.out wm1).mono ?_
        rintro e w5 ⟨rfl, hu⟩
        have HU5 := Lib.hid (HU4.out.trans hu (fun _ _ h => h))
        replace HQ_e := Lib.hid (HQ_e.out.upd hu (fun h => h))
        replace HQ_p := Lib.hid (HQ_p.out.upd hu (fun h => h))
        clear hu
        clear c_e_0 c_e_1 c_p_0 c_p_1
        have c_e_0 : w5.cell? ⟨w.heap.size, 0, none⟩ = some (.int .i64 o) := HQ_e.out.cell 0
        have c_e_1 : w5.cell? ⟨w.heap.size, 1, none⟩ = some (VM s) := HQ_e.out.cell 1
        have c_p_0 : w5.cell? ⟨w2.heap.size, 0, none⟩ = some (.int .i64 p) := HQ_p.out.cell 0
        have c_p_1 : w5.cell? ⟨w2.heap.size, 1, none⟩ = some (VM q) := HQ_p.out.cell 1
        go_wp2_with fail
        refine (HB.out w5 (HT.out.upd HU5.out (fun h => h))).mono ?_
        rintro e w6 ⟨rfl, hu⟩
        have HU6 := Lib.hid (HU5.out.trans hu (fun _ _ h => h))
        replace HQ_e := Lib.hid (HQ_e.out.upd hu (fun h => h))
        replace HQ_p := Lib.hid (HQ_p.out.upd hu (fun h => h))
        clear hu
        clear c_e_0 c_e_1 c_p_0 c_p_1
        have c_e_0 : w6.cell? ⟨w.heap.size, 0, none⟩ = some (.int .i64 o) := HQ_e.out.cell 0
        have c_e_1 : w6.cell? ⟨w.heap.size, 1, none⟩ = some (VM s) := HQ_e.out.cell 1
        have c_p_0 : w6.cell? ⟨w2.heap.size, 0, none⟩ = some (.int .i64 p) := HQ_p.out.cell 0
        have c_p_1 : w6.cell? ⟨w2.heap.size, 1, none⟩ = some (VM q) := HQ_p.out.cell 1
        go_wp2_with fail
        obtain ⟨w7, hw7⟩ : ∃ W, (w6.alloc (.cells #[.int .i64 p', VM q'] 25)) = W := ⟨_, rfl⟩
        have hu : Upd NoF w6 w7 := by rw [← hw7]; exact Upd.alloc NoF w6 _
        replace HQ_e := Lib.hid (HQ_e.out.upd hu (fun h => h))
        replace HQ_p := Lib.hid (HQ_p.out.upd hu (fun h => h))
        have HQ_b : Hid (Blk w7 w6.heap.size #[.int .i64 p', VM q'] 25) := by
          have hb := Blk.new w6 #[.int .i64 p', VM q'] 25
          rw [← hw7]; exact hb
        rw [hw7]
        have HU7 := Lib.hid (HU6.out.trans hu (fun _ _ h => h))
        clear hw7 hu
        clear c_e_0 c_e_1 c_p_0 c_p_1
        have c_e_0 : w7.cell? ⟨w.heap.size, 0, none⟩ = some (.int .i64 o) := HQ_e.out.cell 0
        have c_e_1 : w7.cell? ⟨w.heap.size, 1, none⟩ = some (VM s) := HQ_e.out.cell 1
        have c_p_0 : w7.cell? ⟨w2.heap.size, 0, none⟩ = some (.int .i64 p) := HQ_p.out.cell 0
        have c_p_1 : w7.cell? ⟨w2.heap.size, 1, none⟩ = some (VM q) := HQ_p.out.cell 1
        have c_b_0 : w7.cell? ⟨w6.heap.size, 0, none⟩ = some (.int .i64 p') := HQ_b.out.cell 0
        have c_b_1 : w7.cell? ⟨w6.heap.size, 1, none⟩ = some (VM q') := HQ_b.out.cell 1
        go_region_held3 (fun W => Upd NoF w W ∧ Blk W w.heap.size #[.int .i64 o, VM s] 25 ∧ Blk W w2.heap.size #[.int .i64 p, VM q] 25 ∧ Blk W w6.heap.size #[.int .i64 p', VM q'] 25 ∧ W.cell? ⟨w.heap.size, 0, none⟩ = some (.int .i64 o) ∧ W.cell? ⟨w.heap.size, 1, none⟩ = some (VM s) ∧ W.cell? ⟨w2.heap.size, 0, none⟩ = some (.int .i64 p) ∧ W.cell? ⟨w2.heap.size, 1, none⟩ = some (VM q) ∧ W.cell? ⟨w6.heap.size, 0, none⟩ = some (.int .i64 p') ∧ W.cell? ⟨w6.heap.size, 1, none⟩ = some (VM q')) (first | assumption | exact ⟨HU7.out.trans (Upd.drew NoF w7) (fun _ _ h => h), HQ_e.out.upd (Upd.drew NoF w7) (fun h => h), HQ_p.out.upd (Upd.drew NoF w7) (fun h => h), HQ_b.out.upd (Upd.drew NoF w7) (fun h => h), c_e_0, c_e_1, c_p_0, c_p_1, c_b_0, c_b_1⟩) (first | (go_at_call_of 20 o; have hS : Upd NoF w _ ∧ _ := ‹_›; refine (HK.out _).mono ?_; rintro e wm2 ⟨rfl, hu⟩; have hS' : (fun W => Upd NoF w W ∧ Blk W w.heap.size #[.int .i64 o, VM s] 25 ∧ Blk W w2.heap.size #[.int .i64 p, VM q] 25 ∧ Blk W w6.heap.size #[.int .i64 p', VM q'] 25 ∧ W.cell? ⟨w.heap.size, 0, none⟩ = some (.int .i64 o) ∧ W.cell? ⟨w.heap.size, 1, none⟩ = some (VM s) ∧ W.cell? ⟨w2.heap.size, 0, none⟩ = some (.int .i64 p) ∧ W.cell? ⟨w2.heap.size, 1, none⟩ = some (VM q) ∧ W.cell? ⟨w6.heap.size, 0, none⟩ = some (.int .i64 p') ∧ W.cell? ⟨w6.heap.size, 1, none⟩ = some (VM q')) wm2 := ⟨hS.1.trans hu (fun _ _ h => h), hS.2.1.upd hu (fun h => h), hS.2.2.1.upd hu (fun h => h), hS.2.2.2.1.upd hu (fun h => h), (hS.2.1.upd hu (fun h => h)).cell 0, (hS.2.1.upd hu (fun h => h)).cell 1, (hS.2.2.1.upd hu (fun h => h)).cell 0, (hS.2.2.1.upd hu (fun h => h)).cell 1, (hS.2.2.2.1.upd hu (fun h => h)).cell 0, (hS.2.2.2.1.upd hu (fun h => h)).cell 1⟩; clear hu hS) | (go_at_call_of 20 p'; have hS : Upd NoF w _ ∧ _ := ‹_›; refine (HG.out _).mono ?_; rintro e wm2 ⟨rfl, hu⟩; have hS' : (fun W => Upd NoF w W ∧ Blk W w.heap.size #[.int .i64 o, VM s] 25 ∧ Blk W w2.heap.size #[.int .i64 p, VM q] 25 ∧ Blk W w6.heap.size #[.int .i64 p', VM q'] 25 ∧ W.cell? ⟨w.heap.size, 0, none⟩ = some (.int .i64 o) ∧ W.cell? ⟨w.heap.size, 1, none⟩ = some (VM s) ∧ W.cell? ⟨w2.heap.size, 0, none⟩ = some (.int .i64 p) ∧ W.cell? ⟨w2.heap.size, 1, none⟩ = some (VM q) ∧ W.cell? ⟨w6.heap.size, 0, none⟩ = some (.int .i64 p') ∧ W.cell? ⟨w6.heap.size, 1, none⟩ = some (VM q')) wm2 := ⟨hS.1.trans hu (fun _ _ h => h), hS.2.1.upd hu (fun h => h), hS.2.2.1.upd hu (fun h => h), hS.2.2.2.1.upd hu (fun h => h), (hS.2.1.upd hu (fun h => h)).cell 0, (hS.2.1.upd hu (fun h => h)).cell 1, (hS.2.2.1.upd hu (fun h => h)).cell 0, (hS.2.2.1.upd hu (fun h => h)).cell 1, (hS.2.2.2.1.upd hu (fun h => h)).cell 0, (hS.2.2.2.1.upd hu (fun h => h)).cell 1⟩; clear hu hS))
        obtain ⟨hU, hq_e, hq_p, hq_b, hc_e_0, hc_e_1, hc_p_0, hc_p_1, hc_b_0, hc_b_1⟩ : Upd NoF w wm2 ∧ _ := ‹Upd NoF w wm2 ∧ _›
        have HU8 := Lib.hid hU
        replace HQ_e := Lib.hid hq_e
        replace HQ_p := Lib.hid hq_p
        replace HQ_b := Lib.hid hq_b
        clear hU hq_e hq_p hq_b hc_e_0 hc_e_1 hc_p_0 hc_p_1 hc_b_0 hc_b_1
        clear c_e_0 c_e_1 c_p_0 c_p_1 c_b_0 c_b_1
        have c_e_0 : wm2.cell? ⟨w.heap.size, 0, none⟩ = some (.int .i64 o) := HQ_e.out.cell 0
        have c_e_1 : wm2.cell? ⟨w.heap.size, 1, none⟩ = some (VM s) := HQ_e.out.cell 1
        have c_p_0 : wm2.cell? ⟨w2.heap.size, 0, none⟩ = some (.int .i64 p) := HQ_p.out.cell 0
        have c_p_1 : wm2.cell? ⟨w2.heap.size, 1, none⟩ = some (VM q) := HQ_p.out.cell 1
        have c_b_0 : wm2.cell? ⟨w6.heap.size, 0, none⟩ = some (.int .i64 p') := HQ_b.out.cell 0
        have c_b_1 : wm2.cell? ⟨w6.heap.size, 1, none⟩ = some (VM q') := HQ_b.out.cell 1
        go_wp2_with (go_at_call 23; refine (HY.out _).mono ?_; rintro e w' ⟨rfl, rfl⟩)
        refine (works_e wm2 (HT.out.upd HU8.out (fun h => h))).mono ?_
        rintro e w9 ⟨rfl, hu⟩
        have HU9 := Lib.hid (HU8.out.trans hu (fun _ _ h => h))
        replace HQ_e := Lib.hid (HQ_e.out.upd hu (fun h => h))
        replace HQ_p := Lib.hid (HQ_p.out.upd hu (fun h => h))
        replace HQ_b := Lib.hid (HQ_b.out.upd hu (fun h => h))
        clear hu
        clear c_e_0 c_e_1 c_p_0 c_p_1 c_b_0 c_b_1
        have c_e_0 : w9.cell? ⟨w.heap.size, 0, none⟩ = some (.int .i64 o) := HQ_e.out.cell 0
        have c_e_1 : w9.cell? ⟨w.heap.size, 1, none⟩ = some (VM s) := HQ_e.out.cell 1
        have c_p_0 : w9.cell? ⟨w2.heap.size, 0, none⟩ = some (.int .i64 p) := HQ_p.out.cell 0
        have c_p_1 : w9.cell? ⟨w2.heap.size, 1, none⟩ = some (VM q) := HQ_p.out.cell 1
        have c_b_0 : w9.cell? ⟨w6.heap.size, 0, none⟩ = some (.int .i64 p') := HQ_b.out.cell 0
        have c_b_1 : w9.cell? ⟨w6.heap.size, 1, none⟩ = some (VM q') := HQ_b.out.cell 1
        go_wp2
        go_ret
        exact ⟨rfl, (HU9.out.toFrom (B := w.heap.size)).belowFrom (Nat.le_refl _)⟩
theorem knows_int (o a : Int) (h : 0 ≤ a ∧ a ≤ 4294967295) (k x : Int) (stick : Bool) (w : World) (hT : Tab w) : Calls Tryd.prog 8 #[.agg #[.int .i64 o, .int .u32 a], .int .u8 k, .int .i64 x, .bool stick] w fun e w' => e = .returned (.bool true) ∧ Below w.heap.size w w' := by
  obtain ⟨m, rfl⟩ := mk_of h.1 h.2
  exact knows_law o m k x stick w hT
end Go.Proofs.YtfkcnghhcoginaaDoor.ET
