/- PoolCopies: what the Go function does. -/
import Derived.Test.YtlkpbhmifhoaiaaPoolWorks
import Derived.Test.YtlkpbhmifhoaiaaRowF
import Derived.Deep.RegionHeld3
set_option linter.unusedSimpArgs false
set_option linter.unusedVariables false
namespace Go.Proofs.Ytlkpbhmifhoaiaa.PW
open Go.RowKit
attribute [local go_sem] Oper.semAt_some

theorem add_blockC (x : Addr) (k : Nat) : (x.add k).block = x.block := by unfold Addr.add; split <;> rfl
abbrev PIs (w : World) (F : Nat → Prop) (p : Value) (zs : List Int) (room : Int) : Prop := PoolIs 64 3 1 w F p (onesOf PI.Vint zs) room

theorem mapRange_getC {α : Type} {f : Nat → α} {n k : Nat} {z : α} (h : ((List.range n).map f)[k]? = some z) : k < n ∧ f k = z := by
  obtain ⟨h1, h2⟩ := List.getElem?_eq_some_iff.1 h
  simp at h1 h2
  exact ⟨h1, h2⟩

set_option maxRecDepth 100000 in
set_option maxHeartbeats 4000000 in
theorem copies_any (a : Option Addr) (len cap : Nat) (Z : Nat → Int) (a2 : Option Addr) (len2 cap2 : Nat) (V : Nat → Nat → Value) (K2 I2 X2 : Nat → Int) (hI2 : ∀ i, i < len2 → -9223372036854775808 ≤ I2 i ∧ I2 i ≤ 9223372036854775807) (w : World) (h1 : IsRow1 w a len cap (fun i => .int .i64 (Z i))) (h2 : IsRowF w a2 len2 cap2 3 V)
    (hV : ∀ i, i < len2 → V i 0 = .int .i64 (K2 i) ∧ V i 1 = .int .i64 (I2 i) ∧ V i 2 = .int .i64 (X2 i)) :
    Calls Try.prog 6 #[.slice a len cap, .slice a2 len2 cap2] w fun e w' => e = .returned (.bool true) ∧ Below w.heap.size w w' := by
  obtain ⟨l1, m1, c1⟩ := h1
  unfold maxLen at m1
  have C1 := Lib.hid c1
  clear c1
  have HC := Lib.hid (show ∀ i, i < len2 → ∃ x g q, a2 = some x ∧ x.add (i * 3) = ⟨g, q, none⟩ ∧ g < w.heap.size ∧ w.cell? ⟨g, q, none⟩ = some (.int .i64 (K2 i)) ∧ w.cell? ⟨g, q + 1, none⟩ = some (.int .i64 (I2 i)) ∧ w.cell? ⟨g, q + 2, none⟩ = some (.int .i64 (X2 i)) ∧ (-9223372036854775808 ≤ I2 i ∧ I2 i ≤ 9223372036854775807) from fun i hi => by
    obtain ⟨x, g, q, hx, hxa, hg, hc⟩ := h2.at (by decide) hi
    obtain ⟨h0, h1, h2⟩ := hV i hi
    exact ⟨x, g, q, hx, hxa, hg, by rw [← h0]; exact hc 0 (by decide), by rw [← h1]; exact hc 1 (by decide), by rw [← h2]; exact hc 2 (by decide), hI2 i hi⟩)
  obtain ⟨l2, m2, _⟩ := h2
  unfold maxLen at m2
  clear hV hI2
  obtain ⟨W0, hW0⟩ : ∃ W0, (w.alloc (.cells #[.slice a len cap] 42)).alloc (.cells #[.bool false] 4) = W0 := ⟨_, rfl⟩
  have hU : Upd NoF w W0 := by rw [← hW0]; exact (Upd.alloc NoF w _).trans (Upd.alloc NoF _ _) (fun _ _ h => h)
  have q1 : Blk W0 w.heap.size #[.slice a len cap] 42 := by rw [← hW0]; exact (Blk.new w _ _).alloc _
  have q3 : Blk W0 (w.heap.size + 1) #[.bool false] 4 := by
    rw [← hW0]; have := Blk.new (w.alloc (.cells #[.slice a len cap] 42)) #[.bool false] 4
    rwa [World.size_alloc] at this
  have hs : W0.heap.size = w.heap.size + 2 := by rw [← hW0]; simp
  refine calls_of_wp_marks Try.func6 rfl ?_
  simp only [Try.ntmps6, List.size_toArray, List.length_cons, List.length_nil, Nat.reduceAdd, Nat.reduceSub, Array.replicate_succ, Array.replicate_zero, List.push_toArray, List.append_toArray, List.nil_append, List.cons_append]
  have HW0 := Lib.hid hW0
  clear hW0
  go_wp2_with fail
  rw [HW0.out]
  refine (works_any W0).mono ?_
  rintro e w1 ⟨rfl, hb1⟩
  have hu1 := Below.upd hb1 NoF
  have hs1 : w.heap.size + 2 ≤ w1.heap.size := by have := hb1.size; omega
  have HU1 := Lib.hid (hU.trans hu1 (fun _ _ h => h))
  have Q1 := Lib.hid (q1.upd hu1 (fun h => h)); have Q3 := Lib.hid (q3.upd hu1 (fun h => h))
  clear hu1 hb1 q1 q3 hU
  have d1 : w1.cell? ⟨w.heap.size, 0, none⟩ = some (.slice a len cap) := Q1.out.cell 0
  have d3 : w1.cell? ⟨w.heap.size + 1, 0, none⟩ = some (.bool false) := Q3.out.cell 0
  have f3 := Q3.out.frozen 0
  by_cases hbig : 300 < len
  · have hb0 : decide ((300 : Int) < (len : Int)) = true := by simp; omega
    go_wp2_with fail
    refine (works_any w1).mono ?_
    rintro e w2 ⟨rfl, hb2⟩
    have hu2 := Below.upd hb2 NoF
    have HU2 := Lib.hid (HU1.out.trans hu2 (fun _ _ h => h))
    have q3 := Q3.out.upd hu2 (fun h => h)
    have HQ3 := Lib.hid (q3.set 0 (.bool true))
    have d3' : w2.cell? ⟨w.heap.size + 1, 0, none⟩ = some (.bool false) := q3.cell 0
    have f3' := q3.frozen 0
    clear hu2 hb2 q3
    go_wp2
    have hc5 : _ = some (Value.bool true) := HQ3.out.cell 0
    refine postM_ret0 (v := .bool true) (by simp [results, Try.f6, go_sem, hc5]) ⟨rfl, ?_⟩
    exact ((HU2.out.toFrom (B := w.heap.size)).from (Upd.setCell _ (p := ⟨w.heap.size + 1, 0, none⟩) (show w.heap.size ≤ w.heap.size + 1 by omega) _)).belowFrom (Nat.le_refl _)
  · have hb0 : decide ((300 : Int) < (len : Int)) = false := by simp; omega
    by_cases hbig2 : 300 < len2
    · have hb0' : decide ((300 : Int) < (len2 : Int)) = true := by simp; omega
      go_wp2_with fail
      refine (works_any w1).mono ?_
      rintro e w2 ⟨rfl, hb2⟩
      have hu2 := Below.upd hb2 NoF
      have HU2 := Lib.hid (HU1.out.trans hu2 (fun _ _ h => h))
      have q3 := Q3.out.upd hu2 (fun h => h)
      have HQ3 := Lib.hid (q3.set 0 (.bool true))
      have d3' : w2.cell? ⟨w.heap.size + 1, 0, none⟩ = some (.bool false) := q3.cell 0
      have f3' := q3.frozen 0
      clear hu2 hb2 q3
      go_wp2
      have hc5 : _ = some (Value.bool true) := HQ3.out.cell 0
      refine postM_ret0 (v := .bool true) (by simp [results, Try.f6, go_sem, hc5]) ⟨rfl, ?_⟩
      exact ((HU2.out.toFrom (B := w.heap.size)).from (Upd.setCell _ (p := ⟨w.heap.size + 1, 0, none⟩) (show w.heap.size ≤ w.heap.size + 1 by omega) _)).belowFrom (Nat.le_refl _)
    · have hb0' : decide ((300 : Int) < (len2 : Int)) = false := by simp; omega
      go_wp2_with fail
      refine (PI.new_ok 400 (by omega) (by omega) w1).mono ?_
      rintro e w2 ⟨b, rfl, hu2, hp2⟩
      have HU2 := Lib.hid (HU1.out.trans hu2 (fun _ _ h => h))
      have e1 := Lib.hid (Q1.out.upd hu2 (fun h => h)); have e3 := Lib.hid (Q3.out.upd hu2 (fun h => h))
      have hs2 := hu2.size
      have HP2 := Lib.hid hp2
      clear Q1 Q3 d1 d3 f3 hu2 hp2
      have d1 : w2.cell? ⟨w.heap.size, 0, none⟩ = some (.slice a len cap) := e1.out.cell 0
      go_wp2_with fail
      go_loopw [33] (fun i wr => ∃ k : Nat, k ≤ len ∧ i = .int .i64 k ∧ Hid (Upd (From w1.heap.size) w2 wr ∧ PIs wr (From w1.heap.size) (.pointer (some ⟨b, 0, none⟩)) ((List.range k).map Z) 400)) (fun i _ => len - (intOf i).toNat)
      case atStart => exact ⟨0, Nat.zero_le _, rfl, Upd.refl _ _, HP2.out⟩
      case round =>
        obtain ⟨k, hk, rfl, HI⟩ := hrel
        by_cases hlt : k < len
        · obtain ⟨x1, rfl, g1⟩ := C1.out k hlt
          have hx1 : x1.block < w.heap.size := by have := World.block_lt_of_cell? w _ g1; rwa [add_blockC] at this
          have g2 : wr.cell? (x1.add k) = some (.int .i64 (Z k)) := HI.out.1.cell (HU2.out.cell g1 (fun h => h)) (fun h => by rw [add_blockC] at h; unfold From at h; omega)
          have hsz := HI.out.1.size
          clear g1
          go_wp2_with (first | (go_at_call 11; refine (PI.put_from w1.heap.size _ _ _ _ _ (by omega) HI.out.2 (by simp; omega) (by omega)).mono ?_; rintro e w3 ⟨rfl, hu3, hp3⟩; have HJ := Lib.hid (And.intro (HI.out.1.from hu3) hp3); clear hu3 hp3))
          go_roundw
          case rel => exact ⟨k + 1, by omega, by go_num, by rw [List.range_succ, List.map_append]; exact HJ⟩
          case measure => simp [intOf]; omega
        · obtain rfl : len = k := by omega
          have hsz := HI.out.1.size
          have hcopy := PI.copy_any wr _ _ _ 400 HI.out.2 (by simp; omega)
          have HCO := Lib.hid hcopy
          clear hcopy
          go_wp2_with fail
          refine HCO.out.mono ?_
          rintro e w4 ⟨q, rfl, hu4, hq4⟩
          obtain ⟨bq, vq, rfl, hq5⟩ := hq4
          have HQ4 : Hid (PIs w4 (From wr.heap.size) (.pointer (some ⟨bq, 0, none⟩)) ((List.range len).map Z) 400) := Lib.hid ⟨bq, vq, rfl, hq5⟩
          obtain ⟨F', hP', hF'⟩ := (HI.out.2).tight
          have HP4 := Lib.hid (hP'.upd hu4 (fun _ _ h => h))
          have HF := Lib.hid hF'
          have HU4 := Lib.hid (HI.out.1.from hu4.toFrom)
          have hs4 := hu4.size
          clear hu4 hq5 hP' hF' HCO
          obtain ⟨wo, rfl⟩ : ∃ x, x = wr := ⟨_, rfl⟩
          go_wp2_with fail
          go_loopw [45] (fun i wr => ∃ (k : Nat) (zs : List Int), k ≤ len2 ∧ zs.length ≤ len + k ∧ i = .int .i64 k ∧ Hid (Upd (From wo.heap.size) w4 wr ∧ PIs wr (From wo.heap.size) (.pointer (some ⟨bq, 0, none⟩)) zs 400)) (fun i _ => len2 - (intOf i).toNat)
          case atStart => exact ⟨0, _, Nat.zero_le _, by simp, rfl, Upd.refl _ _, HQ4.out⟩
          case round =>
            obtain ⟨k, zs, hk, hz, rfl, HI2⟩ := hrel
            have hsq := HI2.out.1.size
            by_cases hlt : k < len2
            · obtain ⟨x, g, qq, rfl, hxa, hgl, g0, g1, g2, hI⟩ := HC.out k hlt
              replace g0 := HI2.out.1.cell (HU4.out.cell (HU2.out.cell g0 (fun h => h)) (fun h => by have : w1.heap.size ≤ g := h; omega)) (fun h => by have : wo.heap.size ≤ g := h; omega)
              replace g1 := HI2.out.1.cell (HU4.out.cell (HU2.out.cell g1 (fun h => h)) (fun h => by have : w1.heap.size ≤ g := h; omega)) (fun h => by have : wo.heap.size ≤ g := h; omega)
              replace g2 := HI2.out.1.cell (HU4.out.cell (HU2.out.cell g2 (fun h => h)) (fun h => by have : w1.heap.size ≤ g := h; omega)) (fun h => by have : wo.heap.size ≤ g := h; omega)
              generalize K2 k = kk at *
              generalize I2 k = ii at *
              generalize X2 k = xx at *
              by_cases h0 : kk = 0
              · subst h0
                go_wp2_with fail
                obtain ⟨W5, hW5⟩ : ∃ W5, wr.alloc (.cells #[.int .i64 0, .int .i64 ii, .int .i64 xx] 51) = W5 := ⟨_, rfl⟩
                have hu5 : Upd NoF wr W5 := by rw [← hW5]; exact Upd.alloc NoF wr _
                have hq5 : PIs W5 (From wo.heap.size) (.pointer (some ⟨bq, 0, none⟩)) zs 400 := HI2.out.2.upd hu5 (fun _ _ h => h)
                have hs5 := hu5.size
                have HU5 := Lib.hid (HI2.out.1.from hu5.toFrom)
                rw [hW5]
                clear hW5 hu5
                by_cases hf : (zs.length : Int) < 400
                · refine (PI.put_from wo.heap.size W5 _ zs 400 xx (by omega) hq5 hf (by omega)).mono ?_
                  rintro e w6 ⟨rfl, hu6, hq6⟩
                  have HJ := Lib.hid (And.intro (HU5.out.from hu6) hq6)
                  clear hu6 hq6 hq5
                  go_wp2_with fail
                  exact ⟨⟨k + 1, zs ++ [xx], by omega, by simp; omega, by go_num, HJ.out.1, HJ.out.2⟩, by simp [intOf]; omega⟩
                · refine (PI.put_full W5 (From wo.heap.size) _ zs 400 xx hq5 (by omega)).mono ?_
                  rintro e w6 ⟨rfl, hu6⟩
                  have HJ := Lib.hid (And.intro (HU5.out.from hu6.toFrom) (hq5.upd hu6 (fun _ _ h => h)))
                  clear hu6 hq5
                  go_wp2_with fail
                  exact ⟨⟨k + 1, zs, by omega, by omega, by go_num, HJ.out.1, HJ.out.2⟩, by simp [intOf]; omega⟩
              · have h0b : (kk == 0) = false := by simpa using h0
                by_cases h1 : kk = 1
                · subst h1
                  go_wp2_with fail
                  obtain ⟨W5, hW5⟩ : ∃ W5, wr.alloc (.cells #[.int .i64 1, .int .i64 ii, .int .i64 xx] 51) = W5 := ⟨_, rfl⟩
                  have hu5 : Upd NoF wr W5 := by rw [← hW5]; exact Upd.alloc NoF wr _
                  have hq5 : PIs W5 (From wo.heap.size) (.pointer (some ⟨bq, 0, none⟩)) zs 400 := HI2.out.2.upd hu5 (fun _ _ h => h)
                  have hs5 := hu5.size
                  have HU5 := Lib.hid (HI2.out.1.from hu5.toFrom)
                  rw [hW5]
                  clear hW5 hu5
                  by_cases hin : 0 ≤ ii ∧ ii < zs.length
                  · obtain ⟨n, rfl⟩ : ∃ n : Nat, ii = n := ⟨ii.toNat, by omega⟩
                    have hn : n < zs.length := by omega
                    refine (PI.take_from wo.heap.size W5 _ zs 400 n (zs[n]'hn) (by omega) hq5 (List.getElem?_eq_getElem hn) (by omega)).mono ?_
                    rintro e w6 ⟨rfl, hu6, hq6⟩
                    have HJ := Lib.hid (And.intro (HU5.out.from hu6) hq6)
                    have hle : (zs.eraseIdx n).length ≤ len + (k + 1) := by rw [List.length_eraseIdx]; split <;> omega
                    clear hu6 hq6 hq5
                    go_wp2_with fail
                    exact ⟨⟨k + 1, zs.eraseIdx n, by omega, hle, by go_num, HJ.out.1, HJ.out.2⟩, by simp [intOf]; omega⟩
                  · refine (PI.take_bad W5 (From wo.heap.size) _ zs 400 ii hq5 (by omega)).mono ?_
                    rintro e w6 ⟨rfl, rfl⟩
                    have HJ := Lib.hid (And.intro HU5.out hq5)
                    clear hq5
                    go_wp2_with fail
                    exact ⟨⟨k + 1, zs, by omega, by omega, by go_num, HJ.out.1, HJ.out.2⟩, by simp [intOf]; omega⟩
                · have h1b : (kk == 1) = false := by simpa using h1
                  go_wp2_with fail
                  exact ⟨⟨k + 1, zs, by omega, by omega, by go_num, HI2.out.1.from (Upd.alloc (From wo.heap.size) wr _), HI2.out.2.upd (Upd.alloc NoF wr _) (fun _ _ h => h)⟩, by simp [intOf]; omega⟩
            · obtain rfl : len2 = k := by omega
              have HP5 := Lib.hid (HP4.out.upd HI2.out.1 (fun k hk h => by have := (HF.out k hk).2; unfold From at h; omega))
              have cl : wr.cell? ⟨w.heap.size, 0, none⟩ = some (.slice a len cap) := ((e1.out.upd HU4.out (by unfold From; omega)).upd HI2.out.1 (by unfold From; omega)).cell 0
              have hlen : ((List.range len).map Z).length = len := by simp
              have hL := fun W (h : PIs W F' (.pointer (some ⟨b, 0, none⟩)) ((List.range len).map Z) 400) => PI.len_any W F' _ _ 400 h
              have hR := fun W (h : PIs W F' (.pointer (some ⟨b, 0, none⟩)) ((List.range len).map Z) 400) => PI.room_any W F' _ _ 400 h (by omega) (by omega) (by rw [hlen]; omega)
              rw [hlen] at hL hR
              have HL := Lib.hid hL; have HR := Lib.hid hR
              have HW5 := Lib.hid (HU4.out.trans HI2.out.1 (fun i hi h => by unfold From at *; omega))
              clear hL hR hlen
              go_wp2_with fail
              have hw1 : IntKind.i64.wrap (400 - (len : Int)) = 400 - (len : Int) := by rw [IntKind.wrap_i64]; omega
              go_region_held3 (fun W => Upd NoF wr W ∧ W.cell? ⟨w.heap.size, 0, none⟩ = some (.slice a len cap)) (first | assumption | exact ⟨Upd.drew NoF wr, cl⟩)
                (first
                  | (go_at_call 13; have hS : Upd NoF wr _ ∧ _ := ‹_›; refine (HL.out _ (HP5.out.upd hS.1 (fun _ _ h => h))).mono ?_; rintro e wm ⟨rfl, rfl⟩; clear hS)
                  | (go_at_call 20; have hS : Upd NoF wr _ ∧ _ := ‹_›; refine (HR.out _ (HP5.out.upd hS.1 (fun _ _ h => h))).mono ?_; rintro e wm ⟨rfl, hu⟩; have hS' : (fun W => Upd NoF wr W ∧ W.cell? ⟨w.heap.size, 0, none⟩ = some (.slice a len cap)) wm := ⟨hS.1.trans hu (fun _ _ h => h), hu.cell hS.2 (fun h => h)⟩; clear hu hS))
              obtain ⟨hum, cm⟩ : Upd NoF wr wm ∧ _ := ‹Upd NoF wr wm ∧ _›
              go_wp2_with (first | (go_at_call 18; refine (PI.all_any _ _ ⟨_, rfl⟩).mono ?_; rintro e w' ⟨rfl, rfl⟩))
              obtain ⟨W3, hW3⟩ : ∃ W3, wm.alloc (.cells #[.pointer (some ⟨b, 0, none⟩)] 24) = W3 := ⟨_, rfl⟩
              have hu3 : Upd NoF wm W3 := by rw [← hW3]; exact Upd.alloc NoF wm _
              have qp : Blk W3 wm.heap.size #[.pointer (some ⟨b, 0, none⟩)] 24 := by rw [← hW3]; exact Blk.new wm _ _
              have hs3 : W3.heap.size = wm.heap.size + 1 := by rw [← hW3]; simp
              have hszm := hum.size
              have hU3 : Upd (From w1.heap.size) w2 W3 := (HW5.out.from hum.toFrom).from hu3.toFrom
              have q1 := e1.out.upd hU3 (by unfold From; omega)
              have q3 := e3.out.upd hU3 (by unfold From; omega)
              have hP3 := (HP5.out.upd hum (fun _ _ h => h)).upd hu3 (fun _ _ h => h)
              have HUw := Lib.hid ((HU2.out.toFrom (B := w.heap.size)).from (hU3.mono (fun i _ h => by unfold From at *; omega)))
              rw [hW3]
              clear hW3 hU3 hu3
              refine wp_range (gf := 32) (lb := #[.pointer (some ⟨wm.heap.size, 0, none⟩)]) rfl (enters_of Try.func32 (by kernel_rfl) rfl)
                (PI.all_seq wm.heap.size _ _ 400 F' (fun k => W3.heap.size ≤ k) (fun k hk => by have := (HF.out k hk).2; omega) (by omega) W3 (qp.cell 0) hP3) (fun _ => rfl) (fun _ h => h.elim) (fun k hk => hk)
                (fun k W => Blk W w.heap.size #[.slice a len cap] 42 ∧ Blk W (w.heap.size + 1) #[.bool false] 4 ∧ Upd (From w.heap.size) w W)
                (fun _ _ _ => False)
                (fun k A B hs hb => ⟨hs.1.bk hb (fun h => h), hs.2.1.bk hb (fun h => h), hs.2.2.bk hb (by omega) (fun _ h => h.elim)⟩)
                (fun _ _ _ _ h _ => h)
                ⟨q1, q3, HUw.out⟩
                ?rnd ?dn ?stp
              case rnd =>
                intro l k x hx W9 K' hK'
                gi_wp2
                rintro W ⟨n2, n4, hB⟩
                rw [idxs_get, Option.map_eq_some_iff] at hx
                obtain ⟨z, hz, rfl⟩ := hx
                obtain ⟨hk', rfl⟩ := mapRange_getC hz
                obtain ⟨x1, rfl, g1⟩ := C1.out k hk'
                have g2 := keep hB g1
                have m2 : W.cell? ⟨w.heap.size, 0, none⟩ = some (.slice (some x1) len cap) := n2.cell 0
                clear g1 hz
                gi_wp2
                exact ⟨Upd.refl _ W, n2, n4, hB⟩
              case dn =>
                rintro D W hD ⟨n2, n4, hB⟩ hK
                go_wp2_with fail
                refine (works_any W).mono ?_
                rintro e w4 ⟨rfl, hb4⟩
                have hu4 := Below.upd hb4 NoF
                have q4 := n4.upd hu4 (fun h => h)
                have d4 : w4.cell? ⟨w.heap.size + 1, 0, none⟩ = some (.bool false) := q4.cell 0
                have f4 := q4.frozen 0
                have HQ4 := Lib.hid (q4.set 0 (.bool true))
                have HU4 := Lib.hid (hB.from hu4.toFrom)
                have HK4 := Lib.hid (hu4.others.same D _ hK rfl)
                clear hb4 hu4 q4
                go_wp2
                have hK5 := (Upd.setCell (F := From w.heap.size) w4 (p := ⟨w.heap.size + 1, 0, none⟩) (show w.heap.size ≤ w.heap.size + 1 by omega) (.bool true)).others.same D _ HK4.out rfl
                have q5 := HQ4.out.bk (Bk.putObj (n := w.heap.size) (G := NoF) hK5 rfl (by omega) (.deferred none)) (fun h => h)
                have hc5 : _ = some (Value.bool true) := q5.cell 0
                refine postM_ret1 hK5 (v := .bool true) (by simp [results, Try.f6, go_sem, hc5]) ⟨rfl, ?_⟩
                exact ((HU4.out.from (Upd.setCell _ (p := ⟨w.heap.size + 1, 0, none⟩) (show w.heap.size ≤ w.heap.size + 1 by omega) _)).bk (Bk.putObj (n := w.heap.size) (G := NoF) hK5 rfl (by omega) _) (Nat.le_refl _) (fun _ h => h.elim)).belowFrom (Nat.le_refl _)
              case stp =>
                rintro D c k W hD hkl h hK
                exact h.elim
end Go.Proofs.Ytlkpbhmifhoaiaa.PW
