/- PoolEarly: what the Go function does. -/
import Derived.Test.YtlkpbhmifhoaiaaPoolWorks
set_option linter.unusedSimpArgs false
set_option linter.unusedVariables false
namespace Go.Proofs.Ytlkpbhmifhoaiaa.PW
open Go.RowKit
attribute [local go_sem] Oper.semAt_some

theorem mapRange_get {α : Type} {f : Nat → α} {n k : Nat} {z : α} (h : ((List.range n).map f)[k]? = some z) : k < n ∧ f k = z := by
  obtain ⟨h1, h2⟩ := List.getElem?_eq_some_iff.1 h
  simp at h1 h2
  exact ⟨h1, h2⟩

theorem add_block (x : Addr) (k : Nat) : (x.add k).block = x.block := by unfold Addr.add; split <;> rfl

set_option maxRecDepth 100000 in
set_option maxHeartbeats 4000000 in
theorem early_any (a : Option Addr) (len cap : Nat) (Ss : Nat → ByteArray) (many : Int) (hmany : -9223372036854775808 ≤ many ∧ many ≤ 9223372036854775807) (w : World) (h1 : IsRow1 w a len cap (fun i => .string (Ss i))) :
    Calls Try.prog 4 #[.slice a len cap, .int .i64 many] w fun e w' => e = .returned (.bool true) ∧ Below w.heap.size w w' := by
  obtain ⟨l1, m1, c1⟩ := h1
  unfold maxLen at m1
  have C1 := Lib.hid c1
  clear c1
  obtain ⟨W0, hW0⟩ : ∃ W0, ((w.alloc (.cells #[.slice a len cap] 33)).alloc (.cells #[.int .i64 many] 3)).alloc (.cells #[.bool false] 4) = W0 := ⟨_, rfl⟩
  have hU : Upd NoF w W0 := by rw [← hW0]; exact ((Upd.alloc NoF w _).trans (Upd.alloc NoF _ _) (fun _ _ h => h)).trans (Upd.alloc NoF _ _) (fun _ _ h => h)
  have q1 : Blk W0 w.heap.size #[.slice a len cap] 33 := by rw [← hW0]; exact ((Blk.new w _ _).alloc _).alloc _
  have q2 : Blk W0 (w.heap.size + 1) #[.int .i64 many] 3 := by
    rw [← hW0]; have := (Blk.new (w.alloc (.cells #[.slice a len cap] 33)) #[.int .i64 many] 3).alloc (.cells #[.bool false] 4)
    rwa [World.size_alloc] at this
  have q3 : Blk W0 (w.heap.size + 1 + 1) #[.bool false] 4 := by
    rw [← hW0]; have := (Blk.new ((w.alloc (.cells #[.slice a len cap] 33)).alloc (.cells #[.int .i64 many] 3)) #[.bool false] 4)
    rwa [World.size_alloc, World.size_alloc] at this
  have hs : W0.heap.size = w.heap.size + 3 := by rw [← hW0]; simp
  have HW : Hid (∃ w1, (∀ x, W0 = x → True) ∧ w1 = W0) := ⟨W0, fun _ _ => trivial, rfl⟩
  refine calls_of_wp_marks Try.func4 rfl ?_
  simp only [Try.ntmps4, List.size_toArray, List.length_cons, List.length_nil, Nat.reduceAdd, Nat.reduceSub, Array.replicate_succ, Array.replicate_zero, List.push_toArray, List.append_toArray, List.nil_append, List.cons_append]
  have HW0 := Lib.hid hW0
  clear hW0
  go_wp2_with fail
  rw [HW0.out]
  refine (works_any W0).mono ?_
  rintro e w1 ⟨rfl, hb1⟩
  have hu1 := Below.upd hb1 NoF
  have hs1 : w.heap.size + 3 ≤ w1.heap.size := by have := hb1.size; omega
  have HU1 := Lib.hid (hU.trans hu1 (fun _ _ h => h))
  have Q1 := Lib.hid (q1.upd hu1 (fun h => h)); have Q2 := Lib.hid (q2.upd hu1 (fun h => h)); have Q3 := Lib.hid (q3.upd hu1 (fun h => h))
  clear hu1 hb1 q1 q2 q3 hU
  have d1 : w1.cell? ⟨w.heap.size, 0, none⟩ = some (.slice a len cap) := Q1.out.cell 0
  have d2 : w1.cell? ⟨w.heap.size + 1, 0, none⟩ = some (.int .i64 many) := Q2.out.cell 0
  have d3 : w1.cell? ⟨w.heap.size + 1 + 1, 0, none⟩ = some (.bool false) := Q3.out.cell 0
  have f3 := Q3.out.frozen 0
  by_cases hbig : 300 < len
  · have hb0 : decide ((300 : Int) < (len : Int)) = true := by simp; omega
    go_wp2_with fail
    refine (works_any w1).mono ?_
    rintro e w2 ⟨rfl, hb2⟩
    have hu2 := Below.upd hb2 NoF
    have HU2 := Lib.hid (HU1.out.trans hu2 (fun _ _ h => h))
    have q3 := Q3.out.upd hu2 (fun h => h)
    have HQ3 := Lib.hid (q3.set 0 (.bool true))
    have d3' : w2.cell? ⟨w.heap.size + 1 + 1, 0, none⟩ = some (.bool false) := q3.cell 0
    have f3' := q3.frozen 0
    clear hu2 hb2 q3
    go_wp2
    have hc5 : _ = some (Value.bool true) := HQ3.out.cell 0
    refine postM_ret0 (v := .bool true) (by simp [results, Try.f4, go_sem, hc5]) ⟨rfl, ?_⟩
    exact ((HU2.out.toFrom (B := w.heap.size)).from (Upd.setCell _ (p := ⟨w.heap.size + 1 + 1, 0, none⟩) (show w.heap.size ≤ w.heap.size + 1 + 1 by omega) _)).belowFrom (Nat.le_refl _)
  · have hb0 : decide ((300 : Int) < (len : Int)) = false := by simp; omega
    by_cases hm1 : many < 1
    · go_wp2_with fail
      refine (works_any w1).mono ?_
      rintro e w2 ⟨rfl, hb2⟩
      have hu2 := Below.upd hb2 NoF
      have HU2 := Lib.hid (HU1.out.trans hu2 (fun _ _ h => h))
      have q3 := Q3.out.upd hu2 (fun h => h)
      have HQ3 := Lib.hid (q3.set 0 (.bool true))
      have d3' : w2.cell? ⟨w.heap.size + 1 + 1, 0, none⟩ = some (.bool false) := q3.cell 0
      have f3' := q3.frozen 0
      clear hu2 hb2 q3
      go_wp2
      have hc5 : _ = some (Value.bool true) := HQ3.out.cell 0
      refine postM_ret0 (v := .bool true) (by simp [results, Try.f4, go_sem, hc5]) ⟨rfl, ?_⟩
      exact ((HU2.out.toFrom (B := w.heap.size)).from (Upd.setCell _ (p := ⟨w.heap.size + 1 + 1, 0, none⟩) (show w.heap.size ≤ w.heap.size + 1 + 1 by omega) _)).belowFrom (Nat.le_refl _)
    · have hm2 : 1 ≤ many := by omega
      go_wp2_with fail
      refine (PS.new_ok 400 (by omega) (by omega) w1).mono ?_
      rintro e w2 ⟨b, rfl, hu2, hp2⟩
      have HU2 := Lib.hid (HU1.out.trans hu2 (fun _ _ h => h))
      have e1 := Lib.hid (Q1.out.upd hu2 (fun h => h)); have e2 := Lib.hid (Q2.out.upd hu2 (fun h => h)); have e3 := Lib.hid (Q3.out.upd hu2 (fun h => h))
      have hs2 := hu2.size
      have HP2 := Lib.hid hp2
      clear Q1 Q2 Q3 d1 d2 d3 f3 hu2 hp2
      have d1 : w2.cell? ⟨w.heap.size, 0, none⟩ = some (.slice a len cap) := e1.out.cell 0
      go_wp2_with fail
      go_loopw [30] (fun i wr => ∃ k : Nat, k ≤ len ∧ i = .int .i64 k ∧ Hid (Upd (From w1.heap.size) w2 wr ∧ PoolIs 66 9 1 wr (From w1.heap.size) (.pointer (some ⟨b, 0, none⟩)) (onesOf PS.Vstr ((List.range k).map Ss)) 400)) (fun i _ => len - (intOf i).toNat)
      case atStart => exact ⟨0, Nat.zero_le _, rfl, Upd.refl _ _, HP2.out⟩
      case round =>
        obtain ⟨k, hk, rfl, HI⟩ := hrel
        by_cases hlt : k < len
        · obtain ⟨x1, rfl, g1⟩ := C1.out k hlt
          have hx1 : x1.block < w.heap.size := by have := World.block_lt_of_cell? w _ g1; rwa [add_block] at this
          have g2 : wr.cell? (x1.add k) = some (.string (Ss k)) := HI.out.1.cell (HU2.out.cell g1 (fun h => h)) (fun h => by rw [add_block] at h; unfold From at h; omega)
          have hsz := HI.out.1.size
          clear g1
          go_wp2_with (first | (go_at_call 15; refine (PS.put_from w1.heap.size _ _ _ _ _ (by omega) HI.out.2 (by simp; omega) (by omega)).mono ?_; rintro e w3 ⟨rfl, hu3, hp3⟩; have HJ := Lib.hid (And.intro (HI.out.1.from hu3) hp3); clear hu3 hp3))
          go_roundw
          case rel => exact ⟨k + 1, by omega, by go_num, by rw [List.range_succ, List.map_append]; exact HJ⟩
          case measure => simp [intOf]; omega
        · obtain rfl : len = k := by omega
          have hsz := HI.out.1.size
          go_wp2_with (first | (go_at_call 16; refine (PS.all_any _ _ ⟨_, rfl⟩).mono ?_; rintro e w' ⟨rfl, rfl⟩))
          obtain ⟨W3, hW3⟩ : ∃ W3, (wr.alloc (.cells #[.int .i64 0] 3)).alloc (.cells #[.pointer (some ⟨b, 0, none⟩)] 34) = W3 := ⟨_, rfl⟩
          have hu3 : Upd NoF wr W3 := by rw [← hW3]; exact (Upd.alloc NoF wr _).trans (Upd.alloc NoF _ _) (fun _ _ h => h)
          have qn : Blk W3 wr.heap.size #[.int .i64 ((0 : Nat) : Int)] 3 := by rw [← hW3]; exact (Blk.new wr _ _).alloc _
          have qp : Blk W3 (wr.heap.size + 1) #[.pointer (some ⟨b, 0, none⟩)] 34 := by
            rw [← hW3]; have := Blk.new (wr.alloc (.cells #[.int .i64 0] 3)) #[.pointer (some ⟨b, 0, none⟩)] 34
            rwa [World.size_alloc] at this
          have hs3 : W3.heap.size = wr.heap.size + 2 := by rw [← hW3]; simp
          have hU3 : Upd (From w1.heap.size) w2 W3 := HI.out.1.from hu3.toFrom
          have q1 := e1.out.upd hU3 (by unfold From; omega)
          have q2 := e2.out.upd hU3 (by unfold From; omega)
          have q3 := e3.out.upd hU3 (by unfold From; omega)
          obtain ⟨F', hP', hF'⟩ := (HI.out.2).tight
          have hP3 := hP'.upd hu3 (fun _ _ h => h)
          have HUw := Lib.hid ((HU2.out.toFrom (B := w.heap.size)).from (hU3.mono (fun i _ h => by unfold From at *; omega)))
          rw [hW3]
          clear hW3 hU3 hu3
          refine wp_range (gf := 30) (lb := #[.pointer (some ⟨wr.heap.size + 1, 0, none⟩)]) rfl (enters_of Try.func30 (by kernel_rfl) rfl)
            (PS.all_seq (wr.heap.size + 1) _ _ 400 F' (fun k => k = wr.heap.size ∨ k = w.heap.size + 1 + 1 ∨ W3.heap.size ≤ k) (fun k hk => by have := hF' k hk; unfold From at this; omega) (by omega) W3 (qp.cell 0) hP3) (fun _ => rfl) (fun _ h => h.elim) (fun k hk => .inr (.inr hk))
            (fun k W => (k : Int) < many ∧ Blk W wr.heap.size #[.int .i64 (k : Int)] 3 ∧ Blk W w.heap.size #[.slice a len cap] 33 ∧ Blk W (w.heap.size + 1) #[.int .i64 many] 3 ∧ Blk W (w.heap.size + 1 + 1) #[.bool false] 4 ∧ Upd (From w.heap.size) w W)
            (fun c k W => c = .exit 2 ∧ (k : Int) + 1 = many ∧ Blk W wr.heap.size #[.int .i64 ((k : Int) + 1)] 3 ∧ Blk W w.heap.size #[.slice a len cap] 33 ∧ Blk W (w.heap.size + 1) #[.int .i64 many] 3 ∧ Blk W (w.heap.size + 1 + 1) #[.bool false] 4 ∧ Upd (From w.heap.size) w W)
            (fun k A B hs hb => ⟨hs.1, hs.2.1.bk hb (fun h => h), hs.2.2.1.bk hb (fun h => h), hs.2.2.2.1.bk hb (fun h => h), hs.2.2.2.2.1.bk hb (fun h => h), hs.2.2.2.2.2.bk hb (by omega) (fun _ h => h.elim)⟩)
            (fun c k A B hs hb => ⟨hs.1, hs.2.1, hs.2.2.1.bk hb (fun h => h), hs.2.2.2.1.bk hb (fun h => h), hs.2.2.2.2.1.bk hb (fun h => h), hs.2.2.2.2.2.1.bk hb (fun h => h), hs.2.2.2.2.2.2.bk hb (by omega) (fun _ h => h.elim)⟩)
            ⟨by omega, qn, q1, q2, q3, HUw.out⟩
            ?rnd ?dn ?stp
          case rnd =>
            intro l k x hx W9 K' hK'
            gi_wp2
            rintro W ⟨hkm, n1, n2, n3, n4, hB⟩
            rw [idxs_get, Option.map_eq_some_iff] at hx
            obtain ⟨z, hz, rfl⟩ := hx
            obtain ⟨hk', rfl⟩ := mapRange_get hz
            obtain ⟨x1, rfl, g1⟩ := C1.out k hk'
            have hx1 : (x1.add k).block < w.heap.size := World.block_lt_of_cell? w _ g1
            have g2 := keep hB g1
            have m1 : W.cell? ⟨wr.heap.size, 0, none⟩ = some (.int .i64 (k : Int)) := n1.cell 0
            have m1' := n1.frozen 0
            have m2 : W.cell? ⟨w.heap.size, 0, none⟩ = some (.slice (some x1) len cap) := n2.cell 0
            have m3 : W.cell? ⟨w.heap.size + 1, 0, none⟩ = some (.int .i64 many) := n3.cell 0
            clear g1 hz
            by_cases hlast : (k : Int) + 1 = many
            · gi_wp2
              exact ⟨Upd.setCell _ (p := ⟨wr.heap.size, 0, none⟩) (.inl rfl) _, rfl, hlast, by rw [hlast]; exact n1.set 0 _, n2.other 0 _ (by omega), n3.other 0 _ (by omega), n4.other 0 _ (by omega),
                hB.from (Upd.setCell _ (p := ⟨wr.heap.size, 0, none⟩) (show w.heap.size ≤ wr.heap.size by omega) _)⟩
            · gi_wp2
              exact ⟨Upd.setCell _ (p := ⟨wr.heap.size, 0, none⟩) (.inl rfl) _, by omega, n1.set 0 _, n2.other 0 _ (by omega), n3.other 0 _ (by omega), n4.other 0 _ (by omega),
                hB.from (Upd.setCell _ (p := ⟨wr.heap.size, 0, none⟩) (show w.heap.size ≤ wr.heap.size by omega) _)⟩
          case dn =>
            rintro D W hD ⟨hkm, n1, n2, n3, n4, hB⟩ hK
            rw [idxs_length, List.length_map, List.length_range] at hkm n1
            have m1 : W.cell? ⟨wr.heap.size, 0, none⟩ = some (.int .i64 (len : Int)) := n1.cell 0
            have m2 : W.cell? ⟨w.heap.size, 0, none⟩ = some (.slice a len cap) := n2.cell 0
            have m3 : W.cell? ⟨w.heap.size + 1, 0, none⟩ = some (.int .i64 many) := n3.cell 0
            go_wp2_with fail
            refine (works_any W).mono ?_
            rintro e w4 ⟨rfl, hb4⟩
            have hu4 := Below.upd hb4 NoF
            have q4 := n4.upd hu4 (fun h => h)
            have d4 : w4.cell? ⟨w.heap.size + 1 + 1, 0, none⟩ = some (.bool false) := q4.cell 0
            have f4 := q4.frozen 0
            have HQ4 := Lib.hid (q4.set 0 (.bool true))
            have HU4 := Lib.hid (hB.from hu4.toFrom)
            have HK4 := Lib.hid (hu4.others.same D _ hK rfl)
            clear hb4 hu4 q4
            go_wp2
            have hK5 := (Upd.setCell (F := From w.heap.size) w4 (p := ⟨w.heap.size + 1 + 1, 0, none⟩) (show w.heap.size ≤ w.heap.size + 1 + 1 by omega) (.bool true)).others.same D _ HK4.out rfl
            have q5 := HQ4.out.bk (Bk.putObj (n := w.heap.size) (G := NoF) hK5 rfl (by omega) (.deferred none)) (fun h => h)
            have hc5 : _ = some (Value.bool true) := q5.cell 0
            refine postM_ret1 hK5 (v := .bool true) (by simp [results, Try.f4, go_sem, hc5]) ⟨rfl, ?_⟩
            exact ((HU4.out.from (Upd.setCell _ (p := ⟨w.heap.size + 1 + 1, 0, none⟩) (show w.heap.size ≤ w.heap.size + 1 + 1 by omega) _)).bk (Bk.putObj (n := w.heap.size) (G := NoF) hK5 rfl (by omega) _) (Nat.le_refl _) (fun _ h => h.elim)).belowFrom (Nat.le_refl _)
          case stp =>
            rintro D c k W hD hkl ⟨rfl, hkm, n1, n2, n3, n4, hB⟩ hK
            rw [idxs_length, List.length_map, List.length_range] at hkl
            have m1 : W.cell? ⟨wr.heap.size, 0, none⟩ = some (.int .i64 ((k : Int) + 1)) := n1.cell 0
            have m2 : W.cell? ⟨w.heap.size, 0, none⟩ = some (.slice a len cap) := n2.cell 0
            have m3 : W.cell? ⟨w.heap.size + 1, 0, none⟩ = some (.int .i64 many) := n3.cell 0
            go_wp2_with fail
            refine (works_any W).mono ?_
            rintro e w4 ⟨rfl, hb4⟩
            have hu4 := Below.upd hb4 NoF
            have q4 := n4.upd hu4 (fun h => h)
            have d4 : w4.cell? ⟨w.heap.size + 1 + 1, 0, none⟩ = some (.bool false) := q4.cell 0
            have f4 := q4.frozen 0
            have HQ4 := Lib.hid (q4.set 0 (.bool true))
            have HU4 := Lib.hid (hB.from hu4.toFrom)
            have HK4 := Lib.hid (hu4.others.same D _ hK rfl)
            clear hb4 hu4 q4
            go_wp2
            have hK5 := (Upd.setCell (F := From w.heap.size) w4 (p := ⟨w.heap.size + 1 + 1, 0, none⟩) (show w.heap.size ≤ w.heap.size + 1 + 1 by omega) (.bool true)).others.same D _ HK4.out rfl
            have q5 := HQ4.out.bk (Bk.putObj (n := w.heap.size) (G := NoF) hK5 rfl (by omega) (.deferred none)) (fun h => h)
            have hc5 : _ = some (Value.bool true) := q5.cell 0
            refine postM_ret1 hK5 (v := .bool true) (by simp [results, Try.f4, go_sem, hc5]) ⟨rfl, ?_⟩
            exact ((HU4.out.from (Upd.setCell _ (p := ⟨w.heap.size + 1 + 1, 0, none⟩) (show w.heap.size ≤ w.heap.size + 1 + 1 by omega) _)).bk (Bk.putObj (n := w.heap.size) (G := NoF) hK5 rfl (by omega) _) (Nat.le_refl _) (fun _ h => h.elim)).belowFrom (Nat.le_refl _)
end Go.Proofs.Ytlkpbhmifhoaiaa.PW
