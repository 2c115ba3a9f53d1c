/- OrderRing: the walk. -/
import Derived.Test.YtbhcdbnbiocimaaRingB
import Derived.Test.YtbhcdbnbiocimaaRingQ
import Derived.Deep.CutBlock
import Derived.Test.YtbhcdbnbiocimaaSortY
import Derived.Test.YtbhcdbnbiocimaaSortC
set_option linter.unusedSimpArgs false
set_option linter.unusedVariables false
namespace Go.Proofs.Ytbhcdbnbiocimaa.RI
open Go.RowKit
open _root_.Go.Proofs.Ytbhcdbnbiocimaa.Ord (works_any asked_any gives_any older)
open SU (SA clone64 sort_any compact_same compact_less rowV)
open Go.Sort (ltInt PermIn SortedIn)
attribute [local go_sem] Oper.semAt_some
def mkB (l c : Value) : Sem Value := Instr.makeSlice 23 l c
theorem mkB_eq (l c : Value) : Instr.makeSlice 23 l c = mkB l c := rfl
attribute [local go_sem ↓] mkB_eq
theorem mkB_run (n : Nat) (hn : n ≤ 65536) (w : World) : (mkB (.int .i64 n) (.int .i64 n)).run Try.prog w = .ok (.slice (some ⟨w.heap.size, 0, none⟩) n n) (w.alloc (.cells (madeCells #[.bool false] (n * 1)) 4)) := by
  have hi : (Try.prog.info? 4).map (fun i => (i.zero, i.size, i.bytes)) = some (some (.bool false), 1, 1) := by kernel_rfl
  cases hq : Try.prog.info? 4 with
  | none => rw [hq] at hi; cases hi
  | some i =>
    rw [hq] at hi
    simp at hi
    have := run_make (P := Try.prog) w 23 4 i (.bool false) Try.underlying23 hq hi.1 .i64 .i64 n n (by omega) (by omega) (by rw [hi.2.2]; omega) (by omega)
    rw [hi.2.1] at this
    exact this
theorem made_flags (w : World) (n : Nat) : BA (w.alloc (.cells (madeCells #[.bool false] (n * 1)) 4)) w.heap.size n (fun _ => false) := by
  have hb := Blk.new w (madeCells #[.bool false] (n * 1)) 4
  refine ⟨fun t ht => ?_, fun t _ => hb.frozen _⟩
  rw [hb.cell, Nat.zero_add]
  simp [madeCells, Nat.mod_one, ht]
theorem isRow_upd {w w' : World} {a : Option Addr} {len cap : Nat} {V : Nat → Value} (h : IsRow1 w a len cap V) (hu : Upd NoF w w') : IsRow1 w' a len cap V :=
  ⟨h.1, h.2.1, fun i hi => by obtain ⟨x, hx, hc⟩ := h.2.2 i hi; exact ⟨x, hx, hu.cell hc (fun h => h)⟩⟩
theorem row_sa {w w' : World} {v' : Value} {n : Nat} {Z : Nat → Int} (h1 : 1 ≤ n) (hu : Upd NoF w w') (hr : Row w' 26 1 v' n ((List.range n).map fun j => .int .u64 (Z j))) (hk : ∀ k, v'.ownBlock = some k → w.heap.size ≤ k) :
    ∃ g c, v' = rowV g 0 n c ∧ n ≤ c ∧ c ≤ maxLen ∧ w.heap.size ≤ g ∧ g < w'.heap.size ∧ SA w w' g 0 ((List.range n).map Z).toArray := by
  obtain ⟨hl, h | ⟨g, cap, cur, rfl, hb, hn, hm, hc, hx⟩⟩ := hr
  · omega
  · have hB : Blk w' g cur 26 := hb
    refine ⟨g, cap, rfl, hn, hm, hk g (by simp [Value.ownBlock]), hB.lt, hu.mono (fun _ _ h => h.elim), fun t ht => ?_, fun t ht => hB.frozen _⟩
    simp at ht
    rw [hB.cell, Nat.zero_add]
    have h3 : (cur.toList.take (n * 1))[t]? = some (.int .u64 (Z t)) := by rw [hx, List.getElem?_map, List.getElem?_range ht]; rfl
    rw [List.getElem?_take_of_lt (by omega)] at h3
    rw [← Array.getElem?_toList, h3]
    simp [ht]
section
variable {w : World} {x : Addr} {len cap len2 cap2 : Nat} {Z : Nat → Int} {a2 : Option Addr} {B : Nat → Bool}
set_option maxRecDepth 100000 in
set_option maxHeartbeats 4000000 in
theorem ring_small (a : Option Addr) (hs : len < 2 ∨ 100 < len) (hm : len ≤ maxLen) :
    Calls Try.prog 3 #[.slice a len cap, .slice a2 len2 cap2] w fun e w' => e = .returned (.bool true) ∧ Upd NoF w w' := by
  unfold maxLen at hm
  rcases hs with hs | hs
  · have hsI : (len : Int) < 2 := by omega
    go_enter Try.func3, Try.ntmps3
    go_wp2_with (go_at_call 4; refine (works_any _).mono ?_; rintro e w' ⟨rfl, rfl⟩)
    go_ret
    exact ⟨rfl, Upd.refl _ _⟩
  · have hsI : (100 : Int) < (len : Int) := by omega
    have hs2 : ¬ len < 2 := by omega
    have hs2I : ¬ (len : Int) < 2 := by omega
    have hsD : decide ((len : Int) < 2) = false := decide_eq_false hs2I
    go_enter Try.func3, Try.ntmps3
    go_wp2_with (go_at_call 4; refine (works_any _).mono ?_; rintro e w' ⟨rfl, rfl⟩)
    go_ret
    exact ⟨rfl, Upd.refl _ _⟩
end
section
variable {w : World} {x : Addr} {n cap len2 cap2 : Nat} {Z : Nat → Int} {a2 : Option Addr} {B : Nat → Bool}
set_option maxRecDepth 100000 in
set_option maxHeartbeats 8000000 in
theorem ring_big (h2 : 2 ≤ n) (h100 : n ≤ 100) (hn : n ≤ cap) (hm : cap ≤ maxLen) (hc : ∀ j, j < n → w.cell? (x.add j) = some (.int .u64 (Z j))) (hZ : ∀ j, j < n → 0 ≤ Z j) (hB : IsRow1 w a2 len2 cap2 (fun i => .bool (B i))) :
    Calls Try.prog 3 #[.slice (some x) n cap, .slice a2 len2 cap2] w fun e w' => e = .returned (.bool true) ∧ Upd NoF w w' := by
  have HC := Lib.hid hc
  have HBB := Lib.hid hB
  have HZ := Lib.hid hZ
  have CL := Lib.hid (clone64 w x n cap Z (by omega) hn hm hc (by omega))
  clear hc hB hZ
  have hs2 : ¬ n < 2 := by omega
  have hs2D : decide ((n : Int) < 2) = false := decide_eq_false (by omega)
  have hs3 : ¬ 100 < n := by omega
  have hs3D : decide ((100 : Int) < (n : Int)) = false := decide_eq_false (by omega)
  go_enter Try.func3, Try.ntmps3
  go_upto_region 5 with (go_at_call 5; refine CL.out.mono ?_; rintro e w1 ⟨v1, rfl, hu1, hr1, hk1⟩; obtain ⟨g, c, rfl, hgc, hcm, hg1, hg2, hSA⟩ := row_sa (by omega) hu1 hr1 hk1; have HU1 := Lib.hid hu1; have HS1 := Lib.hid hSA; clear hu1 hr1 hk1 hSA)
  have hdz : ((List.range n).map Z).toArray.size = n := by simp
  have SO := sort_any c HS1.out (by rw [hdz]; omega)
  rw [hdz] at SO
  have SO := Lib.hid SO
  go_upto_region 6 with (go_at_call 6; refine SO.out.mono ?_; rintro e w2 ⟨rfl, R, hS2, hP2, hO2⟩; have HS2 := Lib.hid hS2; have HP2 := Lib.hid hP2; have HO2 := Lib.hid hO2; clear hS2 hP2 hO2)
  have hRz : R.size = n := by have := HP2.out.1; rw [this]; exact hdz
  have cR : ∀ t, t < n → w2.cell? ⟨g, 0 + t, none⟩ = some (.int .u64 R[t]!) := fun t ht => HS2.out.cell t (by omega)
  have HCR := Lib.hid cR
  have HU2 : Hid (Upd NoF w w2) := Lib.hid (HS2.out.upd.mono (fun i hi h => by unfold OnlyAt at h; omega))
  have c0 : w2.cell? ⟨g, 0, none⟩ = some (.int .u64 R[0]!) := cR 0 (by omega)
  clear cR
  obtain ⟨r0, hr0⟩ : ∃ r0, r0 = R[0]! := ⟨_, rfl⟩
  rw [← hr0] at c0
  have HR0 := Lib.hid hr0
  clear hr0
  by_cases h0 : r0 = 0
  · subst h0
    go_wp2_with (go_at_call 4; refine (works_any _).mono ?_; rintro e w' ⟨rfl, rfl⟩)
    go_ret
    exact ⟨rfl, HU2.out⟩
  · have h0b : (r0 == 0) = false := by simpa using h0
    have hg3 : g < w2.heap.size := World.block_lt_of_cell? w2 ⟨g, 0, none⟩ c0
    have CL2 := Lib.hid (clone64 w2 ⟨g, 0, none⟩ n c (fun t => R[t]!) (by omega) hgc hcm (fun j hj => by rw [Addr.add_lit]; exact HCR.out j hj) (by omega))
    have hRd : ((List.range n).map fun t => R[t]!).toArray = R := by
      apply Array.ext
      · simp [hRz]
      · intro i h1 h3
        simp
        rw [getElem!_pos R i h3]
    by_cases hdup : ∃ t, 1 ≤ t ∧ t < n ∧ R[t]! = R[t - 1]!
    · have HD := Lib.hid hdup
      clear hdup
      go_wp2_with (first | (go_at_call 5; refine CL2.out.mono ?_; rintro e w3 ⟨v3, rfl, hu3, hr3, hk3⟩; obtain ⟨g3, c3, rfl, hgc3, hcm3, hg31, hg32, hSA3⟩ := row_sa (by omega) hu3 hr3 hk3; rw [hRd] at hSA3; have HU3 := Lib.hid hu3; have HS3 := Lib.hid hSA3; clear hu3 hr3 hk3 hSA3; have CP := compact_less c3 HS3.out (by omega) (by omega) (by omega) hcm3 (by rw [hRz]; exact HD.out); rw [hRz] at CP; have CP := Lib.hid CP))
      go_at_call 7
      refine CP.out.mono ?_
      rintro e w4 ⟨m, rfl, hmn, hu4⟩
      have HU4 := Lib.hid hu4
      clear hu4
      have hmn2 : ¬ m = n := by omega
      have hmnb : ((m : Int) != (n : Int)) = true := bne_iff_ne.2 (by omega)
      go_wp2_with fail
      go_at_call 4
      refine (works_any _).mono ?_
      rintro e w' ⟨rfl, rfl⟩
      go_wp2_with fail
      go_ret
      exact ⟨rfl, HU2.out.trans HU4.out (fun i hi h => by have := HU2.out.size; unfold OnlyAt at h; omega)⟩
    · have hne : ∀ t, 1 ≤ t → t < n → R[t]! ≠ R[t - 1]! := fun t h1 h2 e => hdup ⟨t, h1, h2, e⟩
      obtain ⟨hpos, hinj, hmin⟩ := order_facts HP2.out HO2.out (by omega) HZ.out (by rw [← HR0.out]; exact h0) hne
      rw [← HR0.out] at hmin
      have HPOS := Lib.hid hpos
      have HINJ := Lib.hid hinj
      have HMIN := Lib.hid hmin
      have HNE := Lib.hid hne
      clear hpos hinj hmin hne hdup
      have hnnb : ((n : Int) != (n : Int)) = false := by simp
      go_upto_region 8 with (first | (go_at_call 5; refine CL2.out.mono ?_; rintro e w3 ⟨v3, rfl, hu3, hr3, hk3⟩; obtain ⟨g3, c3, rfl, hgc3, hcm3, hg31, hg32, hSA3⟩ := row_sa (by omega) hu3 hr3 hk3; rw [hRd] at hSA3; have HU3 := Lib.hid hu3; have HS3 := Lib.hid hSA3; clear hu3 hr3 hk3 hSA3; have CP := compact_same c3 HS3.out (by omega) (by omega) (by rw [hRz]; exact HNE.out); rw [hRz] at CP; have CP := Lib.hid CP) | (go_at_call 7; refine CP.out.mono ?_; rintro e w4 ⟨rfl, hS4⟩; have HS4 := Lib.hid hS4; clear hS4))
      have HU4 : Hid (Upd NoF w2 w4) := Lib.hid (HS4.out.upd.mono (fun i hi h => by unfold OnlyAt at h; omega))
      have MK := Lib.hid (mkB_run n (by omega) w4)
      have BA0 := Lib.hid (made_flags w4 n)
      have HU5 := Lib.hid (HU4.out.trans (Upd.alloc NoF w4 (.cells (madeCells #[.bool false] (n * 1)) 4)) (fun _ _ h => h))
      have hsz4 := HU4.out.size
      obtain ⟨g5, hg5⟩ : ∃ g5, g5 = w4.heap.size := ⟨_, rfl⟩
      rw [← hg5] at MK BA0
      obtain ⟨w5, hw5⟩ : ∃ w5, w5 = w4.alloc (.cells (madeCells #[.bool false] (n * 1)) 4) := ⟨_, rfl⟩
      rw [← hw5] at MK BA0 HU5
      have hg5g : w2.heap.size ≤ g5 := by omega
      clear hw5 hg5 hsz4
      obtain ⟨m6, w6, f6, hcp, hba6, hu6⟩ := copy_flags (cap := n) BA0.out (isRow_upd HBB.out (HU2.out.trans HU5.out (fun _ _ h => h)))
      have HCP := Lib.hid hcp
      have HBA6 := Lib.hid hba6
      have HU6 : Hid (Upd (OnlyAt g5) w2 w6) := Lib.hid ((HU5.out.mono (fun _ _ h => h.elim)).trans hu6 (fun _ _ h => h))
      clear hcp hba6 hu6
      go_wp2_with (first | (simp only [MK.out]) | (simp only [HCP.out]))
      have hAK : ∀ (zk zi : Int) (uk : Bool) (W : World), 0 < zk → Calls Try.prog 8 #[.int .u64 zk, .bool uk, .bool true, .int .u64 zi] W fun e w' => e = .returned (.tuple #[.bool true, .bool (uk || older zi zk)]) ∧ W = w' := fun zk zi uk W hz => by
        have h0 : (zk != 0) = true := bne_iff_ne.2 (by omega)
        have := asked_any zk uk true zi W
        rw [h0] at this
        simpa using this
      have HAK := Lib.hid hAK
      have hcz : ∀ W : World, Upd (OnlyAt g5) w2 W → ∀ j, j < n → W.cell? (x.add j) = some (.int .u64 (Z j)) := fun W hu j hj => by
        have h1 := HC.out j hj
        have hlt := World.block_lt_of_cell? w _ h1
        have h2 := HU2.out.cell h1 (fun h => h)
        exact hu.cell h2 (fun h => by unfold OnlyAt at h; have := HU2.out.size; omega)
      have HCZ := Lib.hid hcz
      clear hAK hcz
      go_loopw [47] (fun i wr => ∃ k : Nat, k ≤ n ∧ i = .int .i64 k ∧ Hid (BA wr g5 n (up Z f6 n k) ∧ Upd (OnlyAt g5) w2 wr)) (fun i _ => n - (intOf i).toNat)
      case atStart => exact ⟨0, Nat.zero_le _, rfl, Lib.hid ⟨HBA6.out, HU6.out⟩⟩
      case round =>
        obtain ⟨i, hi, rfl, HI⟩ := hrel
        obtain ⟨wj, hwj⟩ : ∃ x, x = wr := ⟨_, rfl⟩
        subst hwj
        by_cases hlt : i < n
        · have hltI : (i : Int) < (n : Int) := by omega
          obtain ⟨k, hk⟩ : ∃ k, k = (i + 1) % n := ⟨_, rfl⟩
          have hkn : k < n := by rw [hk]; exact Nat.mod_lt _ (by omega)
          have cZi := HCZ.out _ HI.out.2 i hlt
          have cZk := HCZ.out _ HI.out.2 k hkn
          have HF := Lib.hid (HI.out.1.cell k hkn)
          obtain ⟨zi, hzi⟩ : ∃ z, z = Z i := ⟨_, rfl⟩
          obtain ⟨zk, hzk⟩ : ∃ z, z = Z k := ⟨_, rfl⟩
          obtain ⟨uk, huk⟩ : ∃ z, z = up Z f6 n i k := ⟨_, rfl⟩
          have hzp : 0 < zk := by rw [hzk]; exact HPOS.out k hkn
          rw [← hzi] at cZi
          rw [← hzk] at cZk
          rw [← huk] at HF
          have cF := HF.out
          have cF2 : wj.cell? ⟨g5, k, none⟩ = some (.bool uk) := by rw [Nat.zero_add] at cF; exact cF
          have AK := Lib.hid (fun W => HAK.out zk zi uk W hzp)
          have hkI : ((i : Int) + 1) % (n : Int) = (k : Int) := by rw [hk]; push_cast; rfl
          have HK := Lib.hid hk
          have HZI := Lib.hid hzi
          have HZK := Lib.hid hzk
          have HUK := Lib.hid huk
          clear hk hzi hzk huk HF
          go_upto_region 14 with fail
          simp only [hkI]
          clear hkI
          go_quiet (first | (go_at_call 8; exact Calls.quiet_of_same ((AK.out _).mono (fun _ _ h => ⟨h.1, h.2.symm⟩))))
          obtain ⟨wk, hwk⟩ : ∃ wk, wk = wj.drewN nq := ⟨_, rfl⟩
          rw [← hwk]
          obtain ⟨nk, hnk⟩ : ∃ b, b = (uk || older zi zk) := ⟨_, rfl⟩
          rw [← hnk]
          have hBAk : BA wk g5 n (up Z f6 n i) := by rw [hwk]; exact ⟨HI.out.1.cell, HI.out.1.free⟩
          have hUk : Upd (OnlyAt g5) w2 wk := by rw [hwk]; exact HI.out.2.trans (Upd.drewN (OnlyAt g5) wj nq) (fun _ _ h => h)
          have HST := Lib.hid (hBAk.set hkn nk)
          have HUT := Lib.hid (hUk.trans (Upd.setCell (F := OnlyAt g5) wk (p := ⟨g5, 0 + k, none⟩) rfl (.bool nk)) (fun _ _ h => h))
          have cF3 : wk.cell? ⟨g5, k, none⟩ = some (.bool uk) := by have := hBAk.cell k hkn; rw [Nat.zero_add, ← HUK.out] at this; exact this
          have fF3 : wk.frozen? ⟨g5, k, none⟩ = false := by have := hBAk.free k hkn; rw [Nat.zero_add] at this; exact this
          have hRel : BA (wk.setCell ⟨g5, 0 + k, none⟩ (.bool nk)) g5 n (up Z f6 n (i + 1)) := by
            refine ⟨fun t ht => ?_, HST.out.free⟩
            rw [HST.out.cell t ht]
            show some (Value.bool (if t = k then nk else up Z f6 n i t)) = some (Value.bool (if (i + 1) % n = t then up Z f6 n i t || older (Z i) (Z t) else up Z f6 n i t))
            rw [← HK.out]
            by_cases e : t = k
            · subst e
              rw [if_pos rfl, if_pos rfl, hnk, ← HUK.out, ← HZI.out, ← HZK.out]
            · rw [if_neg e, if_neg (fun h => e h.symm)]
          rw [Nat.zero_add] at hRel HUT
          have HREL := Lib.hid hRel
          clear hRel HST hBAk hUk cF cF2 cZi cZk hwk AK
          cases uk with
          | false =>
            clear hnk
            go_wp2
            go_roundw
            case rel => exact ⟨i + 1, by omega, by go_num, Lib.hid ⟨HREL.out, HUT.out⟩⟩
            case measure => simp [intOf]; omega
          | true =>
            obtain rfl : nk = true := by rw [hnk]; rfl
            clear hnk
            go_wp2
            go_roundw
            case rel => exact ⟨i + 1, by omega, by go_num, Lib.hid ⟨HREL.out, HUT.out⟩⟩
            case measure => simp [intOf]; omega
        · have hltI0 : ¬ (i : Int) < (n : Int) := by omega
          have hin : i = n := by omega
          have HI2 : Hid (BA wj g5 n (up Z f6 n n) ∧ Upd (OnlyAt g5) w2 wj) := by rw [hin] at HI; exact HI
          clear HI hin hltI0
          go_upto_region 21 with fail
          obtain ⟨G, hG⟩ : ∃ G : Nat → Bool, ∀ j, G j = (up Z f6 n n j && older (Z ((j + 1) % n)) (Z j)) := ⟨fun j => _, fun _ => rfl⟩
          have HG := Lib.hid hG
          clear hG
          go_loopw [12, 88] (fun s12 i wr => ∃ (k : Nat) (sm : Bool), k ≤ n ∧ i = .int .i64 k ∧ s12 = .bool sm ∧ Hid (sm = (List.range k).any G ∧ BA wr g5 n (up Z f6 n n) ∧ Upd (OnlyAt g5) w2 wr)) (fun _ i _ => n - (intOf i).toNat)
          case atStart => exact ⟨0, false, Nat.zero_le _, rfl, rfl, Lib.hid ⟨rfl, HI2.out.1, HI2.out.2⟩⟩
          case round =>
            obtain ⟨j, sm, hj, rfl, rfl, HJ⟩ := hrel
            obtain ⟨wq, hwq⟩ : ∃ x, x = wr := ⟨_, rfl⟩
            subst hwq
            by_cases hlt2 : j < n
            · have hlt2I : (j : Int) < (n : Int) := by omega
              obtain ⟨k, hk⟩ : ∃ k, k = (j + 1) % n := ⟨_, rfl⟩
              have hkn : k < n := by rw [hk]; exact Nat.mod_lt _ (by omega)
              have hkI : ((j : Int) + 1) % (n : Int) = (k : Int) := by rw [hk]; push_cast; rfl
              have cZi := HCZ.out _ HJ.out.2.2 j hlt2
              have cZk := HCZ.out _ HJ.out.2.2 k hkn
              have cF := HJ.out.2.1.cell j hlt2
              obtain ⟨zi, hzi⟩ : ∃ z, z = Z j := ⟨_, rfl⟩
              obtain ⟨zk, hzk⟩ : ∃ z, z = Z k := ⟨_, rfl⟩
              obtain ⟨uk, huk⟩ : ∃ z, z = up Z f6 n n j := ⟨_, rfl⟩
              rw [← hzi] at cZi
              rw [← hzk] at cZk
              rw [← huk, Nat.zero_add] at cF
              have hgj : G j = (uk && older zk zi) := by rw [HG.out, ← huk, ← hk, ← hzk, ← hzi]
              have GV := Lib.hid (fun W => gives_any zi uk zk W)
              obtain ⟨gv, hgv⟩ : ∃ b, b = (uk && older zk zi) := ⟨_, rfl⟩
              rw [← hgv] at GV hgj
              have HGJ := Lib.hid hgj
              have hold : gv = true → zi ≠ r0 := fun h e => by
                have := oldest_stays Z n j r0 HMIN.out hlt2 (by rw [← hzi]; exact e) k hkn
                rw [← hzk, ← hzi] at this
                rw [hgv, this, Bool.and_false] at h
                cases h
              have HK := Lib.hid hk
              have HZI := Lib.hid hzi
              have HZK := Lib.hid hzk
              have HUK := Lib.hid huk
              have HOLD := Lib.hid hold
              clear hk hzi hzk huk hgv hgj hold
              go_upto_region 23 with fail
              go_quiet (first | (go_at_call 9; exact Calls.quiet_of_same ((GV.out _).mono (fun _ _ h => ⟨h.1, h.2.symm⟩))))
              clear hkI
              obtain ⟨wk, hwk⟩ : ∃ wk, wk = wq.drewN nq := ⟨_, rfl⟩
              rw [← hwk]
              have hUk : Upd (OnlyAt g5) w2 wk := by rw [hwk]; exact HJ.out.2.2.trans (Upd.drewN (OnlyAt g5) wq nq) (fun _ _ h => h)
              have hBk : BA wk g5 n (up Z f6 n n) := by rw [hwk]; exact ⟨HJ.out.2.1.cell, HJ.out.2.1.free⟩
              have cZi2 : wk.cell? (x.add j) = some (.int .u64 zi) := by rw [HZI.out]; exact HCZ.out _ hUk j hlt2
              have cR0 : wk.cell? ⟨g, 0, none⟩ = some (.int .u64 r0) := hUk.cell c0 (fun h => by have h' : g = g5 := h; omega)
              have hnx : (List.range (j + 1)).any G = (sm || gv) := by
                rw [List.range_succ, List.any_append, ← HJ.out.1, ← HGJ.out]
                simp
              have HNX := Lib.hid hnx
              have HBk := Lib.hid hBk
              have HUk := Lib.hid hUk
              clear hUk hBk hwk hnx cZi cZk cF GV HJ
              cases gv with
              | false =>
                go_upto_region 24 with fail
                go_quiet (fail)
                cases sm with
                | false =>
                  go_wp2
                  go_roundw
                  case rel => exact ⟨j + 1, false, by omega, by go_num, rfl, Lib.hid ⟨HNX.out.symm, ⟨HBk.out.cell, HBk.out.free⟩, HUk.out.trans (Upd.drewN (OnlyAt g5) wk _) (fun _ _ h => h)⟩⟩
                  case measure => simp [intOf]; omega
                | true =>
                  go_wp2
                  go_roundw
                  case rel => exact ⟨j + 1, true, by omega, by go_num, rfl, Lib.hid ⟨HNX.out.symm, ⟨HBk.out.cell, HBk.out.free⟩, HUk.out.trans (Upd.drewN (OnlyAt g5) wk _) (fun _ _ h => h)⟩⟩
                  case measure => simp [intOf]; omega
              | true =>
                have hne0 : (zi == r0) = false := by simpa using HOLD.out rfl
                go_upto_region 24 with fail
                go_quiet (fail)
                cases sm with
                | false =>
                  go_wp2
                  go_roundw
                  case rel => exact ⟨j + 1, true, by omega, by go_num, rfl, Lib.hid ⟨HNX.out.symm, ⟨HBk.out.cell, HBk.out.free⟩, HUk.out.trans (Upd.drewN (OnlyAt g5) wk _) (fun _ _ h => h)⟩⟩
                  case measure => simp [intOf]; omega
                | true =>
                  go_wp2
                  go_roundw
                  case rel => exact ⟨j + 1, true, by omega, by go_num, rfl, Lib.hid ⟨HNX.out.symm, ⟨HBk.out.cell, HBk.out.free⟩, HUk.out.trans (Upd.drewN (OnlyAt g5) wk _) (fun _ _ h => h)⟩⟩
                  case measure => simp [intOf]; omega
            · have hltI2 : ¬ (j : Int) < (n : Int) := by omega
              have hsm : sm = true := by
                obtain ⟨q, hq1, hq2⟩ := some_gives Z f6 n h2 HPOS.out HINJ.out
                rw [HJ.out.1]
                exact List.any_eq_true.2 ⟨q, List.mem_range.2 (by omega), by rw [HG.out]; exact hq2⟩
              subst hsm
              have HJU := Lib.hid HJ.out.2.2
              clear HJ
              go_wp2_with fail
              go_at_call 4
              refine (works_any _).mono ?_
              rintro e w' ⟨rfl, rfl⟩
              go_wp2_with fail
              go_ret
              exact ⟨rfl, HU2.out.trans HJU.out (fun i hi h => by have := HU2.out.size; unfold OnlyAt at h; omega)⟩
end
/-- The whole law's walk. -/
theorem ring_any (a : Option Addr) (len cap : Nat) (Z : Nat → Int) (a2 : Option Addr) (len2 cap2 : Nat) (B : Nat → Bool) (w : World) (h : IsRow1 w a len cap (fun i => .int .u64 (Z i))) (hZ : ∀ j, j < len → 0 ≤ Z j) (hB : IsRow1 w a2 len2 cap2 (fun i => .bool (B i))) :
    Calls Try.prog 3 #[.slice a len cap, .slice a2 len2 cap2] w fun e w' => e = .returned (.bool true) ∧ Below w.heap.size w w' := by
  have hend : ∀ {e : Ending} {w' : World}, (e = .returned (.bool true) ∧ Upd NoF w w') → (e = .returned (.bool true) ∧ Below w.heap.size w w') := fun h => ⟨h.1, h.2.below (Nat.le_refl _) (fun _ _ h => h)⟩
  by_cases hs : len < 2 ∨ 100 < len
  · exact (ring_small a hs (Nat.le_trans h.1 h.2.1)).mono fun e w' h => hend h
  · obtain ⟨x, rfl, _⟩ := h.2.2 0 (by omega)
    refine (ring_big (by omega) (by omega) h.1 h.2.1 (fun j hj => ?_) hZ hB).mono fun e w' h => hend h
    obtain ⟨y, hy, hc⟩ := h.2.2 j hj
    cases hy
    exact hc
end Go.Proofs.Ytbhcdbnbiocimaa.RI
