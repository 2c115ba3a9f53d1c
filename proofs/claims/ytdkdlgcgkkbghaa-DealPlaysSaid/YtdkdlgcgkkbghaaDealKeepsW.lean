/- The walk of the statement DealKeeps. -/
import Derived.Test.YtdkdlgcgkkbghaaDealInv
import Derived.Test.YtdkdlgcgkkbghaaDealNil
import Derived.ChangeKeysEq
import Derived.Deep.RegionHeld3
set_option linter.unusedSimpArgs false
set_option linter.unusedVariables false
namespace Go.Proofs.Ytdkdlgcgkkbghaa.DL
open Go.RowKit
open Go.Proofs.Ytdkdlgcgkkbghaa.Ord

attribute [local go_sem ↓] ldS_eq stS_eq
set_option maxRecDepth 100000 in
set_option maxHeartbeats 1000000 in
theorem neq_saveN (n : Int) (w : World) : (binOp .neq 36 (SV n) (SV n)).run Try.prog w = .ok (.bool false) w := by
  generalize hm : n % 4294967296 = m
  have h1 : (m == m) = true := by simp
  have h2 : (n == n) = true := by simp
  have hi : (Try.prog.info? 29).isSome = true := by kernel_rfl
  obtain ⟨i, hi⟩ := Option.isSome_iff_exists.1 hi
  have hc : Try.prog.cellsOf 29 = 1 := by kernel_rfl
  have hA := fun xs ys => run_equalIn_array (P := Try.prog) (w := w) 9998 xs ys Try.underlying34 hi
  simp [go_sem, h1, h2, hm, hA, hc, Op.eqItems]
attribute [local go_sem ↓] neq_saveN
theorem save_rangeAtK {w : World} {g : Nat} {n : Int} {T : TypeId} (h : Blk w g (SC n) T) : w.rangeAt g 0 (SC n).toList := by
  have h' := World.rangeAt_of_block h 0 17
  have e : ((SC n).extract 0 (0 + 17)).toList = (SC n).toList := by kernel_rfl
  exact Eq.mp (congrArg (fun x => w.rangeAt g 0 x) e) h'

set_option maxRecDepth 100000 in
set_option maxHeartbeats 4000000 in
theorem keeps_law (nest : Int) (a : Option Addr) (len cap : Nat) (V : Nat → Nat → Value) (K N S C : Nat → Int) (M : Nat → Bool) (w : World) (hC : ∀ i, i < len → 0 ≤ C i ∧ C i ≤ 4294967295) (h : IsRowF w a len cap 5 V)
    (hV : ∀ i, i < len → V i 0 = .int .i64 (K i) ∧ V i 1 = .int .i64 (N i) ∧ V i 2 = .int .u64 (S i) ∧ V i 3 = .int .u32 (C i) ∧ V i 4 = .bool (M i)) :
    Calls Try.prog 5 #[.int .i64 nest, .slice a len cap] w fun e w' => e = .returned (.bool true) ∧ Below w.heap.size w w' := by
  have HC := Lib.hid (show ∀ i, i < len → ∃ x g q, a = some x ∧ x.add (i * 5) = ⟨g, q, none⟩ ∧ g < w.heap.size ∧ w.cell? ⟨g, q, none⟩ = some (.int .i64 (K i)) ∧ w.cell? ⟨g, q + 1, none⟩ = some (.int .i64 (N i)) ∧ w.cell? ⟨g, q + 2, none⟩ = some (.int .u64 (S i)) ∧ w.cell? ⟨g, q + 3, none⟩ = some (.int .u32 (C i)) ∧ w.cell? ⟨g, q + 4, none⟩ = some (.bool (M i)) from fun i hi => by
    obtain ⟨x, g, q, hx, hxa, hg, hc⟩ := h.at (by decide) hi
    obtain ⟨h0, h1, h2, h3, h4⟩ := hV i hi
    exact ⟨x, g, q, hx, hxa, hg, by rw [← h0]; exact hc 0 (by decide), by rw [← h1]; exact hc 1 (by decide), by rw [← h2]; exact hc 2 (by decide), by rw [← h3]; exact hc 3 (by decide), by rw [← h4]; exact hc 4 (by decide)⟩)
  obtain ⟨hlc, hcm, _⟩ := h
  clear hV
  unfold maxLen at hcm
  by_cases h300 : (300 : Int) < (len : Int)
  · go_enter Try.func5, Try.ntmps5
    go_wp2_with fail
    refine (works_any _).mono ?_
    rintro e w1 ⟨rfl, hu⟩
    have HU := Lib.hid hu
    clear hu
    go_wp2
    go_ret
    exact ⟨rfl, HU.out.belowFrom (Nat.le_refl _)⟩
  · have h3b : decide ((300 : Int) < (len : Int)) = false := by simpa using h300
    by_cases hn : nest < 1 ∨ 8 < nest
    · have HN := Lib.hid (new_none nest hn w)
      clear hn
      go_enter Try.func5, Try.ntmps5
      go_wp2_with fail
      refine HN.out.mono ?_
      rintro e w1 ⟨rfl, rfl⟩
      go_wp2_with fail
      refine (works_any _).mono ?_
      rintro e w1 ⟨rfl, hu⟩
      have HU := Lib.hid hu
      clear hu
      go_wp2
      go_ret
      exact ⟨rfl, HU.out.belowFrom (Nat.le_refl _)⟩
    · have hn1 : 1 ≤ nest := by omega
      have hn8 : nest ≤ 8 := by omega
      clear hn
      go_enter Try.func5, Try.ntmps5
      go_wp2_with fail
      refine (new_any nest hn1 hn8 w).mono ?_
      rintro e w1 ⟨rfl, hd1, hu1⟩
      have HD1 := Lib.hid hd1; have HU1 := Lib.hid (hu1.toFrom (B := w.heap.size)); clear hd1 hu1
      obtain ⟨b, hb⟩ : ∃ b, w.heap.size = b := ⟨_, rfl⟩
      have HBL : Hid (w.heap.size ≤ b) := Lib.hid (by omega)
      rw [hb] at HD1 ⊢
      clear hb
      go_wp2_with fail
      obtain ⟨w2, hw2⟩ : ∃ w2, w1.alloc (.cells #[.int .u32 0, .int .u32 0, .int .u32 0, .int .u32 0, .int .u32 0, .int .u32 0, .int .u32 0, .int .u32 0, .int .u32 0, .int .u32 0, .int .u32 0, .int .u32 0, .int .u32 0, .int .u32 0, .int .u32 0, .int .u32 0, .int .i64 0] 36) = w2 := ⟨_, rfl⟩
      have HU2 : Hid (Upd (From w.heap.size) w w2) := Lib.hid (by rw [← hw2]; exact HU1.out.from (Upd.alloc _ _ _))
      have HD2 : Hid (DAt w2 b nest ⟨0, 0, 0, false, false, 0⟩) := Lib.hid (by rw [← hw2]; exact HD1.out.alloc _)
      have HO2 : Hid (Blk w2 w1.heap.size (SC 0) 36) := Lib.hid (by rw [← hw2]; exact Blk.new w1 _ _)
      have hgb0 : w1.heap.size ≠ b := by have := HD1.out.lt; omega
      have hgw0 : w.heap.size ≤ w1.heap.size := HU1.out.size
      rw [hw2]
      clear hw2
      obtain ⟨og, hog⟩ : ∃ og, w1.heap.size = og := ⟨_, rfl⟩
      rw [hog] at HO2 hgb0 hgw0 ⊢
      have hgb : og ≠ b := hgb0
      clear hog hgb0
      go_loopw [7, 32] (fun kv i wr => ∃ (k : Nat) (d : DS), k ≤ len ∧ i = .int .i64 k ∧ kv = .int .u64 d.st ∧ Hid (Upd (From w.heap.size) w wr ∧ DAt wr b nest d ∧ InvD nest d ∧ Blk wr og (SC d.n) 36)) (fun _ i _ => len - (intOf i).toNat)
      case atStart => exact ⟨0, _, Nat.zero_le _, rfl, rfl, HU2.out, HD2.out, ⟨by decide, by simp only; omega, fun h => absurd h (by decide), (fun h => by cases h), by decide, by decide⟩, HO2.out⟩
      case round =>
        obtain ⟨k, d, hk, rfl, rfl, HI⟩ := hrel
        by_cases hlt : k < len
        · obtain ⟨x, g, q, rfl, hxa, hgl, g0, g1, g2, g3, g4⟩ := HC.out k hlt
          have hcb := hC k hlt
          replace g0 := HI.out.1.cell g0 (fun h => by have : w.heap.size ≤ g := h; omega)
          replace g1 := HI.out.1.cell g1 (fun h => by have : w.heap.size ≤ g := h; omega)
          replace g2 := HI.out.1.cell g2 (fun h => by have : w.heap.size ≤ g := h; omega)
          replace g3 := HI.out.1.cell g3 (fun h => by have : w.heap.size ≤ g := h; omega)
          replace g4 := HI.out.1.cell g4 (fun h => by have : w.heap.size ≤ g := h; omega)
          have hbw := HI.out.2.1.lt
          generalize K k = kk at *
          generalize N k = nn at *
          generalize S k = ss at *
          generalize C k = cc at *
          generalize M k = mm at *
          have hne : wr.heap.size ≠ b := by omega
          have hgo : og < wr.heap.size := HI.out.2.2.2.lt
          have hi := HI.out.2.2.1
          have hdd : 0 ≤ d.depth ∧ d.depth ≤ 8 := ⟨hi.1, by have := hi.2.1; omega⟩
          have HI3 := Lib.hid hi
          clear hi
          obtain ⟨w3, hw3⟩ : ∃ w3, wr.alloc (.cells #[.int .i64 kk, .int .i64 nn, .int .u64 ss, .int .u32 cc, .bool mm] 31) = w3 := ⟨_, rfl⟩
          have HU3 : Hid (Upd (From w.heap.size) w w3) := Lib.hid (by rw [← hw3]; exact HI.out.1.from (Upd.alloc _ _ _))
          have HD3 : Hid (DAt w3 b nest d) := Lib.hid (by rw [← hw3]; exact HI.out.2.1.alloc _)
          have HO3 : Hid (Blk w3 og (SC d.n) 36) := Lib.hid (by rw [← hw3]; exact HI.out.2.2.2.alloc _)
          have HQ3 : Hid (Blk w3 wr.heap.size #[.int .i64 kk, .int .i64 nn, .int .u64 ss, .int .u32 cc, .bool mm] 31) := Lib.hid (by rw [← hw3]; exact Blk.new _ _ _)
          have HW3 := Lib.hid hw3
          clear hw3
          go_wp2_with fail
          rw [HW3.out]
          refine (depth_any b nest d w3 HD3.out).mono ?_
          rintro e w' ⟨rfl, rfl⟩
          have p0 : w3.cell? ⟨wr.heap.size, 0, none⟩ = some (.int .i64 kk) := HQ3.out.cell 0
          have p1 : w3.cell? ⟨wr.heap.size, 1, none⟩ = some (.int .i64 nn) := HQ3.out.cell 1
          have p2 : w3.cell? ⟨wr.heap.size, 2, none⟩ = some (.int .u64 ss) := HQ3.out.cell 2
          have p3 : w3.cell? ⟨wr.heap.size, 3, none⟩ = some (.int .u32 cc) := HQ3.out.cell 3
          have p4 : w3.cell? ⟨wr.heap.size, 4, none⟩ = some (.bool mm) := HQ3.out.cell 4
          clear HI
          by_cases h0 : kk = 0
          · subst h0
            have HIn := Lib.hid (invD_begin HI3.out nn ss).2
            have hcase : ((beginE nest d ss = 2 ∨ beginE nest d ss = 7 ∨ beginE nest d ss = 8) ∧ beginS nest d nn ss = d) ∨ (beginE nest d ss = 0 ∧ d.depth ≠ 0 ∧ (beginS nest d nn ss).st = d.st ∧ (beginS nest d nn ss).n = d.n) ∨ (beginE nest d ss = 0 ∧ d.depth = 0 ∧ d.st ≠ 0 ∧ (beginS nest d nn ss).st = d.st ∧ (beginS nest d nn ss).n = nn) ∨ (beginE nest d ss = 0 ∧ d.depth = 0 ∧ d.st = 0 ∧ (beginS nest d nn ss).st = ss ∧ (beginS nest d nn ss).n = nn) := by
              rcases (invD_begin HI3.out nn ss).1 with ⟨he, _⟩ | h
              · by_cases hz : d.depth = 0
                · by_cases hs : d.st = 0
                  · exact .inr (.inr (.inr ⟨he, hz, hs, by unfold beginS; rw [he]; simp [hz, hs], by unfold beginS; rw [he]; simp [hz]⟩))
                  · exact .inr (.inr (.inl ⟨he, hz, hs, by unfold beginS; rw [he]; simp [hz, hs], by unfold beginS; rw [he]; simp [hz]⟩))
                · exact .inr (.inl ⟨he, hz, by unfold beginS; rw [he]; simp [hz], by unfold beginS; rw [he]; simp [hz]⟩)
              · exact .inl h
            have HBG := Lib.hid (fun W hD => begin_any b nest d nn ss hdd W hD)
            rcases hcase with ⟨he, hs⟩ | ⟨he, hz, hst, hnn⟩ | ⟨he, hz, hs0, hst, hnn⟩ | ⟨he, hz, hs0, hst, hnn⟩
            · rw [hs] at HBG HIn
              rcases he with he | he | he
              all_goals
                rw [he] at HBG
                clear he hs
                go_wp2_with fail
                go_region_held3 (fun W => Upd (From w.heap.size) w W ∧ W.cell? ⟨wr.heap.size, 1, none⟩ = some (.int .i64 nn) ∧ W.cell? ⟨wr.heap.size, 2, none⟩ = some (.int .u64 ss) ∧ Blk W og (SC d.n) 36) (first | assumption | exact ⟨HU3.out.from (Upd.drew _ w3), p1, p2, HO3.out.upd (Upd.drew NoF w3) (fun h => h)⟩) (first | (go_at_call 12; have hS : Upd (From w.heap.size) w _ ∧ _ := ‹_›; refine (save_any nn _).mono ?_; rintro e wm ⟨rfl, hu⟩; have hDm := Lib.hid ((HD3.out.upd (Upd.drew NoF w3) (fun h => h)).upd hu (fun h => h)); have hS' : (fun W => Upd (From w.heap.size) w W ∧ W.cell? ⟨wr.heap.size, 1, none⟩ = some (.int .i64 nn) ∧ W.cell? ⟨wr.heap.size, 2, none⟩ = some (.int .u64 ss) ∧ Blk W og (SC d.n) 36) wm := ⟨hS.1.from hu.toFrom, hu.cell hS.2.1 (fun h => h), hu.cell hS.2.2.1 (fun h => h), hS.2.2.2.upd hu (fun h => h)⟩; clear hu hS) | (go_at_call 11; have hS : Upd (From w.heap.size) w _ ∧ _ := ‹_›; refine (HBG.out _ hDm.out).mono ?_; rintro e wn ⟨rfl, hd, hu⟩; have HDn := Lib.hid hd; have hS' : (fun W => Upd (From w.heap.size) w W ∧ W.cell? ⟨wr.heap.size, 1, none⟩ = some (.int .i64 nn) ∧ W.cell? ⟨wr.heap.size, 2, none⟩ = some (.int .u64 ss) ∧ Blk W og (SC d.n) 36) wn := ⟨hS.1.from (fromOnly hu HBL.out), hu.cell hS.2.1 hne, hu.cell hS.2.2.1 hne, hS.2.2.2.upd hu hgb⟩; clear hu hS hd))
                obtain ⟨hUn, hn1c, hn2c, hOn⟩ : Upd (From w.heap.size) w wn ∧ _ ∧ _ ∧ _ := ‹Upd (From w.heap.size) w wn ∧ _›
                have HUn := Lib.hid hUn; have HOn := Lib.hid hOn
                clear hUn hOn
                go_wp2_with fail
                exact ⟨⟨k + 1, d, by omega, by go_num, rfl, HUn.out, HDn.out, HI3.out, HOn.out⟩, by simp [intOf]; omega⟩
            · generalize beginS nest d nn ss = d' at *
              rw [he] at HBG
              have hzb : (d.depth == 0) = false := by simpa using hz
              clear he
              go_wp2_with fail
              go_region_held3 (fun W => Upd (From w.heap.size) w W ∧ W.cell? ⟨wr.heap.size, 1, none⟩ = some (.int .i64 nn) ∧ W.cell? ⟨wr.heap.size, 2, none⟩ = some (.int .u64 ss) ∧ Blk W og (SC d.n) 36) (first | assumption | exact ⟨HU3.out.from (Upd.drew _ w3), p1, p2, HO3.out.upd (Upd.drew NoF w3) (fun h => h)⟩) (first | (go_at_call 12; have hS : Upd (From w.heap.size) w _ ∧ _ := ‹_›; refine (save_any nn _).mono ?_; rintro e wm ⟨rfl, hu⟩; have hDm := Lib.hid ((HD3.out.upd (Upd.drew NoF w3) (fun h => h)).upd hu (fun h => h)); have hS' : (fun W => Upd (From w.heap.size) w W ∧ W.cell? ⟨wr.heap.size, 1, none⟩ = some (.int .i64 nn) ∧ W.cell? ⟨wr.heap.size, 2, none⟩ = some (.int .u64 ss) ∧ Blk W og (SC d.n) 36) wm := ⟨hS.1.from hu.toFrom, hu.cell hS.2.1 (fun h => h), hu.cell hS.2.2.1 (fun h => h), hS.2.2.2.upd hu (fun h => h)⟩; clear hu hS) | (go_at_call 11; have hS : Upd (From w.heap.size) w _ ∧ _ := ‹_›; refine (HBG.out _ hDm.out).mono ?_; rintro e wn ⟨rfl, hd, hu⟩; have HDn := Lib.hid hd; have hS' : (fun W => Upd (From w.heap.size) w W ∧ W.cell? ⟨wr.heap.size, 1, none⟩ = some (.int .i64 nn) ∧ W.cell? ⟨wr.heap.size, 2, none⟩ = some (.int .u64 ss) ∧ Blk W og (SC d.n) 36) wn := ⟨hS.1.from (fromOnly hu HBL.out), hu.cell hS.2.1 hne, hu.cell hS.2.2.1 hne, hS.2.2.2.upd hu hgb⟩; clear hu hS hd))
              obtain ⟨hUn, hn1c, hn2c, hOn⟩ : Upd (From w.heap.size) w wn ∧ _ ∧ _ ∧ _ := ‹Upd (From w.heap.size) w wn ∧ _›
              have HUn := Lib.hid hUn; have HOn := Lib.hid hOn
              clear hUn hOn
              replace HOn := Lib.hid (hnn ▸ HOn.out : Blk wn og (SC d'.n) 36)
              clear hnn hz
              have hi := HIn.out
              have j0 := hi.1
              by_cases hz : d'.depth = 0
              · clear hi
                go_wp2_with (first | (go_at_call 10; refine (depth_any b nest d' _ HDn.out).mono ?_; rintro e w' ⟨rfl, rfl⟩) | (go_at_call 16; refine (stamp_any b nest d' _ HDn.out).mono ?_; rintro e w' ⟨rfl, rfl⟩))
                exact ⟨⟨k + 1, _, by omega, by go_num, by rw [hst], HUn.out, HDn.out, HIn.out, HOn.out⟩, by simp [intOf]; omega⟩
              · have hpos : 0 < d'.depth := by omega
                have hse : (stampE d' != d.st) = false := by rw [(show stampE d' = d.st from (by unfold stampE; rw [if_neg hz]; exact hst))]; simp
                clear hi
                go_wp2_with (first | (go_at_call 10; refine (depth_any b nest d' _ HDn.out).mono ?_; rintro e w' ⟨rfl, rfl⟩) | (go_at_call 16; refine (stamp_any b nest d' _ HDn.out).mono ?_; rintro e w' ⟨rfl, rfl⟩))
                exact ⟨⟨k + 1, _, by omega, by go_num, by rw [hst], HUn.out, HDn.out, HIn.out, HOn.out⟩, by simp [intOf]; omega⟩
            · generalize beginS nest d nn ss = d' at *
              rw [he] at HBG
              have hzb : (d.depth == 0) = true := by simpa using hz
              have hsb : (d.st == 0) = false := by simpa using hs0
              clear he hz hs0
              go_wp2_with fail
              go_region_held3 (fun W => Upd (From w.heap.size) w W ∧ W.cell? ⟨wr.heap.size, 1, none⟩ = some (.int .i64 nn) ∧ W.cell? ⟨wr.heap.size, 2, none⟩ = some (.int .u64 ss) ∧ Blk W og (SC d.n) 36) (first | assumption | exact ⟨HU3.out.from (Upd.drew _ w3), p1, p2, HO3.out.upd (Upd.drew NoF w3) (fun h => h)⟩) (first | (go_at_call 12; have hS : Upd (From w.heap.size) w _ ∧ _ := ‹_›; refine (save_any nn _).mono ?_; rintro e wm ⟨rfl, hu⟩; have hDm := Lib.hid ((HD3.out.upd (Upd.drew NoF w3) (fun h => h)).upd hu (fun h => h)); have hS' : (fun W => Upd (From w.heap.size) w W ∧ W.cell? ⟨wr.heap.size, 1, none⟩ = some (.int .i64 nn) ∧ W.cell? ⟨wr.heap.size, 2, none⟩ = some (.int .u64 ss) ∧ Blk W og (SC d.n) 36) wm := ⟨hS.1.from hu.toFrom, hu.cell hS.2.1 (fun h => h), hu.cell hS.2.2.1 (fun h => h), hS.2.2.2.upd hu (fun h => h)⟩; clear hu hS) | (go_at_call 11; have hS : Upd (From w.heap.size) w _ ∧ _ := ‹_›; refine (HBG.out _ hDm.out).mono ?_; rintro e wn ⟨rfl, hd, hu⟩; have HDn := Lib.hid hd; have hS' : (fun W => Upd (From w.heap.size) w W ∧ W.cell? ⟨wr.heap.size, 1, none⟩ = some (.int .i64 nn) ∧ W.cell? ⟨wr.heap.size, 2, none⟩ = some (.int .u64 ss) ∧ Blk W og (SC d.n) 36) wn := ⟨hS.1.from (fromOnly hu HBL.out), hu.cell hS.2.1 hne, hu.cell hS.2.2.1 hne, hS.2.2.2.upd hu hgb⟩; clear hu hS hd))
              obtain ⟨hUn, hn1c, hn2c, hOn⟩ : Upd (From w.heap.size) w wn ∧ _ ∧ _ ∧ _ := ‹Upd (From w.heap.size) w wn ∧ _›
              have HUn := Lib.hid hUn; have HOn := Lib.hid hOn
              clear hUn hOn
              have hth := there_of HOn.out (o := 0) (n := 17) (Nat.le_of_eq (show 17 = (SC d.n).size from by kernel_rfl))
              clear hth
              go_wp2_with fail
              refine (save_any nn wn).mono ?_
              rintro e wp ⟨rfl, hu⟩
              have hOp := HOn.out.upd hu (fun h => h)
              have hDp := HDn.out.upd hu (fun h => h)
              have hUp := HUn.out.from hu.toFrom
              have h2p := hu.cell hn2c (fun h => h)
              obtain ⟨wo, hwo⟩ : ∃ wo, wp.setCells og 0 (SC nn).toList = wo := ⟨_, rfl⟩
              have s0 := stS_run nn (save_nthere hOp)
              rw [hwo] at s0
              have huo : Upd (OnlyAt og) wp wo := by rw [← hwo]; exact upd_setCells _ _ _
              have HOo : Hid (Blk wo og (SC d'.n) 36) := Lib.hid (by rw [← hwo, hnn]; exact save_store hOp nn)
              have HDo : Hid (DAt wo b nest d') := Lib.hid (by rw [← hwo]; exact blk_other_setCells (fun e => hgb e.symm) _ _ _ hDp)
              have HUo : Hid (Upd (From w.heap.size) w wo) := Lib.hid (hUp.from (huo.mono (fun i _ h => by have : i = og := h; unfold From; omega)))
              have h2o : wo.cell? ⟨wr.heap.size, 2, none⟩ = some (.int .u64 ss) := huo.cell h2p (fun h => by have : wr.heap.size = og := h; omega)
              have HIo := HIn
              clear hwo huo hOp hDp hUp hu h2p hn1c hn2c hnn
              have hi := HIo.out
              have j0 := hi.1
              by_cases hz : d'.depth = 0
              · clear hi
                go_wp2_with (first | (go_at_call 10; refine (depth_any b nest d' _ HDo.out).mono ?_; rintro e w' ⟨rfl, rfl⟩) | (go_at_call 16; refine (stamp_any b nest d' _ HDo.out).mono ?_; rintro e w' ⟨rfl, rfl⟩))
                exact ⟨⟨k + 1, _, by omega, by go_num, by rw [hst], HUo.out, HDo.out, HIo.out, HOo.out⟩, by simp [intOf]; omega⟩
              · have hpos : 0 < d'.depth := by omega
                have hse : (stampE d' != d.st) = false := by rw [(show stampE d' = d.st from (by unfold stampE; rw [if_neg hz]; exact hst))]; simp
                clear hi
                go_wp2_with (first | (go_at_call 10; refine (depth_any b nest d' _ HDo.out).mono ?_; rintro e w' ⟨rfl, rfl⟩) | (go_at_call 16; refine (stamp_any b nest d' _ HDo.out).mono ?_; rintro e w' ⟨rfl, rfl⟩))
                exact ⟨⟨k + 1, _, by omega, by go_num, by rw [hst], HUo.out, HDo.out, HIo.out, HOo.out⟩, by simp [intOf]; omega⟩
            · generalize beginS nest d nn ss = d' at *
              rw [he] at HBG
              have hzb : (d.depth == 0) = true := by simpa using hz
              have hsb : (d.st == 0) = true := by simpa using hs0
              clear he hz hs0
              go_wp2_with fail
              go_region_held3 (fun W => Upd (From w.heap.size) w W ∧ W.cell? ⟨wr.heap.size, 1, none⟩ = some (.int .i64 nn) ∧ W.cell? ⟨wr.heap.size, 2, none⟩ = some (.int .u64 ss) ∧ Blk W og (SC d.n) 36) (first | assumption | exact ⟨HU3.out.from (Upd.drew _ w3), p1, p2, HO3.out.upd (Upd.drew NoF w3) (fun h => h)⟩) (first | (go_at_call 12; have hS : Upd (From w.heap.size) w _ ∧ _ := ‹_›; refine (save_any nn _).mono ?_; rintro e wm ⟨rfl, hu⟩; have hDm := Lib.hid ((HD3.out.upd (Upd.drew NoF w3) (fun h => h)).upd hu (fun h => h)); have hS' : (fun W => Upd (From w.heap.size) w W ∧ W.cell? ⟨wr.heap.size, 1, none⟩ = some (.int .i64 nn) ∧ W.cell? ⟨wr.heap.size, 2, none⟩ = some (.int .u64 ss) ∧ Blk W og (SC d.n) 36) wm := ⟨hS.1.from hu.toFrom, hu.cell hS.2.1 (fun h => h), hu.cell hS.2.2.1 (fun h => h), hS.2.2.2.upd hu (fun h => h)⟩; clear hu hS) | (go_at_call 11; have hS : Upd (From w.heap.size) w _ ∧ _ := ‹_›; refine (HBG.out _ hDm.out).mono ?_; rintro e wn ⟨rfl, hd, hu⟩; have HDn := Lib.hid hd; have hS' : (fun W => Upd (From w.heap.size) w W ∧ W.cell? ⟨wr.heap.size, 1, none⟩ = some (.int .i64 nn) ∧ W.cell? ⟨wr.heap.size, 2, none⟩ = some (.int .u64 ss) ∧ Blk W og (SC d.n) 36) wn := ⟨hS.1.from (fromOnly hu HBL.out), hu.cell hS.2.1 hne, hu.cell hS.2.2.1 hne, hS.2.2.2.upd hu hgb⟩; clear hu hS hd))
              obtain ⟨hUn, hn1c, hn2c, hOn⟩ : Upd (From w.heap.size) w wn ∧ _ ∧ _ ∧ _ := ‹Upd (From w.heap.size) w wn ∧ _›
              have HUn := Lib.hid hUn; have HOn := Lib.hid hOn
              clear hUn hOn
              have hth := there_of HOn.out (o := 0) (n := 17) (Nat.le_of_eq (show 17 = (SC d.n).size from by kernel_rfl))
              clear hth
              go_wp2_with fail
              refine (save_any nn wn).mono ?_
              rintro e wp ⟨rfl, hu⟩
              have hOp := HOn.out.upd hu (fun h => h)
              have hDp := HDn.out.upd hu (fun h => h)
              have hUp := HUn.out.from hu.toFrom
              have h2p := hu.cell hn2c (fun h => h)
              obtain ⟨wo, hwo⟩ : ∃ wo, wp.setCells og 0 (SC nn).toList = wo := ⟨_, rfl⟩
              have s0 := stS_run nn (save_nthere hOp)
              rw [hwo] at s0
              have huo : Upd (OnlyAt og) wp wo := by rw [← hwo]; exact upd_setCells _ _ _
              have HOo : Hid (Blk wo og (SC d'.n) 36) := Lib.hid (by rw [← hwo, hnn]; exact save_store hOp nn)
              have HDo : Hid (DAt wo b nest d') := Lib.hid (by rw [← hwo]; exact blk_other_setCells (fun e => hgb e.symm) _ _ _ hDp)
              have HUo : Hid (Upd (From w.heap.size) w wo) := Lib.hid (hUp.from (huo.mono (fun i _ h => by have : i = og := h; unfold From; omega)))
              have h2o : wo.cell? ⟨wr.heap.size, 2, none⟩ = some (.int .u64 ss) := huo.cell h2p (fun h => by have : wr.heap.size = og := h; omega)
              have HIo := HIn
              clear hwo huo hOp hDp hUp hu h2p hn1c hn2c hnn
              have hi := HIo.out
              have j0 := hi.1
              by_cases hz : d'.depth = 0
              · clear hi
                go_wp2_with (first | (go_at_call 10; refine (depth_any b nest d' _ HDo.out).mono ?_; rintro e w' ⟨rfl, rfl⟩) | (go_at_call 16; refine (stamp_any b nest d' _ HDo.out).mono ?_; rintro e w' ⟨rfl, rfl⟩))
                exact ⟨⟨k + 1, _, by omega, by go_num, by rw [hst], HUo.out, HDo.out, HIo.out, HOo.out⟩, by simp [intOf]; omega⟩
              · have hpos : 0 < d'.depth := by omega
                have hse : (stampE d' != ss) = false := by rw [(show stampE d' = ss from (by unfold stampE; rw [if_neg hz]; exact hst))]; simp
                clear hi
                go_wp2_with (first | (go_at_call 10; refine (depth_any b nest d' _ HDo.out).mono ?_; rintro e w' ⟨rfl, rfl⟩) | (go_at_call 16; refine (stamp_any b nest d' _ HDo.out).mono ?_; rintro e w' ⟨rfl, rfl⟩))
                exact ⟨⟨k + 1, _, by omega, by go_num, by rw [hst], HUo.out, HDo.out, HIo.out, HOo.out⟩, by simp [intOf]; omega⟩
          · have h0b : (kk == 0) = false := by simpa using h0
            by_cases h1 : kk = 1
            · subst h1
              have HEN := Lib.hid (end_any b nest d hdd w3 HD3.out)
              have HIn := Lib.hid (invD_end HI3.out).2
              have hcase : (openE d = 8 ∧ endB d = false ∧ endS d = d) ∨ (openE d = 0 ∧ d.depth = 1 ∧ endB d = true ∧ (endS d).st = 0 ∧ (endS d).n = d.n) ∨ (openE d = 0 ∧ d.depth ≠ 1 ∧ endB d = false ∧ (endS d).st = d.st ∧ (endS d).n = d.n) := by
                rcases (invD_end HI3.out).1 with ⟨he, _⟩ | ⟨he, hs⟩
                · by_cases h1 : d.depth = 1
                  · exact .inr (.inl ⟨he, h1, by unfold endB; rw [he]; simp [h1], by unfold endS; rw [he]; simp [h1], by unfold endS; rw [he]; simp [h1]⟩)
                  · exact .inr (.inr ⟨he, h1, by unfold endB; rw [he]; simp [h1], by unfold endS; rw [he]; simp [h1], by unfold endS; rw [he]; simp [h1]⟩)
                · exact .inl ⟨he, by unfold endB; rw [he]; rfl, hs⟩
              rcases hcase with ⟨he, hb, hs⟩ | ⟨he, h1, hb, hst, hnn⟩ | ⟨he, h1, hb, hst, hnn⟩
              · have hst : (endS d).st = d.st := by rw [hs]
                have HO3' : Hid (Blk w3 og (SC (endS d).n) 36) := Lib.hid (by rw [hs]; exact HO3.out)
                clear hs
                generalize endS d = d' at *
                rw [he, hb] at HEN
                clear he hb
                go_wp2_with fail
                refine HEN.out.mono ?_
                rintro e wn ⟨rfl, hd, hu⟩
                have HDn := Lib.hid hd; have HUn := Lib.hid (HU3.out.from (fromOnly hu HBL.out)); have HOn := Lib.hid (HO3'.out.upd hu hgb)
                clear hd hu
                have hi := HIn.out
                have j0 := hi.1
                by_cases hz : d'.depth = 0
                · clear hi
                  go_wp2_with (first | (go_at_call 10; refine (depth_any b nest d' _ HDn.out).mono ?_; rintro e w' ⟨rfl, rfl⟩) | (go_at_call 16; refine (stamp_any b nest d' _ HDn.out).mono ?_; rintro e w' ⟨rfl, rfl⟩))
                  exact ⟨⟨k + 1, _, by omega, by go_num, by rw [hst], HUn.out, HDn.out, HIn.out, HOn.out⟩, by simp [intOf]; omega⟩
                · have hpos : 0 < d'.depth := by omega
                  have hse : (stampE d' != d.st) = false := by rw [(show stampE d' = d.st from (by unfold stampE; rw [if_neg hz]; exact hst))]; simp
                  clear hi
                  go_wp2_with (first | (go_at_call 10; refine (depth_any b nest d' _ HDn.out).mono ?_; rintro e w' ⟨rfl, rfl⟩) | (go_at_call 16; refine (stamp_any b nest d' _ HDn.out).mono ?_; rintro e w' ⟨rfl, rfl⟩))
                  exact ⟨⟨k + 1, _, by omega, by go_num, by rw [hst], HUn.out, HDn.out, HIn.out, HOn.out⟩, by simp [intOf]; omega⟩
              · have HO3' : Hid (Blk w3 og (SC (endS d).n) 36) := Lib.hid (by rw [hnn]; exact HO3.out)
                have h1b : (d.depth == 1) = true := by simpa using h1
                clear hnn h1
                generalize endS d = d' at *
                rw [he, hb] at HEN
                clear he hb
                go_wp2_with fail
                refine HEN.out.mono ?_
                rintro e wn ⟨rfl, hd, hu⟩
                have HDn := Lib.hid hd; have HUn := Lib.hid (HU3.out.from (fromOnly hu HBL.out)); have HOn := Lib.hid (HO3'.out.upd hu hgb)
                clear hd hu
                have hi := HIn.out
                have j0 := hi.1
                by_cases hz : d'.depth = 0
                · clear hi
                  go_wp2_with (first | (go_at_call 10; refine (depth_any b nest d' _ HDn.out).mono ?_; rintro e w' ⟨rfl, rfl⟩) | (go_at_call 16; refine (stamp_any b nest d' _ HDn.out).mono ?_; rintro e w' ⟨rfl, rfl⟩))
                  exact ⟨⟨k + 1, _, by omega, by go_num, by rw [hst], HUn.out, HDn.out, HIn.out, HOn.out⟩, by simp [intOf]; omega⟩
                · have hpos : 0 < d'.depth := by omega
                  have hse : (stampE d' != 0) = false := by rw [(show stampE d' = 0 from (by unfold stampE; rw [if_neg hz]; exact hst))]; simp
                  clear hi
                  go_wp2_with (first | (go_at_call 10; refine (depth_any b nest d' _ HDn.out).mono ?_; rintro e w' ⟨rfl, rfl⟩) | (go_at_call 16; refine (stamp_any b nest d' _ HDn.out).mono ?_; rintro e w' ⟨rfl, rfl⟩))
                  exact ⟨⟨k + 1, _, by omega, by go_num, by rw [hst], HUn.out, HDn.out, HIn.out, HOn.out⟩, by simp [intOf]; omega⟩
              · have HO3' : Hid (Blk w3 og (SC (endS d).n) 36) := Lib.hid (by rw [hnn]; exact HO3.out)
                have h1b : (d.depth == 1) = false := by simpa using h1
                clear hnn h1
                generalize endS d = d' at *
                rw [he, hb] at HEN
                clear he hb
                go_wp2_with fail
                refine HEN.out.mono ?_
                rintro e wn ⟨rfl, hd, hu⟩
                have HDn := Lib.hid hd; have HUn := Lib.hid (HU3.out.from (fromOnly hu HBL.out)); have HOn := Lib.hid (HO3'.out.upd hu hgb)
                clear hd hu
                have hi := HIn.out
                have j0 := hi.1
                by_cases hz : d'.depth = 0
                · clear hi
                  go_wp2_with (first | (go_at_call 10; refine (depth_any b nest d' _ HDn.out).mono ?_; rintro e w' ⟨rfl, rfl⟩) | (go_at_call 16; refine (stamp_any b nest d' _ HDn.out).mono ?_; rintro e w' ⟨rfl, rfl⟩))
                  exact ⟨⟨k + 1, _, by omega, by go_num, by rw [hst], HUn.out, HDn.out, HIn.out, HOn.out⟩, by simp [intOf]; omega⟩
                · have hpos : 0 < d'.depth := by omega
                  have hse : (stampE d' != d.st) = false := by rw [(show stampE d' = d.st from (by unfold stampE; rw [if_neg hz]; exact hst))]; simp
                  clear hi
                  go_wp2_with (first | (go_at_call 10; refine (depth_any b nest d' _ HDn.out).mono ?_; rintro e w' ⟨rfl, rfl⟩) | (go_at_call 16; refine (stamp_any b nest d' _ HDn.out).mono ?_; rintro e w' ⟨rfl, rfl⟩))
                  exact ⟨⟨k + 1, _, by omega, by go_num, by rw [hst], HUn.out, HDn.out, HIn.out, HOn.out⟩, by simp [intOf]; omega⟩
            · have h1b : (kk == 1) = false := by simpa using h1
              by_cases h2 : kk = 2
              · subst h2
                have hst : (failS d cc).st = d.st := by unfold failS; split <;> rfl
                have hnn : (failS d cc).n = d.n := by unfold failS; split <;> rfl
                have HIn := Lib.hid (invD_fail HI3.out hcb.1 hcb.2)
                have hro : (openE d = 8 ∧ (d.depth = 0 ∨ d.fa = true)) ∨ (openE d = 0 ∧ 0 < d.depth ∧ d.fa = false) := by
                  by_cases hq : d.depth = 0 ∨ d.fa = true
                  · exact .inl ⟨by unfold openE; rw [if_pos hq], hq⟩
                  · refine .inr ⟨by unfold openE; rw [if_neg hq], ?_, ?_⟩
                    · have := HI3.out.1; omega
                    · cases hf : d.fa
                      · rfl
                      · exact absurd (.inr hf) hq
                have HF2 := Lib.hid (fail_any b nest d cc hdd w3 HD3.out)
                have HO3' : Hid (Blk w3 og (SC (failS d cc).n) 36) := Lib.hid (by rw [hnn]; exact HO3.out)
                have hd0 := hdd.1
                generalize failS d cc = d' at *
                generalize openE d = r at *
                have HFL := Lib.hid (failing_any b nest d w3 HD3.out)
                generalize d.fa = fa at *
                rcases hro with ⟨rfl, hq | rfl⟩ | ⟨rfl, hq, rfl⟩
                · have hqb : decide (0 < d.depth) = false := by simp; omega
                  cases fa
                  all_goals
                    go_wp2_with (go_at_call 17; refine HFL.out.mono ?_; rintro e w' ⟨rfl, rfl⟩)
                    refine HF2.out.mono ?_
                    rintro e wn ⟨rfl, hd, hu⟩
                    have HDn := Lib.hid hd; have HUn := Lib.hid (HU3.out.from (fromOnly hu HBL.out)); have HOn := Lib.hid (HO3'.out.upd hu hgb)
                    clear hd hu
                    have hi := HIn.out
                    have j0 := hi.1
                    by_cases hz : d'.depth = 0
                    · clear hi
                      go_wp2_with (first | (go_at_call 10; refine (depth_any b nest d' _ HDn.out).mono ?_; rintro e w' ⟨rfl, rfl⟩) | (go_at_call 16; refine (stamp_any b nest d' _ HDn.out).mono ?_; rintro e w' ⟨rfl, rfl⟩))
                      exact ⟨⟨k + 1, _, by omega, by go_num, by rw [hst], HUn.out, HDn.out, HIn.out, HOn.out⟩, by simp [intOf]; omega⟩
                    · have hpos : 0 < d'.depth := by omega
                      have hse : (stampE d' != d.st) = false := by rw [(show stampE d' = d.st from (by unfold stampE; rw [if_neg hz]; exact hst))]; simp
                      clear hi
                      go_wp2_with (first | (go_at_call 10; refine (depth_any b nest d' _ HDn.out).mono ?_; rintro e w' ⟨rfl, rfl⟩) | (go_at_call 16; refine (stamp_any b nest d' _ HDn.out).mono ?_; rintro e w' ⟨rfl, rfl⟩))
                      exact ⟨⟨k + 1, _, by omega, by go_num, by rw [hst], HUn.out, HDn.out, HIn.out, HOn.out⟩, by simp [intOf]; omega⟩
                · by_cases hq2 : 0 < d.depth
                  · have hqb : decide (0 < d.depth) = true := by simpa using hq2
                    go_wp2_with (go_at_call 17; refine HFL.out.mono ?_; rintro e w' ⟨rfl, rfl⟩)
                    refine HF2.out.mono ?_
                    rintro e wn ⟨rfl, hd, hu⟩
                    have HDn := Lib.hid hd; have HUn := Lib.hid (HU3.out.from (fromOnly hu HBL.out)); have HOn := Lib.hid (HO3'.out.upd hu hgb)
                    clear hd hu
                    have hi := HIn.out
                    have j0 := hi.1
                    by_cases hz : d'.depth = 0
                    · clear hi
                      go_wp2_with (first | (go_at_call 10; refine (depth_any b nest d' _ HDn.out).mono ?_; rintro e w' ⟨rfl, rfl⟩) | (go_at_call 16; refine (stamp_any b nest d' _ HDn.out).mono ?_; rintro e w' ⟨rfl, rfl⟩))
                      exact ⟨⟨k + 1, _, by omega, by go_num, by rw [hst], HUn.out, HDn.out, HIn.out, HOn.out⟩, by simp [intOf]; omega⟩
                    · have hpos : 0 < d'.depth := by omega
                      have hse : (stampE d' != d.st) = false := by rw [(show stampE d' = d.st from (by unfold stampE; rw [if_neg hz]; exact hst))]; simp
                      clear hi
                      go_wp2_with (first | (go_at_call 10; refine (depth_any b nest d' _ HDn.out).mono ?_; rintro e w' ⟨rfl, rfl⟩) | (go_at_call 16; refine (stamp_any b nest d' _ HDn.out).mono ?_; rintro e w' ⟨rfl, rfl⟩))
                      exact ⟨⟨k + 1, _, by omega, by go_num, by rw [hst], HUn.out, HDn.out, HIn.out, HOn.out⟩, by simp [intOf]; omega⟩
                  · have hqb : decide (0 < d.depth) = false := by simpa using hq2
                    go_wp2_with (go_at_call 17; refine HFL.out.mono ?_; rintro e w' ⟨rfl, rfl⟩)
                    refine HF2.out.mono ?_
                    rintro e wn ⟨rfl, hd, hu⟩
                    have HDn := Lib.hid hd; have HUn := Lib.hid (HU3.out.from (fromOnly hu HBL.out)); have HOn := Lib.hid (HO3'.out.upd hu hgb)
                    clear hd hu
                    have hi := HIn.out
                    have j0 := hi.1
                    by_cases hz : d'.depth = 0
                    · clear hi
                      go_wp2_with (first | (go_at_call 10; refine (depth_any b nest d' _ HDn.out).mono ?_; rintro e w' ⟨rfl, rfl⟩) | (go_at_call 16; refine (stamp_any b nest d' _ HDn.out).mono ?_; rintro e w' ⟨rfl, rfl⟩))
                      exact ⟨⟨k + 1, _, by omega, by go_num, by rw [hst], HUn.out, HDn.out, HIn.out, HOn.out⟩, by simp [intOf]; omega⟩
                    · have hpos : 0 < d'.depth := by omega
                      have hse : (stampE d' != d.st) = false := by rw [(show stampE d' = d.st from (by unfold stampE; rw [if_neg hz]; exact hst))]; simp
                      clear hi
                      go_wp2_with (first | (go_at_call 10; refine (depth_any b nest d' _ HDn.out).mono ?_; rintro e w' ⟨rfl, rfl⟩) | (go_at_call 16; refine (stamp_any b nest d' _ HDn.out).mono ?_; rintro e w' ⟨rfl, rfl⟩))
                      exact ⟨⟨k + 1, _, by omega, by go_num, by rw [hst], HUn.out, HDn.out, HIn.out, HOn.out⟩, by simp [intOf]; omega⟩
                · have hqb : decide (0 < d.depth) = true := by simp; omega
                  go_wp2_with (go_at_call 17; refine HFL.out.mono ?_; rintro e w' ⟨rfl, rfl⟩)
                  refine HF2.out.mono ?_
                  rintro e wn ⟨rfl, hd, hu⟩
                  have HDn := Lib.hid hd; have HUn := Lib.hid (HU3.out.from (fromOnly hu HBL.out)); have HOn := Lib.hid (HO3'.out.upd hu hgb)
                  clear hd hu
                  have hi := HIn.out
                  have j0 := hi.1
                  by_cases hz : d'.depth = 0
                  · clear hi
                    go_wp2_with (first | (go_at_call 10; refine (depth_any b nest d' _ HDn.out).mono ?_; rintro e w' ⟨rfl, rfl⟩) | (go_at_call 16; refine (stamp_any b nest d' _ HDn.out).mono ?_; rintro e w' ⟨rfl, rfl⟩))
                    exact ⟨⟨k + 1, _, by omega, by go_num, by rw [hst], HUn.out, HDn.out, HIn.out, HOn.out⟩, by simp [intOf]; omega⟩
                  · have hpos : 0 < d'.depth := by omega
                    have hse : (stampE d' != d.st) = false := by rw [(show stampE d' = d.st from (by unfold stampE; rw [if_neg hz]; exact hst))]; simp
                    clear hi
                    go_wp2_with (first | (go_at_call 10; refine (depth_any b nest d' _ HDn.out).mono ?_; rintro e w' ⟨rfl, rfl⟩) | (go_at_call 16; refine (stamp_any b nest d' _ HDn.out).mono ?_; rintro e w' ⟨rfl, rfl⟩))
                    exact ⟨⟨k + 1, _, by omega, by go_num, by rw [hst], HUn.out, HDn.out, HIn.out, HOn.out⟩, by simp [intOf]; omega⟩
              · have h2b : (kk == 2) = false := by simpa using h2
                by_cases h3 : kk = 3
                · subst h3
                  have HOV := Lib.hid (over_any b nest d ⟨HI3.out.2.2.2.2.1, HI3.out.2.2.2.2.2⟩ w3 HD3.out)
                  have HIn := Lib.hid (invD_over HI3.out)
                  cases hfa : d.fa
                  · have hv : overV d = .tuple #[SV 0, .int .u32 0, .int .i64 8] := by unfold overV; rw [hfa]; rfl
                    have hs : overS d = d := by unfold overS; rw [hfa]; rfl
                    rw [hs] at HOV HIn
                    clear hs
                    go_wp2_with fail
                    refine HOV.out.mono ?_
                    rintro e wn ⟨rfl, hd, hu⟩
                    have hUn := HU3.out.from (fromOnly hu HBL.out)
                    have hOn := HO3.out.upd hu hgb
                    rw [hv]
                    obtain ⟨k1, k2⟩ := save_new wn 0 36
                    have s0 : (stS (.pointer (some ⟨wn.heap.size, 0, none⟩)) (SV 0)).run Try.prog (wn.alloc (.cells #[.int .u32 0, .int .u32 0, .int .u32 0, .int .u32 0, .int .u32 0, .int .u32 0, .int .u32 0, .int .u32 0, .int .u32 0, .int .u32 0, .int .u32 0, .int .u32 0, .int .u32 0, .int .u32 0, .int .u32 0, .int .u32 0, .int .i64 0] 36)) = .ok () ((wn.alloc (.cells SZ 36)).setCells wn.heap.size 0 (SC 0).toList) := stS_run 0 (save_newthere wn _)
                    generalize (wn.alloc (.cells SZ 36)).setCells wn.heap.size 0 (SC 0).toList = wo at *
                    have HUo := Lib.hid (hUn.from k1.toFrom); have HDo := Lib.hid (hd.upd k1 (fun h => h)); have HOo := Lib.hid (hOn.upd k1 (fun h => h)); have HSo := Lib.hid k2
                    have l1 := ldS_run (save_rangeAtK HSo.out); have l2 := ldS_run (save_rangeAtK HOo.out)
                    clear hUn hOn hd hu k1 k2 hv
                    go_wp2_with fail
                    exact ⟨⟨k + 1, d, by omega, by go_num, rfl, HUo.out, HDo.out, HI3.out, HOo.out⟩, by simp [intOf]; omega⟩
                  · have hv : overV d = .tuple #[SV d.n, .int .u32 d.ca, .int .i64 0] := by unfold overV; rw [hfa]; rfl
                    have hn : (overS d).n = d.n := by unfold overS; rw [hfa]; rfl
                    have hdz : (overS d).depth = 0 := by unfold overS; rw [hfa]; rfl
                    have hst : (overS d).st = if d.ca % 256 = 1 then d.st else 0 := by unfold overS; rw [hfa]; rfl
                    have h255 := and255 HI3.out.2.2.2.2.1 HI3.out.2.2.2.2.2
                    generalize overS d = d' at *
                    go_wp2_with fail
                    refine HOV.out.mono ?_
                    rintro e wn ⟨rfl, hd, hu⟩
                    have hUn := HU3.out.from (fromOnly hu HBL.out)
                    have hOn := HO3.out.upd hu hgb
                    rw [hv]
                    obtain ⟨k1, k2⟩ := save_new wn d.n 36
                    have s0 : (stS (.pointer (some ⟨wn.heap.size, 0, none⟩)) (SV d.n)).run Try.prog (wn.alloc (.cells #[.int .u32 0, .int .u32 0, .int .u32 0, .int .u32 0, .int .u32 0, .int .u32 0, .int .u32 0, .int .u32 0, .int .u32 0, .int .u32 0, .int .u32 0, .int .u32 0, .int .u32 0, .int .u32 0, .int .u32 0, .int .u32 0, .int .i64 0] 36)) = .ok () ((wn.alloc (.cells SZ 36)).setCells wn.heap.size 0 (SC d.n).toList) := stS_run d.n (save_newthere wn _)
                    generalize (wn.alloc (.cells SZ 36)).setCells wn.heap.size 0 (SC d.n).toList = wo at *
                    have HUo := Lib.hid (hUn.from k1.toFrom); have HDo := Lib.hid (hd.upd k1 (fun h => h)); have HOo := Lib.hid (hOn.upd k1 (fun h => h)); have HSo := Lib.hid k2
                    have l1 := ldS_run (save_rangeAtK HSo.out); have l2 := ldS_run (save_rangeAtK HOo.out)
                    clear hUn hOn hd hu k1 k2 hv
                    have hd0 : 0 ≤ d'.depth := HIn.out.1
                    have HO2 : Hid (Blk wo og (SC d'.n) 36) := Lib.hid (by rw [hn]; exact HOo.out)
                    clear hn
                    by_cases hk : d.ca % 256 = 1
                    · have hkb : (bits .and .u32 d.ca 255 != 1) = false := by rw [h255]; simp [hk]
                      rw [if_pos hk] at hst
                      clear h255 hk
                      go_wp2_with (go_at_call 10; refine (depth_any b nest d' _ HDo.out).mono ?_; rintro e w' ⟨rfl, rfl⟩)
                      exact ⟨⟨k + 1, d', by omega, by go_num, by rw [hst], HUo.out, HDo.out, HIn.out, HO2.out⟩, by simp [intOf]; omega⟩
                    · have hkb : (bits .and .u32 d.ca 255 != 1) = true := by rw [h255]; simp [hk]
                      rw [if_neg hk] at hst
                      clear h255 hk
                      go_wp2_with (go_at_call 10; refine (depth_any b nest d' _ HDo.out).mono ?_; rintro e w' ⟨rfl, rfl⟩)
                      exact ⟨⟨k + 1, d', by omega, by go_num, by rw [hst], HUo.out, HDo.out, HIn.out, HO2.out⟩, by simp [intOf]; omega⟩
                · have h3b : (kk == 3) = false := by simpa using h3
                  by_cases h4 : kk = 4
                  · subst h4
                    have hst : (askedS d mm ss).st = d.st := rfl
                    have hnn : (askedS d mm ss).n = d.n := rfl
                    have HIn : Hid (InvD nest (askedS d mm ss)) := HI3
                    have HA := Lib.hid (asked_at w w3 b nest ss mm (askedB d mm) d (askedS d mm ss) rfl rfl HD3.out HU3.out HBL.out)
                    have HA2 := Lib.hid (dasked_any b nest d mm ss w3 HD3.out)
                    have HO3' : Hid (Blk w3 og (SC (askedS d mm ss).n) 36) := HO3
                    generalize askedS d mm ss = d' at *
                    generalize askedB d mm = rb at *
                    go_wp2_with fail
                    refine HA2.out.mono ?_
                    rintro e wn ⟨rfl, hd, hu⟩
                    have HDn := Lib.hid hd; have HUn := Lib.hid (HU3.out.from (fromOnly hu HBL.out)); have HOn := Lib.hid (HO3'.out.upd hu hgb)
                    clear hd hu
                    have hi := HIn.out
                    have j0 := hi.1
                    by_cases hz : d'.depth = 0
                    · clear hi
                      go_wp2_with (first | (go_at_call 10; refine (depth_any b nest d' _ HDn.out).mono ?_; rintro e w' ⟨rfl, rfl⟩) | (go_at_call 16; refine (stamp_any b nest d' _ HDn.out).mono ?_; rintro e w' ⟨rfl, rfl⟩))
                      exact ⟨⟨k + 1, _, by omega, by go_num, by rw [hst], HUn.out, HDn.out, HIn.out, HOn.out⟩, by simp [intOf]; omega⟩
                    · have hpos : 0 < d'.depth := by omega
                      have hse : (stampE d' != d.st) = false := by rw [(show stampE d' = d.st from (by unfold stampE; rw [if_neg hz]; exact hst))]; simp
                      clear hi
                      go_wp2_with (first | (go_at_call 10; refine (depth_any b nest d' _ HDn.out).mono ?_; rintro e w' ⟨rfl, rfl⟩) | (go_at_call 16; refine (stamp_any b nest d' _ HDn.out).mono ?_; rintro e w' ⟨rfl, rfl⟩))
                      exact ⟨⟨k + 1, _, by omega, by go_num, by rw [hst], HUn.out, HDn.out, HIn.out, HOn.out⟩, by simp [intOf]; omega⟩
                  · have h4b : (kk == 4) = false := by simpa using h4
                    have hi := HI3.out
                    have j0 := hi.1
                    by_cases hz : d.depth = 0
                    · clear hi
                      go_wp2_with (first | (go_at_call 10; refine (depth_any b nest d _ HD3.out).mono ?_; rintro e w' ⟨rfl, rfl⟩) | (go_at_call 16; refine (stamp_any b nest d _ HD3.out).mono ?_; rintro e w' ⟨rfl, rfl⟩))
                      exact ⟨⟨k + 1, _, by omega, by go_num, by rfl, HU3.out, HD3.out, HI3.out, HO3.out⟩, by simp [intOf]; omega⟩
                    · have hpos : 0 < d.depth := by omega
                      have hse : (stampE d != d.st) = false := by rw [(show stampE d = d.st from (by unfold stampE; rw [if_neg hz]; skip))]; simp
                      clear hi
                      go_wp2_with (first | (go_at_call 10; refine (depth_any b nest d _ HD3.out).mono ?_; rintro e w' ⟨rfl, rfl⟩) | (go_at_call 16; refine (stamp_any b nest d _ HD3.out).mono ?_; rintro e w' ⟨rfl, rfl⟩))
                      exact ⟨⟨k + 1, _, by omega, by go_num, by rfl, HU3.out, HD3.out, HI3.out, HO3.out⟩, by simp [intOf]; omega⟩
        · obtain rfl : len = k := by omega
          have HU := Lib.hid HI.out.1
          go_wp2_with fail
          refine (works_any wr).mono ?_
          rintro e w6 ⟨rfl, hu6⟩
          have HU6 := Lib.hid (HU.out.from (hu6.mono (fun i _ h => by have := HU.out.size; unfold From at *; omega)))
          clear hu6
          go_wp2
          go_ret
          exact ⟨rfl, HU6.out.belowFrom (Nat.le_refl _)⟩
end Go.Proofs.Ytdkdlgcgkkbghaa.DL
