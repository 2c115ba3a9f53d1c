/- The walk of the statement DealDeep. -/
import Derived.Test.YtdkdlgcgkkbghaaDealInv
import Derived.Deep.RegionHeld3
set_option linter.unusedSimpArgs false
set_option linter.unusedVariables false
namespace Go.Proofs.Ytdkdlgcgkkbghaa.DL
open Go.RowKit
open Go.Proofs.Ytdkdlgcgkkbghaa.Ord

set_option maxRecDepth 100000 in
set_option maxHeartbeats 4000000 in
theorem deep_law (nest : Int) (a : Option Addr) (len cap : Nat) (V : Nat → Nat → Value) (K N S C : Nat → Int) (M : Nat → Bool) (w : World) (hC : ∀ i, i < len → 0 ≤ C i ∧ C i ≤ 4294967295) (h : IsRowF w a len cap 5 V)
    (hV : ∀ i, i < len → V i 0 = .int .i64 (K i) ∧ V i 1 = .int .i64 (N i) ∧ V i 2 = .int .u64 (S i) ∧ V i 3 = .int .u32 (C i) ∧ V i 4 = .bool (M i)) :
    Calls Try.prog 3 #[.int .i64 nest, .slice a len cap] w fun e w' => e = .returned (.bool true) ∧ Below w.heap.size w w' := by
  have HC := Lib.hid (show ∀ i, i < len → ∃ x g q, a = some x ∧ x.add (i * 5) = ⟨g, q, none⟩ ∧ g < w.heap.size ∧ w.cell? ⟨g, q, none⟩ = some (.int .i64 (K i)) ∧ w.cell? ⟨g, q + 1, none⟩ = some (.int .i64 (N i)) ∧ w.cell? ⟨g, q + 2, none⟩ = some (.int .u64 (S i)) ∧ w.cell? ⟨g, q + 3, none⟩ = some (.int .u32 (C i)) ∧ w.cell? ⟨g, q + 4, none⟩ = some (.bool (M i)) from fun i hi => by
    obtain ⟨x, g, q, hx, hxa, hg, hc⟩ := h.at (by decide) hi
    obtain ⟨h0, h1, h2, h3, h4⟩ := hV i hi
    exact ⟨x, g, q, hx, hxa, hg, by rw [← h0]; exact hc 0 (by decide), by rw [← h1]; exact hc 1 (by decide), by rw [← h2]; exact hc 2 (by decide), by rw [← h3]; exact hc 3 (by decide), by rw [← h4]; exact hc 4 (by decide)⟩)
  obtain ⟨hlc, hcm, _⟩ := h
  clear hV
  unfold maxLen at hcm
  by_cases h300 : (300 : Int) < (len : Int)
  · go_enter Try.func3, Try.ntmps3
    go_wp2_with fail
    refine (works_any _).mono ?_
    rintro e w1 ⟨rfl, hu⟩
    have HU := Lib.hid hu
    clear hu
    go_wp2
    go_ret
    exact ⟨rfl, HU.out.belowFrom (Nat.le_refl _)⟩
  · have h3b : decide ((300 : Int) < (len : Int)) = false := by simpa using h300
    by_cases hn : nest < 1 ∨ 8 < nest
    · have HN := Lib.hid (new_none nest hn w)
      clear hn
      go_enter Try.func3, Try.ntmps3
      go_wp2_with fail
      refine HN.out.mono ?_
      rintro e w1 ⟨rfl, rfl⟩
      go_wp2_with fail
      refine (works_any _).mono ?_
      rintro e w1 ⟨rfl, hu⟩
      have HU := Lib.hid hu
      clear hu
      go_wp2
      go_ret
      exact ⟨rfl, HU.out.belowFrom (Nat.le_refl _)⟩
    · have hn1 : 1 ≤ nest := by omega
      have hn8 : nest ≤ 8 := by omega
      clear hn
      go_enter Try.func3, Try.ntmps3
      go_wp2_with fail
      refine (new_any nest hn1 hn8 w).mono ?_
      rintro e w1 ⟨rfl, hd1, hu1⟩
      have HD1 := Lib.hid hd1; have HU1 := Lib.hid (hu1.toFrom (B := w.heap.size)); clear hd1 hu1
      obtain ⟨b, hb⟩ : ∃ b, w.heap.size = b := ⟨_, rfl⟩
      have HBL : Hid (w.heap.size ≤ b) := Lib.hid (by omega)
      rw [hb] at HD1 ⊢
      clear hb
      go_wp2_with fail
      go_loopw [26] (fun i wr => ∃ (k : Nat) (d : DS), k ≤ len ∧ i = .int .i64 k ∧ Hid (Upd (From w.heap.size) w wr ∧ DAt wr b nest d ∧ InvD nest d)) (fun i _ => len - (intOf i).toNat)
      case atStart => exact ⟨0, _, Nat.zero_le _, rfl, HU1.out, HD1.out, ⟨by decide, by simp only; omega, fun h => absurd h (by decide), (fun h => by cases h), by decide, by decide⟩⟩
      case round =>
        obtain ⟨k, d, hk, rfl, HI⟩ := hrel
        by_cases hlt : k < len
        · obtain ⟨x, g, q, rfl, hxa, hgl, g0, g1, g2, g3, g4⟩ := HC.out k hlt
          have hcb := hC k hlt
          replace g0 := HI.out.1.cell g0 (fun h => by have : w.heap.size ≤ g := h; omega)
          replace g1 := HI.out.1.cell g1 (fun h => by have : w.heap.size ≤ g := h; omega)
          replace g2 := HI.out.1.cell g2 (fun h => by have : w.heap.size ≤ g := h; omega)
          replace g3 := HI.out.1.cell g3 (fun h => by have : w.heap.size ≤ g := h; omega)
          replace g4 := HI.out.1.cell g4 (fun h => by have : w.heap.size ≤ g := h; omega)
          have hbw := HI.out.2.1.lt
          generalize K k = kk at *
          generalize N k = nn at *
          generalize S k = ss at *
          generalize C k = cc at *
          generalize M k = mm at *
          have hne : wr.heap.size ≠ b := by omega
          have hi := HI.out.2.2
          have hdd : 0 ≤ d.depth ∧ d.depth ≤ 8 := ⟨hi.1, by have := hi.2.1; omega⟩
          have HI3 := Lib.hid hi
          clear hi
          obtain ⟨w3, hw3⟩ : ∃ w3, wr.alloc (.cells #[.int .i64 kk, .int .i64 nn, .int .u64 ss, .int .u32 cc, .bool mm] 31) = w3 := ⟨_, rfl⟩
          have HU3 : Hid (Upd (From w.heap.size) w w3) := Lib.hid (by rw [← hw3]; exact HI.out.1.from (Upd.alloc _ _ _))
          have HD3 : Hid (DAt w3 b nest d) := Lib.hid (by rw [← hw3]; exact HI.out.2.1.alloc _)
          have HQ3 : Hid (Blk w3 wr.heap.size #[.int .i64 kk, .int .i64 nn, .int .u64 ss, .int .u32 cc, .bool mm] 31) := Lib.hid (by rw [← hw3]; exact Blk.new _ _ _)
          have HW3 := Lib.hid hw3
          clear hw3
          go_wp2_with fail
          rw [HW3.out]
          refine (depth_any b nest d w3 HD3.out).mono ?_
          rintro e w' ⟨rfl, rfl⟩
          have p0 : w3.cell? ⟨wr.heap.size, 0, none⟩ = some (.int .i64 kk) := HQ3.out.cell 0
          have p1 : w3.cell? ⟨wr.heap.size, 1, none⟩ = some (.int .i64 nn) := HQ3.out.cell 1
          have p2 : w3.cell? ⟨wr.heap.size, 2, none⟩ = some (.int .u64 ss) := HQ3.out.cell 2
          have p3 : w3.cell? ⟨wr.heap.size, 3, none⟩ = some (.int .u32 cc) := HQ3.out.cell 3
          have hrest : True := trivial
          clear HI
          by_cases h0 : kk = 0
          · subst h0
            obtain ⟨hcase, hinv⟩ := invD_begin HI3.out nn ss
            obtain ⟨r, hr, hre⟩ : ∃ r, beginE nest d ss = r ∧ ((r = 0 ∧ ((beginS nest d nn ss).depth == d.depth + 1) = true) ∨ ((r = 2 ∨ r = 7 ∨ r = 8) ∧ ((beginS nest d nn ss).depth == d.depth + 1) = false)) := by
              rcases hcase with ⟨he, hdp⟩ | ⟨he, hs⟩
              · exact ⟨0, he, .inl ⟨rfl, by rw [hdp]; simp⟩⟩
              · exact ⟨_, rfl, .inr ⟨he, by rw [hs]; simp; omega⟩⟩
            have HBG : Hid (∀ W, DAt W b nest d → Calls Try.prog 11 #[.pointer (some ⟨b, 0, none⟩), SV nn, .int .u64 ss] W fun e w' => e = .returned (.int .i64 r) ∧ DAt w' b nest (beginS nest d nn ss) ∧ Upd (OnlyAt b) W w') := Lib.hid (fun W hD => (begin_any b nest d nn ss hdd W hD).mono fun e w' ⟨h1, h2, h3⟩ => ⟨by rw [h1, hr], h2, h3⟩)
            clear hcase hr
            generalize beginS nest d nn ss = d' at *
            have hwr : IntKind.i64.wrap (d.depth + 1) = d.depth + 1 := by rw [IntKind.wrap_i64]; omega
            have HIn := Lib.hid hinv
            clear hinv
            rcases hre with ⟨rfl, hre⟩ | ⟨rfl | rfl | rfl, hre⟩
            all_goals
              go_wp2_with fail
              go_region_held3 (fun W => Upd (From w.heap.size) w W ∧ W.cell? ⟨wr.heap.size, 1, none⟩ = some (.int .i64 nn) ∧ W.cell? ⟨wr.heap.size, 2, none⟩ = some (.int .u64 ss)) (first | assumption | exact ⟨HU3.out.from (Upd.drew _ w3), p1, p2⟩)
                (first
                  | (go_at_call 12; have hS : Upd (From w.heap.size) w _ ∧ _ := ‹_›; refine (save_any nn _).mono ?_; rintro e wm ⟨rfl, hu⟩; have hDm := Lib.hid ((HD3.out.upd (Upd.drew NoF w3) (fun h => h)).upd hu (fun h => h)); have hS' : (fun W => Upd (From w.heap.size) w W ∧ W.cell? ⟨wr.heap.size, 1, none⟩ = some (.int .i64 nn) ∧ W.cell? ⟨wr.heap.size, 2, none⟩ = some (.int .u64 ss)) wm := ⟨hS.1.from hu.toFrom, hu.cell hS.2.1 (fun h => h), hu.cell hS.2.2 (fun h => h)⟩; clear hu hS)
                  | (go_at_call 11; have hS : Upd (From w.heap.size) w _ ∧ _ := ‹_›; refine (HBG.out _ hDm.out).mono ?_; rintro e wn ⟨rfl, hd, hu⟩; have HDn := Lib.hid hd; have hS' : (fun W => Upd (From w.heap.size) w W ∧ W.cell? ⟨wr.heap.size, 1, none⟩ = some (.int .i64 nn) ∧ W.cell? ⟨wr.heap.size, 2, none⟩ = some (.int .u64 ss)) wn := ⟨hS.1.from (fromOnly hu HBL.out), hu.cell hS.2.1 hne, hu.cell hS.2.2 hne⟩; clear hu hS hd)
                  | (go_at_call 10; refine (depth_any b nest d' _ HDn.out).mono ?_; rintro e w' ⟨rfl, rfl⟩))
              obtain ⟨hUn, _⟩ : Upd (From w.heap.size) w wn ∧ _ := ‹Upd (From w.heap.size) w wn ∧ _›
              have HUn := Lib.hid hUn
              clear hUn hwr
              have hi := HIn.out
              have j0 := hi.1; have j1 := hi.2.1
              by_cases hz : d'.depth = 0
              · have hse : stampE d' = 0 := by simp [stampE, hz]
                have hfa : d'.fa = false := by
                  cases hf : d'.fa
                  · rfl
                  · have := hi.2.2.2.1 hf; omega
                clear hi
                go_wp2_with (first | (go_at_call 10; refine (depth_any b nest d' _ HDn.out).mono ?_; rintro e w' ⟨rfl, rfl⟩) | (go_at_call 16; refine (stamp_any b nest d' _ HDn.out).mono ?_; rintro e w' ⟨rfl, rfl⟩) | (go_at_call 17; refine (failing_any b nest d' _ HDn.out).mono ?_; rintro e w' ⟨rfl, rfl⟩))
                exact ⟨⟨k + 1, d', by omega, by go_num, HUn.out, HDn.out, HIn.out⟩, by simp [intOf]; omega⟩
              · have hpos : 0 < d'.depth := by omega
                have hse : (stampE d' != 0) = true := by have := hi.2.2.1 hpos; simp [stampE, hz, this]
                have hdz : (d'.depth == 0) = false := by simpa using hz
                clear hi
                cases hfa : d'.fa
                all_goals
                  go_wp2_with (first | (go_at_call 10; refine (depth_any b nest d' _ HDn.out).mono ?_; rintro e w' ⟨rfl, rfl⟩) | (go_at_call 16; refine (stamp_any b nest d' _ HDn.out).mono ?_; rintro e w' ⟨rfl, rfl⟩) | (go_at_call 17; refine (failing_any b nest d' _ HDn.out).mono ?_; rintro e w' ⟨rfl, rfl⟩))
                  exact ⟨⟨k + 1, d', by omega, by go_num, HUn.out, HDn.out, HIn.out⟩, by simp [intOf]; omega⟩
          · have h0b : (kk == 0) = false := by simpa using h0
            by_cases h1 : kk = 1
            · subst h1
              obtain ⟨hcase, hinv⟩ := invD_end HI3.out
              obtain ⟨r, hr, hre⟩ : ∃ r, openE d = r ∧ ((r = 0 ∧ ((endS d).depth == d.depth - 1) = true) ∨ (r = 8 ∧ ((endS d).depth == d.depth - 1) = false)) := by
                rcases hcase with ⟨he, hdp⟩ | ⟨he, hs⟩
                · exact ⟨0, he, .inl ⟨rfl, by rw [hdp]; simp⟩⟩
                · exact ⟨8, he, .inr ⟨rfl, by rw [hs]; simp; omega⟩⟩
              have HEN := Lib.hid (end_at w w3 b nest r (endB d) d (endS d) hdd hr rfl rfl HD3.out HU3.out HBL.out)
              have HIn := Lib.hid hinv
              clear hcase hr hinv
              generalize endS d = d' at *
              generalize endB d = rb at *
              have hwr : IntKind.i64.wrap (d.depth - 1) = d.depth - 1 := by rw [IntKind.wrap_i64]; omega
              rcases hre with ⟨rfl, hre⟩ | ⟨rfl, hre⟩
              all_goals
                go_wp2_with fail
                refine HEN.out.mono ?_
                rintro e wn ⟨rfl, hd, hu⟩
                have HDn := Lib.hid hd; have HUn := Lib.hid hu
                clear hd hu
                have hi := HIn.out
                have j0 := hi.1; have j1 := hi.2.1
                by_cases hz : d'.depth = 0
                · have hse : stampE d' = 0 := by simp [stampE, hz]
                  have hfa : d'.fa = false := by
                    cases hf : d'.fa
                    · rfl
                    · have := hi.2.2.2.1 hf; omega
                  clear hi
                  have hre2 := hre
                  rw [hz] at hre2
                  go_wp2_with (first | (go_at_call 10; refine (depth_any b nest d' _ HDn.out).mono ?_; rintro e w' ⟨rfl, rfl⟩) | (go_at_call 16; refine (stamp_any b nest d' _ HDn.out).mono ?_; rintro e w' ⟨rfl, rfl⟩) | (go_at_call 17; refine (failing_any b nest d' _ HDn.out).mono ?_; rintro e w' ⟨rfl, rfl⟩))
                  exact ⟨⟨k + 1, d', by omega, by go_num, HUn.out, HDn.out, HIn.out⟩, by simp [intOf]; omega⟩
                · have hpos : 0 < d'.depth := by omega
                  have hse : (stampE d' != 0) = true := by have := hi.2.2.1 hpos; simp [stampE, hz, this]
                  have hdz : (d'.depth == 0) = false := by simpa using hz
                  clear hi
                  cases hfa : d'.fa
                  all_goals
                    go_wp2_with (first | (go_at_call 10; refine (depth_any b nest d' _ HDn.out).mono ?_; rintro e w' ⟨rfl, rfl⟩) | (go_at_call 16; refine (stamp_any b nest d' _ HDn.out).mono ?_; rintro e w' ⟨rfl, rfl⟩) | (go_at_call 17; refine (failing_any b nest d' _ HDn.out).mono ?_; rintro e w' ⟨rfl, rfl⟩))
                    exact ⟨⟨k + 1, d', by omega, by go_num, HUn.out, HDn.out, HIn.out⟩, by simp [intOf]; omega⟩
            · have h1b : (kk == 1) = false := by simpa using h1
              by_cases h2 : kk = 2
              · subst h2
                have HFA := Lib.hid (fail_at w w3 b nest cc (openE d) d (failS d cc) hdd rfl rfl HD3.out HU3.out HBL.out)
                have HIn := Lib.hid (invD_fail HI3.out hcb.1 hcb.2)
                generalize failS d cc = d' at *
                generalize openE d = r at *
                go_wp2_with fail
                refine HFA.out.mono ?_
                rintro e wn ⟨rfl, hd, hu⟩
                have HDn := Lib.hid hd; have HUn := Lib.hid hu
                clear hd hu
                have hi := HIn.out
                have j0 := hi.1; have j1 := hi.2.1
                by_cases hz : d'.depth = 0
                · have hse : stampE d' = 0 := by simp [stampE, hz]
                  have hfa : d'.fa = false := by
                    cases hf : d'.fa
                    · rfl
                    · have := hi.2.2.2.1 hf; omega
                  clear hi
                  go_wp2_with (first | (go_at_call 10; refine (depth_any b nest d' _ HDn.out).mono ?_; rintro e w' ⟨rfl, rfl⟩) | (go_at_call 16; refine (stamp_any b nest d' _ HDn.out).mono ?_; rintro e w' ⟨rfl, rfl⟩) | (go_at_call 17; refine (failing_any b nest d' _ HDn.out).mono ?_; rintro e w' ⟨rfl, rfl⟩))
                  exact ⟨⟨k + 1, d', by omega, by go_num, HUn.out, HDn.out, HIn.out⟩, by simp [intOf]; omega⟩
                · have hpos : 0 < d'.depth := by omega
                  have hse : (stampE d' != 0) = true := by have := hi.2.2.1 hpos; simp [stampE, hz, this]
                  have hdz : (d'.depth == 0) = false := by simpa using hz
                  clear hi
                  cases hfa : d'.fa
                  all_goals
                    go_wp2_with (first | (go_at_call 10; refine (depth_any b nest d' _ HDn.out).mono ?_; rintro e w' ⟨rfl, rfl⟩) | (go_at_call 16; refine (stamp_any b nest d' _ HDn.out).mono ?_; rintro e w' ⟨rfl, rfl⟩) | (go_at_call 17; refine (failing_any b nest d' _ HDn.out).mono ?_; rintro e w' ⟨rfl, rfl⟩))
                    exact ⟨⟨k + 1, d', by omega, by go_num, HUn.out, HDn.out, HIn.out⟩, by simp [intOf]; omega⟩
              · have h2b : (kk == 2) = false := by simpa using h2
                by_cases h3 : kk = 3
                · subst h3
                  have HOV := Lib.hid (over_at w w3 b nest (overV d) d (overS d) HI3.out.2.2.2.2 rfl rfl HD3.out HU3.out HBL.out)
                  have HIn := Lib.hid (invD_over HI3.out)
                  generalize overS d = d' at *
                  generalize overV d = r at *
                  go_wp2_with fail
                  refine HOV.out.mono ?_
                  rintro e wn ⟨rfl, hd, hu⟩
                  have HDn := Lib.hid hd; have HUn := Lib.hid hu
                  clear hd hu
                  have hi := HIn.out
                  have j0 := hi.1; have j1 := hi.2.1
                  by_cases hz : d'.depth = 0
                  · have hse : stampE d' = 0 := by simp [stampE, hz]
                    have hfa : d'.fa = false := by
                      cases hf : d'.fa
                      · rfl
                      · have := hi.2.2.2.1 hf; omega
                    clear hi
                    go_wp2_with (first | (go_at_call 10; refine (depth_any b nest d' _ HDn.out).mono ?_; rintro e w' ⟨rfl, rfl⟩) | (go_at_call 16; refine (stamp_any b nest d' _ HDn.out).mono ?_; rintro e w' ⟨rfl, rfl⟩) | (go_at_call 17; refine (failing_any b nest d' _ HDn.out).mono ?_; rintro e w' ⟨rfl, rfl⟩))
                    exact ⟨⟨k + 1, d', by omega, by go_num, HUn.out, HDn.out, HIn.out⟩, by simp [intOf]; omega⟩
                  · have hpos : 0 < d'.depth := by omega
                    have hse : (stampE d' != 0) = true := by have := hi.2.2.1 hpos; simp [stampE, hz, this]
                    have hdz : (d'.depth == 0) = false := by simpa using hz
                    clear hi
                    cases hfa : d'.fa
                    all_goals
                      go_wp2_with (first | (go_at_call 10; refine (depth_any b nest d' _ HDn.out).mono ?_; rintro e w' ⟨rfl, rfl⟩) | (go_at_call 16; refine (stamp_any b nest d' _ HDn.out).mono ?_; rintro e w' ⟨rfl, rfl⟩) | (go_at_call 17; refine (failing_any b nest d' _ HDn.out).mono ?_; rintro e w' ⟨rfl, rfl⟩))
                      exact ⟨⟨k + 1, d', by omega, by go_num, HUn.out, HDn.out, HIn.out⟩, by simp [intOf]; omega⟩
                · have h3b : (kk == 3) = false := by simpa using h3
                  have hi := HI3.out
                  have j0 := hi.1; have j1 := hi.2.1
                  by_cases hz : d.depth = 0
                  · have hse : stampE d = 0 := by simp [stampE, hz]
                    have hfa : d.fa = false := by
                      cases hf : d.fa
                      · rfl
                      · have := hi.2.2.2.1 hf; omega
                    clear hi
                    go_wp2_with (first | (go_at_call 10; refine (depth_any b nest d _ HD3.out).mono ?_; rintro e w' ⟨rfl, rfl⟩) | (go_at_call 16; refine (stamp_any b nest d _ HD3.out).mono ?_; rintro e w' ⟨rfl, rfl⟩) | (go_at_call 17; refine (failing_any b nest d _ HD3.out).mono ?_; rintro e w' ⟨rfl, rfl⟩))
                    exact ⟨⟨k + 1, d, by omega, by go_num, HU3.out, HD3.out, HI3.out⟩, by simp [intOf]; omega⟩
                  · have hpos : 0 < d.depth := by omega
                    have hse : (stampE d != 0) = true := by have := hi.2.2.1 hpos; simp [stampE, hz, this]
                    have hdz : (d.depth == 0) = false := by simpa using hz
                    clear hi
                    cases hfa : d.fa
                    all_goals
                      go_wp2_with (first | (go_at_call 10; refine (depth_any b nest d _ HD3.out).mono ?_; rintro e w' ⟨rfl, rfl⟩) | (go_at_call 16; refine (stamp_any b nest d _ HD3.out).mono ?_; rintro e w' ⟨rfl, rfl⟩) | (go_at_call 17; refine (failing_any b nest d _ HD3.out).mono ?_; rintro e w' ⟨rfl, rfl⟩))
                      exact ⟨⟨k + 1, d, by omega, by go_num, HU3.out, HD3.out, HI3.out⟩, by simp [intOf]; omega⟩
        · obtain rfl : len = k := by omega
          have HU := Lib.hid HI.out.1
          go_wp2_with fail
          refine (works_any wr).mono ?_
          rintro e w6 ⟨rfl, hu6⟩
          have HU6 := Lib.hid (HU.out.from (hu6.mono (fun i _ h => by have := HU.out.size; unfold From at *; omega)))
          clear hu6
          go_wp2
          go_ret
          exact ⟨rfl, HU6.out.belowFrom (Nat.le_refl _)⟩
end Go.Proofs.Ytdkdlgcgkkbghaa.DL
