/- The walk of the statement DealPlays: any calls, each answer. -/
import Derived.Test.YtdkdlgcgkkbghaaDealKeepsW
import Derived.Test.YtdkdlgcgkkbghaaDealRef2
import Derived.Test.YtdkdlgcgkkbghaaDealCopy
import Derived.Deep.RegionHeld3
set_option linter.unusedSimpArgs false
set_option linter.unusedVariables false
namespace Go.Proofs.Ytdkdlgcgkkbghaa.DL
open Go.RowKit
open Go.Proofs.Ytdkdlgcgkkbghaa.Ord
attribute [local go_sem ↓] ldS_eq stS_eq ldD_eq stD_eq neq_saveN

theorem endS_st {d : DS} (h : 0 ≤ d.st) : 0 ≤ (endS d).st := by
  unfold endS
  split
  · split
    · exact Int.le_refl 0
    · exact h
  · exact h
theorem beginS_st {nest n ss : Int} {d : DS} (h : 0 ≤ d.st) (hs : 0 ≤ ss) : 0 ≤ (beginS nest d n ss).st := by
  unfold beginS
  split
  · split
    · show 0 ≤ (if d.st = 0 then ss else d.st)
      split <;> assumption
    · exact h
  · exact h
theorem overS_st {d : DS} (h : 0 ≤ d.st) : 0 ≤ (overS d).st := by
  unfold overS
  split
  · show 0 ≤ (if d.ca % 256 = 1 then d.st else 0)
    split
    · exact h
    · exact Int.le_refl 0
  · exact h
theorem eq_saveN (n : Int) (w : World) : (binOp .eql 36 (SV n) (SV n)).run Try.prog w = .ok (.bool true) w := by
  generalize hm : n % 4294967296 = m
  have h1 : (m == m) = true := by simp
  have h2 : (n == n) = true := by simp
  have hi : (Try.prog.info? 29).isSome = true := by kernel_rfl
  obtain ⟨i, hi⟩ := Option.isSome_iff_exists.1 hi
  have hc : Try.prog.cellsOf 29 = 1 := by kernel_rfl
  have hA := fun xs ys => run_equalIn_array (P := Try.prog) (w := w) 9998 xs ys Try.underlying34 hi
  simp [go_sem, h1, h2, hm, hA, hc, Op.eqItems]
attribute [local go_sem ↓] eq_saveN
theorem stampE_ge {d : DS} (h : 0 ≤ d.st) : 0 ≤ stampE d := by
  unfold stampE
  split
  · exact Int.le_refl 0
  · exact h
set_option maxRecDepth 100000 in
set_option maxHeartbeats 4000000 in
theorem plays_law (nest : Int) (a : Option Addr) (len cap : Nat) (V : Nat → Nat → Value) (K N S C : Nat → Int) (M : Nat → Bool) (w : World) (hC : ∀ i, i < len → 0 ≤ C i ∧ C i ≤ 4294967295) (hSt : ∀ i, i < len → 0 ≤ S i) (h : IsRowF w a len cap 5 V)
    (hV : ∀ i, i < len → V i 0 = .int .i64 (K i) ∧ V i 1 = .int .i64 (N i) ∧ V i 2 = .int .u64 (S i) ∧ V i 3 = .int .u32 (C i) ∧ V i 4 = .bool (M i)) :
    Calls Try.prog 7 #[.int .i64 nest, .slice a len cap] w fun e w' => e = .returned (.bool true) ∧ Below w.heap.size w w' := by
  have HC := Lib.hid (show ∀ i, i < len → ∃ x g q, a = some x ∧ x.add (i * 5) = ⟨g, q, none⟩ ∧ g < w.heap.size ∧ w.cell? ⟨g, q, none⟩ = some (.int .i64 (K i)) ∧ w.cell? ⟨g, q + 1, none⟩ = some (.int .i64 (N i)) ∧ w.cell? ⟨g, q + 2, none⟩ = some (.int .u64 (S i)) ∧ w.cell? ⟨g, q + 3, none⟩ = some (.int .u32 (C i)) ∧ w.cell? ⟨g, q + 4, none⟩ = some (.bool (M i)) from fun i hi => by
    obtain ⟨x, g, q, hx, hxa, hg, hc⟩ := h.at (by decide) hi
    obtain ⟨h0, h1, h2, h3, h4⟩ := hV i hi
    exact ⟨x, g, q, hx, hxa, hg, by rw [← h0]; exact hc 0 (by decide), by rw [← h1]; exact hc 1 (by decide), by rw [← h2]; exact hc 2 (by decide), by rw [← h3]; exact hc 3 (by decide), by rw [← h4]; exact hc 4 (by decide)⟩)
  obtain ⟨hlc, hcm, _⟩ := h
  clear hV
  unfold maxLen at hcm
  by_cases h300 : (300 : Int) < (len : Int)
  · go_enter Try.func7, Try.ntmps7
    go_wp2_with fail
    refine (works_any _).mono ?_
    rintro e w1 ⟨rfl, hu⟩
    have HU := Lib.hid hu
    clear hu
    go_wp2
    go_ret
    exact ⟨rfl, HU.out.belowFrom (Nat.le_refl _)⟩
  · have h3b : decide ((300 : Int) < (len : Int)) = false := by simpa using h300
    by_cases hn : nest < 1 ∨ 8 < nest
    · have HN := Lib.hid (new_none nest hn w)
      by_cases hn1 : nest < 1
      · have hnb : decide (nest < 1) = true := by simpa using hn1
        clear hn hn1
        go_enter Try.func7, Try.ntmps7
        go_wp2_with fail
        refine HN.out.mono ?_
        rintro e w1 ⟨rfl, rfl⟩
        go_wp2_with fail
        refine (works_any _).mono ?_
        rintro e w1 ⟨rfl, hu⟩
        have HU := Lib.hid hu
        clear hu
        go_wp2
        go_ret
        exact ⟨rfl, HU.out.belowFrom (Nat.le_refl _)⟩
      · have hnb : decide (nest < 1) = false := by simpa using hn1
        have hnb8 : decide (8 < nest) = true := by simp; omega
        clear hn hn1
        go_enter Try.func7, Try.ntmps7
        go_wp2_with fail
        refine HN.out.mono ?_
        rintro e w1 ⟨rfl, rfl⟩
        go_wp2_with fail
        refine (works_any _).mono ?_
        rintro e w1 ⟨rfl, hu⟩
        have HU := Lib.hid hu
        clear hu
        go_wp2
        go_ret
        exact ⟨rfl, HU.out.belowFrom (Nat.le_refl _)⟩
    · have hn1 : 1 ≤ nest := by omega
      have hn8 : nest ≤ 8 := by omega
      clear hn
      go_enter Try.func7, Try.ntmps7
      go_wp2_with fail
      refine (new_any nest hn1 hn8 w).mono ?_
      rintro e w1 ⟨rfl, hd1, hu1⟩
      have HD1 := Lib.hid hd1; have HU1 := Lib.hid (hu1.toFrom (B := w.heap.size)); clear hd1 hu1
      obtain ⟨b, hb⟩ : ∃ b, w.heap.size = b := ⟨_, rfl⟩
      have HBL : Hid (w.heap.size ≤ b) := Lib.hid (by omega)
      rw [hb] at HD1 ⊢
      clear hb
      have hnb1 : decide (nest < 1) = false := by simp; omega
      have hnb8 : decide (8 < nest) = false := by simp; omega
      go_wp2_with fail
      obtain ⟨w2, hw2⟩ : ∃ w2, w1.alloc (.cells #[.int .i64 nest, .int .i64 0, .int .u32 0, .int .u32 0, .int .u32 0, .int .u32 0, .int .u32 0, .int .u32 0, .int .u32 0, .int .u32 0, .int .u32 0, .int .u32 0, .int .u32 0, .int .u32 0, .int .u32 0, .int .u32 0, .int .u32 0, .int .u32 0, .int .i64 0, .int .u64 0, .bool false, .bool false, .int .u32 0] 51) = w2 := ⟨_, rfl⟩
      have HU2 : Hid (Upd (From w.heap.size) w w2) := Lib.hid (by rw [← hw2]; exact HU1.out.from (Upd.alloc _ _ _))
      have HD2 : Hid (DAt w2 b nest ⟨0, 0, 0, false, false, 0⟩) := Lib.hid (by rw [← hw2]; exact HD1.out.alloc _)
      have HR2 : Hid (RAt w2 w1.heap.size nest ⟨0, 0, 0, false, false, 0⟩) := Lib.hid (by rw [← hw2]; exact Blk.new w1 _ _)
      have hgb : b ≠ w1.heap.size := by have := HD1.out.lt; omega
      have hgw : w.heap.size ≤ w1.heap.size := HU1.out.size
      rw [hw2]
      clear hw2
      obtain ⟨rb, hrb⟩ : ∃ rb, w1.heap.size = rb := ⟨_, rfl⟩
      rw [hrb] at HR2 hgb hgw ⊢
      clear hrb
      go_loopw [5, 53] (fun dv i wr => ∃ (k : Nat) (d : DS) (b2 : Nat), k ≤ len ∧ i = .int .i64 k ∧ dv = .pointer (some ⟨b2, 0, none⟩) ∧ Hid (w.heap.size ≤ b2 ∧ b2 ≠ rb ∧ Upd (From w.heap.size) w wr ∧ DAt wr b2 nest d ∧ RAt wr rb nest d ∧ InvD nest d ∧ 0 ≤ d.st)) (fun _ i _ => len - (intOf i).toNat)
      case atStart => exact ⟨0, _, b, Nat.zero_le _, rfl, rfl, HBL.out, hgb, HU2.out, HD2.out, HR2.out, ⟨by decide, by simp only; omega, fun h => absurd h (by decide), (fun h => by cases h), by decide, by decide⟩, by decide⟩
      case round =>
        obtain ⟨k, d, b2, hk, rfl, rfl, HI⟩ := hrel
        by_cases hlt : k < len
        · obtain ⟨x, g, q, rfl, hxa, hgl, g0, g1, g2, g3, g4⟩ := HC.out k hlt
          have hcb := hC k hlt
          have hsb := hSt k hlt
          replace g0 := HI.out.2.2.1.cell g0 (fun h => by have : w.heap.size ≤ g := h; omega)
          replace g1 := HI.out.2.2.1.cell g1 (fun h => by have : w.heap.size ≤ g := h; omega)
          replace g2 := HI.out.2.2.1.cell g2 (fun h => by have : w.heap.size ≤ g := h; omega)
          replace g3 := HI.out.2.2.1.cell g3 (fun h => by have : w.heap.size ≤ g := h; omega)
          replace g4 := HI.out.2.2.1.cell g4 (fun h => by have : w.heap.size ≤ g := h; omega)
          have hbw := HI.out.2.2.2.1.lt
          have hrw := HI.out.2.2.2.2.1.lt
          generalize K k = kk at *
          generalize N k = nn at *
          generalize S k = ss at *
          generalize C k = cc at *
          generalize M k = mm at *
          have hne : wr.heap.size ≠ b2 := by omega
          have hne2 : wr.heap.size ≠ rb := by omega
          have hbr := HI.out.2.1
          have HBL2 := Lib.hid HI.out.1
          have hi := HI.out.2.2.2.2.2.1
          have hdd : 0 ≤ d.depth ∧ d.depth ≤ 8 := ⟨hi.1, by have := hi.2.1; omega⟩
          have HI3 := Lib.hid hi
          have HS3 := Lib.hid HI.out.2.2.2.2.2.2
          clear hi
          obtain ⟨w3, hw3⟩ : ∃ w3, wr.alloc (.cells #[.int .i64 kk, .int .i64 nn, .int .u64 ss, .int .u32 cc, .bool mm] 31) = w3 := ⟨_, rfl⟩
          have HU3 : Hid (Upd (From w.heap.size) w w3) := Lib.hid (by rw [← hw3]; exact HI.out.2.2.1.from (Upd.alloc _ _ _))
          have HD3 : Hid (DAt w3 b2 nest d) := Lib.hid (by rw [← hw3]; exact HI.out.2.2.2.1.alloc _)
          have HR3 : Hid (RAt w3 rb nest d) := Lib.hid (by rw [← hw3]; exact HI.out.2.2.2.2.1.alloc _)
          have HQ3 : Hid (Blk w3 wr.heap.size #[.int .i64 kk, .int .i64 nn, .int .u64 ss, .int .u32 cc, .bool mm] 31) := Lib.hid (by rw [← hw3]; exact Blk.new _ _ _)
          have HW3 := Lib.hid hw3
          clear hw3
          by_cases h0 : kk = 0
          · subst h0
            have hrb2 : ¬ OnlyAt b2 rb := fun h => hbr h.symm
            have hdn : d.depth ≤ nest := HI3.out.2.1
            have HOP := Lib.hid (fun W h => begin_any b2 nest d nn ss hdd W h)
            have HOR := Lib.hid (fun W h => rbegin_any rb nest d nn ss hdd hdn W h)
            have HIb := Lib.hid (invD_begin HI3.out nn ss).2
            have hst := beginS_st (nest := nest) (n := nn) HS3.out hsb
            have HSb := Lib.hid hst
            clear hst hdn
            generalize beginS nest d nn ss = d' at *
            generalize beginE nest d ss = r at *
            have p1 : w3.cell? ⟨wr.heap.size, 1, none⟩ = some (.int .i64 nn) := HQ3.out.cell 1
            have p2 : w3.cell? ⟨wr.heap.size, 2, none⟩ = some (.int .u64 ss) := HQ3.out.cell 2
            go_wp2_with fail
            rw [HW3.out]
            go_region_held3 (fun W => Upd (From w.heap.size) w W ∧ W.cell? ⟨wr.heap.size, 1, none⟩ = some (.int .i64 nn) ∧ W.cell? ⟨wr.heap.size, 2, none⟩ = some (.int .u64 ss)) (first | assumption | exact ⟨HU3.out.from (Upd.drew _ w3), p1, p2⟩) (first | (go_at_call 12; have hS : Upd (From w.heap.size) w _ ∧ _ := ‹_›; refine (save_any nn _).mono ?_; rintro e wm ⟨rfl, hu⟩; have HDwm := Lib.hid ((HD3.out.upd (Upd.drew NoF w3) (fun h => h)).upd hu (fun h => h)); have HRwm := Lib.hid ((HR3.out.upd (Upd.drew NoF w3) (fun h => h)).upd hu (fun h => h)); have hS' : (fun W => Upd (From w.heap.size) w W ∧ W.cell? ⟨wr.heap.size, 1, none⟩ = some (.int .i64 nn) ∧ W.cell? ⟨wr.heap.size, 2, none⟩ = some (.int .u64 ss)) wm := ⟨hS.1.from hu.toFrom, hu.cell hS.2.1 (fun h => h), hu.cell hS.2.2 (fun h => h)⟩; clear hu hS) | (go_at_call 11; have hS : Upd (From w.heap.size) w _ ∧ _ := ‹_›; refine (HOP.out _ HDwm.out).mono ?_; rintro e wn ⟨rfl, hd, hu⟩; have HDwn := Lib.hid hd; have HRwn := Lib.hid (HRwm.out.upd hu hrb2); have hS' : (fun W => Upd (From w.heap.size) w W ∧ W.cell? ⟨wr.heap.size, 1, none⟩ = some (.int .i64 nn) ∧ W.cell? ⟨wr.heap.size, 2, none⟩ = some (.int .u64 ss)) wn := ⟨hS.1.from (fromOnly hu HBL2.out), hu.cell hS.2.1 hne, hu.cell hS.2.2 hne⟩; clear hd hu hS) | (go_at_call 12; have hS : Upd (From w.heap.size) w _ ∧ _ := ‹_›; refine (save_any nn _).mono ?_; rintro e wo ⟨rfl, hu⟩; have HDwo := Lib.hid (HDwn.out.upd hu (fun h => h)); have HRwo := Lib.hid (HRwn.out.upd hu (fun h => h)); have hS' : (fun W => Upd (From w.heap.size) w W ∧ W.cell? ⟨wr.heap.size, 1, none⟩ = some (.int .i64 nn) ∧ W.cell? ⟨wr.heap.size, 2, none⟩ = some (.int .u64 ss)) wo := ⟨hS.1.from hu.toFrom, hu.cell hS.2.1 (fun h => h), hu.cell hS.2.2 (fun h => h)⟩; clear hu hS) | (go_at_call 22; have hS : Upd (From w.heap.size) w _ ∧ _ := ‹_›; refine (HOR.out _ HRwo.out).mono ?_; rintro e wb ⟨rfl, hd, hu⟩; have HRb := Lib.hid hd; have HDb := Lib.hid (HDwo.out.upd hu hbr); have hS' : (fun W => Upd (From w.heap.size) w W ∧ W.cell? ⟨wr.heap.size, 1, none⟩ = some (.int .i64 nn) ∧ W.cell? ⟨wr.heap.size, 2, none⟩ = some (.int .u64 ss)) wb := ⟨hS.1.from (fromOnly hu hgw), hu.cell hS.2.1 hne2, hu.cell hS.2.2 hne2⟩; clear hd hu hS))
            obtain ⟨hUb, _⟩ : Upd (From w.heap.size) w wb ∧ _ := ‹Upd (From w.heap.size) w wb ∧ _›
            have HUb := Lib.hid hUb
            clear hUb
            have r1 : wb.cell? ⟨rb, 1, none⟩ = some (.int .i64 d'.depth) := HRb.out.cell 1
            have r20 : wb.cell? ⟨rb, 20, none⟩ = some (.bool d'.fl) := HRb.out.cell 20
            have r21 : wb.cell? ⟨rb, 21, none⟩ = some (.bool d'.fa) := HRb.out.cell 21
            go_wp2_with fail
            go_quiet (first | (go_at_call 10; exact Calls.quiet_of_same ((depth_any b2 nest d' _ (by first | exact HDb.out | exact HDb.out.upd (Upd.drew NoF wb) (fun h => h) | exact HDb.out.upd (Upd.drewN NoF wb _) (fun h => h))).mono (fun _ _ h => ⟨h.1, h.2.symm⟩))) | (go_at_call 17; exact Calls.quiet_of_same ((failing_any b2 nest d' _ (by first | exact HDb.out | exact HDb.out.upd (Upd.drew NoF wb) (fun h => h) | exact HDb.out.upd (Upd.drewN NoF wb _) (fun h => h))).mono (fun _ _ h => ⟨h.1, h.2.symm⟩))) | (go_at_call 16; exact Calls.quiet_of_same ((stamp_any b2 nest d' _ (by first | exact HDb.out | exact HDb.out.upd (Upd.drew NoF wb) (fun h => h) | exact HDb.out.upd (Upd.drewN NoF wb _) (fun h => h))).mono (fun _ _ h => ⟨h.1, h.2.symm⟩))) | (go_at_call 20; exact Calls.quiet_of_same ((flag_any b2 nest d' _ (by first | exact HDb.out | exact HDb.out.upd (Upd.drew NoF wb) (fun h => h) | exact HDb.out.upd (Upd.drewN NoF wb _) (fun h => h))).mono (fun _ _ h => ⟨h.1, h.2.symm⟩))) | (go_at_call 28; exact Calls.quiet_of_same ((rstamp_any rb nest d' _ (by first | exact HRb.out | exact HRb.out.upd (Upd.drew NoF wb) (fun h => h) | exact HRb.out.upd (Upd.drewN NoF wb _) (fun h => h))).mono (fun _ _ h => ⟨h.1, h.2.symm⟩))))
            rename_i nq
            go_wp2_with fail
            exact ⟨⟨k + 1, d', b2, by omega, by go_num, rfl, HBL2.out, hbr, HUb.out.from (Upd.drewN _ wb nq), HDb.out.upd (Upd.drewN NoF wb nq) (fun h => h), HRb.out.upd (Upd.drewN NoF wb nq) (fun h => h), HIb.out, HSb.out⟩, by simp [intOf]; omega⟩
          · have h0b : (kk == 0) = false := by simpa using h0
            by_cases h1 : kk = 1
            · subst h1
              have hrb2 : ¬ OnlyAt b2 rb := fun h => hbr h.symm
              have HOP := Lib.hid (end_any b2 nest d hdd w3 HD3.out)
              have HOR := Lib.hid (fun W h => rend_any rb nest d hdd W h)
              have HIb := Lib.hid (invD_end HI3.out).2
              have hst := endS_st HS3.out
              have HSb := Lib.hid hst
              clear hst
              generalize endS d = d' at *
              generalize openE d = r at *
              generalize endB d = rbb at *
              go_wp2_with fail
              rw [HW3.out]
              refine HOP.out.mono ?_
              rintro e wa ⟨rfl, hd, hu⟩
              have HDa := Lib.hid hd; have HRa := Lib.hid (HR3.out.upd hu hrb2); have HUa := Lib.hid (HU3.out.from (fromOnly hu HBL2.out))
              clear hd hu
              go_wp2_with fail
              refine (HOR.out wa HRa.out).mono ?_
              rintro e wb ⟨rfl, hd, hu⟩
              have HRb := Lib.hid hd; have HDb := Lib.hid (HDa.out.upd hu hbr); have HUb := Lib.hid (HUa.out.from (fromOnly hu hgw))
              clear hd hu
              have r1 : wb.cell? ⟨rb, 1, none⟩ = some (.int .i64 d'.depth) := HRb.out.cell 1
              have r20 : wb.cell? ⟨rb, 20, none⟩ = some (.bool d'.fl) := HRb.out.cell 20
              have r21 : wb.cell? ⟨rb, 21, none⟩ = some (.bool d'.fa) := HRb.out.cell 21
              go_wp2_with fail
              go_quiet (first | (go_at_call 10; exact Calls.quiet_of_same ((depth_any b2 nest d' _ (by first | exact HDb.out | exact HDb.out.upd (Upd.drew NoF wb) (fun h => h) | exact HDb.out.upd (Upd.drewN NoF wb _) (fun h => h))).mono (fun _ _ h => ⟨h.1, h.2.symm⟩))) | (go_at_call 17; exact Calls.quiet_of_same ((failing_any b2 nest d' _ (by first | exact HDb.out | exact HDb.out.upd (Upd.drew NoF wb) (fun h => h) | exact HDb.out.upd (Upd.drewN NoF wb _) (fun h => h))).mono (fun _ _ h => ⟨h.1, h.2.symm⟩))) | (go_at_call 16; exact Calls.quiet_of_same ((stamp_any b2 nest d' _ (by first | exact HDb.out | exact HDb.out.upd (Upd.drew NoF wb) (fun h => h) | exact HDb.out.upd (Upd.drewN NoF wb _) (fun h => h))).mono (fun _ _ h => ⟨h.1, h.2.symm⟩))) | (go_at_call 20; exact Calls.quiet_of_same ((flag_any b2 nest d' _ (by first | exact HDb.out | exact HDb.out.upd (Upd.drew NoF wb) (fun h => h) | exact HDb.out.upd (Upd.drewN NoF wb _) (fun h => h))).mono (fun _ _ h => ⟨h.1, h.2.symm⟩))) | (go_at_call 28; exact Calls.quiet_of_same ((rstamp_any rb nest d' _ (by first | exact HRb.out | exact HRb.out.upd (Upd.drew NoF wb) (fun h => h) | exact HRb.out.upd (Upd.drewN NoF wb _) (fun h => h))).mono (fun _ _ h => ⟨h.1, h.2.symm⟩))))
              rename_i nq
              go_wp2_with fail
              exact ⟨⟨k + 1, d', b2, by omega, by go_num, rfl, HBL2.out, hbr, HUb.out.from (Upd.drewN _ wb nq), HDb.out.upd (Upd.drewN NoF wb nq) (fun h => h), HRb.out.upd (Upd.drewN NoF wb nq) (fun h => h), HIb.out, HSb.out⟩, by simp [intOf]; omega⟩
            · have h1b : (kk == 1) = false := by simpa using h1
              by_cases h2 : kk = 2
              · subst h2
                have hrb2 : ¬ OnlyAt b2 rb := fun h => hbr h.symm
                have HOP := Lib.hid (fun W h => fail_any b2 nest d cc hdd W h)
                have HOR := Lib.hid (fun W h => rfail_any rb nest d cc hdd W h)
                have HIb := Lib.hid (invD_fail HI3.out hcb.1 hcb.2)
                have hst : (failS d cc).st = d.st := by unfold failS; split <;> rfl
                have HSb : Hid (0 ≤ (failS d cc).st) := Lib.hid (by rw [hst]; exact HS3.out)
                clear hst
                generalize failS d cc = d' at *
                generalize openE d = r at *
                have p2 : w3.cell? ⟨wr.heap.size, 2, none⟩ = some (.int .u64 ss) := HQ3.out.cell 2
                have p3 : w3.cell? ⟨wr.heap.size, 3, none⟩ = some (.int .u32 cc) := HQ3.out.cell 3
                have p4 : w3.cell? ⟨wr.heap.size, 4, none⟩ = some (.bool mm) := HQ3.out.cell 4
                go_wp2_with fail
                rw [HW3.out]
                go_region_held3 (fun W => Upd (From w.heap.size) w W ∧ W.cell? ⟨wr.heap.size, 2, none⟩ = some (.int .u64 ss) ∧ W.cell? ⟨wr.heap.size, 3, none⟩ = some (.int .u32 cc) ∧ W.cell? ⟨wr.heap.size, 4, none⟩ = some (.bool mm)) (first | assumption | exact ⟨HU3.out.from (Upd.drew _ w3), p2, p3, p4⟩) (first | (go_at_call 14; have hS : Upd (From w.heap.size) w _ ∧ _ := ‹_›; refine (HOP.out _ (HD3.out.upd (Upd.drew NoF w3) (fun h => h))).mono ?_; rintro e wa ⟨rfl, hd, hu⟩; have HDa := Lib.hid hd; have HRa := Lib.hid ((HR3.out.upd (Upd.drew NoF w3) (fun h => h)).upd hu hrb2); have hS' : (fun W => Upd (From w.heap.size) w W ∧ W.cell? ⟨wr.heap.size, 2, none⟩ = some (.int .u64 ss) ∧ W.cell? ⟨wr.heap.size, 3, none⟩ = some (.int .u32 cc) ∧ W.cell? ⟨wr.heap.size, 4, none⟩ = some (.bool mm)) wa := ⟨hS.1.from (fromOnly hu HBL2.out), hu.cell hS.2.1 hne, hu.cell hS.2.2.1 hne, hu.cell hS.2.2.2 hne⟩; clear hd hu hS) | (go_at_call 24; have hS : Upd (From w.heap.size) w _ ∧ _ := ‹_›; refine (HOR.out _ HRa.out).mono ?_; rintro e wb ⟨rfl, hd, hu⟩; have HRb := Lib.hid hd; have HDb := Lib.hid (HDa.out.upd hu hbr); have hS' : (fun W => Upd (From w.heap.size) w W ∧ W.cell? ⟨wr.heap.size, 2, none⟩ = some (.int .u64 ss) ∧ W.cell? ⟨wr.heap.size, 3, none⟩ = some (.int .u32 cc) ∧ W.cell? ⟨wr.heap.size, 4, none⟩ = some (.bool mm)) wb := ⟨hS.1.from (fromOnly hu hgw), hu.cell hS.2.1 hne2, hu.cell hS.2.2.1 hne2, hu.cell hS.2.2.2 hne2⟩; clear hd hu hS))
                obtain ⟨hUb, _⟩ : Upd (From w.heap.size) w wb ∧ _ := ‹Upd (From w.heap.size) w wb ∧ _›
                have HUb := Lib.hid hUb
                clear hUb
                have r1 : wb.cell? ⟨rb, 1, none⟩ = some (.int .i64 d'.depth) := HRb.out.cell 1
                have r20 : wb.cell? ⟨rb, 20, none⟩ = some (.bool d'.fl) := HRb.out.cell 20
                have r21 : wb.cell? ⟨rb, 21, none⟩ = some (.bool d'.fa) := HRb.out.cell 21
                go_wp2_with fail
                go_quiet (first | (go_at_call 10; exact Calls.quiet_of_same ((depth_any b2 nest d' _ (by first | exact HDb.out | exact HDb.out.upd (Upd.drew NoF wb) (fun h => h) | exact HDb.out.upd (Upd.drewN NoF wb _) (fun h => h))).mono (fun _ _ h => ⟨h.1, h.2.symm⟩))) | (go_at_call 17; exact Calls.quiet_of_same ((failing_any b2 nest d' _ (by first | exact HDb.out | exact HDb.out.upd (Upd.drew NoF wb) (fun h => h) | exact HDb.out.upd (Upd.drewN NoF wb _) (fun h => h))).mono (fun _ _ h => ⟨h.1, h.2.symm⟩))) | (go_at_call 16; exact Calls.quiet_of_same ((stamp_any b2 nest d' _ (by first | exact HDb.out | exact HDb.out.upd (Upd.drew NoF wb) (fun h => h) | exact HDb.out.upd (Upd.drewN NoF wb _) (fun h => h))).mono (fun _ _ h => ⟨h.1, h.2.symm⟩))) | (go_at_call 20; exact Calls.quiet_of_same ((flag_any b2 nest d' _ (by first | exact HDb.out | exact HDb.out.upd (Upd.drew NoF wb) (fun h => h) | exact HDb.out.upd (Upd.drewN NoF wb _) (fun h => h))).mono (fun _ _ h => ⟨h.1, h.2.symm⟩))) | (go_at_call 28; exact Calls.quiet_of_same ((rstamp_any rb nest d' _ (by first | exact HRb.out | exact HRb.out.upd (Upd.drew NoF wb) (fun h => h) | exact HRb.out.upd (Upd.drewN NoF wb _) (fun h => h))).mono (fun _ _ h => ⟨h.1, h.2.symm⟩))))
                rename_i nq
                go_wp2_with fail
                exact ⟨⟨k + 1, d', b2, by omega, by go_num, rfl, HBL2.out, hbr, HUb.out.from (Upd.drewN _ wb nq), HDb.out.upd (Upd.drewN NoF wb nq) (fun h => h), HRb.out.upd (Upd.drewN NoF wb nq) (fun h => h), HIb.out, HSb.out⟩, by simp [intOf]; omega⟩
              · have h2b : (kk == 2) = false := by simpa using h2
                by_cases h3 : kk = 3
                · subst h3
                  have hrb2 : ¬ OnlyAt b2 rb := fun h => hbr h.symm
                  have hca : 0 ≤ d.ca ∧ d.ca ≤ 4294967295 := ⟨HI3.out.2.2.2.2.1, HI3.out.2.2.2.2.2⟩
                  have HOV := Lib.hid (over_any b2 nest d hca w3 HD3.out)
                  have HOR := Lib.hid (fun W h => rover_any rb nest d hca W h)
                  have HIb := Lib.hid (invD_over HI3.out)
                  have hst := overS_st HS3.out
                  have HSb := Lib.hid hst
                  clear hst hca
                  cases hfa : d.fa
                  · have hv : overV d = .tuple #[SV 0, .int .u32 0, .int .i64 8] := by unfold overV; rw [hfa]; rfl
                    have hs : overS d = d := by unfold overS; rw [hfa]; rfl
                    rw [hs, hv] at HOV HOR
                    rw [hs] at HIb HSb
                    clear hs hv
                    go_wp2_with fail
                    rw [HW3.out]
                    refine HOV.out.mono ?_
                    rintro e wn ⟨rfl, hd, hu⟩
                    have hUn := HU3.out.from (fromOnly hu HBL2.out)
                    have hRn := HR3.out.upd hu hrb2
                    have hrn : wn.heap.size ≠ rb := by have := hRn.lt; omega
                    obtain ⟨k1, k2⟩ := save_new wn 0 36
                    have s0 : (stS (.pointer (some ⟨wn.heap.size, 0, none⟩)) (SV 0)).run Try.prog (wn.alloc (.cells #[.int .u32 0, .int .u32 0, .int .u32 0, .int .u32 0, .int .u32 0, .int .u32 0, .int .u32 0, .int .u32 0, .int .u32 0, .int .u32 0, .int .u32 0, .int .u32 0, .int .u32 0, .int .u32 0, .int .u32 0, .int .u32 0, .int .i64 0] 36)) = .ok () ((wn.alloc (.cells SZ 36)).setCells wn.heap.size 0 (SC 0).toList) := stS_run 0 (save_newthere wn _)
                    generalize (wn.alloc (.cells SZ 36)).setCells wn.heap.size 0 (SC 0).toList = wo at *
                    have HUo := Lib.hid (hUn.from k1.toFrom); have HDo := Lib.hid (hd.upd k1 (fun h => h)); have HRo := Lib.hid (hRn.upd k1 (fun h => h)); have HSo := Lib.hid k2
                    clear hUn hRn hd hu k1 k2
                    go_wp2_with fail
                    refine (HOR.out wo HRo.out).mono ?_
                    rintro e wp ⟨rfl, hd, hu⟩
                    have hUp := HUo.out.from (fromOnly hu hgw)
                    have hDp := HDo.out.upd hu hbr
                    have hSp := HSo.out.upd hu hrn
                    obtain ⟨k1, k2⟩ := save_new wp 0 36
                    have s1 : (stS (.pointer (some ⟨wp.heap.size, 0, none⟩)) (SV 0)).run Try.prog (wp.alloc (.cells #[.int .u32 0, .int .u32 0, .int .u32 0, .int .u32 0, .int .u32 0, .int .u32 0, .int .u32 0, .int .u32 0, .int .u32 0, .int .u32 0, .int .u32 0, .int .u32 0, .int .u32 0, .int .u32 0, .int .u32 0, .int .u32 0, .int .i64 0] 36)) = .ok () ((wp.alloc (.cells SZ 36)).setCells wp.heap.size 0 (SC 0).toList) := stS_run 0 (save_newthere wp _)
                    generalize (wp.alloc (.cells SZ 36)).setCells wp.heap.size 0 (SC 0).toList = wb at *
                    have HUb := Lib.hid (hUp.from k1.toFrom); have HDb := Lib.hid (hDp.upd k1 (fun h => h)); have HRb := Lib.hid (hd.upd k1 (fun h => h)); have hSb := hSp.upd k1 (fun h => h)
                    have l1 := ldS_run (save_rangeAtK hSb); have l2 := ldS_run (save_rangeAtK k2)
                    clear hUp hDp hSp hd hu k1 k2 hSb hrn
                    have r1 : wb.cell? ⟨rb, 1, none⟩ = some (.int .i64 d.depth) := HRb.out.cell 1
                    have r20 : wb.cell? ⟨rb, 20, none⟩ = some (.bool d.fl) := HRb.out.cell 20
                    have r21 : wb.cell? ⟨rb, 21, none⟩ = some (.bool d.fa) := HRb.out.cell 21
                    go_wp2_with fail
                    go_quiet (first | (go_at_call 10; exact Calls.quiet_of_same ((depth_any b2 nest d _ (by first | exact HDb.out | exact HDb.out.upd (Upd.drew NoF wb) (fun h => h) | exact HDb.out.upd (Upd.drewN NoF wb _) (fun h => h))).mono (fun _ _ h => ⟨h.1, h.2.symm⟩))) | (go_at_call 17; exact Calls.quiet_of_same ((failing_any b2 nest d _ (by first | exact HDb.out | exact HDb.out.upd (Upd.drew NoF wb) (fun h => h) | exact HDb.out.upd (Upd.drewN NoF wb _) (fun h => h))).mono (fun _ _ h => ⟨h.1, h.2.symm⟩))) | (go_at_call 16; exact Calls.quiet_of_same ((stamp_any b2 nest d _ (by first | exact HDb.out | exact HDb.out.upd (Upd.drew NoF wb) (fun h => h) | exact HDb.out.upd (Upd.drewN NoF wb _) (fun h => h))).mono (fun _ _ h => ⟨h.1, h.2.symm⟩))) | (go_at_call 20; exact Calls.quiet_of_same ((flag_any b2 nest d _ (by first | exact HDb.out | exact HDb.out.upd (Upd.drew NoF wb) (fun h => h) | exact HDb.out.upd (Upd.drewN NoF wb _) (fun h => h))).mono (fun _ _ h => ⟨h.1, h.2.symm⟩))) | (go_at_call 28; exact Calls.quiet_of_same ((rstamp_any rb nest d _ (by first | exact HRb.out | exact HRb.out.upd (Upd.drew NoF wb) (fun h => h) | exact HRb.out.upd (Upd.drewN NoF wb _) (fun h => h))).mono (fun _ _ h => ⟨h.1, h.2.symm⟩))))
                    rename_i nq
                    go_wp2_with fail
                    exact ⟨⟨k + 1, d, b2, by omega, by go_num, rfl, HBL2.out, hbr, HUb.out.from (Upd.drewN _ wb nq), HDb.out.upd (Upd.drewN NoF wb nq) (fun h => h), HRb.out.upd (Upd.drewN NoF wb nq) (fun h => h), HIb.out, HSb.out⟩, by simp [intOf]; omega⟩
                  · have hv : overV d = .tuple #[SV d.n, .int .u32 d.ca, .int .i64 0] := by unfold overV; rw [hfa]; rfl
                    rw [hv] at HOV HOR
                    clear hv
                    generalize overS d = d' at *
                    go_wp2_with fail
                    rw [HW3.out]
                    refine HOV.out.mono ?_
                    rintro e wn ⟨rfl, hd, hu⟩
                    have hUn := HU3.out.from (fromOnly hu HBL2.out)
                    have hRn := HR3.out.upd hu hrb2
                    have hrn : wn.heap.size ≠ rb := by have := hRn.lt; omega
                    obtain ⟨k1, k2⟩ := save_new wn d.n 36
                    have s0 : (stS (.pointer (some ⟨wn.heap.size, 0, none⟩)) (SV d.n)).run Try.prog (wn.alloc (.cells #[.int .u32 0, .int .u32 0, .int .u32 0, .int .u32 0, .int .u32 0, .int .u32 0, .int .u32 0, .int .u32 0, .int .u32 0, .int .u32 0, .int .u32 0, .int .u32 0, .int .u32 0, .int .u32 0, .int .u32 0, .int .u32 0, .int .i64 0] 36)) = .ok () ((wn.alloc (.cells SZ 36)).setCells wn.heap.size 0 (SC d.n).toList) := stS_run d.n (save_newthere wn _)
                    generalize (wn.alloc (.cells SZ 36)).setCells wn.heap.size 0 (SC d.n).toList = wo at *
                    have HUo := Lib.hid (hUn.from k1.toFrom); have HDo := Lib.hid (hd.upd k1 (fun h => h)); have HRo := Lib.hid (hRn.upd k1 (fun h => h)); have HSo := Lib.hid k2
                    clear hUn hRn hd hu k1 k2
                    go_wp2_with fail
                    refine (HOR.out wo HRo.out).mono ?_
                    rintro e wp ⟨rfl, hd, hu⟩
                    have hUp := HUo.out.from (fromOnly hu hgw)
                    have hDp := HDo.out.upd hu hbr
                    have hSp := HSo.out.upd hu hrn
                    obtain ⟨k1, k2⟩ := save_new wp d.n 36
                    have s1 : (stS (.pointer (some ⟨wp.heap.size, 0, none⟩)) (SV d.n)).run Try.prog (wp.alloc (.cells #[.int .u32 0, .int .u32 0, .int .u32 0, .int .u32 0, .int .u32 0, .int .u32 0, .int .u32 0, .int .u32 0, .int .u32 0, .int .u32 0, .int .u32 0, .int .u32 0, .int .u32 0, .int .u32 0, .int .u32 0, .int .u32 0, .int .i64 0] 36)) = .ok () ((wp.alloc (.cells SZ 36)).setCells wp.heap.size 0 (SC d.n).toList) := stS_run d.n (save_newthere wp _)
                    generalize (wp.alloc (.cells SZ 36)).setCells wp.heap.size 0 (SC d.n).toList = wb at *
                    have HUb := Lib.hid (hUp.from k1.toFrom); have HDb := Lib.hid (hDp.upd k1 (fun h => h)); have HRb := Lib.hid (hd.upd k1 (fun h => h)); have hSb := hSp.upd k1 (fun h => h)
                    have l1 := ldS_run (save_rangeAtK hSb); have l2 := ldS_run (save_rangeAtK k2)
                    clear hUp hDp hSp hd hu k1 k2 hSb hrn
                    have r1 : wb.cell? ⟨rb, 1, none⟩ = some (.int .i64 d'.depth) := HRb.out.cell 1
                    have r20 : wb.cell? ⟨rb, 20, none⟩ = some (.bool d'.fl) := HRb.out.cell 20
                    have r21 : wb.cell? ⟨rb, 21, none⟩ = some (.bool d'.fa) := HRb.out.cell 21
                    go_wp2_with fail
                    go_quiet (first | (go_at_call 10; exact Calls.quiet_of_same ((depth_any b2 nest d' _ (by first | exact HDb.out | exact HDb.out.upd (Upd.drew NoF wb) (fun h => h) | exact HDb.out.upd (Upd.drewN NoF wb _) (fun h => h))).mono (fun _ _ h => ⟨h.1, h.2.symm⟩))) | (go_at_call 17; exact Calls.quiet_of_same ((failing_any b2 nest d' _ (by first | exact HDb.out | exact HDb.out.upd (Upd.drew NoF wb) (fun h => h) | exact HDb.out.upd (Upd.drewN NoF wb _) (fun h => h))).mono (fun _ _ h => ⟨h.1, h.2.symm⟩))) | (go_at_call 16; exact Calls.quiet_of_same ((stamp_any b2 nest d' _ (by first | exact HDb.out | exact HDb.out.upd (Upd.drew NoF wb) (fun h => h) | exact HDb.out.upd (Upd.drewN NoF wb _) (fun h => h))).mono (fun _ _ h => ⟨h.1, h.2.symm⟩))) | (go_at_call 20; exact Calls.quiet_of_same ((flag_any b2 nest d' _ (by first | exact HDb.out | exact HDb.out.upd (Upd.drew NoF wb) (fun h => h) | exact HDb.out.upd (Upd.drewN NoF wb _) (fun h => h))).mono (fun _ _ h => ⟨h.1, h.2.symm⟩))) | (go_at_call 28; exact Calls.quiet_of_same ((rstamp_any rb nest d' _ (by first | exact HRb.out | exact HRb.out.upd (Upd.drew NoF wb) (fun h => h) | exact HRb.out.upd (Upd.drewN NoF wb _) (fun h => h))).mono (fun _ _ h => ⟨h.1, h.2.symm⟩))))
                    rename_i nq
                    go_wp2_with fail
                    exact ⟨⟨k + 1, d', b2, by omega, by go_num, rfl, HBL2.out, hbr, HUb.out.from (Upd.drewN _ wb nq), HDb.out.upd (Upd.drewN NoF wb nq) (fun h => h), HRb.out.upd (Upd.drewN NoF wb nq) (fun h => h), HIb.out, HSb.out⟩, by simp [intOf]; omega⟩
                · have h3b : (kk == 3) = false := by simpa using h3
                  by_cases h4 : kk = 4
                  · subst h4
                    have hrb2 : ¬ OnlyAt b2 rb := fun h => hbr h.symm
                    have hse := stampE_ge HS3.out
                    have HOP := Lib.hid (fun W h => dasked_any b2 nest d mm ss W h)
                    have HOR := Lib.hid (fun W h => rasked_any rb nest d mm ss hse hsb W h)
                    have HIb : Hid (InvD nest (askedS d mm ss)) := HI3
                    have HSb : Hid (0 ≤ (askedS d mm ss).st) := HS3
                    clear hse
                    generalize askedS d mm ss = d' at *
                    generalize askedB d mm = r at *
                    have p2 : w3.cell? ⟨wr.heap.size, 2, none⟩ = some (.int .u64 ss) := HQ3.out.cell 2
                    have p3 : w3.cell? ⟨wr.heap.size, 3, none⟩ = some (.int .u32 cc) := HQ3.out.cell 3
                    have p4 : w3.cell? ⟨wr.heap.size, 4, none⟩ = some (.bool mm) := HQ3.out.cell 4
                    go_wp2_with fail
                    rw [HW3.out]
                    go_region_held3 (fun W => Upd (From w.heap.size) w W ∧ W.cell? ⟨wr.heap.size, 2, none⟩ = some (.int .u64 ss) ∧ W.cell? ⟨wr.heap.size, 3, none⟩ = some (.int .u32 cc) ∧ W.cell? ⟨wr.heap.size, 4, none⟩ = some (.bool mm)) (first | assumption | exact ⟨HU3.out.from (Upd.drew _ w3), p2, p3, p4⟩) (first | (go_at_call 18; have hS : Upd (From w.heap.size) w _ ∧ _ := ‹_›; refine (HOP.out _ (HD3.out.upd (Upd.drew NoF w3) (fun h => h))).mono ?_; rintro e wa ⟨rfl, hd, hu⟩; have HDa := Lib.hid hd; have HRa := Lib.hid ((HR3.out.upd (Upd.drew NoF w3) (fun h => h)).upd hu hrb2); have hS' : (fun W => Upd (From w.heap.size) w W ∧ W.cell? ⟨wr.heap.size, 2, none⟩ = some (.int .u64 ss) ∧ W.cell? ⟨wr.heap.size, 3, none⟩ = some (.int .u32 cc) ∧ W.cell? ⟨wr.heap.size, 4, none⟩ = some (.bool mm)) wa := ⟨hS.1.from (fromOnly hu HBL2.out), hu.cell hS.2.1 hne, hu.cell hS.2.2.1 hne, hu.cell hS.2.2.2 hne⟩; clear hd hu hS) | (go_at_call 26; have hS : Upd (From w.heap.size) w _ ∧ _ := ‹_›; refine (HOR.out _ HRa.out).mono ?_; rintro e wb ⟨rfl, hd, hu⟩; have HRb := Lib.hid hd; have HDb := Lib.hid (HDa.out.upd hu hbr); have hS' : (fun W => Upd (From w.heap.size) w W ∧ W.cell? ⟨wr.heap.size, 2, none⟩ = some (.int .u64 ss) ∧ W.cell? ⟨wr.heap.size, 3, none⟩ = some (.int .u32 cc) ∧ W.cell? ⟨wr.heap.size, 4, none⟩ = some (.bool mm)) wb := ⟨hS.1.from (fromOnly hu hgw), hu.cell hS.2.1 hne2, hu.cell hS.2.2.1 hne2, hu.cell hS.2.2.2 hne2⟩; clear hd hu hS))
                    obtain ⟨hUb, _⟩ : Upd (From w.heap.size) w wb ∧ _ := ‹Upd (From w.heap.size) w wb ∧ _›
                    have HUb := Lib.hid hUb
                    clear hUb
                    have r1 : wb.cell? ⟨rb, 1, none⟩ = some (.int .i64 d'.depth) := HRb.out.cell 1
                    have r20 : wb.cell? ⟨rb, 20, none⟩ = some (.bool d'.fl) := HRb.out.cell 20
                    have r21 : wb.cell? ⟨rb, 21, none⟩ = some (.bool d'.fa) := HRb.out.cell 21
                    go_wp2_with fail
                    go_quiet (first | (go_at_call 10; exact Calls.quiet_of_same ((depth_any b2 nest d' _ (by first | exact HDb.out | exact HDb.out.upd (Upd.drew NoF wb) (fun h => h) | exact HDb.out.upd (Upd.drewN NoF wb _) (fun h => h))).mono (fun _ _ h => ⟨h.1, h.2.symm⟩))) | (go_at_call 17; exact Calls.quiet_of_same ((failing_any b2 nest d' _ (by first | exact HDb.out | exact HDb.out.upd (Upd.drew NoF wb) (fun h => h) | exact HDb.out.upd (Upd.drewN NoF wb _) (fun h => h))).mono (fun _ _ h => ⟨h.1, h.2.symm⟩))) | (go_at_call 16; exact Calls.quiet_of_same ((stamp_any b2 nest d' _ (by first | exact HDb.out | exact HDb.out.upd (Upd.drew NoF wb) (fun h => h) | exact HDb.out.upd (Upd.drewN NoF wb _) (fun h => h))).mono (fun _ _ h => ⟨h.1, h.2.symm⟩))) | (go_at_call 20; exact Calls.quiet_of_same ((flag_any b2 nest d' _ (by first | exact HDb.out | exact HDb.out.upd (Upd.drew NoF wb) (fun h => h) | exact HDb.out.upd (Upd.drewN NoF wb _) (fun h => h))).mono (fun _ _ h => ⟨h.1, h.2.symm⟩))) | (go_at_call 28; exact Calls.quiet_of_same ((rstamp_any rb nest d' _ (by first | exact HRb.out | exact HRb.out.upd (Upd.drew NoF wb) (fun h => h) | exact HRb.out.upd (Upd.drewN NoF wb _) (fun h => h))).mono (fun _ _ h => ⟨h.1, h.2.symm⟩))))
                    rename_i nq
                    go_wp2_with fail
                    exact ⟨⟨k + 1, d', b2, by omega, by go_num, rfl, HBL2.out, hbr, HUb.out.from (Upd.drewN _ wb nq), HDb.out.upd (Upd.drewN NoF wb nq) (fun h => h), HRb.out.upd (Upd.drewN NoF wb nq) (fun h => h), HIb.out, HSb.out⟩, by simp [intOf]; omega⟩
                  · have h4b : (kk == 4) = false := by simpa using h4
                    by_cases h5 : kk = 5
                    · subst h5
                      have hse := HS3.out
                      have HOP := Lib.hid (fun W h => refused_any b2 nest d ss W h)
                      have HOR := Lib.hid (fun W h => rrefused_any rb nest d ss hdd.1 hse hsb W h)
                      clear hse
                      have HIb := HI3
                      have HSb := HS3
                      generalize refusedB d ss = r at *
                      have p2 : w3.cell? ⟨wr.heap.size, 2, none⟩ = some (.int .u64 ss) := HQ3.out.cell 2
                      have p3 : w3.cell? ⟨wr.heap.size, 3, none⟩ = some (.int .u32 cc) := HQ3.out.cell 3
                      have p4 : w3.cell? ⟨wr.heap.size, 4, none⟩ = some (.bool mm) := HQ3.out.cell 4
                      go_wp2_with fail
                      rw [HW3.out]
                      go_region_held3 (fun W => Upd (From w.heap.size) w W ∧ W.cell? ⟨wr.heap.size, 2, none⟩ = some (.int .u64 ss) ∧ W.cell? ⟨wr.heap.size, 3, none⟩ = some (.int .u32 cc) ∧ W.cell? ⟨wr.heap.size, 4, none⟩ = some (.bool mm)) (first | assumption | exact ⟨HU3.out.from (Upd.drew _ w3), p2, p3, p4⟩) (first | (go_at_call 19; have hS : Upd (From w.heap.size) w _ ∧ _ := ‹_›; refine (HOP.out _ (HD3.out.upd (Upd.drew NoF w3) (fun h => h))).mono ?_; rintro e wa ⟨rfl, hu⟩; have HDa := Lib.hid ((HD3.out.upd (Upd.drew NoF w3) (fun h => h)).upd hu (fun h => h)); have HRa := Lib.hid ((HR3.out.upd (Upd.drew NoF w3) (fun h => h)).upd hu (fun h => h)); have hS' : (fun W => Upd (From w.heap.size) w W ∧ W.cell? ⟨wr.heap.size, 2, none⟩ = some (.int .u64 ss) ∧ W.cell? ⟨wr.heap.size, 3, none⟩ = some (.int .u32 cc) ∧ W.cell? ⟨wr.heap.size, 4, none⟩ = some (.bool mm)) wa := ⟨hS.1.from hu.toFrom, hu.cell hS.2.1 (fun h => h), hu.cell hS.2.2.1 (fun h => h), hu.cell hS.2.2.2 (fun h => h)⟩; clear hu hS) | (go_at_call 27; have hS : Upd (From w.heap.size) w _ ∧ _ := ‹_›; refine (HOR.out _ HRa.out).mono ?_; rintro e wb ⟨rfl, hu⟩; have HRb := Lib.hid (HRa.out.upd hu (fun h => h)); have HDb := Lib.hid (HDa.out.upd hu (fun h => h)); have hS' : (fun W => Upd (From w.heap.size) w W ∧ W.cell? ⟨wr.heap.size, 2, none⟩ = some (.int .u64 ss) ∧ W.cell? ⟨wr.heap.size, 3, none⟩ = some (.int .u32 cc) ∧ W.cell? ⟨wr.heap.size, 4, none⟩ = some (.bool mm)) wb := ⟨hS.1.from hu.toFrom, hu.cell hS.2.1 (fun h => h), hu.cell hS.2.2.1 (fun h => h), hu.cell hS.2.2.2 (fun h => h)⟩; clear hu hS))
                      obtain ⟨hUb, _⟩ : Upd (From w.heap.size) w wb ∧ _ := ‹Upd (From w.heap.size) w wb ∧ _›
                      have HUb := Lib.hid hUb
                      clear hUb
                      have r1 : wb.cell? ⟨rb, 1, none⟩ = some (.int .i64 d.depth) := HRb.out.cell 1
                      have r20 : wb.cell? ⟨rb, 20, none⟩ = some (.bool d.fl) := HRb.out.cell 20
                      have r21 : wb.cell? ⟨rb, 21, none⟩ = some (.bool d.fa) := HRb.out.cell 21
                      go_wp2_with fail
                      go_quiet (first | (go_at_call 10; exact Calls.quiet_of_same ((depth_any b2 nest d _ (by first | exact HDb.out | exact HDb.out.upd (Upd.drew NoF wb) (fun h => h) | exact HDb.out.upd (Upd.drewN NoF wb _) (fun h => h))).mono (fun _ _ h => ⟨h.1, h.2.symm⟩))) | (go_at_call 17; exact Calls.quiet_of_same ((failing_any b2 nest d _ (by first | exact HDb.out | exact HDb.out.upd (Upd.drew NoF wb) (fun h => h) | exact HDb.out.upd (Upd.drewN NoF wb _) (fun h => h))).mono (fun _ _ h => ⟨h.1, h.2.symm⟩))) | (go_at_call 16; exact Calls.quiet_of_same ((stamp_any b2 nest d _ (by first | exact HDb.out | exact HDb.out.upd (Upd.drew NoF wb) (fun h => h) | exact HDb.out.upd (Upd.drewN NoF wb _) (fun h => h))).mono (fun _ _ h => ⟨h.1, h.2.symm⟩))) | (go_at_call 20; exact Calls.quiet_of_same ((flag_any b2 nest d _ (by first | exact HDb.out | exact HDb.out.upd (Upd.drew NoF wb) (fun h => h) | exact HDb.out.upd (Upd.drewN NoF wb _) (fun h => h))).mono (fun _ _ h => ⟨h.1, h.2.symm⟩))) | (go_at_call 28; exact Calls.quiet_of_same ((rstamp_any rb nest d _ (by first | exact HRb.out | exact HRb.out.upd (Upd.drew NoF wb) (fun h => h) | exact HRb.out.upd (Upd.drewN NoF wb _) (fun h => h))).mono (fun _ _ h => ⟨h.1, h.2.symm⟩))))
                      rename_i nq
                      go_wp2_with fail
                      exact ⟨⟨k + 1, d, b2, by omega, by go_num, rfl, HBL2.out, hbr, HUb.out.from (Upd.drewN _ wb nq), HDb.out.upd (Upd.drewN NoF wb nq) (fun h => h), HRb.out.upd (Upd.drewN NoF wb nq) (fun h => h), HIb.out, HSb.out⟩, by simp [intOf]; omega⟩
                    · have h5b : (kk == 5) = false := by simpa using h5
                      by_cases h6 : kk = 6
                      · subst h6
                        have hov : 0 ≤ (failS d 3).ca ∧ (failS d 3).ca ≤ 4294967295 := (invD_fail HI3.out (by decide) (by decide)).2.2.2.2
                        have HC3 := Lib.hid (copy_any b2 nest d w3 HD3.out)
                        have HF3 := Lib.hid (fun W h => fail_any b2 nest d 3 hdd W h)
                        have HO3 := Lib.hid (fun W h => over_any b2 nest (failS d 3) hov W h)
                        generalize failS d 3 = d1 at *
                        generalize openE d = r at *
                        generalize overS d1 = d2 at *
                        generalize overV d1 = v1 at *
                        clear hov
                        go_wp2_with fail
                        rw [HW3.out]
                        refine HC3.out.mono ?_
                        rintro e wa ⟨rfl, hd, hu⟩
                        have hb2w : b2 < w3.heap.size := HD3.out.lt
                        have hrw3 : rb < w3.heap.size := HR3.out.lt
                        have hlw3 : w.heap.size ≤ w3.heap.size := HU3.out.size
                        generalize w3.heap.size = b4 at *
                        have hb4 : ¬ OnlyAt b2 b4 := fun h => by have : b4 = b2 := h; omega
                        have hb4r : b4 ≠ rb := by omega
                        have HBL4 := Lib.hid hlw3
                        have hrb2 : ¬ OnlyAt b2 rb := fun h => hbr h.symm
                        have HDa := Lib.hid (HD3.out.upd hu (fun h => h)); have HNa := Lib.hid hd; have HRa := Lib.hid (HR3.out.upd hu (fun h => h)); have HUa := Lib.hid (HU3.out.from hu.toFrom)
                        clear hd hu
                        go_wp2_with fail
                        refine (HF3.out wa HDa.out).mono ?_
                        rintro e wc ⟨rfl, hd, hu⟩
                        have HDc := Lib.hid hd; have HNc := Lib.hid (HNa.out.upd hu hb4); have HRc := Lib.hid (HRa.out.upd hu hrb2); have HUc := Lib.hid (HUa.out.from (fromOnly hu HBL2.out))
                        clear hd hu
                        go_wp2_with fail
                        refine (HO3.out wc HDc.out).mono ?_
                        rintro e wb ⟨rfl, hd, hu⟩
                        have HDb := Lib.hid (HNc.out.upd hu hb4); have HRb := Lib.hid (HRc.out.upd hu hrb2); have HUb := Lib.hid (HUc.out.from (fromOnly hu HBL2.out)); have HIb := HI3
                        clear hd hu hb4 hrb2
                        have r1 : wb.cell? ⟨rb, 1, none⟩ = some (.int .i64 d.depth) := HRb.out.cell 1
                        have r20 : wb.cell? ⟨rb, 20, none⟩ = some (.bool d.fl) := HRb.out.cell 20
                        have r21 : wb.cell? ⟨rb, 21, none⟩ = some (.bool d.fa) := HRb.out.cell 21
                        go_wp2_with fail
                        go_quiet (first | (go_at_call 10; exact Calls.quiet_of_same ((depth_any b4 nest d _ (by first | exact HDb.out | exact HDb.out.upd (Upd.drew NoF wb) (fun h => h) | exact HDb.out.upd (Upd.drewN NoF wb _) (fun h => h))).mono (fun _ _ h => ⟨h.1, h.2.symm⟩))) | (go_at_call 17; exact Calls.quiet_of_same ((failing_any b4 nest d _ (by first | exact HDb.out | exact HDb.out.upd (Upd.drew NoF wb) (fun h => h) | exact HDb.out.upd (Upd.drewN NoF wb _) (fun h => h))).mono (fun _ _ h => ⟨h.1, h.2.symm⟩))) | (go_at_call 16; exact Calls.quiet_of_same ((stamp_any b4 nest d _ (by first | exact HDb.out | exact HDb.out.upd (Upd.drew NoF wb) (fun h => h) | exact HDb.out.upd (Upd.drewN NoF wb _) (fun h => h))).mono (fun _ _ h => ⟨h.1, h.2.symm⟩))) | (go_at_call 20; exact Calls.quiet_of_same ((flag_any b4 nest d _ (by first | exact HDb.out | exact HDb.out.upd (Upd.drew NoF wb) (fun h => h) | exact HDb.out.upd (Upd.drewN NoF wb _) (fun h => h))).mono (fun _ _ h => ⟨h.1, h.2.symm⟩))) | (go_at_call 28; exact Calls.quiet_of_same ((rstamp_any rb nest d _ (by first | exact HRb.out | exact HRb.out.upd (Upd.drew NoF wb) (fun h => h) | exact HRb.out.upd (Upd.drewN NoF wb _) (fun h => h))).mono (fun _ _ h => ⟨h.1, h.2.symm⟩))))
                        rename_i nq
                        go_wp2_with fail
                        exact ⟨⟨k + 1, d, b4, by omega, by go_num, rfl, HBL4.out, hb4r, HUb.out.from (Upd.drewN _ wb nq), HDb.out.upd (Upd.drewN NoF wb nq) (fun h => h), HRb.out.upd (Upd.drewN NoF wb nq) (fun h => h), HIb.out, HS3.out⟩, by simp [intOf]; omega⟩
                      · have h6b : (kk == 6) = false := by simpa using h6
                        go_wp2_with fail
                        rw [HW3.out]
                        have r1 : w3.cell? ⟨rb, 1, none⟩ = some (.int .i64 d.depth) := HR3.out.cell 1
                        have r20 : w3.cell? ⟨rb, 20, none⟩ = some (.bool d.fl) := HR3.out.cell 20
                        have r21 : w3.cell? ⟨rb, 21, none⟩ = some (.bool d.fa) := HR3.out.cell 21
                        go_quiet (first | (go_at_call 10; exact Calls.quiet_of_same ((depth_any b2 nest d _ (by first | exact HD3.out | exact HD3.out.upd (Upd.drew NoF w3) (fun h => h) | exact HD3.out.upd (Upd.drewN NoF w3 _) (fun h => h))).mono (fun _ _ h => ⟨h.1, h.2.symm⟩))) | (go_at_call 17; exact Calls.quiet_of_same ((failing_any b2 nest d _ (by first | exact HD3.out | exact HD3.out.upd (Upd.drew NoF w3) (fun h => h) | exact HD3.out.upd (Upd.drewN NoF w3 _) (fun h => h))).mono (fun _ _ h => ⟨h.1, h.2.symm⟩))) | (go_at_call 16; exact Calls.quiet_of_same ((stamp_any b2 nest d _ (by first | exact HD3.out | exact HD3.out.upd (Upd.drew NoF w3) (fun h => h) | exact HD3.out.upd (Upd.drewN NoF w3 _) (fun h => h))).mono (fun _ _ h => ⟨h.1, h.2.symm⟩))) | (go_at_call 20; exact Calls.quiet_of_same ((flag_any b2 nest d _ (by first | exact HD3.out | exact HD3.out.upd (Upd.drew NoF w3) (fun h => h) | exact HD3.out.upd (Upd.drewN NoF w3 _) (fun h => h))).mono (fun _ _ h => ⟨h.1, h.2.symm⟩))) | (go_at_call 28; exact Calls.quiet_of_same ((rstamp_any rb nest d _ (by first | exact HR3.out | exact HR3.out.upd (Upd.drew NoF w3) (fun h => h) | exact HR3.out.upd (Upd.drewN NoF w3 _) (fun h => h))).mono (fun _ _ h => ⟨h.1, h.2.symm⟩))))
                        rename_i nq
                        go_wp2_with fail
                        exact ⟨⟨k + 1, d, b2, by omega, by go_num, rfl, HBL2.out, hbr, HU3.out.from (Upd.drewN _ w3 nq), HD3.out.upd (Upd.drewN NoF w3 nq) (fun h => h), HR3.out.upd (Upd.drewN NoF w3 nq) (fun h => h), HI3.out, HS3.out⟩, by simp [intOf]; omega⟩
        · obtain rfl : len = k := by omega
          have HU := Lib.hid HI.out.2.2.1
          go_wp2_with fail
          refine (works_any wr).mono ?_
          rintro e w6 ⟨rfl, hu6⟩
          have HU6 := Lib.hid (HU.out.from (hu6.mono (fun i _ h => by have := HU.out.size; unfold From at *; omega)))
          clear hu6
          go_wp2
          go_ret
          exact ⟨rfl, HU6.out.belowFrom (Nat.le_refl _)⟩
end Go.Proofs.Ytdkdlgcgkkbghaa.DL
