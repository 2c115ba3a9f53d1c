/- The walk of the statement DealFails. -/
import Derived.Test.YtdkdlgcgkkbghaaDealWorks
import Derived.Deep.RegionHeld3
set_option linter.unusedSimpArgs false
set_option linter.unusedVariables false
namespace Go.Proofs.Ytdkdlgcgkkbghaa.DL
open Go.RowKit
open Go.Proofs.Ytdkdlgcgkkbghaa.Ord

theorem fail_at (w w2 : World) (b : Nat) (n c r : Int) (d d' : DS) (hd : 0 ≤ d.depth ∧ d.depth ≤ 8) (hr : openE d = r) (hs : failS d c = d') (hb : DAt w2 b n d) (hU : Upd (From w.heap.size) w w2) (hB : w.heap.size ≤ b) :
    Calls Try.prog 14 #[.pointer (some ⟨b, 0, none⟩), .int .u32 c] w2 fun e w' => e = .returned (.int .i64 r) ∧ DAt w' b n d' ∧ Upd (From w.heap.size) w w' :=
  (fail_any b n d c hd w2 hb).mono fun e w' ⟨he, h1, h2⟩ => ⟨by rw [he, hr], hs ▸ h1, hU.from (fromOnly h2 hB)⟩
theorem end_at (w w2 : World) (b : Nat) (n r : Int) (rb : Bool) (d d' : DS) (hd : 0 ≤ d.depth ∧ d.depth ≤ 8) (hr : openE d = r) (hrb : endB d = rb) (hs : endS d = d') (hb : DAt w2 b n d) (hU : Upd (From w.heap.size) w w2) (hB : w.heap.size ≤ b) :
    Calls Try.prog 13 #[.pointer (some ⟨b, 0, none⟩)] w2 fun e w' => e = .returned (.tuple #[.bool rb, .int .i64 r]) ∧ DAt w' b n d' ∧ Upd (From w.heap.size) w w' :=
  (end_any b n d hd w2 hb).mono fun e w' ⟨he, h1, h2⟩ => ⟨by rw [he, hr, hrb], hs ▸ h1, hU.from (fromOnly h2 hB)⟩
theorem asked_at (w w2 : World) (b : Nat) (n stamp : Int) (meets rb : Bool) (d d' : DS) (hr : askedB d meets = rb) (hs : askedS d meets stamp = d') (hb : DAt w2 b n d) (hU : Upd (From w.heap.size) w w2) (hB : w.heap.size ≤ b) :
    Calls Try.prog 18 #[.pointer (some ⟨b, 0, none⟩), .bool meets, .int .u64 stamp] w2 fun e w' => e = .returned (.bool rb) ∧ DAt w' b n d' ∧ Upd (From w.heap.size) w w' :=
  (dasked_any b n d meets stamp w2 hb).mono fun e w' ⟨he, h1, h2⟩ => ⟨by rw [he, hr], hs ▸ h1, hU.from (fromOnly h2 hB)⟩
theorem refused_at (w w2 : World) (b : Nat) (n stamp : Int) (rb : Bool) (d : DS) (hr : refusedB d stamp = rb) (hb : DAt w2 b n d) (hU : Upd (From w.heap.size) w w2) :
    Calls Try.prog 19 #[.pointer (some ⟨b, 0, none⟩), .int .u64 stamp] w2 fun e w' => e = .returned (.bool rb) ∧ DAt w' b n d ∧ Upd (From w.heap.size) w w' :=
  (refused_any b n d stamp w2 hb).mono fun e w' ⟨he, h1⟩ => ⟨by rw [he, hr], hb.upd h1 (fun h => h), hU.from h1.toFrom⟩

/-- How a transaction stands that was never failing. -/
def InvF (nest : Int) (d : DS) : Prop := 0 ≤ d.depth ∧ d.depth ≤ nest ∧ d.fa = false ∧ (0 < d.depth → d.st ≠ 0)
theorem invF_begin {nest : Int} {d : DS} (h : InvF nest d) (n stamp : Int) : InvF nest (beginS nest d n stamp) := by
  obtain ⟨depth, sn, st, fl, fa, ca⟩ := d
  obtain ⟨h0, h1, h2, h3⟩ := h
  simp only at h0 h1 h2 h3
  subst h2
  unfold beginS
  split
  · rename_i he
    unfold beginE at he
    simp only at he
    have hs : stamp ≠ 0 := by
      intro e; rw [if_pos e] at he; cases he
    rw [if_neg hs] at he
    have hn : depth ≠ nest := by
      intro e; simp [e] at he
    split
    · rename_i hz
      simp only at hz
      refine ⟨by simp, by simp only; omega, rfl, fun _ => ?_⟩
      simp only
      split
      · exact hs
      · assumption
    · rename_i hz
      simp only at hz
      exact ⟨by simp only; omega, by simp only; omega, rfl, fun _ => h3 (by omega)⟩
  · exact ⟨h0, h1, rfl, h3⟩
theorem invF_asked {nest : Int} {d : DS} (h : InvF nest d) (meets : Bool) (stamp : Int) : InvF nest (askedS d meets stamp) := h

set_option maxRecDepth 100000 in
set_option maxHeartbeats 4000000 in
theorem fails_law (nest : Int) (a : Option Addr) (len cap : Nat) (V : Nat → Nat → Value) (K N S C : Nat → Int) (M : Nat → Bool) (cause stamp : Int) (w : World) (h : IsRowF w a len cap 5 V)
    (hV : ∀ i, i < len → V i 0 = .int .i64 (K i) ∧ V i 1 = .int .i64 (N i) ∧ V i 2 = .int .u64 (S i) ∧ V i 3 = .int .u32 (C i) ∧ V i 4 = .bool (M i)) :
    Calls Try.prog 4 #[.int .i64 nest, .slice a len cap, .int .u32 cause, .int .u64 stamp] w fun e w' => e = .returned (.bool true) ∧ Below w.heap.size w w' := by
  have HC := Lib.hid (show ∀ i, i < len → ∃ x g q, a = some x ∧ x.add (i * 5) = ⟨g, q, none⟩ ∧ g < w.heap.size ∧ w.cell? ⟨g, q, none⟩ = some (.int .i64 (K i)) ∧ w.cell? ⟨g, q + 1, none⟩ = some (.int .i64 (N i)) ∧ w.cell? ⟨g, q + 2, none⟩ = some (.int .u64 (S i)) ∧ w.cell? ⟨g, q + 3, none⟩ = some (.int .u32 (C i)) ∧ w.cell? ⟨g, q + 4, none⟩ = some (.bool (M i)) from fun i hi => by
    obtain ⟨x, g, q, hx, hxa, hg, hc⟩ := h.at (by decide) hi
    obtain ⟨h0, h1, h2, h3, h4⟩ := hV i hi
    exact ⟨x, g, q, hx, hxa, hg, by rw [← h0]; exact hc 0 (by decide), by rw [← h1]; exact hc 1 (by decide), by rw [← h2]; exact hc 2 (by decide), by rw [← h3]; exact hc 3 (by decide), by rw [← h4]; exact hc 4 (by decide)⟩)
  obtain ⟨hlc, hcm, _⟩ := h
  clear hV
  unfold maxLen at hcm
  by_cases h300 : (300 : Int) < (len : Int)
  · go_enter Try.func4, Try.ntmps4
    go_wp2_with fail
    refine (works_any _).mono ?_
    rintro e w1 ⟨rfl, hu⟩
    have HU := Lib.hid hu
    clear hu
    go_wp2
    go_ret
    exact ⟨rfl, HU.out.belowFrom (Nat.le_refl _)⟩
  · have h3b : decide ((300 : Int) < (len : Int)) = false := by simpa using h300
    by_cases hn : nest < 1 ∨ 8 < nest
    · have HN := Lib.hid (new_none nest hn w)
      clear hn
      go_enter Try.func4, Try.ntmps4
      go_wp2_with fail
      refine HN.out.mono ?_
      rintro e w1 ⟨rfl, rfl⟩
      go_wp2_with fail
      refine (works_any _).mono ?_
      rintro e w1 ⟨rfl, hu⟩
      have HU := Lib.hid hu
      clear hu
      go_wp2
      go_ret
      exact ⟨rfl, HU.out.belowFrom (Nat.le_refl _)⟩
    · have hn1 : 1 ≤ nest := by omega
      have hn8 : nest ≤ 8 := by omega
      clear hn
      go_enter Try.func4, Try.ntmps4
      go_wp2_with fail
      refine (new_any nest hn1 hn8 w).mono ?_
      rintro e w1 ⟨rfl, hd1, hu1⟩
      have HD1 := Lib.hid hd1; have HU1 := Lib.hid (hu1.toFrom (B := w.heap.size)); clear hd1 hu1
      obtain ⟨b, hb⟩ : ∃ b, w.heap.size = b := ⟨_, rfl⟩
      have HBL : Hid (w.heap.size ≤ b) := Lib.hid (by omega)
      rw [hb] at HD1 ⊢
      clear hb
      go_wp2_with fail
      go_loopw [28] (fun i wr => ∃ (k : Nat) (d : DS), k ≤ len ∧ i = .int .i64 k ∧ Hid (Upd (From w.heap.size) w wr ∧ DAt wr b nest d ∧ InvF nest d)) (fun i _ => len - (intOf i).toNat)
      case atStart => exact ⟨0, _, Nat.zero_le _, rfl, HU1.out, HD1.out, ⟨by decide, by simp only; omega, rfl, fun h => absurd h (by decide)⟩⟩
      case round =>
        obtain ⟨k, d, hk, rfl, HI⟩ := hrel
        by_cases hlt : k < len
        · obtain ⟨x, g, q, rfl, hxa, hgl, g0, g1, g2, g3, g4⟩ := HC.out k hlt
          replace g0 := HI.out.1.cell g0 (fun h => by have : w.heap.size ≤ g := h; omega)
          replace g1 := HI.out.1.cell g1 (fun h => by have : w.heap.size ≤ g := h; omega)
          replace g2 := HI.out.1.cell g2 (fun h => by have : w.heap.size ≤ g := h; omega)
          replace g3 := HI.out.1.cell g3 (fun h => by have : w.heap.size ≤ g := h; omega)
          replace g4 := HI.out.1.cell g4 (fun h => by have : w.heap.size ≤ g := h; omega)
          have hbw := HI.out.2.1.lt
          generalize K k = kk at *
          generalize N k = nn at *
          generalize S k = ss at *
          generalize C k = cc at *
          generalize M k = mm at *
          obtain ⟨w3, hw3⟩ : ∃ w3, wr.alloc (.cells #[.int .i64 kk, .int .i64 nn, .int .u64 ss, .int .u32 cc, .bool mm] 31) = w3 := ⟨_, rfl⟩
          have HU3 : Hid (Upd (From w.heap.size) w w3) := Lib.hid (by rw [← hw3]; exact HI.out.1.from (Upd.alloc _ _ _))
          have HD3 : Hid (DAt w3 b nest d) := Lib.hid (by rw [← hw3]; exact HI.out.2.1.alloc _)
          have hq3 : Blk w3 wr.heap.size #[.int .i64 kk, .int .i64 nn, .int .u64 ss, .int .u32 cc, .bool mm] 31 := by rw [← hw3]; exact Blk.new _ _ _
          have HW3 := Lib.hid hw3
          clear hw3
          by_cases h0 : kk = 0
          · subst h0
            have hne : wr.heap.size ≠ b := by omega
            have hi := HI.out.2.2
            have hdd : 0 ≤ d.depth ∧ d.depth ≤ 8 := ⟨hi.1, by have := hi.2.1; omega⟩
            have HI3 := Lib.hid hi
            have HQ3 := Lib.hid hq3
            clear hi hq3
            go_wp2_with fail
            rw [HW3.out]
            have p1 : w3.cell? ⟨wr.heap.size, 1, none⟩ = some (.int .i64 nn) := HQ3.out.cell 1
            have p2 : w3.cell? ⟨wr.heap.size, 2, none⟩ = some (.int .u64 ss) := HQ3.out.cell 2
            go_region_held3 (fun W => Upd (From w.heap.size) w W ∧ W.cell? ⟨wr.heap.size, 1, none⟩ = some (.int .i64 nn) ∧ W.cell? ⟨wr.heap.size, 2, none⟩ = some (.int .u64 ss)) (first | assumption | exact ⟨HU3.out.from (Upd.drew _ w3), p1, p2⟩)
              (first
                | (go_at_call 12; have hS : Upd (From w.heap.size) w _ ∧ _ := ‹_›; refine (save_any nn _).mono ?_; rintro e wm ⟨rfl, hu⟩; have hDm := Lib.hid ((HD3.out.upd (Upd.drew NoF w3) (fun h => h)).upd hu (fun h => h)); have hS' : (fun W => Upd (From w.heap.size) w W ∧ W.cell? ⟨wr.heap.size, 1, none⟩ = some (.int .i64 nn) ∧ W.cell? ⟨wr.heap.size, 2, none⟩ = some (.int .u64 ss)) wm := ⟨hS.1.from hu.toFrom, hu.cell hS.2.1 (fun h => h), hu.cell hS.2.2 (fun h => h)⟩; clear hu hS)
                | (go_at_call 11; have hS : Upd (From w.heap.size) w _ ∧ _ := ‹_›; refine (begin_any b nest d nn ss hdd _ hDm.out).mono ?_; rintro e wn ⟨rfl, hd, hu⟩; have hDn := Lib.hid hd; have hS' : (fun W => Upd (From w.heap.size) w W ∧ W.cell? ⟨wr.heap.size, 1, none⟩ = some (.int .i64 nn) ∧ W.cell? ⟨wr.heap.size, 2, none⟩ = some (.int .u64 ss)) wn := ⟨hS.1.from (fromOnly hu HBL.out), hu.cell hS.2.1 hne, hu.cell hS.2.2 hne⟩; clear hu hS hd))
            obtain ⟨hUn, _⟩ : Upd (From w.heap.size) w wn ∧ _ := ‹Upd (From w.heap.size) w wn ∧ _›
            have HUn := Lib.hid hUn
            clear hUn
            go_wp2_with fail
            exact ⟨⟨k + 1, beginS nest d nn ss, by omega, by go_num, HUn.out, hDn.out, invF_begin HI3.out nn ss⟩, by simp [intOf]; omega⟩
          · have h0b : (kk == 0) = false := by simpa using h0
            have HI3 := Lib.hid HI.out.2.2
            have hq' := hq3.cell
            clear hq3 hq'
            go_wp2_with fail
            rw [HW3.out]
            refine (dasked_any b nest d mm ss w3 HD3.out).mono ?_
            rintro e w4 ⟨rfl, hd, hu⟩
            have HD4 := Lib.hid hd; have HU4 := Lib.hid (HU3.out.from (fromOnly hu HBL.out))
            clear hd hu
            go_wp2_with fail
            exact ⟨⟨k + 1, _, by omega, by go_num, HU4.out, HD4.out, invF_asked HI3.out mm ss⟩, by simp [intOf]; omega⟩
        · obtain rfl : len = k := by omega
          have HJ := Lib.hid HI.out.2.2
          have HU := Lib.hid HI.out.1
          have HD := Lib.hid HI.out.2.1
          obtain ⟨i0, i1, i2, i3⟩ := HJ.out
          have hdd : 0 ≤ d.depth ∧ d.depth ≤ 8 := ⟨i0, by omega⟩
          by_cases hz : d.depth = 0
          · have hoe : openE d = 8 := by unfold openE; simp [hz]
            have hfs : failS d cause = d := by unfold failS; rw [hoe]; rfl
            have hab : askedB d true = false := by unfold askedB stampE; simp [hz]
            have HF := Lib.hid (fail_at w wr b nest cause 8 d d hdd hoe hfs HD.out HU.out HBL.out)
            have HAB := Lib.hid hab
            have HZ := Lib.hid hz
            clear hoe hfs hab i0 i1 i2 i3 hdd hz
            go_wp2_with fail
            refine HF.out.mono ?_
            rintro e w4 ⟨rfl, hd4, hu4⟩
            have HD4 := Lib.hid hd4; have HU4 := Lib.hid hu4
            clear hd4 hu4
            go_wp2_with (go_at_call 10; refine (depth_any b nest d _ HD4.out).mono ?_; rintro e w' ⟨rfl, rfl⟩; rw [HZ.out])
            refine (asked_at w w4 b nest stamp true false d _ HAB.out rfl HD4.out HU4.out HBL.out).mono ?_
            rintro e w5 ⟨rfl, hd5, hu5⟩
            have HU5 := Lib.hid hu5
            clear hd5 hu5
            go_wp2_with fail
            refine (works_any w5).mono ?_
            rintro e w6 ⟨rfl, hu6⟩
            have HU6 := Lib.hid (HU5.out.from (hu6.mono (fun i _ h => by have := HU5.out.size; unfold From at *; omega)))
            clear hu6
            go_wp2
            go_ret
            exact ⟨rfl, HU6.out.belowFrom (Nat.le_refl _)⟩
          · have hpos : 0 < d.depth := by omega
            have hst := i3 hpos
            obtain ⟨depth, sn, st, fl, fa, ca⟩ := d
            simp only at i0 i1 i2 i3 hz hpos hst
            subst i2
            have hz' : ¬ depth = 0 := hz
            have hoe : openE ⟨depth, sn, st, fl, false, ca⟩ = 0 := by simp [openE, hz]
            have hfs : failS ⟨depth, sn, st, fl, false, ca⟩ cause = ⟨depth, sn, st, fl, true, cause⟩ := by unfold failS; rw [hoe]; rfl
            have hoe2 : ∀ f2, openE ⟨depth, sn, st, f2, true, cause⟩ = 8 := fun f2 => by simp [openE]
            have hse : ∀ f2, stampE ⟨depth, sn, st, f2, true, cause⟩ = st := fun f2 => by simp [stampE, hz]
            have hbe : beginE nest ⟨depth, sn, st, fl, true, cause⟩ 5 = 8 := by simp [beginE]
            have hbs : beginS nest ⟨depth, sn, st, fl, true, cause⟩ 1 5 = ⟨depth, sn, st, fl, true, cause⟩ := by unfold beginS; rw [hbe]; rfl
            have hes : endS ⟨depth, sn, st, fl, true, cause⟩ = ⟨depth, sn, st, fl, true, cause⟩ := by unfold endS; rw [hoe2]; rfl
            have heb : endB ⟨depth, sn, st, fl, true, cause⟩ = false := by unfold endB; rw [hoe2]; rfl
            have hfs2 : failS ⟨depth, sn, st, fl, true, cause⟩ cause = ⟨depth, sn, st, fl, true, cause⟩ := by unfold failS; rw [hoe2]; rfl
            have hrb : refusedB ⟨depth, sn, st, fl, true, cause⟩ stamp = false := by unfold refusedB; rw [hoe2]; rfl
            have hab : askedB ⟨depth, sn, st, fl, true, cause⟩ true = true := by unfold askedB; rw [hse]; simp [hst]
            obtain ⟨f2, hf2⟩ : ∃ f2, askedS ⟨depth, sn, st, fl, true, cause⟩ true stamp = ⟨depth, sn, st, f2, true, cause⟩ := ⟨_, rfl⟩
            have hdd2 : 0 ≤ (⟨depth, sn, st, fl, true, cause⟩ : DS).depth ∧ (⟨depth, sn, st, fl, true, cause⟩ : DS).depth ≤ 8 := hdd
            have HF := Lib.hid (fail_at w wr b nest cause 0 _ _ hdd hoe hfs HD.out HU.out HBL.out)
            have hst2 : (st != 0) = true := by simpa using hst
            have HX := Lib.hid (And.intro hdd2 (And.intro hoe2 (And.intro hse (And.intro hbe (And.intro hbs (And.intro hes (And.intro heb (And.intro hfs2 (And.intro hrb (And.intro hab hf2))))))))))
            clear hoe hfs hoe2 hse hbe hbs hes heb hfs2 hrb hab hf2 hdd2 hdd hst i3 hz hz' hpos i0 i1
            go_wp2_with fail
            refine HF.out.mono ?_
            rintro e w4 ⟨rfl, hd4, hu4⟩
            have HD4 := Lib.hid hd4; have HU4 := Lib.hid hu4
            clear hd4 hu4
            go_wp2_with (go_at_call 16; refine (stamp_any b nest _ _ HD4.out).mono ?_; rintro e w' ⟨rfl, rfl⟩; rw [HX.out.2.2.1])
            refine (end_at w w4 b nest 8 false _ _ HX.out.1 (HX.out.2.1 fl) HX.out.2.2.2.2.2.2.1 HX.out.2.2.2.2.2.1 HD4.out HU4.out HBL.out).mono ?_
            rintro e w5 ⟨rfl, hd, hu⟩
            have HD5 := Lib.hid hd; have HU5 := Lib.hid hu
            clear hd hu
            go_wp2_with fail
            refine (save_any 1 w5).mono ?_
            rintro e w6 ⟨rfl, hu⟩
            have HU6 := Lib.hid (HU5.out.from hu.toFrom); have HD6 := Lib.hid (HD5.out.upd hu (fun h => h))
            clear hu
            go_wp2_with fail
            refine (works_at w w6 b nest 1 5 8 _ _ HX.out.1 HX.out.2.2.2.1 HX.out.2.2.2.2.1 HD6.out HU6.out HBL.out).mono ?_
            rintro e w7 ⟨rfl, hd, hu⟩
            have HD7 := Lib.hid hd; have HU7 := Lib.hid hu
            clear hd hu
            go_wp2_with fail
            refine (fail_at w w7 b nest cause 8 _ _ HX.out.1 (HX.out.2.1 fl) HX.out.2.2.2.2.2.2.2.1 HD7.out HU7.out HBL.out).mono ?_
            rintro e w8 ⟨rfl, hd, hu⟩
            have HD8 := Lib.hid hd; have HU8 := Lib.hid hu
            clear hd hu
            go_wp2_with fail
            refine (refused_at w w8 b nest stamp false _ HX.out.2.2.2.2.2.2.2.2.1 HD8.out HU8.out).mono ?_
            rintro e w9 ⟨rfl, hd, hu⟩
            have HD9 := Lib.hid hd; have HU9 := Lib.hid hu
            clear hd hu
            go_wp2_with fail
            refine (asked_at w w9 b nest stamp true true _ _ HX.out.2.2.2.2.2.2.2.2.2.1 HX.out.2.2.2.2.2.2.2.2.2.2 HD9.out HU9.out HBL.out).mono ?_
            rintro e w10 ⟨rfl, hd, hu⟩
            have HD10 := Lib.hid hd; have HU10 := Lib.hid hu
            clear hd hu
            go_wp2_with (first | (go_at_call 17; refine (failing_any b nest _ _ HD10.out).mono ?_; rintro e w' ⟨rfl, rfl⟩) | (go_at_call 16; refine (stamp_any b nest _ _ HD10.out).mono ?_; rintro e w' ⟨rfl, rfl⟩; rw [HX.out.2.2.1]))
            refine (works_any w10).mono ?_
            rintro e w11 ⟨rfl, hu⟩
            have HU11 := Lib.hid (HU10.out.from (hu.mono (fun i _ h => by have := HU10.out.size; unfold From at *; omega)))
            clear hu
            go_wp2
            go_ret
            exact ⟨rfl, HU11.out.belowFrom (Nat.le_refl _)⟩
end Go.Proofs.Ytdkdlgcgkkbghaa.DL
