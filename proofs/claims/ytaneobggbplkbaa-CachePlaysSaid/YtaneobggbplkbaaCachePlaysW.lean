/- CachePlays: what the Go function does (printed by tools/mkcplays.py). -/
import Derived.Test.YtaneobggbplkbaaCacheDoes
set_option linter.unusedSimpArgs false
set_option linter.unusedVariables false
namespace Go.Proofs.Ytaneobggbplkbaa.KA
open Go.RowKit
open BU (IsU words)
open PL (Cfg CC CV May)
attribute [local go_sem] Oper.semAt_some
attribute [local go_sem ↓] TLin.ld_eq TLin.st_eq TLin.al_eq TLin.bx_eq eqL_eq neL_eq
attribute [local go_sem] TLin.al_run TLin.bx_run
set_option maxRecDepth 100000 in
set_option maxHeartbeats 4000000 in
theorem plays_any (c : Cfg) (a1 : Option Addr) (len1 cap1 : Nat) (V : Nat → Nat → Value) (K B Ww Ss X : Nat → Int) (w : World) (h1 : IsRowF w a1 len1 cap1 5 V) (hV : ∀ i, i < len1 → V i 0 = .int .i64 (K i) ∧ V i 1 = .int .i64 (B i) ∧ V i 2 = .int .i64 (Ww i) ∧ V i 3 = .int .u8 (Ss i) ∧ V i 4 = .int .u32 (X i))
    (hB : ∀ i, i < len1 → (0 ≤ Ss i ∧ Ss i ≤ 255) ∧ True) :
    Calls Try.prog 7 #[CV c, .slice a1 len1 cap1] w fun e w' => e = .returned (.bool true) ∧ Below w.heap.size w w' := by
  have HC := Lib.hid (script_at h1 hV)
  have HB := Lib.hid hB
  obtain ⟨lc1, m1, _⟩ := h1
  clear hV hB
  unfold maxLen at m1
  obtain ⟨W0, hW0⟩ : ∃ W0, w.alloc (.cells (CC c) 23) = W0 := ⟨_, rfl⟩
  have HS0 : Hid (Sep NoF w W0 [cfgO w.heap.size c]) := Lib.hid (by rw [← hW0]; exact (Sep.zero NoF w).alloc _ _)
  have HW0 := Lib.hid hW0
  clear hW0
  go_enter Try.func7, Try.ntmps7
  go_upto_region 1 with fail
  rw [HW0.out]
  obtain ⟨cb, hcb⟩ : ∃ cb, w.heap.size = cb := ⟨_, rfl⟩
  rw [hcb] at HS0 ⊢
  have HCB := Lib.hid hcb
  clear HW0 hcb
  go_wp2_with fail
  refine (works_any _).mono ?_
  rintro e w1 ⟨rfl, hu⟩
  have HS1 := Lib.hid (HS0.out.upd0 hu)
  clear hu HS0
  by_cases g1 : 300 < len1
  · have hb1 : decide ((300 : Int) < (len1 : Int)) = true := by simp; omega
    go_wp2_with fail
    refine (works_any _).mono ?_
    rintro e w9 ⟨rfl, hu⟩
    have HS9 := Lib.hid (HS1.out.upd0 hu)
    clear hu
    go_wp2
    go_ret
    exact ⟨rfl, HS9.out.below⟩
  · have hb1 : decide ((300 : Int) < (len1 : Int)) = false := by simp; omega
    have e0 : w1.cell? ⟨cb, 0, none⟩ = some (.int .i64 c.cores) := (HS1.out.box 0 rfl).cell 0
    have e1 : w1.cell? ⟨cb, 1, none⟩ = some (.int .i64 c.sets) := (HS1.out.box 0 rfl).cell 1
    have e2 : w1.cell? ⟨cb, 2, none⟩ = some (.int .i64 c.ways) := (HS1.out.box 0 rfl).cell 2
    have e3 : w1.cell? ⟨cb, 3, none⟩ = some (.int .i64 c.blocks) := (HS1.out.box 0 rfl).cell 3
    have e4 : w1.cell? ⟨cb, 4, none⟩ = some (.int .i64 c.logs) := (HS1.out.box 0 rfl).cell 4
    have e5 : w1.cell? ⟨cb, 5, none⟩ = some (.int .i64 c.backs) := (HS1.out.box 0 rfl).cell 5
    have e6 : w1.cell? ⟨cb, 6, none⟩ = some (.int .i64 c.nest) := (HS1.out.box 0 rfl).cell 6
    have e7 : w1.cell? ⟨cb, 7, none⟩ = some (.int .i64 c.tries) := (HS1.out.box 0 rfl).cell 7
    by_cases hm : May c
    · have HM := Lib.hid hm
      clear hm
      go_wp2_with fail
      refine (new_yes HS1.out c HM.out).mono ?_
      rintro e w2 ⟨p0, rfl, hk2, -⟩
      have HK2 := Lib.hid hk2
      clear hk2 e0 e1 e2 e3 e4 e5 e6 e7 HS1
      have e0 : w2.cell? ⟨cb, 0, none⟩ = some (.int .i64 c.cores) := (HK2.out.sep.box 3 rfl).cell 0
      have e1 : w2.cell? ⟨cb, 1, none⟩ = some (.int .i64 c.sets) := (HK2.out.sep.box 3 rfl).cell 1
      have e2 : w2.cell? ⟨cb, 2, none⟩ = some (.int .i64 c.ways) := (HK2.out.sep.box 3 rfl).cell 2
      have e3 : w2.cell? ⟨cb, 3, none⟩ = some (.int .i64 c.blocks) := (HK2.out.sep.box 3 rfl).cell 3
      have e4 : w2.cell? ⟨cb, 4, none⟩ = some (.int .i64 c.logs) := (HK2.out.sep.box 3 rfl).cell 4
      have e5 : w2.cell? ⟨cb, 5, none⟩ = some (.int .i64 c.backs) := (HK2.out.sep.box 3 rfl).cell 5
      have e6 : w2.cell? ⟨cb, 6, none⟩ = some (.int .i64 c.nest) := (HK2.out.sep.box 3 rfl).cell 6
      have e7 : w2.cell? ⟨cb, 7, none⟩ = some (.int .i64 c.tries) := (HK2.out.sep.box 3 rfl).cell 7
      go_wp2_with fail
      refine (rnew_yes HK2.out.sep c HM.out).mono ?_
      rintro e w3 ⟨r, rfl, hk3, -⟩
      have HRF := Lib.hid hk3.fits
      have hlk : Like p0 r := by
        have a1 := hk3.fits.es; have a2 := hk3.fits.ew; have b1 := HK2.out.fits.es; have b2 := HK2.out.fits.ew
        exact ⟨by omega, by omega⟩
      have HK3 := Lib.hid (And.intro (hk3.rot HK2.out.fits HK2.out.ok) hlk)
      clear hk3 hlk e0 e1 e2 e3 e4 e5 e6 e7 HK2
      go_wp2_with fail
      go_loopw [5, 41] (fun kv i wr => ∃ (k : Nat) (p : Kp) (A : Nat → Ln) (M : Nat → Int), k ≤ len1 ∧ i = .int .i64 k ∧ kv = ptr p.kb ∧ Hid (Good p A ∧ Uniq p A ∧ Like p r ∧ CIs KT w wr p c A M (r.ob RT c A M [cfgO cb c]))) (fun _ i _ => len1 - (intOf i).toNat)
      case atStart => exact ⟨0, p0, _, _, Nat.zero_le _, rfl, rfl, Lib.hid ⟨Good.nil, Uniq.nil, HK3.out.2, HK3.out.1⟩⟩
      case round =>
        clear HK3
        obtain ⟨k, p, A, M, hk, rfl, rfl, HI0⟩ := hrel
        have HG := Lib.hid HI0.out.1
        have HQ := Lib.hid HI0.out.2.1
        have HLK := Lib.hid HI0.out.2.2.1
        have HI := Lib.hid HI0.out.2.2.2
        clear HI0
        by_cases hlt : k < len1
        · obtain ⟨x, g, q, rfl, hxa, hgl, z0, z1, z2, z3, z4⟩ := HC.out k hlt
          have y0 := HI.out.sep.old z0
          have y1 := HI.out.sep.old z1
          have y2 := HI.out.sep.old z2
          have y3 := HI.out.sep.old z3
          have y4 := HI.out.sep.old z4
          have hsd := (HB.out k hlt).1
          clear z0 z1 z2 z3 z4
          generalize K k = kk at *
          generalize B k = bb at *
          generalize Ww k = ww at *
          generalize Ss k = ss at *
          generalize X k = xx at *
          have HI5 := Lib.hid (HI.out.box6 (opC kk bb ww ss xx) OT)
          obtain ⟨w5, hw5⟩ : ∃ X, wr.alloc (.cells (opC kk bb ww ss xx) OT) = X := ⟨_, rfl⟩
          rw [hw5] at HI5
          have p0 : w5.cell? ⟨wr.heap.size, 0, none⟩ = some (.int .i64 kk) := (HI5.out.sep.box 6 rfl).cell 0
          have p1 : w5.cell? ⟨wr.heap.size, 1, none⟩ = some (.int .i64 bb) := (HI5.out.sep.box 6 rfl).cell 1
          have p2 : w5.cell? ⟨wr.heap.size, 2, none⟩ = some (.int .i64 ww) := (HI5.out.sep.box 6 rfl).cell 2
          have p3 : w5.cell? ⟨wr.heap.size, 3, none⟩ = some (.int .u8 ss) := (HI5.out.sep.box 6 rfl).cell 3
          have p4 : w5.cell? ⟨wr.heap.size, 4, none⟩ = some (.int .u32 xx) := (HI5.out.sep.box 6 rfl).cell 4
          have HW5 := Lib.hid hw5
          clear hw5 HI
          go_upto_region 14 with fail
          rw [HW5.out]
          clear y0 y1 y2 y3 y4 HW5
          go_wp2_with fail
          refine (does_any HI5.out HLK.out HRF.out HG.out HQ.out kk bb ww ss xx hsd).mono ?_
          rintro e w6 ⟨p', A', M', rfl, hc, hlk, hg, hq⟩
          have HI6 := Lib.hid hc
          have HLK' := Lib.hid hlk
          have HGQ := Lib.hid (And.intro hg hq)
          clear hc hlk hg hq p0 p1 p2 p3 p4 HI5
          go_wp2_with fail
          refine (len_is HI6.out).mono ?_
          rintro e w7 ⟨rfl, hu⟩
          have HI7 := Lib.hid (HI6.out.upd0 hu)
          clear hu
          go_wp2_with fail
          refine (rall_is (HI7.out.rot HRF.out HI7.out.ok)).mono ?_
          rintro e w8 ⟨a8, c8, rfl, -, -, hu⟩
          have HI8 := Lib.hid (HI7.out.upd0 hu).drop6
          rw [HLK'.out.1, HLK'.out.2]
          clear hu
          generalize (lns (p'.s * p'.y) A').length = m at *
          go_wp2_with fail
          exact ⟨⟨k + 1, p', A', M', by omega, by go_num, rfl, Lib.hid ⟨HGQ.out.1, HGQ.out.2, HLK'.out, HI8.out⟩⟩, by simp [intOf]; omega⟩
        · obtain rfl : k = len1 := by omega
          go_wp2_with fail
          refine (all_any p.kb wr).mono ?_
          rintro e w2' ⟨rfl, hw2⟩
          have hu2 := Upd.alloc NoF wr (.cells #[ptr p.kb] 26)
          have q2 := Blk.new wr #[ptr p.kb] 26
          rw [hw2] at hu2 q2
          have HI2 := Lib.hid (HI.out.upd0 hu2)
          have HB2 := Lib.hid (q2.cell 0)
          clear hw2 hu2 q2 HI
          go_wp2_with fail
          refine (collect_any HI2.out wr.heap.size HB2.out).mono ?_
          rintro e w3' ⟨v, rfl, hrow, -, hu⟩
          obtain ⟨a, cap, rfl, -⟩ := hrow.slice
          have HI3 := Lib.hid (HI2.out.upd0 hu)
          have HR3 := Lib.hid hrow
          clear hrow hu HI2 HB2
          go_wp2_with fail
          refine (rall_is (HI3.out.rot HRF.out HI3.out.ok)).mono ?_
          rintro e w4' ⟨a2, cap2, rfl, hrow2, -, hu⟩
          rw [HLK.out.1, HLK.out.2] at hrow2 ⊢
          have HI4 := Lib.hid (HI3.out.upd0 hu)
          have HR4 := Lib.hid (And.intro (HR3.out.upd hu (fun _ _ h => h)) hrow2)
          have HOK := Lib.hid (fun x (hx : x ∈ lns (p.s * p.y) A) => lns_ok HI3.out.ok.okA hx)
          clear hrow2 hu HI3 HR3
          generalize lns (p.s * p.y) A = ns at *
          go_wp2_with fail
          refine (equal_same w4' _ _ ns HOK.out HR4.out.1 HR4.out.2).mono ?_
          rintro e w5' ⟨rfl, hu⟩
          have HI5 := Lib.hid (HI4.out.upd0 hu)
          clear hu HR4 HI4
          go_wp2_with fail
          refine (works_any _).mono ?_
          rintro e w9 ⟨rfl, hu⟩
          have HS9 := Lib.hid (HI5.out.sep.upd0 hu)
          clear hu
          go_wp2
          go_ret
          exact ⟨rfl, HS9.out.below⟩
    · have HN := Lib.hid hm
      clear hm
      go_wp2_with fail
      refine (new_no c HN.out _).mono ?_
      rintro e w2 ⟨rfl, hu⟩
      have HS2 := Lib.hid (HS1.out.upd0 hu)
      clear hu e0 e1 e2 e3 e4 e5 e6 e7
      have e0 : w2.cell? ⟨cb, 0, none⟩ = some (.int .i64 c.cores) := (HS2.out.box 0 rfl).cell 0
      have e1 : w2.cell? ⟨cb, 1, none⟩ = some (.int .i64 c.sets) := (HS2.out.box 0 rfl).cell 1
      have e2 : w2.cell? ⟨cb, 2, none⟩ = some (.int .i64 c.ways) := (HS2.out.box 0 rfl).cell 2
      have e3 : w2.cell? ⟨cb, 3, none⟩ = some (.int .i64 c.blocks) := (HS2.out.box 0 rfl).cell 3
      have e4 : w2.cell? ⟨cb, 4, none⟩ = some (.int .i64 c.logs) := (HS2.out.box 0 rfl).cell 4
      have e5 : w2.cell? ⟨cb, 5, none⟩ = some (.int .i64 c.backs) := (HS2.out.box 0 rfl).cell 5
      have e6 : w2.cell? ⟨cb, 6, none⟩ = some (.int .i64 c.nest) := (HS2.out.box 0 rfl).cell 6
      have e7 : w2.cell? ⟨cb, 7, none⟩ = some (.int .i64 c.tries) := (HS2.out.box 0 rfl).cell 7
      go_wp2_with fail
      refine (rnew_no c HN.out _).mono ?_
      rintro e w3 ⟨rfl, hu⟩
      have HS3 := Lib.hid (HS2.out.upd0 hu)
      clear hu e0 e1 e2 e3 e4 e5 e6 e7
      go_wp2_with fail
      refine (works_any _).mono ?_
      rintro e w9 ⟨rfl, hu⟩
      have HS9 := Lib.hid (HS3.out.upd0 hu)
      clear hu
      go_wp2
      go_ret
      exact ⟨rfl, HS9.out.below⟩
end Go.Proofs.Ytaneobggbplkbaa.KA
