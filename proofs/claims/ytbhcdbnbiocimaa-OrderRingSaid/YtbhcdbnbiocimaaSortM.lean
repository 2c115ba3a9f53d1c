/- Sorting numbers of 64 bits without sign: which one is put in the middle. -/
import Derived.Test.YtbhcdbnbiocimaaSortV
set_option linter.unusedSimpArgs false
set_option linter.unusedVariables false
namespace Go.Proofs.Ytbhcdbnbiocimaa.SU
open Go.RowKit
open Go.Sort (ltInt)
/-- The place where exchanges are counted. -/
structure Cnt (w0 W : World) (g sb : Nat) (s : Nat) : Prop where
  ne : g ≠ sb
  new : w0.heap.size ≤ sb
  cell : W.cell? ⟨sb, 0, none⟩ = some (.int .i64 s)
  free : W.frozen? ⟨sb, 0, none⟩ = false
theorem Cnt.drewN {w0 W : World} {g sb s : Nat} (h : Cnt w0 W g sb s) (n : Nat) : Cnt w0 (W.drewN n) g sb s := ⟨h.ne, h.new, h.cell, h.free⟩
theorem Cnt.put {w0 W : World} {g sb s : Nat} (h : Cnt w0 W g sb s) (s' : Nat) : Cnt w0 (W.setCell ⟨sb, 0, none⟩ (.int .i64 s')) g sb s' :=
  ⟨h.ne, h.new, World.cell?_setCell_same W _ _ (u := .int .i64 s) h.cell, by rw [World.frozen?_setCell]; exact h.free⟩
theorem SA.put {w0 W : World} {g off sb s : Nat} {d : Array Int} (h : SA w0 W g off d) (hc : Cnt w0 W g sb s) (v : Value) : SA w0 (W.setCell ⟨sb, 0, none⟩ v) g off d :=
  h.other (Upd.setCell (F := OnlyAt sb) W (p := ⟨sb, 0, none⟩) rfl v) hc.ne (fun i hi h => by have := hc.new; unfold OnlyAt at h; omega)
section
variable {w0 W : World} {g off : Nat} {d : Array Int}
set_option maxRecDepth 100000 in
set_option maxHeartbeats 4000000 in
theorem order2_any (cap a b sb s : Nat) (h : SA w0 W g off d) (hC : Cnt w0 W g sb s) (ha : a < d.size) (hb : b < d.size) (hs : s ≤ 1000) (hsz : d.size ≤ 65536) :
    Calls Try.prog 30 #[rowV g off d.size cap, .int .i64 a, .int .i64 b, .pointer (some ⟨sb, 0, none⟩)] W fun e w' => ∃ x y s' : Nat, e = .returned (.tuple #[.int .i64 x, .int .i64 y]) ∧ (x = a ∧ y = b ∨ x = b ∧ y = a) ∧ s' ≤ s + 1 ∧ SA w0 w' g off d ∧ Cnt w0 w' g sb s' := by
  have H0 := Lib.hid h
  have HC := Lib.hid hC
  obtain ⟨G, hG⟩ : ∃ G : Nat → Int, ∀ t, G t = d[t]! := ⟨fun t => d[t]!, fun _ => rfl⟩
  have cw : ∀ t, t < d.size → W.cell? ⟨g, off + t, none⟩ = some (.int .u64 (G t)) := fun t ht => by rw [hG]; exact h.cell t ht
  have fw : ∀ t, t < d.size → W.frozen? ⟨g, off + t, none⟩ = false := fun t ht => h.free t ht
  have cc := hC.cell
  have cf := hC.free
  clear hG h hC
  go_enter Try.func30, Try.ntmps30
  go_wp2
  cases hl : ltInt (G b) (G a)
  · have HL := Lib.hid hl
    go_quiet (first | (go_at_call 19; refine Calls.quiet_of_same (less_quiet _ _ _)))
    simp only [HL.out]
    go_wp2
    go_ret2
    exact ⟨a, b, s, rfl, .inl ⟨rfl, rfl⟩, by omega, H0.out.drewN _, HC.out.drewN _⟩
  · have HL := Lib.hid hl
    go_quiet (first | (go_at_call 19; refine Calls.quiet_of_same (less_quiet _ _ _)))
    simp only [HL.out]
    have cc2 : (W.drewN nq).cell? ⟨sb, 0, none⟩ = some (.int .i64 s) := cc
    have cf2 : (W.drewN nq).frozen? ⟨sb, 0, none⟩ = false := cf
    have HC2 := Lib.hid ((HC.out.drewN nq).put (s + 1))
    have HS2 := Lib.hid ((H0.out.drewN nq).put (HC.out.drewN nq) (.int .i64 ((s + 1 : Nat) : Int)))
    go_wp2
    go_ret2
    exact ⟨b, a, s + 1, rfl, .inr ⟨rfl, rfl⟩, by omega, HS2.out, HC2.out⟩
set_option maxRecDepth 100000 in
set_option maxHeartbeats 4000000 in
theorem median_any (cap a b c sb s : Nat) (h : SA w0 W g off d) (hC : Cnt w0 W g sb s) (ha : a < d.size) (hb : b < d.size) (hc : c < d.size) (hs : s ≤ 500) (hsz : d.size ≤ 65536) :
    Calls Try.prog 28 #[rowV g off d.size cap, .int .i64 a, .int .i64 b, .int .i64 c, .pointer (some ⟨sb, 0, none⟩)] W fun e w' => ∃ x s' : Nat, e = .returned (.int .i64 x) ∧ (x = a ∨ x = b ∨ x = c) ∧ s' ≤ s + 3 ∧ SA w0 w' g off d ∧ Cnt w0 w' g sb s' := by
  have H1 := Lib.hid (order2_any cap a b sb s h hC ha hb (by omega) hsz)
  have hsz2 := Lib.hid hsz
  clear h hC
  go_enter Try.func28, Try.ntmps28
  go_upto_region 2 with (go_at_call 30; refine H1.out.mono ?_; rintro e w1 ⟨x1, y1, s1, rfl, hxy1, hs1, hS1, hC1⟩; have HS1 := Lib.hid hS1; have HC1 := Lib.hid hC1; have HX1 := Lib.hid hxy1; clear hS1 hC1 hxy1)
  have hx1 : x1 < d.size := by have := HX1.out; omega
  have hy1 : y1 < d.size := by have := HX1.out; omega
  have H2 := Lib.hid (order2_any cap y1 c sb s1 HS1.out HC1.out hy1 hc (by omega) hsz2.out)
  go_upto_region 3 with (go_at_call 30; refine H2.out.mono ?_; rintro e w2 ⟨x2, y2, s2, rfl, hxy2, hs2, hS2, hC2⟩; have HS2 := Lib.hid hS2; have HC2 := Lib.hid hC2; have HX2 := Lib.hid hxy2; clear hS2 hC2 hxy2)
  have hx2 : x2 < d.size := by have := HX2.out; omega
  have H3 := Lib.hid (order2_any cap x1 x2 sb s2 HS2.out HC2.out hx1 hx2 (by omega) hsz2.out)
  go_upto_region 4 with (go_at_call 30; refine H3.out.mono ?_; rintro e w3 ⟨x3, y3, s3, rfl, hxy3, hs3, hS3, hC3⟩; have HS3 := Lib.hid hS3; have HC3 := Lib.hid hC3; have HX3 := Lib.hid hxy3; clear hS3 hC3 hxy3)
  go_wp2
  go_ret
  exact ⟨y3, s3, rfl, by have := HX1.out; have := HX2.out; have := HX3.out; omega, by omega, HS3.out, HC3.out⟩
set_option maxRecDepth 100000 in
set_option maxHeartbeats 4000000 in
theorem adjacent_any (cap a sb s : Nat) (h : SA w0 W g off d) (hC : Cnt w0 W g sb s) (ha0 : 1 ≤ a) (ha : a + 1 < d.size) (hs : s ≤ 500) (hsz : d.size ≤ 65536) :
    Calls Try.prog 27 #[rowV g off d.size cap, .int .i64 a, .pointer (some ⟨sb, 0, none⟩)] W fun e w' => ∃ x s' : Nat, e = .returned (.int .i64 x) ∧ a ≤ x + 1 ∧ x ≤ a + 1 ∧ s' ≤ s + 3 ∧ SA w0 w' g off d ∧ Cnt w0 w' g sb s' := by
  have H1 := Lib.hid (median_any cap (a - 1) a (a + 1) sb s h hC (by omega) (by omega) ha hs hsz)
  clear h hC
  rw [show ((a - 1 : Nat) : Int) = (a : Int) - 1 by omega, show ((a + 1 : Nat) : Int) = (a : Int) + 1 by omega] at H1
  go_enter Try.func27, Try.ntmps27
  go_wp2_with (go_at_call 28; refine H1.out.mono ?_; rintro e w1 ⟨x1, s1, rfl, hx, hs1, hS1, hC1⟩)
  go_ret
  exact ⟨x1, s1, rfl, by omega, by omega, hs1, hS1, hC1⟩
set_option maxRecDepth 100000 in
set_option maxHeartbeats 4000000 in
theorem pivot_any (cap a b : Nat) (h : SA w0 W g off d) (hab : a + 12 < b) (hb : b ≤ d.size) (hsz : d.size ≤ 65536) :
    Calls Try.prog 16 #[rowV g off d.size cap, .int .i64 a, .int .i64 b] W fun e w' => ∃ (p : Nat) (hn : Nat), e = .returned (.tuple #[.int .i64 p, .int .i64 hn]) ∧ a ≤ p ∧ p < b ∧ SA w0 w' g off d := by
  have H0 := Lib.hid h
  have hlt : g < W.heap.size := World.block_lt_of_cell? W ⟨g, off + 0, none⟩ (h.cell 0 (by omega))
  have hle : w0.heap.size ≤ W.heap.size := h.upd.size
  have hsz2 := Lib.hid hsz
  clear h
  obtain ⟨L, hL0⟩ : ∃ L, L = b - a := ⟨_, rfl⟩
  have hL1 : a + L ≤ b := by omega
  have hL2 : b ≤ a + L := by omega
  have hLI := Lib.hid (show (b : Int) - (a : Int) = (L : Int) by omega)
  clear hL0
  obtain ⟨q, hq⟩ : ∃ q, q = L / 4 := ⟨_, rfl⟩
  have hqI := Lib.hid (show (L : Int) / 4 = (q : Int) by omega)
  have hq1 : 4 * q ≤ L := by omega
  have hq2 : L ≤ 4 * q + 3 := by omega
  clear hq
  have h8 : (8 : Int) ≤ (L : Int) := by omega
  go_enter Try.func16, Try.ntmps16
  go_upto_region 2 with fail
  simp only [hLI.out]
  go_upto_region 3 with fail
  have S1 : Hid (SA w0 (W.alloc (Obj.cells #[Value.int IntKind.i64 0] 3)) g off d) := Lib.hid (H0.out.other (Upd.alloc NoF W _) (fun h => h) (fun _ _ h => h))
  have C1 : Hid (Cnt w0 (W.alloc (Obj.cells #[Value.int IntKind.i64 0] 3)) g W.heap.size 0) := Lib.hid ⟨by omega, hle, (Blk.new W _ _).cell 0, (Blk.new W _ _).frozen 0⟩
  obtain ⟨sb, hsb⟩ : ∃ x, x = W.heap.size := ⟨_, rfl⟩
  rw [← hsb] at C1 ⊢
  generalize hwk : World.alloc _ _ = wk at *
  clear hwk hsb H0 hlt hle
  go_upto_region 7 with fail
  obtain ⟨i0, hi0⟩ : ∃ i0 : Nat, (a : Int) + (L : Int) / 4 = (i0 : Int) := ⟨a + L / 4, by omega⟩
  obtain ⟨j0, hj0⟩ : ∃ j0 : Nat, (a : Int) + (L : Int) / 4 * 2 = (j0 : Int) := ⟨a + L / 4 * 2, by omega⟩
  obtain ⟨k0, hk0⟩ : ∃ k0 : Nat, (a : Int) + (L : Int) / 4 * 3 = (k0 : Int) := ⟨a + L / 4 * 3, by omega⟩
  have HI := Lib.hid hi0
  have HJ := Lib.hid hj0
  have HKK := Lib.hid hk0
  have bi : a + 3 ≤ i0 ∧ i0 + 9 ≤ b := by omega
  have bj : a + 6 ≤ j0 ∧ j0 + 6 ≤ b := by omega
  have bk : a + 9 ≤ k0 ∧ k0 + 3 ≤ b := by omega
  obtain ⟨bi1, bi2⟩ := bi
  obtain ⟨bj1, bj2⟩ := bj
  obtain ⟨bk1, bk2⟩ := bk
  clear hi0 hj0 hk0
  simp only [HI.out, HJ.out, HKK.out]
  clear HI HJ HKK
  by_cases h50 : 50 ≤ L
  · have h50I : (50 : Int) ≤ (L : Int) := by omega
    have H2 := Lib.hid (adjacent_any cap i0 sb 0 S1.out C1.out (by omega) (by omega) (by omega) hsz2.out)
    go_upto_region 9 with (go_at_call 27; refine H2.out.mono ?_; rintro e w2 ⟨x1, s2, rfl, ha2, hb2, hs2, hS, hC⟩; have HS2 := Lib.hid hS; have HC2 := Lib.hid hC; clear hS hC)
    clear H2 S1 C1
    have H3 := Lib.hid (adjacent_any cap j0 sb s2 HS2.out HC2.out (by omega) (by omega) (by omega) hsz2.out)
    go_upto_region 10 with (go_at_call 27; refine H3.out.mono ?_; rintro e w3 ⟨x2, s3, rfl, ha3, hb3, hs3, hS, hC⟩; have HS3 := Lib.hid hS; have HC3 := Lib.hid hC; clear hS hC)
    clear H3 HS2 HC2
    have H4 := Lib.hid (adjacent_any cap k0 sb s3 HS3.out HC3.out (by omega) (by omega) (by omega) hsz2.out)
    go_upto_region 11 with (go_at_call 27; refine H4.out.mono ?_; rintro e w4 ⟨x3, s4, rfl, ha4, hb4, hs4, hS, hC⟩; have HS4 := Lib.hid hS; have HC4 := Lib.hid hC; clear hS hC)
    clear H4 HS3 HC3
    have HM := Lib.hid (median_any cap x1 x2 x3 sb s4 HS4.out HC4.out (by omega) (by omega) (by omega) (by omega) hsz2.out)
    go_upto_region 12 with (go_at_call 28; refine HM.out.mono ?_; rintro e wv ⟨v, sv, rfl, hv, hsv, hS, hC⟩; have HSv := Lib.hid hS; have cc := hC.cell; clear hS hC)
    have hv1 : a ≤ v := by omega
    have hv2 : v < b := by omega
    clear HM hv
    by_cases h0 : sv = 0
    · subst h0
      go_wp2
      go_ret2
      exact ⟨v, 1, rfl, by omega, by omega, HSv.out⟩
    · have h0I : ¬ (sv : Int) = 0 := by omega
      by_cases h12 : sv = 12
      · subst h12
        go_wp2
        go_ret2
        exact ⟨v, 2, rfl, by omega, by omega, HSv.out⟩
      · have h12I : ¬ (sv : Int) = 12 := by omega
        go_wp2
        go_ret2
        exact ⟨v, 0, rfl, by omega, by omega, HSv.out⟩
  · have h50I : ¬ (50 : Int) ≤ (L : Int) := by omega
    have h50D : decide ((50 : Int) ≤ (L : Int)) = false := decide_eq_false h50I
    have HM := Lib.hid (median_any cap i0 j0 k0 sb 0 S1.out C1.out (by omega) (by omega) (by omega) (by omega) hsz2.out)
    go_upto_region 12 with (go_at_call 28; refine HM.out.mono ?_; rintro e wv ⟨v, sv, rfl, hv, hsv, hS, hC⟩; have HSv := Lib.hid hS; have cc := hC.cell; clear hS hC)
    have hv1 : a ≤ v := by omega
    have hv2 : v < b := by omega
    clear HM hv
    by_cases h0 : sv = 0
    · subst h0
      go_wp2
      go_ret2
      exact ⟨v, 1, rfl, by omega, by omega, HSv.out⟩
    · have h0I : ¬ (sv : Int) = 0 := by omega
      by_cases h12 : sv = 12
      · subst h12
        go_wp2
        go_ret2
        exact ⟨v, 2, rfl, by omega, by omega, HSv.out⟩
      · have h12I : ¬ (sv : Int) = 12 := by omega
        go_wp2
        go_ret2
        exact ⟨v, 0, rfl, by omega, by omega, HSv.out⟩
end
end Go.Proofs.Ytbhcdbnbiocimaa.SU
