/- Package note. -/
import Derived.Test.YtjgeflbhmhmjdaaGreatDealOps
import Derived.Deep.RegionWith
import Derived.Deep.CutBlock
set_option linter.unusedSimpArgs false
set_option linter.unusedVariables false
namespace Go.Proofs.YtjgeflbhmhmjdaaGreat.NC
open Go.RowKit
open BU (IsU words)
attribute [local go_sem] Oper.semAt_some
attribute [local go_sem high] guardNote guardBlk
attribute [local go_sem ↓] eqN_eq neN_eq eqB_eq neB_eq TI12.st_eq TI12.al_eq TNot.ld_eq TNot.st_eq TNot.al_eq TNot.bx_eq TBlk.ld_eq TBlk.st_eq TBlk.al_eq
attribute [local go_sem] TI12.al_run TNot.al_run TNot.bx_run TBlk.al_run

def usesN (k : Int) : Int := if k = 1 ∨ k = 2 ∨ k = 10 then 3 else if k = 3 then 41 else if k = 4 ∨ k = 5 ∨ k = 7 then 2 else if k = 6 then 12 else if k = 9 then 17 else if k = 11 then 1 else 0
theorem kind_any (k : Int) (w : World) : Calls Tryz.prog 151 #[.int .u8 k] w fun e w' => e = .returned (.bool (kindB k)) ∧ w = w' := by
  unfold kindB
  cases h1 : decide (1 ≤ k)
  · go_enter Tryz.func151, Tryz.ntmps151
    go_wp2
    go_ret
    exact ⟨rfl, rfl⟩
  · go_enter Tryz.func151, Tryz.ntmps151
    go_wp2
    go_ret
    exact ⟨rfl, rfl⟩
theorem core_any (x : Int) (w : World) : Calls Tryz.prog 153 #[.int .i64 x] w fun e w' => e = .returned (.bool (coreB x)) ∧ w = w' := by
  unfold coreB
  cases h1 : decide (0 ≤ x)
  · go_enter Tryz.func153, Tryz.ntmps153
    go_wp2
    go_ret
    exact ⟨rfl, rfl⟩
  · go_enter Tryz.func153, Tryz.ntmps153
    go_wp2
    go_ret
    exact ⟨rfl, rfl⟩
abbrev UA : Array Value := #[.int .i64 0, .int .i64 3, .int .i64 3, .int .i64 41, .int .i64 2, .int .i64 2, .int .i64 12, .int .i64 2, .int .i64 0, .int .i64 17, .int .i64 3, .int .i64 1]
theorem isUA : IsN 12 UA := ⟨by kernel_rfl, Array.all_eq_true_iff_forall_mem.1 (by kernel_rfl)⟩
set_option maxRecDepth 100000 in
theorem uses_any (k : Int) (h1 : 1 ≤ k) (h2 : k ≤ 11) (w : World) : Calls Tryz.prog 152 #[.int .u8 k] w fun e w' => e = .returned (.int .i64 (usesN k)) ∧ Upd NoF w w' := by
  have hU : (TI12.st (.pointer (some ⟨w.heap.size, 0, none⟩)) (.agg UA)).run Tryz.prog (w.alloc (.cells TI12.Z 201)) = .ok () (w.alloc (.cells UA 201)) := TI12.st_new isUA w
  have hc : UA[k.toNat]? = some (.int .i64 (usesN k)) := by
    have : k = 1 ∨ k = 2 ∨ k = 3 ∨ k = 4 ∨ k = 5 ∨ k = 6 ∨ k = 7 ∨ k = 8 ∨ k = 9 ∨ k = 10 ∨ k = 11 := by omega
    rcases this with rfl | rfl | rfl | rfl | rfl | rfl | rfl | rfl | rfl | rfl | rfl <;> rfl
  have hl : (w.alloc (.cells UA 201)).cell? ⟨w.heap.size, k.toNat, none⟩ = some (.int .i64 (usesN k)) := ((Blk.new w UA 201).cell _).trans hc
  obtain ⟨m, rfl⟩ : ∃ m : Nat, k = m := ⟨k.toNat, by omega⟩
  simp only [Int.toNat_natCast] at hl
  generalize usesN (m : Int) = um at *
  have g1 : decide ((m : Int) < 12) = true := by simp; omega
  have HU := Lib.hid (Upd.alloc NoF w (.cells UA 201))
  obtain ⟨W, hW⟩ : ∃ W, w.alloc (.cells UA 201) = W := ⟨_, rfl⟩
  rw [hW] at hU hl HU
  have m12 : (m : Int) < 12 := by omega
  clear hc hW
  go_enter Tryz.func152, Tryz.ntmps152
  go_wp2
  go_ret
  exact ⟨rfl, HU.out⟩
def wantN (u : Int) (n : Nt) : Nt := { n with
  stamp := if u = 3 ∨ u = 2 then n.stamp else 0
  state := if u = 12 then n.state else 0
  stick := if u = 41 then n.stick else false
  has := if u = 41 ∨ u = 12 then true else if u = 17 then n.has else false
  D := if n.has then n.D else TBlk.Z }
theorem set_D {m : Nt} (h : m.D.size = 16) : setMany m.cells 8 TBlk.Z.toList = ({ m with D := TBlk.Z } : Nt).cells := by
  obtain ⟨kind, frm, too, blk, stamp, state, has, stick, D⟩ := m
  obtain ⟨d0, d1, d2, d3, d4, d5, d6, d7, d8, d9, d10, d11, d12, d13, d14, d15, rfl⟩ := BU.split16 h
  kernel_rfl
def finN (u : Int) (n : Nt) : Bool :=
  (u != 12 || (decide (1 ≤ n.state) && decide (n.state ≤ 3))) && (coreB (if u = 3 ∨ u = 41 ∨ u = 17 ∨ u = 1 then n.frm else n.too) && ((if u = 3 ∨ u = 41 ∨ u = 17 ∨ u = 1 then n.too else n.frm) == -1 && n.same (wantN u n)))
theorem finN_may {n : Nt} (hk : kindB n.kind = true) (hb : 0 ≤ n.blk ∧ n.blk ≤ 255) (hn : n.Ok) : finN (usesN n.kind) n = MayN n := by
  have hz : (n.has || words n.D == words TBlk.Z) = (words n.D == words (if n.has then n.D else TBlk.Z)) := by
    cases n.has
    · simp
    · simp
  have hk' : 1 ≤ n.kind ∧ n.kind ≤ 11 := by simpa [kindB] using hk
  have : n.kind = 1 ∨ n.kind = 2 ∨ n.kind = 3 ∨ n.kind = 4 ∨ n.kind = 5 ∨ n.kind = 6 ∨ n.kind = 7 ∨ n.kind = 8 ∨ n.kind = 9 ∨ n.kind = 10 ∨ n.kind = 11 := by omega
  unfold finN MayN Nt.same wantN
  rw [hz, hk]
  generalize (words n.D == words (if n.has then n.D else TBlk.Z)) = wd
  rcases this with h | h | h | h | h | h | h | h | h | h | h
  all_goals
    rw [h]
    simp [usesN, toHome, stamped, hb.1, hb.2]
    cases n.has <;> cases n.stick <;> cases wd <;> simp [Bool.and_comm, Bool.and_left_comm, Bool.and_assoc]

set_option maxRecDepth 100000 in
set_option maxHeartbeats 1000000 in
theorem may_3 (n : Nt) (hn : IsU n.D) (hk : 1 ≤ n.kind ∧ n.kind ≤ 11) (hb : 0 ≤ n.blk ∧ n.blk ≤ 255) (hu : usesN n.kind = 3) (w : World) : Calls Tryz.prog 130 #[.agg n.cells] w fun e w' => e = .returned (.bool (finN 3 n)) ∧ Upd NoF w w' := by
  have q1 : (bits .and .i64 3 1 != 0) = true := by kernel_rfl
  have q2 : (bits .and .i64 3 2 == 0) = false := by kernel_rfl
  have q4 : (bits .and .i64 3 4 == 0) = true := by kernel_rfl
  have q32 : (bits .and .i64 3 32 == 0) = true := by kernel_rfl
  have q8 : (bits .and .i64 3 8 != 0) = false := by kernel_rfl
  have q16 : (bits .and .i64 3 16 == 0) = true := by kernel_rfl
  have hkb : kindB n.kind = true := by simp [kindB, hk.1, hk.2]
  have HK := kind_any n.kind
  rw [hkb] at HK
  have HKh := Lib.hid HK
  have HU := uses_any n.kind hk.1 hk.2
  rw [hu] at HU
  have HUh := Lib.hid HU
  clear HK HU hkb hk hu
  have hb1 : decide (n.blk < 0) = false := by simp; omega
  have hb2 : decide (256 ≤ n.blk) = false := by simp; omega
  obtain ⟨w1, hw1⟩ : ∃ W, w.alloc (.cells n.cells 37) = W := ⟨_, rfl⟩
  have HB1 : Hid (Blk w1 w.heap.size n.cells 37) := Lib.hid (by rw [← hw1]; exact Blk.new w _ _)
  have HU1 : Hid (Upd NoF w w1) := Lib.hid (by rw [← hw1]; exact Upd.alloc NoF w _)
  have HW1 := Lib.hid hw1
  clear hw1 hb
  have f0 : w1.cell? ⟨w.heap.size, 0, none⟩ = some (.int .u8 n.kind) := (HB1.out.cell 0).trans n.get0
  have f3 : w1.cell? ⟨w.heap.size, 3, none⟩ = some (.int .i64 n.blk) := (HB1.out.cell 3).trans n.get3
  have e0 := n.get0
  have e3 := n.get3
  go_enter Tryz.func130, Tryz.ntmps130
  go_wp2_with fail
  rw [HW1.out]
  clear e0 e3
  refine (HKh.out w1).mono ?_
  rintro e w1 ⟨rfl, rfl⟩
  go_wp2_with fail
  refine (HUh.out _).mono ?_
  rintro e w2 ⟨rfl, hu⟩
  have HB2 := Lib.hid (HB1.out.upd hu (fun h => h))
  have HU2 := Lib.hid (HU1.out.trans hu (fun _ _ h => h))
  clear hu f0 f3
  have g1 : w2.cell? ⟨w.heap.size, 1, none⟩ = some (.int .i64 n.frm) := (HB2.out.cell 1).trans n.get1
  have g2 : w2.cell? ⟨w.heap.size, 2, none⟩ = some (.int .i64 n.too) := (HB2.out.cell 2).trans n.get2
  go_wp2_with fail
  go_quiet (fail)
  obtain ⟨w3, hw3, hhe, hu⟩ := drewN_is w2 nq
  rw [hw3]
  have HB3 := Lib.hid (HB2.out.upd hu (fun h => h))
  have HU3 := Lib.hid (HU2.out.trans hu (fun _ _ h => h))
  clear hw3 hu g1 g2 hhe
  have g1 : w3.cell? ⟨w.heap.size, 1, none⟩ = some (.int .i64 n.frm) := (HB3.out.cell 1).trans n.get1
  have g2 : w3.cell? ⟨w.heap.size, 2, none⟩ = some (.int .i64 n.too) := (HB3.out.cell 2).trans n.get2
  go_wp2_with fail
  go_quiet (fail)
  obtain ⟨w4, hw4, hhe, hu⟩ := drewN_is w3 nq
  rw [hw4]
  have HB4 := Lib.hid (HB3.out.upd hu (fun h => h))
  have HU4 := Lib.hid (HU3.out.trans hu (fun _ _ h => h))
  clear hw4 hu g1 g2 hhe
  have l7 := TNot.ld_at (Nt.Ok.isN hn) HB4.out.whole
  have l7a := TNot.ld_at (Nt.Ok.isN hn) (HB4.out.alloc (.cells TNot.Z 37)).whole
  have s7 := TNot.st_new (Nt.Ok.isN hn) w4
  have hlt := HB4.out.lt
  have hne : w.heap.size ≠ w4.heap.size := by omega
  obtain ⟨v, hv⟩ : ∃ W, w4.alloc (.cells n.cells 37) = W := ⟨_, rfl⟩
  have HN : Hid (Blk v w.heap.size n.cells 37) := Lib.hid (by rw [← hv]; exact HB4.out.alloc _)
  have HM : Hid (Blk v w4.heap.size n.cells 37) := Lib.hid (by rw [← hv]; exact Blk.new _ _ _)
  have HUv : Hid (Upd NoF w v) := Lib.hid (by rw [← hv]; exact HU4.out.trans (Upd.alloc NoF _ _) (fun _ _ h => h))
  have HV := Lib.hid hv
  have HLT := Lib.hid (show w.heap.size ≤ w4.heap.size by omega)
  clear hv hlt
  go_upto_region 8 with fail
  rw [HV.out]
  clear l7 l7a s7 HV
  obtain ⟨wb, hwb⟩ : ∃ b, w4.heap.size = b := ⟨_, rfl⟩
  rw [hwb] at HM HLT hne ⊢
  clear hwb
  have fz := HM.out.frozen 5
  have fc : v.cell? ⟨wb, 5, none⟩ = some (.int .u8 n.state) := (HM.out.cell 5).trans (by simp [Array.getElem?_setIfInBounds, n.get5])
  have hM := HM.out.set 5 (.int .u8 0)
  have hN := HN.out.other 5 (.int .u8 0) hne
  have hU := HUv.out.trans (Upd.setCell (F := fun k => k = wb) v (p := ⟨wb, 5, none⟩) rfl (.int .u8 0)) (fun k hk e => by have := HLT.out; have e : k = wb := e; omega)
  obtain ⟨v1, hv⟩ : ∃ W, v.setCell ⟨wb, 5, none⟩ (.int .u8 0) = W := ⟨_, rfl⟩
  rw [hv] at hM hN hU
  clear HM HN HUv
  have HM := Lib.hid hM; have HN := Lib.hid hN; have HUv := Lib.hid hU
  have HV := Lib.hid hv
  clear hM hN hU hv
  go_upto_region 14 with fail
  rw [HV.out]
  clear HV fz fc
  have fz := HM.out.frozen 7
  have fc : v1.cell? ⟨wb, 7, none⟩ = some (.bool n.stick) := (HM.out.cell 7).trans (by simp [Array.getElem?_setIfInBounds, n.get7])
  have hM := HM.out.set 7 (.bool false)
  have hN := HN.out.other 7 (.bool false) hne
  have hU := HUv.out.trans (Upd.setCell (F := fun k => k = wb) v1 (p := ⟨wb, 7, none⟩) rfl (.bool false)) (fun k hk e => by have := HLT.out; have e : k = wb := e; omega)
  obtain ⟨v2, hv⟩ : ∃ W, v1.setCell ⟨wb, 7, none⟩ (.bool false) = W := ⟨_, rfl⟩
  rw [hv] at hM hN hU
  clear HM HN HUv
  have HM := Lib.hid hM; have HN := Lib.hid hN; have HUv := Lib.hid hU
  have HV := Lib.hid hv
  clear hM hN hU hv
  go_upto_region 16 with fail
  rw [HV.out]
  clear HV fz fc
  have fz := HM.out.frozen 6
  have fc : v2.cell? ⟨wb, 6, none⟩ = some (.bool n.has) := (HM.out.cell 6).trans (by simp [Array.getElem?_setIfInBounds, n.get6])
  have hM := HM.out.set 6 (.bool false)
  have hN := HN.out.other 6 (.bool false) hne
  have hU := HUv.out.trans (Upd.setCell (F := fun k => k = wb) v2 (p := ⟨wb, 6, none⟩) rfl (.bool false)) (fun k hk e => by have := HLT.out; have e : k = wb := e; omega)
  obtain ⟨v3, hv⟩ : ∃ W, v2.setCell ⟨wb, 6, none⟩ (.bool false) = W := ⟨_, rfl⟩
  rw [hv] at hM hN hU
  clear HM HN HUv
  have HM := Lib.hid hM; have HN := Lib.hid hN; have HUv := Lib.hid hU
  have HV := Lib.hid hv
  clear hM hN hU hv
  go_upto_region 20 with fail
  rw [HV.out]
  clear HV fz fc
  have f6 : v3.cell? ⟨w.heap.size, 6, none⟩ = some (.bool n.has) := (HN.out.cell 6).trans n.get6
  have hc : (((n.cells.setIfInBounds 5 (.int .u8 0)).setIfInBounds 7 (.bool false)).setIfInBounds 6 (.bool false)) = ({ wantN 3 n with D := n.D } : Nt).cells := by
    obtain ⟨kind, frm, too, blk, stamp, state, has, stick, D⟩ := n
    obtain ⟨d0, d1, d2, d3, d4, d5, d6, d7, d8, d9, d10, d11, d12, d13, d14, d15, rfl⟩ := BU.split16 hn.1
    kernel_rfl
  rw [hc] at HM
  obtain ⟨m, hm⟩ : ∃ m : Nt, ({ wantN 3 n with D := n.D } : Nt) = m := ⟨_, rfl⟩
  rw [hm] at HM
  have hmD : m.D = n.D := by rw [← hm]
  clear hc
  have hfin : finN 3 n = (coreB n.frm && (n.too == -1 && n.same (wantN 3 n))) := by unfold finN; simp
  have HFIN := Lib.hid hfin
  clear hfin
  have HC := Lib.hid (fun w => core_any n.frm w)
  cases hh : n.has
  · rw [hh] at f6
    have hth : v3.there wb 8 TBlk.Z.size := there_of HM.out (by rw [(Nt.Ok.isN (n := m) (hmD ▸ hn)).1]; decide)
    have s8 : (TBlk.st (.pointer (some ⟨wb, 8, none⟩)) (.agg #[.int .u32 0, .int .u32 0, .int .u32 0, .int .u32 0, .int .u32 0, .int .u32 0, .int .u32 0, .int .u32 0, .int .u32 0, .int .u32 0, .int .u32 0, .int .u32 0, .int .u32 0, .int .u32 0, .int .u32 0, .int .u32 0])).run Tryz.prog v3 = .ok () (v3.setCells wb 8 TBlk.Z.toList) := run_storeAt_mid v3 wb 8 35 TBlk.Z hth (by rw [TBlk.infoS]; rfl) TBlk.isZ.all
    have hM := blk_setCells TBlk.Z.toList 8 v3 _ HM.out
    have hus := upd_setCells (b := wb) TBlk.Z.toList 8 v3
    have hN := HN.out.upd hus (fun e => hne e)
    have hU := HUv.out.trans hus (fun k hk e => by have := HLT.out; have e : k = wb := e; omega)
    have hc2 : setMany m.cells 8 TBlk.Z.toList = (wantN 3 n).cells := by rw [set_D (by rw [hmD]; exact hn.1), ← hm]; unfold wantN; simp only [hh]; rfl
    rw [hc2] at hM
    obtain ⟨x, hx⟩ : ∃ W, v3.setCells wb 8 TBlk.Z.toList = W := ⟨_, rfl⟩
    rw [hx] at hM hN hU
    clear HM HN HUv hc2 hus
    have HM := Lib.hid hM; have HN := Lib.hid hN; have HUv := Lib.hid hU; have HX := Lib.hid hx
    clear hM hN hU hx hth
    have hWd : IsU (wantN 3 n).D := by unfold wantN; simp only [hh]; exact BU.isU_Z
    go_upto_region 22 with fail
    rw [HX.out]
    clear HX s8 f6
    have hld1 := TNot.ld_at (Nt.Ok.isN hn) HN.out.whole
    have hld2 := TNot.ld_at (Nt.Ok.isN hWd) HM.out.whole
    have hq := eqN_run hn hWd x
    generalize n.same (wantN 3 n) = sm at *
    cases hcb : coreB n.frm
    · rw [hcb] at HC
      go_wp2_with fail
      refine (HC.out _).mono ?_
      rintro e w9 ⟨rfl, rfl⟩
      go_wp2
      go_ret
      exact ⟨by rw [HFIN.out, hcb]; rfl, HUv.out⟩
    · rw [hcb] at HC
      cases hat : (n.too == (-1 : Int))
      · go_wp2_with fail
        refine (HC.out _).mono ?_
        rintro e w9 ⟨rfl, rfl⟩
        go_wp2
        go_ret
        exact ⟨by rw [HFIN.out, hcb, hat]; simp, HUv.out⟩
      · go_wp2_with fail
        refine (HC.out _).mono ?_
        rintro e w9 ⟨rfl, rfl⟩
        go_wp2
        go_ret
        exact ⟨by rw [HFIN.out, hcb, hat]; simp, HUv.out⟩
  · rw [hh] at f6
    have hWd : IsU (wantN 3 n).D := by unfold wantN; simp only [hh]; exact hn
    have hmw : m = wantN 3 n := by rw [← hm]; unfold wantN; simp only [hh]; rfl
    rw [hmw] at HM
    go_upto_region 22 with fail
    clear f6
    have hld1 := TNot.ld_at (Nt.Ok.isN hn) HN.out.whole
    have hld2 := TNot.ld_at (Nt.Ok.isN hWd) HM.out.whole
    have hq := eqN_run hn hWd v3
    generalize n.same (wantN 3 n) = sm at *
    cases hcb : coreB n.frm
    · rw [hcb] at HC
      go_wp2_with fail
      refine (HC.out _).mono ?_
      rintro e w9 ⟨rfl, rfl⟩
      go_wp2
      go_ret
      exact ⟨by rw [HFIN.out, hcb]; rfl, HUv.out⟩
    · rw [hcb] at HC
      cases hat : (n.too == (-1 : Int))
      · go_wp2_with fail
        refine (HC.out _).mono ?_
        rintro e w9 ⟨rfl, rfl⟩
        go_wp2
        go_ret
        exact ⟨by rw [HFIN.out, hcb, hat]; simp, HUv.out⟩
      · go_wp2_with fail
        refine (HC.out _).mono ?_
        rintro e w9 ⟨rfl, rfl⟩
        go_wp2
        go_ret
        exact ⟨by rw [HFIN.out, hcb, hat]; simp, HUv.out⟩
set_option maxRecDepth 100000 in
set_option maxHeartbeats 1000000 in
theorem may_41 (n : Nt) (hn : IsU n.D) (hk : 1 ≤ n.kind ∧ n.kind ≤ 11) (hb : 0 ≤ n.blk ∧ n.blk ≤ 255) (hu : usesN n.kind = 41) (w : World) : Calls Tryz.prog 130 #[.agg n.cells] w fun e w' => e = .returned (.bool (finN 41 n)) ∧ Upd NoF w w' := by
  have q1 : (bits .and .i64 41 1 != 0) = true := by kernel_rfl
  have q2 : (bits .and .i64 41 2 == 0) = true := by kernel_rfl
  have q4 : (bits .and .i64 41 4 == 0) = true := by kernel_rfl
  have q32 : (bits .and .i64 41 32 == 0) = false := by kernel_rfl
  have q8 : (bits .and .i64 41 8 != 0) = true := by kernel_rfl
  have q16 : (bits .and .i64 41 16 == 0) = true := by kernel_rfl
  have hkb : kindB n.kind = true := by simp [kindB, hk.1, hk.2]
  have HK := kind_any n.kind
  rw [hkb] at HK
  have HKh := Lib.hid HK
  have HU := uses_any n.kind hk.1 hk.2
  rw [hu] at HU
  have HUh := Lib.hid HU
  clear HK HU hkb hk hu
  have hb1 : decide (n.blk < 0) = false := by simp; omega
  have hb2 : decide (256 ≤ n.blk) = false := by simp; omega
  obtain ⟨w1, hw1⟩ : ∃ W, w.alloc (.cells n.cells 37) = W := ⟨_, rfl⟩
  have HB1 : Hid (Blk w1 w.heap.size n.cells 37) := Lib.hid (by rw [← hw1]; exact Blk.new w _ _)
  have HU1 : Hid (Upd NoF w w1) := Lib.hid (by rw [← hw1]; exact Upd.alloc NoF w _)
  have HW1 := Lib.hid hw1
  clear hw1 hb
  have f0 : w1.cell? ⟨w.heap.size, 0, none⟩ = some (.int .u8 n.kind) := (HB1.out.cell 0).trans n.get0
  have f3 : w1.cell? ⟨w.heap.size, 3, none⟩ = some (.int .i64 n.blk) := (HB1.out.cell 3).trans n.get3
  have e0 := n.get0
  have e3 := n.get3
  go_enter Tryz.func130, Tryz.ntmps130
  go_wp2_with fail
  rw [HW1.out]
  clear e0 e3
  refine (HKh.out w1).mono ?_
  rintro e w1 ⟨rfl, rfl⟩
  go_wp2_with fail
  refine (HUh.out _).mono ?_
  rintro e w2 ⟨rfl, hu⟩
  have HB2 := Lib.hid (HB1.out.upd hu (fun h => h))
  have HU2 := Lib.hid (HU1.out.trans hu (fun _ _ h => h))
  clear hu f0 f3
  have g1 : w2.cell? ⟨w.heap.size, 1, none⟩ = some (.int .i64 n.frm) := (HB2.out.cell 1).trans n.get1
  have g2 : w2.cell? ⟨w.heap.size, 2, none⟩ = some (.int .i64 n.too) := (HB2.out.cell 2).trans n.get2
  go_wp2_with fail
  go_quiet (fail)
  obtain ⟨w3, hw3, hhe, hu⟩ := drewN_is w2 nq
  rw [hw3]
  have HB3 := Lib.hid (HB2.out.upd hu (fun h => h))
  have HU3 := Lib.hid (HU2.out.trans hu (fun _ _ h => h))
  clear hw3 hu g1 g2 hhe
  have g1 : w3.cell? ⟨w.heap.size, 1, none⟩ = some (.int .i64 n.frm) := (HB3.out.cell 1).trans n.get1
  have g2 : w3.cell? ⟨w.heap.size, 2, none⟩ = some (.int .i64 n.too) := (HB3.out.cell 2).trans n.get2
  go_wp2_with fail
  go_quiet (fail)
  obtain ⟨w4, hw4, hhe, hu⟩ := drewN_is w3 nq
  rw [hw4]
  have HB4 := Lib.hid (HB3.out.upd hu (fun h => h))
  have HU4 := Lib.hid (HU3.out.trans hu (fun _ _ h => h))
  clear hw4 hu g1 g2 hhe
  have l7 := TNot.ld_at (Nt.Ok.isN hn) HB4.out.whole
  have l7a := TNot.ld_at (Nt.Ok.isN hn) (HB4.out.alloc (.cells TNot.Z 37)).whole
  have s7 := TNot.st_new (Nt.Ok.isN hn) w4
  have hlt := HB4.out.lt
  have hne : w.heap.size ≠ w4.heap.size := by omega
  obtain ⟨v, hv⟩ : ∃ W, w4.alloc (.cells n.cells 37) = W := ⟨_, rfl⟩
  have HN : Hid (Blk v w.heap.size n.cells 37) := Lib.hid (by rw [← hv]; exact HB4.out.alloc _)
  have HM : Hid (Blk v w4.heap.size n.cells 37) := Lib.hid (by rw [← hv]; exact Blk.new _ _ _)
  have HUv : Hid (Upd NoF w v) := Lib.hid (by rw [← hv]; exact HU4.out.trans (Upd.alloc NoF _ _) (fun _ _ h => h))
  have HV := Lib.hid hv
  have HLT := Lib.hid (show w.heap.size ≤ w4.heap.size by omega)
  clear hv hlt
  go_upto_region 8 with fail
  rw [HV.out]
  clear l7 l7a s7 HV
  obtain ⟨wb, hwb⟩ : ∃ b, w4.heap.size = b := ⟨_, rfl⟩
  rw [hwb] at HM HLT hne ⊢
  clear hwb
  have fz := HM.out.frozen 4
  have fc : v.cell? ⟨wb, 4, none⟩ = some (.int .u64 n.stamp) := (HM.out.cell 4).trans (by simp [Array.getElem?_setIfInBounds, n.get4])
  have hM := HM.out.set 4 (.int .u64 0)
  have hN := HN.out.other 4 (.int .u64 0) hne
  have hU := HUv.out.trans (Upd.setCell (F := fun k => k = wb) v (p := ⟨wb, 4, none⟩) rfl (.int .u64 0)) (fun k hk e => by have := HLT.out; have e : k = wb := e; omega)
  obtain ⟨v1, hv⟩ : ∃ W, v.setCell ⟨wb, 4, none⟩ (.int .u64 0) = W := ⟨_, rfl⟩
  rw [hv] at hM hN hU
  clear HM HN HUv
  have HM := Lib.hid hM; have HN := Lib.hid hN; have HUv := Lib.hid hU
  have HV := Lib.hid hv
  clear hM hN hU hv
  go_upto_region 10 with fail
  rw [HV.out]
  clear HV fz fc
  have fz := HM.out.frozen 5
  have fc : v1.cell? ⟨wb, 5, none⟩ = some (.int .u8 n.state) := (HM.out.cell 5).trans (by simp [Array.getElem?_setIfInBounds, n.get5])
  have hM := HM.out.set 5 (.int .u8 0)
  have hN := HN.out.other 5 (.int .u8 0) hne
  have hU := HUv.out.trans (Upd.setCell (F := fun k => k = wb) v1 (p := ⟨wb, 5, none⟩) rfl (.int .u8 0)) (fun k hk e => by have := HLT.out; have e : k = wb := e; omega)
  obtain ⟨v2, hv⟩ : ∃ W, v1.setCell ⟨wb, 5, none⟩ (.int .u8 0) = W := ⟨_, rfl⟩
  rw [hv] at hM hN hU
  clear HM HN HUv
  have HM := Lib.hid hM; have HN := Lib.hid hN; have HUv := Lib.hid hU
  have HV := Lib.hid hv
  clear hM hN hU hv
  go_upto_region 14 with fail
  rw [HV.out]
  clear HV fz fc
  have fz := HM.out.frozen 6
  have fc : v2.cell? ⟨wb, 6, none⟩ = some (.bool n.has) := (HM.out.cell 6).trans (by simp [Array.getElem?_setIfInBounds, n.get6])
  have hM := HM.out.set 6 (.bool true)
  have hN := HN.out.other 6 (.bool true) hne
  have hU := HUv.out.trans (Upd.setCell (F := fun k => k = wb) v2 (p := ⟨wb, 6, none⟩) rfl (.bool true)) (fun k hk e => by have := HLT.out; have e : k = wb := e; omega)
  obtain ⟨v3, hv⟩ : ∃ W, v2.setCell ⟨wb, 6, none⟩ (.bool true) = W := ⟨_, rfl⟩
  rw [hv] at hM hN hU
  clear HM HN HUv
  have HM := Lib.hid hM; have HN := Lib.hid hN; have HUv := Lib.hid hU
  have HV := Lib.hid hv
  clear hM hN hU hv
  go_upto_region 20 with fail
  rw [HV.out]
  clear HV fz fc
  have f6 : v3.cell? ⟨w.heap.size, 6, none⟩ = some (.bool n.has) := (HN.out.cell 6).trans n.get6
  have hc : (((n.cells.setIfInBounds 4 (.int .u64 0)).setIfInBounds 5 (.int .u8 0)).setIfInBounds 6 (.bool true)) = ({ wantN 41 n with D := n.D } : Nt).cells := by
    obtain ⟨kind, frm, too, blk, stamp, state, has, stick, D⟩ := n
    obtain ⟨d0, d1, d2, d3, d4, d5, d6, d7, d8, d9, d10, d11, d12, d13, d14, d15, rfl⟩ := BU.split16 hn.1
    kernel_rfl
  rw [hc] at HM
  obtain ⟨m, hm⟩ : ∃ m : Nt, ({ wantN 41 n with D := n.D } : Nt) = m := ⟨_, rfl⟩
  rw [hm] at HM
  have hmD : m.D = n.D := by rw [← hm]
  clear hc
  have hfin : finN 41 n = (coreB n.frm && (n.too == -1 && n.same (wantN 41 n))) := by unfold finN; simp
  have HFIN := Lib.hid hfin
  clear hfin
  have HC := Lib.hid (fun w => core_any n.frm w)
  cases hh : n.has
  · rw [hh] at f6
    have hth : v3.there wb 8 TBlk.Z.size := there_of HM.out (by rw [(Nt.Ok.isN (n := m) (hmD ▸ hn)).1]; decide)
    have s8 : (TBlk.st (.pointer (some ⟨wb, 8, none⟩)) (.agg #[.int .u32 0, .int .u32 0, .int .u32 0, .int .u32 0, .int .u32 0, .int .u32 0, .int .u32 0, .int .u32 0, .int .u32 0, .int .u32 0, .int .u32 0, .int .u32 0, .int .u32 0, .int .u32 0, .int .u32 0, .int .u32 0])).run Tryz.prog v3 = .ok () (v3.setCells wb 8 TBlk.Z.toList) := run_storeAt_mid v3 wb 8 35 TBlk.Z hth (by rw [TBlk.infoS]; rfl) TBlk.isZ.all
    have hM := blk_setCells TBlk.Z.toList 8 v3 _ HM.out
    have hus := upd_setCells (b := wb) TBlk.Z.toList 8 v3
    have hN := HN.out.upd hus (fun e => hne e)
    have hU := HUv.out.trans hus (fun k hk e => by have := HLT.out; have e : k = wb := e; omega)
    have hc2 : setMany m.cells 8 TBlk.Z.toList = (wantN 41 n).cells := by rw [set_D (by rw [hmD]; exact hn.1), ← hm]; unfold wantN; simp only [hh]; rfl
    rw [hc2] at hM
    obtain ⟨x, hx⟩ : ∃ W, v3.setCells wb 8 TBlk.Z.toList = W := ⟨_, rfl⟩
    rw [hx] at hM hN hU
    clear HM HN HUv hc2 hus
    have HM := Lib.hid hM; have HN := Lib.hid hN; have HUv := Lib.hid hU; have HX := Lib.hid hx
    clear hM hN hU hx hth
    have hWd : IsU (wantN 41 n).D := by unfold wantN; simp only [hh]; exact BU.isU_Z
    go_upto_region 22 with fail
    rw [HX.out]
    clear HX s8 f6
    have hld1 := TNot.ld_at (Nt.Ok.isN hn) HN.out.whole
    have hld2 := TNot.ld_at (Nt.Ok.isN hWd) HM.out.whole
    have hq := eqN_run hn hWd x
    generalize n.same (wantN 41 n) = sm at *
    cases hcb : coreB n.frm
    · rw [hcb] at HC
      go_wp2_with fail
      refine (HC.out _).mono ?_
      rintro e w9 ⟨rfl, rfl⟩
      go_wp2
      go_ret
      exact ⟨by rw [HFIN.out, hcb]; rfl, HUv.out⟩
    · rw [hcb] at HC
      cases hat : (n.too == (-1 : Int))
      · go_wp2_with fail
        refine (HC.out _).mono ?_
        rintro e w9 ⟨rfl, rfl⟩
        go_wp2
        go_ret
        exact ⟨by rw [HFIN.out, hcb, hat]; simp, HUv.out⟩
      · go_wp2_with fail
        refine (HC.out _).mono ?_
        rintro e w9 ⟨rfl, rfl⟩
        go_wp2
        go_ret
        exact ⟨by rw [HFIN.out, hcb, hat]; simp, HUv.out⟩
  · rw [hh] at f6
    have hWd : IsU (wantN 41 n).D := by unfold wantN; simp only [hh]; exact hn
    have hmw : m = wantN 41 n := by rw [← hm]; unfold wantN; simp only [hh]; rfl
    rw [hmw] at HM
    go_upto_region 22 with fail
    clear f6
    have hld1 := TNot.ld_at (Nt.Ok.isN hn) HN.out.whole
    have hld2 := TNot.ld_at (Nt.Ok.isN hWd) HM.out.whole
    have hq := eqN_run hn hWd v3
    generalize n.same (wantN 41 n) = sm at *
    cases hcb : coreB n.frm
    · rw [hcb] at HC
      go_wp2_with fail
      refine (HC.out _).mono ?_
      rintro e w9 ⟨rfl, rfl⟩
      go_wp2
      go_ret
      exact ⟨by rw [HFIN.out, hcb]; rfl, HUv.out⟩
    · rw [hcb] at HC
      cases hat : (n.too == (-1 : Int))
      · go_wp2_with fail
        refine (HC.out _).mono ?_
        rintro e w9 ⟨rfl, rfl⟩
        go_wp2
        go_ret
        exact ⟨by rw [HFIN.out, hcb, hat]; simp, HUv.out⟩
      · go_wp2_with fail
        refine (HC.out _).mono ?_
        rintro e w9 ⟨rfl, rfl⟩
        go_wp2
        go_ret
        exact ⟨by rw [HFIN.out, hcb, hat]; simp, HUv.out⟩
set_option maxRecDepth 100000 in
set_option maxHeartbeats 1000000 in
theorem may_2 (n : Nt) (hn : IsU n.D) (hk : 1 ≤ n.kind ∧ n.kind ≤ 11) (hb : 0 ≤ n.blk ∧ n.blk ≤ 255) (hu : usesN n.kind = 2) (w : World) : Calls Tryz.prog 130 #[.agg n.cells] w fun e w' => e = .returned (.bool (finN 2 n)) ∧ Upd NoF w w' := by
  have q1 : (bits .and .i64 2 1 != 0) = false := by kernel_rfl
  have q2 : (bits .and .i64 2 2 == 0) = false := by kernel_rfl
  have q4 : (bits .and .i64 2 4 == 0) = true := by kernel_rfl
  have q32 : (bits .and .i64 2 32 == 0) = true := by kernel_rfl
  have q8 : (bits .and .i64 2 8 != 0) = false := by kernel_rfl
  have q16 : (bits .and .i64 2 16 == 0) = true := by kernel_rfl
  have hkb : kindB n.kind = true := by simp [kindB, hk.1, hk.2]
  have HK := kind_any n.kind
  rw [hkb] at HK
  have HKh := Lib.hid HK
  have HU := uses_any n.kind hk.1 hk.2
  rw [hu] at HU
  have HUh := Lib.hid HU
  clear HK HU hkb hk hu
  have hb1 : decide (n.blk < 0) = false := by simp; omega
  have hb2 : decide (256 ≤ n.blk) = false := by simp; omega
  obtain ⟨w1, hw1⟩ : ∃ W, w.alloc (.cells n.cells 37) = W := ⟨_, rfl⟩
  have HB1 : Hid (Blk w1 w.heap.size n.cells 37) := Lib.hid (by rw [← hw1]; exact Blk.new w _ _)
  have HU1 : Hid (Upd NoF w w1) := Lib.hid (by rw [← hw1]; exact Upd.alloc NoF w _)
  have HW1 := Lib.hid hw1
  clear hw1 hb
  have f0 : w1.cell? ⟨w.heap.size, 0, none⟩ = some (.int .u8 n.kind) := (HB1.out.cell 0).trans n.get0
  have f3 : w1.cell? ⟨w.heap.size, 3, none⟩ = some (.int .i64 n.blk) := (HB1.out.cell 3).trans n.get3
  have e0 := n.get0
  have e3 := n.get3
  go_enter Tryz.func130, Tryz.ntmps130
  go_wp2_with fail
  rw [HW1.out]
  clear e0 e3
  refine (HKh.out w1).mono ?_
  rintro e w1 ⟨rfl, rfl⟩
  go_wp2_with fail
  refine (HUh.out _).mono ?_
  rintro e w2 ⟨rfl, hu⟩
  have HB2 := Lib.hid (HB1.out.upd hu (fun h => h))
  have HU2 := Lib.hid (HU1.out.trans hu (fun _ _ h => h))
  clear hu f0 f3
  have g1 : w2.cell? ⟨w.heap.size, 1, none⟩ = some (.int .i64 n.frm) := (HB2.out.cell 1).trans n.get1
  have g2 : w2.cell? ⟨w.heap.size, 2, none⟩ = some (.int .i64 n.too) := (HB2.out.cell 2).trans n.get2
  go_wp2_with fail
  go_quiet (fail)
  obtain ⟨w3, hw3, hhe, hu⟩ := drewN_is w2 nq
  rw [hw3]
  have HB3 := Lib.hid (HB2.out.upd hu (fun h => h))
  have HU3 := Lib.hid (HU2.out.trans hu (fun _ _ h => h))
  clear hw3 hu g1 g2 hhe
  have l7 := TNot.ld_at (Nt.Ok.isN hn) HB3.out.whole
  have l7a := TNot.ld_at (Nt.Ok.isN hn) (HB3.out.alloc (.cells TNot.Z 37)).whole
  have s7 := TNot.st_new (Nt.Ok.isN hn) w3
  have hlt := HB3.out.lt
  have hne : w.heap.size ≠ w3.heap.size := by omega
  obtain ⟨v, hv⟩ : ∃ W, w3.alloc (.cells n.cells 37) = W := ⟨_, rfl⟩
  have HN : Hid (Blk v w.heap.size n.cells 37) := Lib.hid (by rw [← hv]; exact HB3.out.alloc _)
  have HM : Hid (Blk v w3.heap.size n.cells 37) := Lib.hid (by rw [← hv]; exact Blk.new _ _ _)
  have HUv : Hid (Upd NoF w v) := Lib.hid (by rw [← hv]; exact HU3.out.trans (Upd.alloc NoF _ _) (fun _ _ h => h))
  have HV := Lib.hid hv
  have HLT := Lib.hid (show w.heap.size ≤ w3.heap.size by omega)
  clear hv hlt
  go_upto_region 8 with fail
  rw [HV.out]
  clear l7 l7a s7 HV
  obtain ⟨wb, hwb⟩ : ∃ b, w3.heap.size = b := ⟨_, rfl⟩
  rw [hwb] at HM HLT hne ⊢
  clear hwb
  have fz := HM.out.frozen 5
  have fc : v.cell? ⟨wb, 5, none⟩ = some (.int .u8 n.state) := (HM.out.cell 5).trans (by simp [Array.getElem?_setIfInBounds, n.get5])
  have hM := HM.out.set 5 (.int .u8 0)
  have hN := HN.out.other 5 (.int .u8 0) hne
  have hU := HUv.out.trans (Upd.setCell (F := fun k => k = wb) v (p := ⟨wb, 5, none⟩) rfl (.int .u8 0)) (fun k hk e => by have := HLT.out; have e : k = wb := e; omega)
  obtain ⟨v1, hv⟩ : ∃ W, v.setCell ⟨wb, 5, none⟩ (.int .u8 0) = W := ⟨_, rfl⟩
  rw [hv] at hM hN hU
  clear HM HN HUv
  have HM := Lib.hid hM; have HN := Lib.hid hN; have HUv := Lib.hid hU
  have HV := Lib.hid hv
  clear hM hN hU hv
  go_upto_region 14 with fail
  rw [HV.out]
  clear HV fz fc
  have fz := HM.out.frozen 7
  have fc : v1.cell? ⟨wb, 7, none⟩ = some (.bool n.stick) := (HM.out.cell 7).trans (by simp [Array.getElem?_setIfInBounds, n.get7])
  have hM := HM.out.set 7 (.bool false)
  have hN := HN.out.other 7 (.bool false) hne
  have hU := HUv.out.trans (Upd.setCell (F := fun k => k = wb) v1 (p := ⟨wb, 7, none⟩) rfl (.bool false)) (fun k hk e => by have := HLT.out; have e : k = wb := e; omega)
  obtain ⟨v2, hv⟩ : ∃ W, v1.setCell ⟨wb, 7, none⟩ (.bool false) = W := ⟨_, rfl⟩
  rw [hv] at hM hN hU
  clear HM HN HUv
  have HM := Lib.hid hM; have HN := Lib.hid hN; have HUv := Lib.hid hU
  have HV := Lib.hid hv
  clear hM hN hU hv
  go_upto_region 16 with fail
  rw [HV.out]
  clear HV fz fc
  have fz := HM.out.frozen 6
  have fc : v2.cell? ⟨wb, 6, none⟩ = some (.bool n.has) := (HM.out.cell 6).trans (by simp [Array.getElem?_setIfInBounds, n.get6])
  have hM := HM.out.set 6 (.bool false)
  have hN := HN.out.other 6 (.bool false) hne
  have hU := HUv.out.trans (Upd.setCell (F := fun k => k = wb) v2 (p := ⟨wb, 6, none⟩) rfl (.bool false)) (fun k hk e => by have := HLT.out; have e : k = wb := e; omega)
  obtain ⟨v3, hv⟩ : ∃ W, v2.setCell ⟨wb, 6, none⟩ (.bool false) = W := ⟨_, rfl⟩
  rw [hv] at hM hN hU
  clear HM HN HUv
  have HM := Lib.hid hM; have HN := Lib.hid hN; have HUv := Lib.hid hU
  have HV := Lib.hid hv
  clear hM hN hU hv
  go_upto_region 20 with fail
  rw [HV.out]
  clear HV fz fc
  have f6 : v3.cell? ⟨w.heap.size, 6, none⟩ = some (.bool n.has) := (HN.out.cell 6).trans n.get6
  have hc : (((n.cells.setIfInBounds 5 (.int .u8 0)).setIfInBounds 7 (.bool false)).setIfInBounds 6 (.bool false)) = ({ wantN 2 n with D := n.D } : Nt).cells := by
    obtain ⟨kind, frm, too, blk, stamp, state, has, stick, D⟩ := n
    obtain ⟨d0, d1, d2, d3, d4, d5, d6, d7, d8, d9, d10, d11, d12, d13, d14, d15, rfl⟩ := BU.split16 hn.1
    kernel_rfl
  rw [hc] at HM
  obtain ⟨m, hm⟩ : ∃ m : Nt, ({ wantN 2 n with D := n.D } : Nt) = m := ⟨_, rfl⟩
  rw [hm] at HM
  have hmD : m.D = n.D := by rw [← hm]
  clear hc
  have hfin : finN 2 n = (coreB n.too && (n.frm == -1 && n.same (wantN 2 n))) := by unfold finN; simp
  have HFIN := Lib.hid hfin
  clear hfin
  have HC := Lib.hid (fun w => core_any n.too w)
  cases hh : n.has
  · rw [hh] at f6
    have hth : v3.there wb 8 TBlk.Z.size := there_of HM.out (by rw [(Nt.Ok.isN (n := m) (hmD ▸ hn)).1]; decide)
    have s8 : (TBlk.st (.pointer (some ⟨wb, 8, none⟩)) (.agg #[.int .u32 0, .int .u32 0, .int .u32 0, .int .u32 0, .int .u32 0, .int .u32 0, .int .u32 0, .int .u32 0, .int .u32 0, .int .u32 0, .int .u32 0, .int .u32 0, .int .u32 0, .int .u32 0, .int .u32 0, .int .u32 0])).run Tryz.prog v3 = .ok () (v3.setCells wb 8 TBlk.Z.toList) := run_storeAt_mid v3 wb 8 35 TBlk.Z hth (by rw [TBlk.infoS]; rfl) TBlk.isZ.all
    have hM := blk_setCells TBlk.Z.toList 8 v3 _ HM.out
    have hus := upd_setCells (b := wb) TBlk.Z.toList 8 v3
    have hN := HN.out.upd hus (fun e => hne e)
    have hU := HUv.out.trans hus (fun k hk e => by have := HLT.out; have e : k = wb := e; omega)
    have hc2 : setMany m.cells 8 TBlk.Z.toList = (wantN 2 n).cells := by rw [set_D (by rw [hmD]; exact hn.1), ← hm]; unfold wantN; simp only [hh]; rfl
    rw [hc2] at hM
    obtain ⟨x, hx⟩ : ∃ W, v3.setCells wb 8 TBlk.Z.toList = W := ⟨_, rfl⟩
    rw [hx] at hM hN hU
    clear HM HN HUv hc2 hus
    have HM := Lib.hid hM; have HN := Lib.hid hN; have HUv := Lib.hid hU; have HX := Lib.hid hx
    clear hM hN hU hx hth
    have hWd : IsU (wantN 2 n).D := by unfold wantN; simp only [hh]; exact BU.isU_Z
    go_upto_region 22 with fail
    rw [HX.out]
    clear HX s8 f6
    have hld1 := TNot.ld_at (Nt.Ok.isN hn) HN.out.whole
    have hld2 := TNot.ld_at (Nt.Ok.isN hWd) HM.out.whole
    have hq := eqN_run hn hWd x
    generalize n.same (wantN 2 n) = sm at *
    cases hcb : coreB n.too
    · rw [hcb] at HC
      go_wp2_with fail
      refine (HC.out _).mono ?_
      rintro e w9 ⟨rfl, rfl⟩
      go_wp2
      go_ret
      exact ⟨by rw [HFIN.out, hcb]; rfl, HUv.out⟩
    · rw [hcb] at HC
      cases hat : (n.frm == (-1 : Int))
      · go_wp2_with fail
        refine (HC.out _).mono ?_
        rintro e w9 ⟨rfl, rfl⟩
        go_wp2
        go_ret
        exact ⟨by rw [HFIN.out, hcb, hat]; simp, HUv.out⟩
      · go_wp2_with fail
        refine (HC.out _).mono ?_
        rintro e w9 ⟨rfl, rfl⟩
        go_wp2
        go_ret
        exact ⟨by rw [HFIN.out, hcb, hat]; simp, HUv.out⟩
  · rw [hh] at f6
    have hWd : IsU (wantN 2 n).D := by unfold wantN; simp only [hh]; exact hn
    have hmw : m = wantN 2 n := by rw [← hm]; unfold wantN; simp only [hh]; rfl
    rw [hmw] at HM
    go_upto_region 22 with fail
    clear f6
    have hld1 := TNot.ld_at (Nt.Ok.isN hn) HN.out.whole
    have hld2 := TNot.ld_at (Nt.Ok.isN hWd) HM.out.whole
    have hq := eqN_run hn hWd v3
    generalize n.same (wantN 2 n) = sm at *
    cases hcb : coreB n.too
    · rw [hcb] at HC
      go_wp2_with fail
      refine (HC.out _).mono ?_
      rintro e w9 ⟨rfl, rfl⟩
      go_wp2
      go_ret
      exact ⟨by rw [HFIN.out, hcb]; rfl, HUv.out⟩
    · rw [hcb] at HC
      cases hat : (n.frm == (-1 : Int))
      · go_wp2_with fail
        refine (HC.out _).mono ?_
        rintro e w9 ⟨rfl, rfl⟩
        go_wp2
        go_ret
        exact ⟨by rw [HFIN.out, hcb, hat]; simp, HUv.out⟩
      · go_wp2_with fail
        refine (HC.out _).mono ?_
        rintro e w9 ⟨rfl, rfl⟩
        go_wp2
        go_ret
        exact ⟨by rw [HFIN.out, hcb, hat]; simp, HUv.out⟩
set_option maxRecDepth 100000 in
set_option maxHeartbeats 1000000 in
theorem may_12 (n : Nt) (hn : IsU n.D) (hk : 1 ≤ n.kind ∧ n.kind ≤ 11) (hb : 0 ≤ n.blk ∧ n.blk ≤ 255) (hu : usesN n.kind = 12) (w : World) : Calls Tryz.prog 130 #[.agg n.cells] w fun e w' => e = .returned (.bool (finN 12 n)) ∧ Upd NoF w w' := by
  have q1 : (bits .and .i64 12 1 != 0) = false := by kernel_rfl
  have q2 : (bits .and .i64 12 2 == 0) = true := by kernel_rfl
  have q4 : (bits .and .i64 12 4 == 0) = false := by kernel_rfl
  have q32 : (bits .and .i64 12 32 == 0) = true := by kernel_rfl
  have q8 : (bits .and .i64 12 8 != 0) = true := by kernel_rfl
  have q16 : (bits .and .i64 12 16 == 0) = true := by kernel_rfl
  have hkb : kindB n.kind = true := by simp [kindB, hk.1, hk.2]
  have HK := kind_any n.kind
  rw [hkb] at HK
  have HKh := Lib.hid HK
  have HU := uses_any n.kind hk.1 hk.2
  rw [hu] at HU
  have HUh := Lib.hid HU
  clear HK HU hkb hk hu
  have hb1 : decide (n.blk < 0) = false := by simp; omega
  have hb2 : decide (256 ≤ n.blk) = false := by simp; omega
  obtain ⟨w1, hw1⟩ : ∃ W, w.alloc (.cells n.cells 37) = W := ⟨_, rfl⟩
  have HB1 : Hid (Blk w1 w.heap.size n.cells 37) := Lib.hid (by rw [← hw1]; exact Blk.new w _ _)
  have HU1 : Hid (Upd NoF w w1) := Lib.hid (by rw [← hw1]; exact Upd.alloc NoF w _)
  have HW1 := Lib.hid hw1
  clear hw1 hb
  have f0 : w1.cell? ⟨w.heap.size, 0, none⟩ = some (.int .u8 n.kind) := (HB1.out.cell 0).trans n.get0
  have f3 : w1.cell? ⟨w.heap.size, 3, none⟩ = some (.int .i64 n.blk) := (HB1.out.cell 3).trans n.get3
  have e0 := n.get0
  have e3 := n.get3
  go_enter Tryz.func130, Tryz.ntmps130
  go_wp2_with fail
  rw [HW1.out]
  clear e0 e3
  refine (HKh.out w1).mono ?_
  rintro e w1 ⟨rfl, rfl⟩
  go_wp2_with fail
  refine (HUh.out _).mono ?_
  rintro e w2 ⟨rfl, hu⟩
  have HB2 := Lib.hid (HB1.out.upd hu (fun h => h))
  have HU2 := Lib.hid (HU1.out.trans hu (fun _ _ h => h))
  clear hu f0 f3
  have g1 : w2.cell? ⟨w.heap.size, 1, none⟩ = some (.int .i64 n.frm) := (HB2.out.cell 1).trans n.get1
  have g2 : w2.cell? ⟨w.heap.size, 2, none⟩ = some (.int .i64 n.too) := (HB2.out.cell 2).trans n.get2
  go_wp2_with fail
  go_quiet (fail)
  obtain ⟨w3, hw3, hhe, hu⟩ := drewN_is w2 nq
  rw [hw3]
  have HB3 := Lib.hid (HB2.out.upd hu (fun h => h))
  have HU3 := Lib.hid (HU2.out.trans hu (fun _ _ h => h))
  clear hw3 hu g1 g2 hhe
  have l7 := TNot.ld_at (Nt.Ok.isN hn) HB3.out.whole
  have l7a := TNot.ld_at (Nt.Ok.isN hn) (HB3.out.alloc (.cells TNot.Z 37)).whole
  have s7 := TNot.st_new (Nt.Ok.isN hn) w3
  have hlt := HB3.out.lt
  have hne : w.heap.size ≠ w3.heap.size := by omega
  obtain ⟨v, hv⟩ : ∃ W, w3.alloc (.cells n.cells 37) = W := ⟨_, rfl⟩
  have HN : Hid (Blk v w.heap.size n.cells 37) := Lib.hid (by rw [← hv]; exact HB3.out.alloc _)
  have HM : Hid (Blk v w3.heap.size n.cells 37) := Lib.hid (by rw [← hv]; exact Blk.new _ _ _)
  have HUv : Hid (Upd NoF w v) := Lib.hid (by rw [← hv]; exact HU3.out.trans (Upd.alloc NoF _ _) (fun _ _ h => h))
  have HV := Lib.hid hv
  have HLT := Lib.hid (show w.heap.size ≤ w3.heap.size by omega)
  clear hv hlt
  go_upto_region 8 with fail
  rw [HV.out]
  clear l7 l7a s7 HV
  obtain ⟨wb, hwb⟩ : ∃ b, w3.heap.size = b := ⟨_, rfl⟩
  rw [hwb] at HM HLT hne ⊢
  clear hwb
  have fz := HM.out.frozen 4
  have fc : v.cell? ⟨wb, 4, none⟩ = some (.int .u64 n.stamp) := (HM.out.cell 4).trans (by simp [Array.getElem?_setIfInBounds, n.get4])
  have hM := HM.out.set 4 (.int .u64 0)
  have hN := HN.out.other 4 (.int .u64 0) hne
  have hU := HUv.out.trans (Upd.setCell (F := fun k => k = wb) v (p := ⟨wb, 4, none⟩) rfl (.int .u64 0)) (fun k hk e => by have := HLT.out; have e : k = wb := e; omega)
  obtain ⟨v1, hv⟩ : ∃ W, v.setCell ⟨wb, 4, none⟩ (.int .u64 0) = W := ⟨_, rfl⟩
  rw [hv] at hM hN hU
  clear HM HN HUv
  have HM := Lib.hid hM; have HN := Lib.hid hN; have HUv := Lib.hid hU
  have HV := Lib.hid hv
  clear hM hN hU hv
  go_upto_region 10 with fail
  rw [HV.out]
  clear HV fz fc
  have f5 : v1.cell? ⟨w.heap.size, 5, none⟩ = some (.int .u8 n.state) := (HN.out.cell 5).trans n.get5
  by_cases hs1 : n.state < 1
  · have hs1b : decide (n.state < 1) = true := by simp; omega
    go_wp2
    go_ret
    refine ⟨?_, HUv.out⟩
    have : finN 12 n = false := by unfold finN; simp [show decide (1 ≤ n.state) = false by simp; omega]
    rw [this]
    rfl
  have hs1b : decide (n.state < 1) = false := by simp; omega
  by_cases hs2 : 3 < n.state
  · have hs2b : decide (3 < n.state) = true := by simp; omega
    go_wp2
    go_ret
    refine ⟨?_, HUv.out⟩
    have : finN 12 n = false := by unfold finN; simp [show decide (n.state ≤ 3) = false by simp; omega]
    rw [this]
    rfl
  have hs2b : decide (3 < n.state) = false := by simp; omega
  have hs1 : 1 ≤ n.state := by omega
  have hs2 : n.state ≤ 3 := by omega
  go_upto_region 14 with fail
  clear f5 hs1b hs2b
  have fz := HM.out.frozen 7
  have fc : v1.cell? ⟨wb, 7, none⟩ = some (.bool n.stick) := (HM.out.cell 7).trans (by simp [Array.getElem?_setIfInBounds, n.get7])
  have hM := HM.out.set 7 (.bool false)
  have hN := HN.out.other 7 (.bool false) hne
  have hU := HUv.out.trans (Upd.setCell (F := fun k => k = wb) v1 (p := ⟨wb, 7, none⟩) rfl (.bool false)) (fun k hk e => by have := HLT.out; have e : k = wb := e; omega)
  obtain ⟨v2, hv⟩ : ∃ W, v1.setCell ⟨wb, 7, none⟩ (.bool false) = W := ⟨_, rfl⟩
  rw [hv] at hM hN hU
  clear HM HN HUv
  have HM := Lib.hid hM; have HN := Lib.hid hN; have HUv := Lib.hid hU
  have HV := Lib.hid hv
  clear hM hN hU hv
  go_upto_region 16 with fail
  rw [HV.out]
  clear HV fz fc
  have fz := HM.out.frozen 6
  have fc : v2.cell? ⟨wb, 6, none⟩ = some (.bool n.has) := (HM.out.cell 6).trans (by simp [Array.getElem?_setIfInBounds, n.get6])
  have hM := HM.out.set 6 (.bool true)
  have hN := HN.out.other 6 (.bool true) hne
  have hU := HUv.out.trans (Upd.setCell (F := fun k => k = wb) v2 (p := ⟨wb, 6, none⟩) rfl (.bool true)) (fun k hk e => by have := HLT.out; have e : k = wb := e; omega)
  obtain ⟨v3, hv⟩ : ∃ W, v2.setCell ⟨wb, 6, none⟩ (.bool true) = W := ⟨_, rfl⟩
  rw [hv] at hM hN hU
  clear HM HN HUv
  have HM := Lib.hid hM; have HN := Lib.hid hN; have HUv := Lib.hid hU
  have HV := Lib.hid hv
  clear hM hN hU hv
  go_upto_region 20 with fail
  rw [HV.out]
  clear HV fz fc
  have f6 : v3.cell? ⟨w.heap.size, 6, none⟩ = some (.bool n.has) := (HN.out.cell 6).trans n.get6
  have hc : (((n.cells.setIfInBounds 4 (.int .u64 0)).setIfInBounds 7 (.bool false)).setIfInBounds 6 (.bool true)) = ({ wantN 12 n with D := n.D } : Nt).cells := by
    obtain ⟨kind, frm, too, blk, stamp, state, has, stick, D⟩ := n
    obtain ⟨d0, d1, d2, d3, d4, d5, d6, d7, d8, d9, d10, d11, d12, d13, d14, d15, rfl⟩ := BU.split16 hn.1
    kernel_rfl
  rw [hc] at HM
  obtain ⟨m, hm⟩ : ∃ m : Nt, ({ wantN 12 n with D := n.D } : Nt) = m := ⟨_, rfl⟩
  rw [hm] at HM
  have hmD : m.D = n.D := by rw [← hm]
  clear hc
  have hfin : finN 12 n = (coreB n.too && (n.frm == -1 && n.same (wantN 12 n))) := by unfold finN; simp [hs1, hs2]
  have HFIN := Lib.hid hfin
  clear hfin
  have HC := Lib.hid (fun w => core_any n.too w)
  cases hh : n.has
  · rw [hh] at f6
    have hth : v3.there wb 8 TBlk.Z.size := there_of HM.out (by rw [(Nt.Ok.isN (n := m) (hmD ▸ hn)).1]; decide)
    have s8 : (TBlk.st (.pointer (some ⟨wb, 8, none⟩)) (.agg #[.int .u32 0, .int .u32 0, .int .u32 0, .int .u32 0, .int .u32 0, .int .u32 0, .int .u32 0, .int .u32 0, .int .u32 0, .int .u32 0, .int .u32 0, .int .u32 0, .int .u32 0, .int .u32 0, .int .u32 0, .int .u32 0])).run Tryz.prog v3 = .ok () (v3.setCells wb 8 TBlk.Z.toList) := run_storeAt_mid v3 wb 8 35 TBlk.Z hth (by rw [TBlk.infoS]; rfl) TBlk.isZ.all
    have hM := blk_setCells TBlk.Z.toList 8 v3 _ HM.out
    have hus := upd_setCells (b := wb) TBlk.Z.toList 8 v3
    have hN := HN.out.upd hus (fun e => hne e)
    have hU := HUv.out.trans hus (fun k hk e => by have := HLT.out; have e : k = wb := e; omega)
    have hc2 : setMany m.cells 8 TBlk.Z.toList = (wantN 12 n).cells := by rw [set_D (by rw [hmD]; exact hn.1), ← hm]; unfold wantN; simp only [hh]; rfl
    rw [hc2] at hM
    obtain ⟨x, hx⟩ : ∃ W, v3.setCells wb 8 TBlk.Z.toList = W := ⟨_, rfl⟩
    rw [hx] at hM hN hU
    clear HM HN HUv hc2 hus
    have HM := Lib.hid hM; have HN := Lib.hid hN; have HUv := Lib.hid hU; have HX := Lib.hid hx
    clear hM hN hU hx hth
    have hWd : IsU (wantN 12 n).D := by unfold wantN; simp only [hh]; exact BU.isU_Z
    go_upto_region 22 with fail
    rw [HX.out]
    clear HX s8 f6
    have hld1 := TNot.ld_at (Nt.Ok.isN hn) HN.out.whole
    have hld2 := TNot.ld_at (Nt.Ok.isN hWd) HM.out.whole
    have hq := eqN_run hn hWd x
    generalize n.same (wantN 12 n) = sm at *
    cases hcb : coreB n.too
    · rw [hcb] at HC
      go_wp2_with fail
      refine (HC.out _).mono ?_
      rintro e w9 ⟨rfl, rfl⟩
      go_wp2
      go_ret
      exact ⟨by rw [HFIN.out, hcb]; rfl, HUv.out⟩
    · rw [hcb] at HC
      cases hat : (n.frm == (-1 : Int))
      · go_wp2_with fail
        refine (HC.out _).mono ?_
        rintro e w9 ⟨rfl, rfl⟩
        go_wp2
        go_ret
        exact ⟨by rw [HFIN.out, hcb, hat]; simp, HUv.out⟩
      · go_wp2_with fail
        refine (HC.out _).mono ?_
        rintro e w9 ⟨rfl, rfl⟩
        go_wp2
        go_ret
        exact ⟨by rw [HFIN.out, hcb, hat]; simp, HUv.out⟩
  · rw [hh] at f6
    have hWd : IsU (wantN 12 n).D := by unfold wantN; simp only [hh]; exact hn
    have hmw : m = wantN 12 n := by rw [← hm]; unfold wantN; simp only [hh]; rfl
    rw [hmw] at HM
    go_upto_region 22 with fail
    clear f6
    have hld1 := TNot.ld_at (Nt.Ok.isN hn) HN.out.whole
    have hld2 := TNot.ld_at (Nt.Ok.isN hWd) HM.out.whole
    have hq := eqN_run hn hWd v3
    generalize n.same (wantN 12 n) = sm at *
    cases hcb : coreB n.too
    · rw [hcb] at HC
      go_wp2_with fail
      refine (HC.out _).mono ?_
      rintro e w9 ⟨rfl, rfl⟩
      go_wp2
      go_ret
      exact ⟨by rw [HFIN.out, hcb]; rfl, HUv.out⟩
    · rw [hcb] at HC
      cases hat : (n.frm == (-1 : Int))
      · go_wp2_with fail
        refine (HC.out _).mono ?_
        rintro e w9 ⟨rfl, rfl⟩
        go_wp2
        go_ret
        exact ⟨by rw [HFIN.out, hcb, hat]; simp, HUv.out⟩
      · go_wp2_with fail
        refine (HC.out _).mono ?_
        rintro e w9 ⟨rfl, rfl⟩
        go_wp2
        go_ret
        exact ⟨by rw [HFIN.out, hcb, hat]; simp, HUv.out⟩
set_option maxRecDepth 100000 in
set_option maxHeartbeats 1000000 in
theorem may_0 (n : Nt) (hn : IsU n.D) (hk : 1 ≤ n.kind ∧ n.kind ≤ 11) (hb : 0 ≤ n.blk ∧ n.blk ≤ 255) (hu : usesN n.kind = 0) (w : World) : Calls Tryz.prog 130 #[.agg n.cells] w fun e w' => e = .returned (.bool (finN 0 n)) ∧ Upd NoF w w' := by
  have q1 : (bits .and .i64 0 1 != 0) = false := by kernel_rfl
  have q2 : (bits .and .i64 0 2 == 0) = true := by kernel_rfl
  have q4 : (bits .and .i64 0 4 == 0) = true := by kernel_rfl
  have q32 : (bits .and .i64 0 32 == 0) = true := by kernel_rfl
  have q8 : (bits .and .i64 0 8 != 0) = false := by kernel_rfl
  have q16 : (bits .and .i64 0 16 == 0) = true := by kernel_rfl
  have hkb : kindB n.kind = true := by simp [kindB, hk.1, hk.2]
  have HK := kind_any n.kind
  rw [hkb] at HK
  have HKh := Lib.hid HK
  have HU := uses_any n.kind hk.1 hk.2
  rw [hu] at HU
  have HUh := Lib.hid HU
  clear HK HU hkb hk hu
  have hb1 : decide (n.blk < 0) = false := by simp; omega
  have hb2 : decide (256 ≤ n.blk) = false := by simp; omega
  obtain ⟨w1, hw1⟩ : ∃ W, w.alloc (.cells n.cells 37) = W := ⟨_, rfl⟩
  have HB1 : Hid (Blk w1 w.heap.size n.cells 37) := Lib.hid (by rw [← hw1]; exact Blk.new w _ _)
  have HU1 : Hid (Upd NoF w w1) := Lib.hid (by rw [← hw1]; exact Upd.alloc NoF w _)
  have HW1 := Lib.hid hw1
  clear hw1 hb
  have f0 : w1.cell? ⟨w.heap.size, 0, none⟩ = some (.int .u8 n.kind) := (HB1.out.cell 0).trans n.get0
  have f3 : w1.cell? ⟨w.heap.size, 3, none⟩ = some (.int .i64 n.blk) := (HB1.out.cell 3).trans n.get3
  have e0 := n.get0
  have e3 := n.get3
  go_enter Tryz.func130, Tryz.ntmps130
  go_wp2_with fail
  rw [HW1.out]
  clear e0 e3
  refine (HKh.out w1).mono ?_
  rintro e w1 ⟨rfl, rfl⟩
  go_wp2_with fail
  refine (HUh.out _).mono ?_
  rintro e w2 ⟨rfl, hu⟩
  have HB2 := Lib.hid (HB1.out.upd hu (fun h => h))
  have HU2 := Lib.hid (HU1.out.trans hu (fun _ _ h => h))
  clear hu f0 f3
  have g1 : w2.cell? ⟨w.heap.size, 1, none⟩ = some (.int .i64 n.frm) := (HB2.out.cell 1).trans n.get1
  have g2 : w2.cell? ⟨w.heap.size, 2, none⟩ = some (.int .i64 n.too) := (HB2.out.cell 2).trans n.get2
  go_wp2_with fail
  go_quiet (fail)
  obtain ⟨w3, hw3, hhe, hu⟩ := drewN_is w2 nq
  rw [hw3]
  have HB3 := Lib.hid (HB2.out.upd hu (fun h => h))
  have HU3 := Lib.hid (HU2.out.trans hu (fun _ _ h => h))
  clear hw3 hu g1 g2 hhe
  have l7 := TNot.ld_at (Nt.Ok.isN hn) HB3.out.whole
  have l7a := TNot.ld_at (Nt.Ok.isN hn) (HB3.out.alloc (.cells TNot.Z 37)).whole
  have s7 := TNot.st_new (Nt.Ok.isN hn) w3
  have hlt := HB3.out.lt
  have hne : w.heap.size ≠ w3.heap.size := by omega
  obtain ⟨v, hv⟩ : ∃ W, w3.alloc (.cells n.cells 37) = W := ⟨_, rfl⟩
  have HN : Hid (Blk v w.heap.size n.cells 37) := Lib.hid (by rw [← hv]; exact HB3.out.alloc _)
  have HM : Hid (Blk v w3.heap.size n.cells 37) := Lib.hid (by rw [← hv]; exact Blk.new _ _ _)
  have HUv : Hid (Upd NoF w v) := Lib.hid (by rw [← hv]; exact HU3.out.trans (Upd.alloc NoF _ _) (fun _ _ h => h))
  have HV := Lib.hid hv
  have HLT := Lib.hid (show w.heap.size ≤ w3.heap.size by omega)
  clear hv hlt
  go_upto_region 8 with fail
  rw [HV.out]
  clear l7 l7a s7 HV
  obtain ⟨wb, hwb⟩ : ∃ b, w3.heap.size = b := ⟨_, rfl⟩
  rw [hwb] at HM HLT hne ⊢
  clear hwb
  have fz := HM.out.frozen 4
  have fc : v.cell? ⟨wb, 4, none⟩ = some (.int .u64 n.stamp) := (HM.out.cell 4).trans (by simp [Array.getElem?_setIfInBounds, n.get4])
  have hM := HM.out.set 4 (.int .u64 0)
  have hN := HN.out.other 4 (.int .u64 0) hne
  have hU := HUv.out.trans (Upd.setCell (F := fun k => k = wb) v (p := ⟨wb, 4, none⟩) rfl (.int .u64 0)) (fun k hk e => by have := HLT.out; have e : k = wb := e; omega)
  obtain ⟨v1, hv⟩ : ∃ W, v.setCell ⟨wb, 4, none⟩ (.int .u64 0) = W := ⟨_, rfl⟩
  rw [hv] at hM hN hU
  clear HM HN HUv
  have HM := Lib.hid hM; have HN := Lib.hid hN; have HUv := Lib.hid hU
  have HV := Lib.hid hv
  clear hM hN hU hv
  go_upto_region 10 with fail
  rw [HV.out]
  clear HV fz fc
  have fz := HM.out.frozen 5
  have fc : v1.cell? ⟨wb, 5, none⟩ = some (.int .u8 n.state) := (HM.out.cell 5).trans (by simp [Array.getElem?_setIfInBounds, n.get5])
  have hM := HM.out.set 5 (.int .u8 0)
  have hN := HN.out.other 5 (.int .u8 0) hne
  have hU := HUv.out.trans (Upd.setCell (F := fun k => k = wb) v1 (p := ⟨wb, 5, none⟩) rfl (.int .u8 0)) (fun k hk e => by have := HLT.out; have e : k = wb := e; omega)
  obtain ⟨v2, hv⟩ : ∃ W, v1.setCell ⟨wb, 5, none⟩ (.int .u8 0) = W := ⟨_, rfl⟩
  rw [hv] at hM hN hU
  clear HM HN HUv
  have HM := Lib.hid hM; have HN := Lib.hid hN; have HUv := Lib.hid hU
  have HV := Lib.hid hv
  clear hM hN hU hv
  go_upto_region 14 with fail
  rw [HV.out]
  clear HV fz fc
  have fz := HM.out.frozen 7
  have fc : v2.cell? ⟨wb, 7, none⟩ = some (.bool n.stick) := (HM.out.cell 7).trans (by simp [Array.getElem?_setIfInBounds, n.get7])
  have hM := HM.out.set 7 (.bool false)
  have hN := HN.out.other 7 (.bool false) hne
  have hU := HUv.out.trans (Upd.setCell (F := fun k => k = wb) v2 (p := ⟨wb, 7, none⟩) rfl (.bool false)) (fun k hk e => by have := HLT.out; have e : k = wb := e; omega)
  obtain ⟨v3, hv⟩ : ∃ W, v2.setCell ⟨wb, 7, none⟩ (.bool false) = W := ⟨_, rfl⟩
  rw [hv] at hM hN hU
  clear HM HN HUv
  have HM := Lib.hid hM; have HN := Lib.hid hN; have HUv := Lib.hid hU
  have HV := Lib.hid hv
  clear hM hN hU hv
  go_upto_region 16 with fail
  rw [HV.out]
  clear HV fz fc
  have fz := HM.out.frozen 6
  have fc : v3.cell? ⟨wb, 6, none⟩ = some (.bool n.has) := (HM.out.cell 6).trans (by simp [Array.getElem?_setIfInBounds, n.get6])
  have hM := HM.out.set 6 (.bool false)
  have hN := HN.out.other 6 (.bool false) hne
  have hU := HUv.out.trans (Upd.setCell (F := fun k => k = wb) v3 (p := ⟨wb, 6, none⟩) rfl (.bool false)) (fun k hk e => by have := HLT.out; have e : k = wb := e; omega)
  obtain ⟨v4, hv⟩ : ∃ W, v3.setCell ⟨wb, 6, none⟩ (.bool false) = W := ⟨_, rfl⟩
  rw [hv] at hM hN hU
  clear HM HN HUv
  have HM := Lib.hid hM; have HN := Lib.hid hN; have HUv := Lib.hid hU
  have HV := Lib.hid hv
  clear hM hN hU hv
  go_upto_region 20 with fail
  rw [HV.out]
  clear HV fz fc
  have f6 : v4.cell? ⟨w.heap.size, 6, none⟩ = some (.bool n.has) := (HN.out.cell 6).trans n.get6
  have hc : ((((n.cells.setIfInBounds 4 (.int .u64 0)).setIfInBounds 5 (.int .u8 0)).setIfInBounds 7 (.bool false)).setIfInBounds 6 (.bool false)) = ({ wantN 0 n with D := n.D } : Nt).cells := by
    obtain ⟨kind, frm, too, blk, stamp, state, has, stick, D⟩ := n
    obtain ⟨d0, d1, d2, d3, d4, d5, d6, d7, d8, d9, d10, d11, d12, d13, d14, d15, rfl⟩ := BU.split16 hn.1
    kernel_rfl
  rw [hc] at HM
  obtain ⟨m, hm⟩ : ∃ m : Nt, ({ wantN 0 n with D := n.D } : Nt) = m := ⟨_, rfl⟩
  rw [hm] at HM
  have hmD : m.D = n.D := by rw [← hm]
  clear hc
  have hfin : finN 0 n = (coreB n.too && (n.frm == -1 && n.same (wantN 0 n))) := by unfold finN; simp
  have HFIN := Lib.hid hfin
  clear hfin
  have HC := Lib.hid (fun w => core_any n.too w)
  cases hh : n.has
  · rw [hh] at f6
    have hth : v4.there wb 8 TBlk.Z.size := there_of HM.out (by rw [(Nt.Ok.isN (n := m) (hmD ▸ hn)).1]; decide)
    have s8 : (TBlk.st (.pointer (some ⟨wb, 8, none⟩)) (.agg #[.int .u32 0, .int .u32 0, .int .u32 0, .int .u32 0, .int .u32 0, .int .u32 0, .int .u32 0, .int .u32 0, .int .u32 0, .int .u32 0, .int .u32 0, .int .u32 0, .int .u32 0, .int .u32 0, .int .u32 0, .int .u32 0])).run Tryz.prog v4 = .ok () (v4.setCells wb 8 TBlk.Z.toList) := run_storeAt_mid v4 wb 8 35 TBlk.Z hth (by rw [TBlk.infoS]; rfl) TBlk.isZ.all
    have hM := blk_setCells TBlk.Z.toList 8 v4 _ HM.out
    have hus := upd_setCells (b := wb) TBlk.Z.toList 8 v4
    have hN := HN.out.upd hus (fun e => hne e)
    have hU := HUv.out.trans hus (fun k hk e => by have := HLT.out; have e : k = wb := e; omega)
    have hc2 : setMany m.cells 8 TBlk.Z.toList = (wantN 0 n).cells := by rw [set_D (by rw [hmD]; exact hn.1), ← hm]; unfold wantN; simp only [hh]; rfl
    rw [hc2] at hM
    obtain ⟨x, hx⟩ : ∃ W, v4.setCells wb 8 TBlk.Z.toList = W := ⟨_, rfl⟩
    rw [hx] at hM hN hU
    clear HM HN HUv hc2 hus
    have HM := Lib.hid hM; have HN := Lib.hid hN; have HUv := Lib.hid hU; have HX := Lib.hid hx
    clear hM hN hU hx hth
    have hWd : IsU (wantN 0 n).D := by unfold wantN; simp only [hh]; exact BU.isU_Z
    go_upto_region 22 with fail
    rw [HX.out]
    clear HX s8 f6
    have hld1 := TNot.ld_at (Nt.Ok.isN hn) HN.out.whole
    have hld2 := TNot.ld_at (Nt.Ok.isN hWd) HM.out.whole
    have hq := eqN_run hn hWd x
    generalize n.same (wantN 0 n) = sm at *
    cases hcb : coreB n.too
    · rw [hcb] at HC
      go_wp2_with fail
      refine (HC.out _).mono ?_
      rintro e w9 ⟨rfl, rfl⟩
      go_wp2
      go_ret
      exact ⟨by rw [HFIN.out, hcb]; rfl, HUv.out⟩
    · rw [hcb] at HC
      cases hat : (n.frm == (-1 : Int))
      · go_wp2_with fail
        refine (HC.out _).mono ?_
        rintro e w9 ⟨rfl, rfl⟩
        go_wp2
        go_ret
        exact ⟨by rw [HFIN.out, hcb, hat]; simp, HUv.out⟩
      · go_wp2_with fail
        refine (HC.out _).mono ?_
        rintro e w9 ⟨rfl, rfl⟩
        go_wp2
        go_ret
        exact ⟨by rw [HFIN.out, hcb, hat]; simp, HUv.out⟩
  · rw [hh] at f6
    have hWd : IsU (wantN 0 n).D := by unfold wantN; simp only [hh]; exact hn
    have hmw : m = wantN 0 n := by rw [← hm]; unfold wantN; simp only [hh]; rfl
    rw [hmw] at HM
    go_upto_region 22 with fail
    clear f6
    have hld1 := TNot.ld_at (Nt.Ok.isN hn) HN.out.whole
    have hld2 := TNot.ld_at (Nt.Ok.isN hWd) HM.out.whole
    have hq := eqN_run hn hWd v4
    generalize n.same (wantN 0 n) = sm at *
    cases hcb : coreB n.too
    · rw [hcb] at HC
      go_wp2_with fail
      refine (HC.out _).mono ?_
      rintro e w9 ⟨rfl, rfl⟩
      go_wp2
      go_ret
      exact ⟨by rw [HFIN.out, hcb]; rfl, HUv.out⟩
    · rw [hcb] at HC
      cases hat : (n.frm == (-1 : Int))
      · go_wp2_with fail
        refine (HC.out _).mono ?_
        rintro e w9 ⟨rfl, rfl⟩
        go_wp2
        go_ret
        exact ⟨by rw [HFIN.out, hcb, hat]; simp, HUv.out⟩
      · go_wp2_with fail
        refine (HC.out _).mono ?_
        rintro e w9 ⟨rfl, rfl⟩
        go_wp2
        go_ret
        exact ⟨by rw [HFIN.out, hcb, hat]; simp, HUv.out⟩
set_option maxRecDepth 100000 in
set_option maxHeartbeats 1000000 in
theorem may_17 (n : Nt) (hn : IsU n.D) (hk : 1 ≤ n.kind ∧ n.kind ≤ 11) (hb : 0 ≤ n.blk ∧ n.blk ≤ 255) (hu : usesN n.kind = 17) (w : World) : Calls Tryz.prog 130 #[.agg n.cells] w fun e w' => e = .returned (.bool (finN 17 n)) ∧ Upd NoF w w' := by
  have q1 : (bits .and .i64 17 1 != 0) = true := by kernel_rfl
  have q2 : (bits .and .i64 17 2 == 0) = true := by kernel_rfl
  have q4 : (bits .and .i64 17 4 == 0) = true := by kernel_rfl
  have q32 : (bits .and .i64 17 32 == 0) = true := by kernel_rfl
  have q8 : (bits .and .i64 17 8 != 0) = false := by kernel_rfl
  have q16 : (bits .and .i64 17 16 == 0) = false := by kernel_rfl
  have hkb : kindB n.kind = true := by simp [kindB, hk.1, hk.2]
  have HK := kind_any n.kind
  rw [hkb] at HK
  have HKh := Lib.hid HK
  have HU := uses_any n.kind hk.1 hk.2
  rw [hu] at HU
  have HUh := Lib.hid HU
  clear HK HU hkb hk hu
  have hb1 : decide (n.blk < 0) = false := by simp; omega
  have hb2 : decide (256 ≤ n.blk) = false := by simp; omega
  obtain ⟨w1, hw1⟩ : ∃ W, w.alloc (.cells n.cells 37) = W := ⟨_, rfl⟩
  have HB1 : Hid (Blk w1 w.heap.size n.cells 37) := Lib.hid (by rw [← hw1]; exact Blk.new w _ _)
  have HU1 : Hid (Upd NoF w w1) := Lib.hid (by rw [← hw1]; exact Upd.alloc NoF w _)
  have HW1 := Lib.hid hw1
  clear hw1 hb
  have f0 : w1.cell? ⟨w.heap.size, 0, none⟩ = some (.int .u8 n.kind) := (HB1.out.cell 0).trans n.get0
  have f3 : w1.cell? ⟨w.heap.size, 3, none⟩ = some (.int .i64 n.blk) := (HB1.out.cell 3).trans n.get3
  have e0 := n.get0
  have e3 := n.get3
  go_enter Tryz.func130, Tryz.ntmps130
  go_wp2_with fail
  rw [HW1.out]
  clear e0 e3
  refine (HKh.out w1).mono ?_
  rintro e w1 ⟨rfl, rfl⟩
  go_wp2_with fail
  refine (HUh.out _).mono ?_
  rintro e w2 ⟨rfl, hu⟩
  have HB2 := Lib.hid (HB1.out.upd hu (fun h => h))
  have HU2 := Lib.hid (HU1.out.trans hu (fun _ _ h => h))
  clear hu f0 f3
  have g1 : w2.cell? ⟨w.heap.size, 1, none⟩ = some (.int .i64 n.frm) := (HB2.out.cell 1).trans n.get1
  have g2 : w2.cell? ⟨w.heap.size, 2, none⟩ = some (.int .i64 n.too) := (HB2.out.cell 2).trans n.get2
  go_wp2_with fail
  go_quiet (fail)
  obtain ⟨w3, hw3, hhe, hu⟩ := drewN_is w2 nq
  rw [hw3]
  have HB3 := Lib.hid (HB2.out.upd hu (fun h => h))
  have HU3 := Lib.hid (HU2.out.trans hu (fun _ _ h => h))
  clear hw3 hu g1 g2 hhe
  have g1 : w3.cell? ⟨w.heap.size, 1, none⟩ = some (.int .i64 n.frm) := (HB3.out.cell 1).trans n.get1
  have g2 : w3.cell? ⟨w.heap.size, 2, none⟩ = some (.int .i64 n.too) := (HB3.out.cell 2).trans n.get2
  go_wp2_with fail
  go_quiet (fail)
  obtain ⟨w4, hw4, hhe, hu⟩ := drewN_is w3 nq
  rw [hw4]
  have HB4 := Lib.hid (HB3.out.upd hu (fun h => h))
  have HU4 := Lib.hid (HU3.out.trans hu (fun _ _ h => h))
  clear hw4 hu g1 g2 hhe
  have l7 := TNot.ld_at (Nt.Ok.isN hn) HB4.out.whole
  have l7a := TNot.ld_at (Nt.Ok.isN hn) (HB4.out.alloc (.cells TNot.Z 37)).whole
  have s7 := TNot.st_new (Nt.Ok.isN hn) w4
  have hlt := HB4.out.lt
  have hne : w.heap.size ≠ w4.heap.size := by omega
  obtain ⟨v, hv⟩ : ∃ W, w4.alloc (.cells n.cells 37) = W := ⟨_, rfl⟩
  have HN : Hid (Blk v w.heap.size n.cells 37) := Lib.hid (by rw [← hv]; exact HB4.out.alloc _)
  have HM : Hid (Blk v w4.heap.size n.cells 37) := Lib.hid (by rw [← hv]; exact Blk.new _ _ _)
  have HUv : Hid (Upd NoF w v) := Lib.hid (by rw [← hv]; exact HU4.out.trans (Upd.alloc NoF _ _) (fun _ _ h => h))
  have HV := Lib.hid hv
  have HLT := Lib.hid (show w.heap.size ≤ w4.heap.size by omega)
  clear hv hlt
  go_upto_region 8 with fail
  rw [HV.out]
  clear l7 l7a s7 HV
  obtain ⟨wb, hwb⟩ : ∃ b, w4.heap.size = b := ⟨_, rfl⟩
  rw [hwb] at HM HLT hne ⊢
  clear hwb
  have fz := HM.out.frozen 4
  have fc : v.cell? ⟨wb, 4, none⟩ = some (.int .u64 n.stamp) := (HM.out.cell 4).trans (by simp [Array.getElem?_setIfInBounds, n.get4])
  have hM := HM.out.set 4 (.int .u64 0)
  have hN := HN.out.other 4 (.int .u64 0) hne
  have hU := HUv.out.trans (Upd.setCell (F := fun k => k = wb) v (p := ⟨wb, 4, none⟩) rfl (.int .u64 0)) (fun k hk e => by have := HLT.out; have e : k = wb := e; omega)
  obtain ⟨v1, hv⟩ : ∃ W, v.setCell ⟨wb, 4, none⟩ (.int .u64 0) = W := ⟨_, rfl⟩
  rw [hv] at hM hN hU
  clear HM HN HUv
  have HM := Lib.hid hM; have HN := Lib.hid hN; have HUv := Lib.hid hU
  have HV := Lib.hid hv
  clear hM hN hU hv
  go_upto_region 10 with fail
  rw [HV.out]
  clear HV fz fc
  have fz := HM.out.frozen 5
  have fc : v1.cell? ⟨wb, 5, none⟩ = some (.int .u8 n.state) := (HM.out.cell 5).trans (by simp [Array.getElem?_setIfInBounds, n.get5])
  have hM := HM.out.set 5 (.int .u8 0)
  have hN := HN.out.other 5 (.int .u8 0) hne
  have hU := HUv.out.trans (Upd.setCell (F := fun k => k = wb) v1 (p := ⟨wb, 5, none⟩) rfl (.int .u8 0)) (fun k hk e => by have := HLT.out; have e : k = wb := e; omega)
  obtain ⟨v2, hv⟩ : ∃ W, v1.setCell ⟨wb, 5, none⟩ (.int .u8 0) = W := ⟨_, rfl⟩
  rw [hv] at hM hN hU
  clear HM HN HUv
  have HM := Lib.hid hM; have HN := Lib.hid hN; have HUv := Lib.hid hU
  have HV := Lib.hid hv
  clear hM hN hU hv
  go_upto_region 14 with fail
  rw [HV.out]
  clear HV fz fc
  have fz := HM.out.frozen 7
  have fc : v2.cell? ⟨wb, 7, none⟩ = some (.bool n.stick) := (HM.out.cell 7).trans (by simp [Array.getElem?_setIfInBounds, n.get7])
  have hM := HM.out.set 7 (.bool false)
  have hN := HN.out.other 7 (.bool false) hne
  have hU := HUv.out.trans (Upd.setCell (F := fun k => k = wb) v2 (p := ⟨wb, 7, none⟩) rfl (.bool false)) (fun k hk e => by have := HLT.out; have e : k = wb := e; omega)
  obtain ⟨v3, hv⟩ : ∃ W, v2.setCell ⟨wb, 7, none⟩ (.bool false) = W := ⟨_, rfl⟩
  rw [hv] at hM hN hU
  clear HM HN HUv
  have HM := Lib.hid hM; have HN := Lib.hid hN; have HUv := Lib.hid hU
  have HV := Lib.hid hv
  clear hM hN hU hv
  go_upto_region 16 with fail
  rw [HV.out]
  clear HV fz fc
  have f6 : v3.cell? ⟨w.heap.size, 6, none⟩ = some (.bool n.has) := (HN.out.cell 6).trans n.get6
  have hc : (((n.cells.setIfInBounds 4 (.int .u64 0)).setIfInBounds 5 (.int .u8 0)).setIfInBounds 7 (.bool false)) = ({ wantN 17 n with D := n.D } : Nt).cells := by
    obtain ⟨kind, frm, too, blk, stamp, state, has, stick, D⟩ := n
    obtain ⟨d0, d1, d2, d3, d4, d5, d6, d7, d8, d9, d10, d11, d12, d13, d14, d15, rfl⟩ := BU.split16 hn.1
    kernel_rfl
  rw [hc] at HM
  obtain ⟨m, hm⟩ : ∃ m : Nt, ({ wantN 17 n with D := n.D } : Nt) = m := ⟨_, rfl⟩
  rw [hm] at HM
  have hmD : m.D = n.D := by rw [← hm]
  clear hc
  have hfin : finN 17 n = (coreB n.frm && (n.too == -1 && n.same (wantN 17 n))) := by unfold finN; simp
  have HFIN := Lib.hid hfin
  clear hfin
  have HC := Lib.hid (fun w => core_any n.frm w)
  cases hh : n.has
  · rw [hh] at f6
    have hth : v3.there wb 8 TBlk.Z.size := there_of HM.out (by rw [(Nt.Ok.isN (n := m) (hmD ▸ hn)).1]; decide)
    have s8 : (TBlk.st (.pointer (some ⟨wb, 8, none⟩)) (.agg #[.int .u32 0, .int .u32 0, .int .u32 0, .int .u32 0, .int .u32 0, .int .u32 0, .int .u32 0, .int .u32 0, .int .u32 0, .int .u32 0, .int .u32 0, .int .u32 0, .int .u32 0, .int .u32 0, .int .u32 0, .int .u32 0])).run Tryz.prog v3 = .ok () (v3.setCells wb 8 TBlk.Z.toList) := run_storeAt_mid v3 wb 8 35 TBlk.Z hth (by rw [TBlk.infoS]; rfl) TBlk.isZ.all
    have hM := blk_setCells TBlk.Z.toList 8 v3 _ HM.out
    have hus := upd_setCells (b := wb) TBlk.Z.toList 8 v3
    have hN := HN.out.upd hus (fun e => hne e)
    have hU := HUv.out.trans hus (fun k hk e => by have := HLT.out; have e : k = wb := e; omega)
    have hc2 : setMany m.cells 8 TBlk.Z.toList = (wantN 17 n).cells := by rw [set_D (by rw [hmD]; exact hn.1), ← hm]; unfold wantN; simp only [hh]; rfl
    rw [hc2] at hM
    obtain ⟨x, hx⟩ : ∃ W, v3.setCells wb 8 TBlk.Z.toList = W := ⟨_, rfl⟩
    rw [hx] at hM hN hU
    clear HM HN HUv hc2 hus
    have HM := Lib.hid hM; have HN := Lib.hid hN; have HUv := Lib.hid hU; have HX := Lib.hid hx
    clear hM hN hU hx hth
    have hWd : IsU (wantN 17 n).D := by unfold wantN; simp only [hh]; exact BU.isU_Z
    go_upto_region 22 with fail
    rw [HX.out]
    clear HX s8 f6
    have hld1 := TNot.ld_at (Nt.Ok.isN hn) HN.out.whole
    have hld2 := TNot.ld_at (Nt.Ok.isN hWd) HM.out.whole
    have hq := eqN_run hn hWd x
    generalize n.same (wantN 17 n) = sm at *
    cases hcb : coreB n.frm
    · rw [hcb] at HC
      go_wp2_with fail
      refine (HC.out _).mono ?_
      rintro e w9 ⟨rfl, rfl⟩
      go_wp2
      go_ret
      exact ⟨by rw [HFIN.out, hcb]; rfl, HUv.out⟩
    · rw [hcb] at HC
      cases hat : (n.too == (-1 : Int))
      · go_wp2_with fail
        refine (HC.out _).mono ?_
        rintro e w9 ⟨rfl, rfl⟩
        go_wp2
        go_ret
        exact ⟨by rw [HFIN.out, hcb, hat]; simp, HUv.out⟩
      · go_wp2_with fail
        refine (HC.out _).mono ?_
        rintro e w9 ⟨rfl, rfl⟩
        go_wp2
        go_ret
        exact ⟨by rw [HFIN.out, hcb, hat]; simp, HUv.out⟩
  · rw [hh] at f6
    have hWd : IsU (wantN 17 n).D := by unfold wantN; simp only [hh]; exact hn
    have hmw : m = wantN 17 n := by rw [← hm]; unfold wantN; simp only [hh]; rfl
    rw [hmw] at HM
    go_upto_region 22 with fail
    clear f6
    have hld1 := TNot.ld_at (Nt.Ok.isN hn) HN.out.whole
    have hld2 := TNot.ld_at (Nt.Ok.isN hWd) HM.out.whole
    have hq := eqN_run hn hWd v3
    generalize n.same (wantN 17 n) = sm at *
    cases hcb : coreB n.frm
    · rw [hcb] at HC
      go_wp2_with fail
      refine (HC.out _).mono ?_
      rintro e w9 ⟨rfl, rfl⟩
      go_wp2
      go_ret
      exact ⟨by rw [HFIN.out, hcb]; rfl, HUv.out⟩
    · rw [hcb] at HC
      cases hat : (n.too == (-1 : Int))
      · go_wp2_with fail
        refine (HC.out _).mono ?_
        rintro e w9 ⟨rfl, rfl⟩
        go_wp2
        go_ret
        exact ⟨by rw [HFIN.out, hcb, hat]; simp, HUv.out⟩
      · go_wp2_with fail
        refine (HC.out _).mono ?_
        rintro e w9 ⟨rfl, rfl⟩
        go_wp2
        go_ret
        exact ⟨by rw [HFIN.out, hcb, hat]; simp, HUv.out⟩
set_option maxRecDepth 100000 in
set_option maxHeartbeats 1000000 in
theorem may_1 (n : Nt) (hn : IsU n.D) (hk : 1 ≤ n.kind ∧ n.kind ≤ 11) (hb : 0 ≤ n.blk ∧ n.blk ≤ 255) (hu : usesN n.kind = 1) (w : World) : Calls Tryz.prog 130 #[.agg n.cells] w fun e w' => e = .returned (.bool (finN 1 n)) ∧ Upd NoF w w' := by
  have q1 : (bits .and .i64 1 1 != 0) = true := by kernel_rfl
  have q2 : (bits .and .i64 1 2 == 0) = true := by kernel_rfl
  have q4 : (bits .and .i64 1 4 == 0) = true := by kernel_rfl
  have q32 : (bits .and .i64 1 32 == 0) = true := by kernel_rfl
  have q8 : (bits .and .i64 1 8 != 0) = false := by kernel_rfl
  have q16 : (bits .and .i64 1 16 == 0) = true := by kernel_rfl
  have hkb : kindB n.kind = true := by simp [kindB, hk.1, hk.2]
  have HK := kind_any n.kind
  rw [hkb] at HK
  have HKh := Lib.hid HK
  have HU := uses_any n.kind hk.1 hk.2
  rw [hu] at HU
  have HUh := Lib.hid HU
  clear HK HU hkb hk hu
  have hb1 : decide (n.blk < 0) = false := by simp; omega
  have hb2 : decide (256 ≤ n.blk) = false := by simp; omega
  obtain ⟨w1, hw1⟩ : ∃ W, w.alloc (.cells n.cells 37) = W := ⟨_, rfl⟩
  have HB1 : Hid (Blk w1 w.heap.size n.cells 37) := Lib.hid (by rw [← hw1]; exact Blk.new w _ _)
  have HU1 : Hid (Upd NoF w w1) := Lib.hid (by rw [← hw1]; exact Upd.alloc NoF w _)
  have HW1 := Lib.hid hw1
  clear hw1 hb
  have f0 : w1.cell? ⟨w.heap.size, 0, none⟩ = some (.int .u8 n.kind) := (HB1.out.cell 0).trans n.get0
  have f3 : w1.cell? ⟨w.heap.size, 3, none⟩ = some (.int .i64 n.blk) := (HB1.out.cell 3).trans n.get3
  have e0 := n.get0
  have e3 := n.get3
  go_enter Tryz.func130, Tryz.ntmps130
  go_wp2_with fail
  rw [HW1.out]
  clear e0 e3
  refine (HKh.out w1).mono ?_
  rintro e w1 ⟨rfl, rfl⟩
  go_wp2_with fail
  refine (HUh.out _).mono ?_
  rintro e w2 ⟨rfl, hu⟩
  have HB2 := Lib.hid (HB1.out.upd hu (fun h => h))
  have HU2 := Lib.hid (HU1.out.trans hu (fun _ _ h => h))
  clear hu f0 f3
  have g1 : w2.cell? ⟨w.heap.size, 1, none⟩ = some (.int .i64 n.frm) := (HB2.out.cell 1).trans n.get1
  have g2 : w2.cell? ⟨w.heap.size, 2, none⟩ = some (.int .i64 n.too) := (HB2.out.cell 2).trans n.get2
  go_wp2_with fail
  go_quiet (fail)
  obtain ⟨w3, hw3, hhe, hu⟩ := drewN_is w2 nq
  rw [hw3]
  have HB3 := Lib.hid (HB2.out.upd hu (fun h => h))
  have HU3 := Lib.hid (HU2.out.trans hu (fun _ _ h => h))
  clear hw3 hu g1 g2 hhe
  have g1 : w3.cell? ⟨w.heap.size, 1, none⟩ = some (.int .i64 n.frm) := (HB3.out.cell 1).trans n.get1
  have g2 : w3.cell? ⟨w.heap.size, 2, none⟩ = some (.int .i64 n.too) := (HB3.out.cell 2).trans n.get2
  go_wp2_with fail
  go_quiet (fail)
  obtain ⟨w4, hw4, hhe, hu⟩ := drewN_is w3 nq
  rw [hw4]
  have HB4 := Lib.hid (HB3.out.upd hu (fun h => h))
  have HU4 := Lib.hid (HU3.out.trans hu (fun _ _ h => h))
  clear hw4 hu g1 g2 hhe
  have l7 := TNot.ld_at (Nt.Ok.isN hn) HB4.out.whole
  have l7a := TNot.ld_at (Nt.Ok.isN hn) (HB4.out.alloc (.cells TNot.Z 37)).whole
  have s7 := TNot.st_new (Nt.Ok.isN hn) w4
  have hlt := HB4.out.lt
  have hne : w.heap.size ≠ w4.heap.size := by omega
  obtain ⟨v, hv⟩ : ∃ W, w4.alloc (.cells n.cells 37) = W := ⟨_, rfl⟩
  have HN : Hid (Blk v w.heap.size n.cells 37) := Lib.hid (by rw [← hv]; exact HB4.out.alloc _)
  have HM : Hid (Blk v w4.heap.size n.cells 37) := Lib.hid (by rw [← hv]; exact Blk.new _ _ _)
  have HUv : Hid (Upd NoF w v) := Lib.hid (by rw [← hv]; exact HU4.out.trans (Upd.alloc NoF _ _) (fun _ _ h => h))
  have HV := Lib.hid hv
  have HLT := Lib.hid (show w.heap.size ≤ w4.heap.size by omega)
  clear hv hlt
  go_upto_region 8 with fail
  rw [HV.out]
  clear l7 l7a s7 HV
  obtain ⟨wb, hwb⟩ : ∃ b, w4.heap.size = b := ⟨_, rfl⟩
  rw [hwb] at HM HLT hne ⊢
  clear hwb
  have fz := HM.out.frozen 4
  have fc : v.cell? ⟨wb, 4, none⟩ = some (.int .u64 n.stamp) := (HM.out.cell 4).trans (by simp [Array.getElem?_setIfInBounds, n.get4])
  have hM := HM.out.set 4 (.int .u64 0)
  have hN := HN.out.other 4 (.int .u64 0) hne
  have hU := HUv.out.trans (Upd.setCell (F := fun k => k = wb) v (p := ⟨wb, 4, none⟩) rfl (.int .u64 0)) (fun k hk e => by have := HLT.out; have e : k = wb := e; omega)
  obtain ⟨v1, hv⟩ : ∃ W, v.setCell ⟨wb, 4, none⟩ (.int .u64 0) = W := ⟨_, rfl⟩
  rw [hv] at hM hN hU
  clear HM HN HUv
  have HM := Lib.hid hM; have HN := Lib.hid hN; have HUv := Lib.hid hU
  have HV := Lib.hid hv
  clear hM hN hU hv
  go_upto_region 10 with fail
  rw [HV.out]
  clear HV fz fc
  have fz := HM.out.frozen 5
  have fc : v1.cell? ⟨wb, 5, none⟩ = some (.int .u8 n.state) := (HM.out.cell 5).trans (by simp [Array.getElem?_setIfInBounds, n.get5])
  have hM := HM.out.set 5 (.int .u8 0)
  have hN := HN.out.other 5 (.int .u8 0) hne
  have hU := HUv.out.trans (Upd.setCell (F := fun k => k = wb) v1 (p := ⟨wb, 5, none⟩) rfl (.int .u8 0)) (fun k hk e => by have := HLT.out; have e : k = wb := e; omega)
  obtain ⟨v2, hv⟩ : ∃ W, v1.setCell ⟨wb, 5, none⟩ (.int .u8 0) = W := ⟨_, rfl⟩
  rw [hv] at hM hN hU
  clear HM HN HUv
  have HM := Lib.hid hM; have HN := Lib.hid hN; have HUv := Lib.hid hU
  have HV := Lib.hid hv
  clear hM hN hU hv
  go_upto_region 14 with fail
  rw [HV.out]
  clear HV fz fc
  have fz := HM.out.frozen 7
  have fc : v2.cell? ⟨wb, 7, none⟩ = some (.bool n.stick) := (HM.out.cell 7).trans (by simp [Array.getElem?_setIfInBounds, n.get7])
  have hM := HM.out.set 7 (.bool false)
  have hN := HN.out.other 7 (.bool false) hne
  have hU := HUv.out.trans (Upd.setCell (F := fun k => k = wb) v2 (p := ⟨wb, 7, none⟩) rfl (.bool false)) (fun k hk e => by have := HLT.out; have e : k = wb := e; omega)
  obtain ⟨v3, hv⟩ : ∃ W, v2.setCell ⟨wb, 7, none⟩ (.bool false) = W := ⟨_, rfl⟩
  rw [hv] at hM hN hU
  clear HM HN HUv
  have HM := Lib.hid hM; have HN := Lib.hid hN; have HUv := Lib.hid hU
  have HV := Lib.hid hv
  clear hM hN hU hv
  go_upto_region 16 with fail
  rw [HV.out]
  clear HV fz fc
  have fz := HM.out.frozen 6
  have fc : v3.cell? ⟨wb, 6, none⟩ = some (.bool n.has) := (HM.out.cell 6).trans (by simp [Array.getElem?_setIfInBounds, n.get6])
  have hM := HM.out.set 6 (.bool false)
  have hN := HN.out.other 6 (.bool false) hne
  have hU := HUv.out.trans (Upd.setCell (F := fun k => k = wb) v3 (p := ⟨wb, 6, none⟩) rfl (.bool false)) (fun k hk e => by have := HLT.out; have e : k = wb := e; omega)
  obtain ⟨v4, hv⟩ : ∃ W, v3.setCell ⟨wb, 6, none⟩ (.bool false) = W := ⟨_, rfl⟩
  rw [hv] at hM hN hU
  clear HM HN HUv
  have HM := Lib.hid hM; have HN := Lib.hid hN; have HUv := Lib.hid hU
  have HV := Lib.hid hv
  clear hM hN hU hv
  go_upto_region 20 with fail
  rw [HV.out]
  clear HV fz fc
  have f6 : v4.cell? ⟨w.heap.size, 6, none⟩ = some (.bool n.has) := (HN.out.cell 6).trans n.get6
  have hc : ((((n.cells.setIfInBounds 4 (.int .u64 0)).setIfInBounds 5 (.int .u8 0)).setIfInBounds 7 (.bool false)).setIfInBounds 6 (.bool false)) = ({ wantN 1 n with D := n.D } : Nt).cells := by
    obtain ⟨kind, frm, too, blk, stamp, state, has, stick, D⟩ := n
    obtain ⟨d0, d1, d2, d3, d4, d5, d6, d7, d8, d9, d10, d11, d12, d13, d14, d15, rfl⟩ := BU.split16 hn.1
    kernel_rfl
  rw [hc] at HM
  obtain ⟨m, hm⟩ : ∃ m : Nt, ({ wantN 1 n with D := n.D } : Nt) = m := ⟨_, rfl⟩
  rw [hm] at HM
  have hmD : m.D = n.D := by rw [← hm]
  clear hc
  have hfin : finN 1 n = (coreB n.frm && (n.too == -1 && n.same (wantN 1 n))) := by unfold finN; simp
  have HFIN := Lib.hid hfin
  clear hfin
  have HC := Lib.hid (fun w => core_any n.frm w)
  cases hh : n.has
  · rw [hh] at f6
    have hth : v4.there wb 8 TBlk.Z.size := there_of HM.out (by rw [(Nt.Ok.isN (n := m) (hmD ▸ hn)).1]; decide)
    have s8 : (TBlk.st (.pointer (some ⟨wb, 8, none⟩)) (.agg #[.int .u32 0, .int .u32 0, .int .u32 0, .int .u32 0, .int .u32 0, .int .u32 0, .int .u32 0, .int .u32 0, .int .u32 0, .int .u32 0, .int .u32 0, .int .u32 0, .int .u32 0, .int .u32 0, .int .u32 0, .int .u32 0])).run Tryz.prog v4 = .ok () (v4.setCells wb 8 TBlk.Z.toList) := run_storeAt_mid v4 wb 8 35 TBlk.Z hth (by rw [TBlk.infoS]; rfl) TBlk.isZ.all
    have hM := blk_setCells TBlk.Z.toList 8 v4 _ HM.out
    have hus := upd_setCells (b := wb) TBlk.Z.toList 8 v4
    have hN := HN.out.upd hus (fun e => hne e)
    have hU := HUv.out.trans hus (fun k hk e => by have := HLT.out; have e : k = wb := e; omega)
    have hc2 : setMany m.cells 8 TBlk.Z.toList = (wantN 1 n).cells := by rw [set_D (by rw [hmD]; exact hn.1), ← hm]; unfold wantN; simp only [hh]; rfl
    rw [hc2] at hM
    obtain ⟨x, hx⟩ : ∃ W, v4.setCells wb 8 TBlk.Z.toList = W := ⟨_, rfl⟩
    rw [hx] at hM hN hU
    clear HM HN HUv hc2 hus
    have HM := Lib.hid hM; have HN := Lib.hid hN; have HUv := Lib.hid hU; have HX := Lib.hid hx
    clear hM hN hU hx hth
    have hWd : IsU (wantN 1 n).D := by unfold wantN; simp only [hh]; exact BU.isU_Z
    go_upto_region 22 with fail
    rw [HX.out]
    clear HX s8 f6
    have hld1 := TNot.ld_at (Nt.Ok.isN hn) HN.out.whole
    have hld2 := TNot.ld_at (Nt.Ok.isN hWd) HM.out.whole
    have hq := eqN_run hn hWd x
    generalize n.same (wantN 1 n) = sm at *
    cases hcb : coreB n.frm
    · rw [hcb] at HC
      go_wp2_with fail
      refine (HC.out _).mono ?_
      rintro e w9 ⟨rfl, rfl⟩
      go_wp2
      go_ret
      exact ⟨by rw [HFIN.out, hcb]; rfl, HUv.out⟩
    · rw [hcb] at HC
      cases hat : (n.too == (-1 : Int))
      · go_wp2_with fail
        refine (HC.out _).mono ?_
        rintro e w9 ⟨rfl, rfl⟩
        go_wp2
        go_ret
        exact ⟨by rw [HFIN.out, hcb, hat]; simp, HUv.out⟩
      · go_wp2_with fail
        refine (HC.out _).mono ?_
        rintro e w9 ⟨rfl, rfl⟩
        go_wp2
        go_ret
        exact ⟨by rw [HFIN.out, hcb, hat]; simp, HUv.out⟩
  · rw [hh] at f6
    have hWd : IsU (wantN 1 n).D := by unfold wantN; simp only [hh]; exact hn
    have hmw : m = wantN 1 n := by rw [← hm]; unfold wantN; simp only [hh]; rfl
    rw [hmw] at HM
    go_upto_region 22 with fail
    clear f6
    have hld1 := TNot.ld_at (Nt.Ok.isN hn) HN.out.whole
    have hld2 := TNot.ld_at (Nt.Ok.isN hWd) HM.out.whole
    have hq := eqN_run hn hWd v4
    generalize n.same (wantN 1 n) = sm at *
    cases hcb : coreB n.frm
    · rw [hcb] at HC
      go_wp2_with fail
      refine (HC.out _).mono ?_
      rintro e w9 ⟨rfl, rfl⟩
      go_wp2
      go_ret
      exact ⟨by rw [HFIN.out, hcb]; rfl, HUv.out⟩
    · rw [hcb] at HC
      cases hat : (n.too == (-1 : Int))
      · go_wp2_with fail
        refine (HC.out _).mono ?_
        rintro e w9 ⟨rfl, rfl⟩
        go_wp2
        go_ret
        exact ⟨by rw [HFIN.out, hcb, hat]; simp, HUv.out⟩
      · go_wp2_with fail
        refine (HC.out _).mono ?_
        rintro e w9 ⟨rfl, rfl⟩
        go_wp2
        go_ret
        exact ⟨by rw [HFIN.out, hcb, hat]; simp, HUv.out⟩
end Go.Proofs.YtjgeflbhmhmjdaaGreat.NC
