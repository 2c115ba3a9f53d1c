/- Package cache: the place that a put takes. -/
import Derived.Test.YtjgeflbhmhmjdaaGreatCacheGd
import Derived.Test.YtjgeflbhmhmjdaaGreatCacheIdx
set_option linter.unusedSimpArgs false
set_option linter.unusedVariables false
namespace Go.Proofs.YtjgeflbhmhmjdaaGreat.KA
open Go.RowKit
open BU (IsU words)
open PL (Cfg CC CV May)
section
variable {p : Kp} {c : Cfg} {A : Nat → Ln} {M : Nat → Int}
theorem slot_facts (hf : p.Fits c) (hg : Good p A) (hu : Uniq p A) {x : Ln} {i : Nat} (h : p.slot A x.blk = some i) :
    i < p.s * p.y ∧ p.set x.blk = i / p.y ∧ (freeB (A i) = true ∨ (A i).blk = x.blk) ∧ (p.place A x.blk = none ∨ p.place A x.blk = some i) ∧ freeB (A i) = (p.place A x.blk).isNone := by
  obtain ⟨j, hj, hij⟩ := slot_at h
  have hlt := hf.idx_lt (b := x.blk) hj
  rw [← hij] at hlt
  refine ⟨hlt, by rw [hij, div_at hj], ?_⟩
  unfold Kp.slot at h
  cases hp : p.place A x.blk with
  | some k =>
    rw [hp] at h
    cases h
    obtain ⟨_, h2, h3⟩ := place_lt hf hp
    exact ⟨.inr h3, .inr rfl, by rw [h2]; rfl⟩
  | none =>
    rw [hp] at h
    dsimp only at h
    by_cases hfr : p.fr A x.blk < 0
    · rw [if_pos hfr] at h; cases h
    · rw [if_neg hfr] at h
      obtain ⟨k, hk, e, hfree⟩ := fr_at hfr
      rw [e] at h
      simp only [Int.toNat_natCast, Option.some.injEq] at h
      subst h
      exact ⟨.inl hfree, .inl rfl, by rw [hfree]; rfl⟩
end
end Go.Proofs.YtjgeflbhmhmjdaaGreat.KA
namespace Go.Proofs.YtjgeflbhmhmjdaaGreat.KA
open Go.RowKit
open PL (Cfg CC CV May)
attribute [local go_sem] Oper.semAt_some
set_option maxRecDepth 100000 in
theorem rbits_any (m : Int) (hm : 0 ≤ m ∧ m ≤ 255) (w : World) : Calls Tryz.prog 155 #[.int .u8 m] w fun e w' => e = .returned (.agg #[.int .i64 (m % 2), .int .i64 (m / 2 % 2), .int .i64 (m / 4 % 2)]) ∧ Upd NoF w w' := by
  have hu := Upd.alloc NoF w (.cells #[.int .i64 (m % 2), .int .i64 (m / 2 % 2), .int .i64 (m / 4 % 2)] 174)
  go_enter Tryz.func155, Tryz.ntmps155
  go_wp2
  exact bodyPost_ret (v := .agg #[.int .i64 (m % 2), .int .i64 (m / 2 % 2), .int .i64 (m / 4 % 2)]) (by simp [results, Tryz.f155, go_sem]) rfl ⟨rfl, hu⟩
theorem use_nat : ∀ n : Nat, n < 256 → let m : Int := n; m / 8 * 8 + (m % 2 + 2 * (m / 2 % 2) + 4 * (m / 4 % 2)) = useV m 1 0 ∧ m / 8 * 8 + (1 + 2 * (m / 2 % 2) + 4 * (m / 4 % 2)) = useV m 2 0 ∧ m / 8 * 8 + (2 * (m / 2 % 2) + 4 * (m / 4 % 2)) = useV m 2 1 ∧ m / 8 * 8 + (3 + 4 * (m / 4 % 2)) = useV m 4 0 ∧ m / 8 * 8 + (1 + 4 * (m / 4 % 2)) = useV m 4 1 ∧ m / 8 * 8 + (2 * (m / 2 % 2) + 4) = useV m 4 2 ∧ m / 8 * 8 + 2 * (m / 2 % 2) = useV m 4 3 := by decide +kernel
theorem use_all (m : Int) (hm : 0 ≤ m ∧ m ≤ 255) : m / 8 * 8 + (m % 2 + 2 * (m / 2 % 2) + 4 * (m / 4 % 2)) = useV m 1 0 ∧ m / 8 * 8 + (1 + 2 * (m / 2 % 2) + 4 * (m / 4 % 2)) = useV m 2 0 ∧ m / 8 * 8 + (2 * (m / 2 % 2) + 4 * (m / 4 % 2)) = useV m 2 1 ∧ m / 8 * 8 + (3 + 4 * (m / 4 % 2)) = useV m 4 0 ∧ m / 8 * 8 + (1 + 4 * (m / 4 % 2)) = useV m 4 1 ∧ m / 8 * 8 + (2 * (m / 2 % 2) + 4) = useV m 4 2 ∧ m / 8 * 8 + 2 * (m / 2 % 2) = useV m 4 3 := by
  obtain ⟨n, rfl⟩ : ∃ n : Nat, m = n := ⟨m.toNat, by omega⟩
  exact use_nat n (by omega)
set_option maxRecDepth 100000 in
set_option maxHeartbeats 1000000 in
theorem ruse_any (m : Int) (hm : 0 ≤ m ∧ m ≤ 255) (ways way : Int) (hs : ways = 1 ∨ ways = 2 ∨ ways = 4) (h0 : 0 ≤ way) (h1 : way < ways) (w : World) :
    Calls Tryz.prog 156 #[.int .u8 m, .int .i64 ways, .int .i64 way] w fun e w' => e = .returned (.tuple #[.int .u8 (useV m ways way), .int .i64 0]) ∧ Upd NoF w w' := by
  have HB := Lib.hid (rbits_any m hm w)
  have hcase : (ways = 1 ∧ way = 0) ∨ (ways = 2 ∧ way = 0) ∨ (ways = 2 ∧ way = 1) ∨ (ways = 4 ∧ way = 0) ∨ (ways = 4 ∧ way = 1) ∨ (ways = 4 ∧ way = 2) ∨ (ways = 4 ∧ way = 3) := by omega
  clear hs h0 h1
  rcases hcase with ⟨rfl, rfl⟩ | ⟨rfl, rfl⟩ | ⟨rfl, rfl⟩ | ⟨rfl, rfl⟩ | ⟨rfl, rfl⟩ | ⟨rfl, rfl⟩ | ⟨rfl, rfl⟩
  all_goals
    go_enter Tryz.func156, Tryz.ntmps156
    go_wp2_with fail
    refine HB.out.mono ?_
    rintro e w2 ⟨rfl, hu⟩
    have HU := Lib.hid hu
    clear hu
    go_wp2
    go_ret2
  · exact ⟨congrArg (fun z => Ending.returned (.tuple #[.int .u8 z, .int .i64 0])) (use_all m hm).1, HU.out.trans (Upd.alloc NoF _ _) (fun _ _ h => h)⟩
  · exact ⟨congrArg (fun z => Ending.returned (.tuple #[.int .u8 z, .int .i64 0])) (use_all m hm).2.1, HU.out.trans (Upd.alloc NoF _ _) (fun _ _ h => h)⟩
  · exact ⟨congrArg (fun z => Ending.returned (.tuple #[.int .u8 z, .int .i64 0])) (use_all m hm).2.2.1, HU.out.trans (Upd.alloc NoF _ _) (fun _ _ h => h)⟩
  · exact ⟨congrArg (fun z => Ending.returned (.tuple #[.int .u8 z, .int .i64 0])) (use_all m hm).2.2.2.1, HU.out.trans (Upd.alloc NoF _ _) (fun _ _ h => h)⟩
  · exact ⟨congrArg (fun z => Ending.returned (.tuple #[.int .u8 z, .int .i64 0])) (use_all m hm).2.2.2.2.1, HU.out.trans (Upd.alloc NoF _ _) (fun _ _ h => h)⟩
  · exact ⟨congrArg (fun z => Ending.returned (.tuple #[.int .u8 z, .int .i64 0])) (use_all m hm).2.2.2.2.2.1, HU.out.trans (Upd.alloc NoF _ _) (fun _ _ h => h)⟩
  · exact ⟨congrArg (fun z => Ending.returned (.tuple #[.int .u8 z, .int .i64 0])) (use_all m hm).2.2.2.2.2.2, HU.out.trans (Upd.alloc NoF _ _) (fun _ _ h => h)⟩
set_option maxRecDepth 100000 in
theorem rvic_any (m : Int) (hm : 0 ≤ m ∧ m ≤ 255) (ways : Int) (hs : ways = 1 ∨ ways = 2 ∨ ways = 4) (w : World) :
    Calls Tryz.prog 138 #[.int .u8 m, .int .i64 ways] w fun e w' => e = .returned (.tuple #[.int .i64 (vicV m ways), .int .i64 0]) ∧ Upd NoF w w' := by
  have HB := Lib.hid (rbits_any m hm w)
  by_cases h0 : m % 2 = 0
  · have hb : (m % 2 == 0) = true := by simpa using h0
    rcases hs with rfl | rfl | rfl
    all_goals
      go_enter Tryz.func138, Tryz.ntmps138
      go_wp2_with fail
      refine HB.out.mono ?_
      rintro e w2 ⟨rfl, hu⟩
      have HU := Lib.hid hu
      clear hu
      go_wp2
      go_ret2
    · exact ⟨rfl, HU.out.trans (Upd.alloc NoF _ _) (fun _ _ h => h)⟩
    · exact ⟨congrArg (fun z => Ending.returned (.tuple #[.int .i64 z, .int .i64 0])) (show (0 : Int) = vicV m 2 by unfold vicV; simp [h0]), HU.out.trans (Upd.alloc NoF _ _) (fun _ _ h => h)⟩
    · exact ⟨congrArg (fun z => Ending.returned (.tuple #[.int .i64 z, .int .i64 0])) (show m / 2 % 2 = vicV m 4 by unfold vicV; simp [h0]), HU.out.trans (Upd.alloc NoF _ _) (fun _ _ h => h)⟩
  · have hb : (m % 2 == 0) = false := by simpa using h0
    have h1 : m % 2 = 1 := by omega
    rcases hs with rfl | rfl | rfl
    all_goals
      go_enter Tryz.func138, Tryz.ntmps138
      go_wp2_with fail
      refine HB.out.mono ?_
      rintro e w2 ⟨rfl, hu⟩
      have HU := Lib.hid hu
      clear hu
      go_wp2
      go_ret2
    · exact ⟨rfl, HU.out.trans (Upd.alloc NoF _ _) (fun _ _ h => h)⟩
    · exact ⟨congrArg (fun z => Ending.returned (.tuple #[.int .i64 z, .int .i64 0])) (show (1 : Int) = vicV m 2 by unfold vicV; simp [h1]), HU.out.trans (Upd.alloc NoF _ _) (fun _ _ h => h)⟩
    · exact ⟨congrArg (fun z => Ending.returned (.tuple #[.int .i64 z, .int .i64 0])) (show 2 + m / 4 % 2 = vicV m 4 by unfold vicV; simp [h1]), HU.out.trans (Upd.alloc NoF _ _) (fun _ _ h => h)⟩
set_option maxRecDepth 100000 in
theorem rset_any (c : Cfg) (hc : May c) (b : Int) (hb : 0 ≤ b ∧ b < 256) (w : World) : Calls Tryz.prog 137 #[CV c, .int .i64 b] w fun e w' => e = .returned (.int .i64 (b % c.sets)) ∧ Upd NoF w w' := by
  have HM := Lib.hid (PL.rMay_any c (w.alloc (.cells (CC c) 27)))
  rw [decide_eq_true hc] at HM
  have hsr : 1 ≤ c.sets ∧ c.sets ≤ 16 := by have := hc.2.2.2.2.2.2.1; omega
  have g0 : decide (b < 0) = false := by simp; omega
  have HU := Lib.hid (Upd.alloc NoF w (.cells (CC c) 27))
  have HQ := Lib.hid (Blk.new w (CC c) 27)
  have hr : Int.tmod b c.sets = b % c.sets := Int.tmod_eq_emod_of_nonneg hb.1
  have hz : (c.sets == 0) = false := by simp; omega
  have hw : IntKind.i64.wrap (b % c.sets) = b % c.sets := by
    have h1 := Int.emod_nonneg b (show c.sets ≠ 0 by omega)
    have h2 := Int.emod_lt_of_pos b (show 0 < c.sets by omega)
    exact IntWalk.i64_in _ (by omega)
  clear hc
  go_enter Tryz.func137, Tryz.ntmps137
  go_wp2_with fail
  refine HM.out.mono ?_
  rintro e w2 ⟨rfl, hu⟩
  have q1 : w2.cell? ⟨w.heap.size, 1, none⟩ = some (.int .i64 c.sets) := (HQ.out.upd hu (fun h => h)).cell 1
  have HU2 := Lib.hid (HU.out.trans hu (fun _ _ h => h))
  clear hu HM HQ
  go_wp2
  go_ret
  exact ⟨rfl, HU2.out⟩
end Go.Proofs.YtjgeflbhmhmjdaaGreat.KA
namespace Go.Proofs.YtjgeflbhmhmjdaaGreat.KA
open Go.RowKit
open BU (IsU words)
open PL (Cfg CC CV May)
attribute [local go_sem] Oper.semAt_some
attribute [local go_sem ↓] TLin.ld_eq TLin.st_eq TLin.al_eq TLin.bx_eq
attribute [local go_sem] TLin.al_run TLin.bx_run
abbrev RT : TypeId := 125
section
variable {w0 W W' : World} {p : Kp} {T : TypeId} {c : Cfg} {A : Nat → Ln} {M : Nat → Int} {L : List Obj}
set_option maxRecDepth 100000 in
theorem rmay_any (x : Ln) (W : World) : Calls Tryz.prog 141 #[.agg x.cells] W fun e w' => e = .returned (.bool (mayX x)) ∧ Upd NoF W w' := by
  have hu := Upd.alloc NoF W (.cells x.cells LT)
  have q := Blk.new W x.cells LT
  obtain ⟨V, hV⟩ : ∃ V, W.alloc (.cells x.cells LT) = V := ⟨_, rfl⟩
  rw [hV] at hu q
  have f0 : V.cell? ⟨W.heap.size, 0, none⟩ = some (.int .i64 x.blk) := (q.cell 0).trans x.get0
  have f1 : V.cell? ⟨W.heap.size, 1, none⟩ = some (.int .u8 x.st) := (q.cell 1).trans x.get1
  have HU := Lib.hid hu; have HV := Lib.hid hV
  have hmx : mayX x = (decide (0 ≤ x.blk) && decide (x.blk ≤ 255) && decide (1 ≤ x.st) && decide (x.st ≤ 3)) := by
    unfold mayX mayK
    congr 3
    rw [Bool.eq_iff_iff]
    simp only [decide_eq_true_eq]
    omega
  rw [hmx]
  clear hu q hV hmx
  cases h1 : decide (0 ≤ x.blk) <;> cases h2 : decide (x.blk ≤ 255) <;> cases h3 : decide (1 ≤ x.st)
  all_goals
    go_enter Tryz.func141, Tryz.ntmps141
    go_upto_region 1 with fail
    rw [HV.out]
    go_wp2
    go_ret
    exact ⟨by simp, HU.out⟩
def Kp.plI (p : Kp) (A : Nat → Ln) (b : Int) : Int := match p.place A b with | some i => (i : Int) | none => -1
theorem plI_first (hf : p.Fits c) (hg : Good p A) (hu : Uniq p A) (b : Int) : firstW (hasB b) A 0 (p.s * p.y) = p.plI A b := by
  unfold Kp.plI
  rcases firstW_cases (hasB b) A 0 (p.s * p.y) with ⟨h1, h2⟩ | ⟨j, h1, h2, h3⟩
  · rw [h1]
    cases hp : p.place A b with
    | none => rfl
    | some i =>
      obtain ⟨g1, g2, g3⟩ := place_lt hf hp
      have := h2 i g1
      rw [Nat.zero_add, hasB_iff.2 ⟨g2, g3⟩] at this
      cases this
  · rw [h2]
    rw [Nat.zero_add] at h3
    obtain ⟨g2, g3⟩ := hasB_iff.1 h3
    have := place_eq hf hg hu h1 g2
    rw [g3] at this
    rw [this]
set_option maxRecDepth 100000 in
set_option maxHeartbeats 1000000 in
theorem rplace_is (h : CIs T w0 W p c A M L) (hg : Good p A) (hu : Uniq p A) (b : Int) : Calls Tryz.prog 80 #[ptr p.kb, .int .i64 b] W fun e W' => e = .returned (.int .i64 (p.plI A b)) ∧ W = W' := by
  rw [← plI_first h.fits hg hu b]
  have k8 : W.cell? ⟨p.kb, 8, none⟩ = some (.slice (some ⟨p.gl, 0, none⟩) (p.s * p.y) p.cl) := h.bk.cell 8
  have hn := (Kp.small h.fits).2.2.2.2.1
  have HL := Lib.hid (fun (j : Nat) (hj : j < p.s * p.y) => And.intro ((h.bl.cell (j * 18 + 0)).trans ((lnX_get (h.ok.okA j).isU hj (show 0 < 18 by omega)).trans (A j).get0)) ((h.bl.cell (j * 18 + 1)).trans ((lnX_get (h.ok.okA j).isU hj (show 1 < 18 by omega)).trans (A j).get1)))
  clear h hg hu
  generalize p.s * p.y = n at *
  go_enter Tryz.func80, Tryz.ntmps80
  go_wp2
  go_loopw [5] (fun i wr => ∃ j : Nat, j ≤ n ∧ i = .int .i64 j ∧ W = wr ∧ Hid (∀ q, q < j → hasB b (A (0 + q)) = false)) (fun i _ => n - (Go.RowKit.intOf i).toNat)
  case atStart => exact ⟨0, Nat.zero_le _, rfl, rfl, fun q hq => by omega⟩
  case round =>
    obtain ⟨j, hj, rfl, rfl, HI⟩ := hrel
    by_cases hlt : j < n
    · obtain ⟨c0, c1⟩ := HL.out j hlt
      rw [Nat.add_zero] at c0
      have HP : Hid (∀ bo : Bool, hasB b (A (0 + j)) = bo → (bo = true → firstW (hasB b) A 0 n = j) ∧ (bo = false → ∀ q, q < j + 1 → hasB b (A (0 + q)) = false)) := Lib.hid (fun bo hbo => ⟨fun e => firstW_hit HI.out hlt (by rw [hbo, e]), fun e q hq => by
        by_cases e2 : q = j
        · subst e2; rw [hbo, e]
        · exact HI.out q (by omega)⟩)
      have hw1 : IntKind.i64.wrap ((j : Int) + 1) = ((j + 1 : Nat) : Int) := by rw [IntWalk.i64_in _ (by omega)]; simp
      have hhb : hasB b (A (0 + j)) = ((A j).st != 0 && (A j).blk == b) := by rw [Nat.zero_add]; rfl
      cases h1 : ((A j).st != 0)
      · have H2 := Lib.hid ((HP.out false (by rw [hhb, h1]; rfl)).2 rfl)
        clear HP hhb
        go_wp2_with fail
        exact ⟨⟨j + 1, by omega, by go_num, trivial, H2.out⟩, by simp [Go.RowKit.intOf]; omega⟩
      · cases h2 : ((A j).blk == b)
        · have H2 := Lib.hid ((HP.out false (by rw [hhb, h1, h2]; rfl)).2 rfl)
          clear HP hhb
          go_wp2_with fail
          exact ⟨⟨j + 1, by omega, by go_num, trivial, H2.out⟩, by simp [Go.RowKit.intOf]; omega⟩
        · have H1 := Lib.hid ((HP.out true (by rw [hhb, h1, h2]; rfl)).1 rfl)
          clear HP hhb
          go_wp2
          go_ret
          exact ⟨by rw [H1.out]; rfl, rfl⟩
    · obtain rfl : n = j := by omega
      have H1 := Lib.hid (firstW_none HI.out)
      go_wp2
      go_ret
      exact ⟨by rw [H1.out]; rfl, rfl⟩
def Kp.frI (p : Kp) (A : Nat → Ln) (b : Int) : Int := if p.fr A b < 0 then -1 else ((p.set b * p.y + (p.fr A b).toNat : Nat) : Int)
set_option maxRecDepth 100000 in
set_option maxHeartbeats 2000000 in
theorem rfree_is (h : CIs T w0 W p c A M L) (b : Int) (hm : mayK b = true) : Calls Tryz.prog 136 #[ptr p.kb, .int .i64 b] W fun e W' => e = .returned (.int .i64 (p.frI A b)) ∧ Upd NoF W W' := by
  unfold Kp.frI Kp.fr
  obtain ⟨z, hz⟩ : ∃ z, (if firstW freeB A (p.set b * p.y) p.y < 0 then -1 else ((p.set b * p.y + (firstW freeB A (p.set b * p.y) p.y).toNat : Nat) : Int)) = z := ⟨_, rfl⟩
  rw [hz]
  have HZ := Lib.hid hz
  clear hz
  have hbb := mayK_of hm
  have hse := mayK_set h.fits hm
  have HS := Lib.hid (rset_any c h.fits.may b hbb W)
  rw [hse] at HS
  have hq := h.fits.set_lt b
  have hrl := Kp.row_le (y := p.y) hq
  obtain ⟨hs16, hy4, hy1, hs1, hn, hn1⟩ := Kp.small h.fits
  have hew := h.fits.ew
  have HI := Lib.hid (And.intro h.bk (And.intro h.bl h.ok.okA))
  have HK8 : Hid (∀ W2, Upd NoF W W2 → W2.cell? ⟨p.kb, 8, none⟩ = some (.slice (some ⟨p.gl, 0, none⟩) (p.s * p.y) p.cl)) := Lib.hid (fun W2 hu => (h.bk.upd hu (fun h => h)).cell 8)
  have k0 : W.cell? ⟨p.kb, 0, none⟩ = some (.int .i64 c.cores) := h.bk.cell 0
  have k1 : W.cell? ⟨p.kb, 1, none⟩ = some (.int .i64 c.sets) := h.bk.cell 1
  have k2 : W.cell? ⟨p.kb, 2, none⟩ = some (.int .i64 c.ways) := h.bk.cell 2
  have k3 : W.cell? ⟨p.kb, 3, none⟩ = some (.int .i64 c.blocks) := h.bk.cell 3
  have k4 : W.cell? ⟨p.kb, 4, none⟩ = some (.int .i64 c.logs) := h.bk.cell 4
  have k5 : W.cell? ⟨p.kb, 5, none⟩ = some (.int .i64 c.backs) := h.bk.cell 5
  have k6 : W.cell? ⟨p.kb, 6, none⟩ = some (.int .i64 c.nest) := h.bk.cell 6
  have k7 : W.cell? ⟨p.kb, 7, none⟩ = some (.int .i64 c.tries) := h.bk.cell 7
  clear h hbb hse hm
  generalize p.set b = q at *
  generalize p.s * p.y = n at *
  have hqn : ((q * p.y : Nat) : Int) ≤ 64 := by omega
  have w1 : IntKind.i64.wrap ((q : Int) * (p.y : Int)) = ((q * p.y : Nat) : Int) := by
    rw [show ((q * p.y : Nat) : Int) = (q : Int) * p.y by simp] at *
    exact IntWalk.i64_in _ (by omega)
  have HW1 := Lib.hid w1
  generalize ho : q * p.y = o at *
  have HN := Lib.hid (And.intro hrl (And.intro hqn (And.intro hn hew)))
  clear w1 ho hrl hqn hn hn1 hew hq hs16 hy4 hy1 hs1
  go_enter Tryz.func136, Tryz.ntmps136
  go_wp2_with fail
  refine HS.out.mono ?_
  rintro e W2 ⟨rfl, hu⟩
  have HU := Lib.hid hu
  clear hu k0 k1 k2 k3 k4 k5 k6 k7 HS
  go_wp2
  go_loopw [6] (fun i wr => ∃ j : Nat, j ≤ p.y ∧ i = .int .i64 j ∧ Hid ((∀ q, q < j → freeB (A (o + q)) = false) ∧ Upd NoF W wr)) (fun i _ => p.y - (Go.RowKit.intOf i).toNat)
  case atStart => exact ⟨0, Nat.zero_le _, rfl, fun q hq => by omega, HU.out⟩
  case round =>
    obtain ⟨j, hj, rfl, HR⟩ := hrel
    obtain ⟨hrl, hqn, hn, hew⟩ := HN.out
    have k2 : wr.cell? ⟨p.kb, 2, none⟩ = some (.int .i64 p.y) := by rw [← hew]; exact (HI.out.1.upd HR.out.2 (fun h => h)).cell 2
    by_cases hlt : j < p.y
    · have k8 : wr.cell? ⟨p.kb, 8, none⟩ = some (.slice (some ⟨p.gl, 0, none⟩) n p.cl) := HK8.out _ HR.out.2
      have c1 : wr.cell? ⟨p.gl, (o + j) * 18 + 1, none⟩ = some (.int .u8 (A (o + j)).st) := ((HI.out.2.1.upd HR.out.2 (fun h => h)).cell ((o + j) * 18 + 1)).trans ((lnX_get (HI.out.2.2 _).isU (show o + j < n by omega) (show 1 < 18 by omega)).trans (Ln.get1 _))
      have HP : Hid (∀ bo : Bool, freeB (A (o + j)) = bo → (bo = true → firstW freeB A o p.y = j) ∧ (bo = false → ∀ q, q < j + 1 → freeB (A (o + q)) = false)) := Lib.hid (fun bo hbo => ⟨fun e => firstW_hit HR.out.1 hlt (by rw [hbo, e]), fun e q hq => by
        by_cases e2 : q = j
        · subst e2; rw [hbo, e]
        · exact HR.out.1 q (by omega)⟩)
      have w1 := HW1.out
      have w2 : IntKind.i64.wrap ((o : Int) + (j : Int)) = ((o + j : Nat) : Int) := by rw [IntWalk.i64_in _ (by omega)]; simp
      have w3 : IntKind.i64.wrap ((j : Int) + 1) = ((j + 1 : Nat) : Int) := by rw [IntWalk.i64_in _ (by omega)]; simp
      have hin : ((o + j : Nat) : Int) < (n : Int) := by omega
      have hfb : freeB (A (o + j)) = ((A (o + j)).st == 0) := rfl
      clear hew hrl hqn hn
      go_upto_region 5 with fail
      go_quiet (fail)
      have HU2 := Lib.hid (HR.out.2.trans (Upd.drewN NoF _ nq) (fun _ _ h => h))
      cases h1 : ((A (o + j)).st == 0)
      · have H2 := Lib.hid ((HP.out false (by rw [hfb, h1])).2 rfl)
        clear HP hfb
        go_wp2_with fail
        exact ⟨⟨j + 1, by omega, by go_num, H2.out, HU2.out⟩, by simp [Go.RowKit.intOf]; omega⟩
      · have H1 := Lib.hid ((HP.out true (by rw [hfb, h1])).1 rfl)
        clear HP hfb
        go_wp2
        go_ret
        refine ⟨?_, HU2.out⟩
        show Ending.returned (.int .i64 ((o : Int) + (j : Int))) = _
        rw [← HZ.out, H1.out, if_neg (by omega)]
        simp
    · obtain rfl : p.y = j := by omega
      have H1 := Lib.hid (firstW_none HR.out.1)
      go_wp2
      go_ret
      exact ⟨by rw [← HZ.out, H1.out]; rfl, HR.out.2⟩
set_option maxRecDepth 100000 in
set_option maxHeartbeats 4000000 in
theorem rused_is (h : CIs T w0 W p c A M L) (i : Nat) (hi : i < p.s * p.y) : Calls Tryz.prog 139 #[ptr p.kb, .int .i64 i] W fun e W' =>
    e = .returned (.tuple #[]) ∧ CIs T w0 W' p c A (p.used M i) L := by
  have hsm := Kp.small h.fits
  have hy := h.fits.sy.2
  have hyp : 0 < p.y := hsm.2.2.1
  have hq : i / p.y < p.s := Nat.div_lt_of_lt_mul (by rw [Nat.mul_comm]; exact hi)
  have hj : i % p.y < p.y := Nat.mod_lt _ hyp
  unfold Kp.used
  have d1 : (i : Int) / (p.y : Int) = ((i / p.y : Nat) : Int) := by simp
  have d2 : (i : Int) % (p.y : Int) = ((i % p.y : Nat) : Int) := by simp
  have d1' : Int.tdiv (i : Int) (p.y : Int) = ((i / p.y : Nat) : Int) := by rw [Int.tdiv_eq_ediv_of_nonneg (by omega)]; simp
  have d2' : Int.tmod (i : Int) (p.y : Int) = ((i % p.y : Nat) : Int) := by rw [Int.tmod_eq_emod_of_nonneg (by omega)]; simp
  generalize i / p.y = q at *
  generalize i % p.y = j at *
  have HC := Lib.hid (fun w => ruse_any (M (q)) (h.ok.okM _) p.y (j : Int) (by omega) (by omega) (by omega) w)
  have hz := useV_rng (h.ok.okM (q)) (p.y : Int) (j : Int) (by omega) (by omega)
  have k2 : ∀ X, Upd NoF W X → X.cell? ⟨p.kb, 2, none⟩ = some (.int .i64 p.y) := fun X hu => by rw [← h.fits.ew]; exact (h.bk.upd hu (fun h => h)).cell 2
  have k9 : ∀ X, Upd NoF W X → X.cell? ⟨p.kb, 9, none⟩ = some (.slice (some ⟨p.gm, 0, none⟩) p.s p.cm) := fun X hu => (h.bk.upd hu (fun h => h)).cell 9
  have m1 : ∀ X, Upd NoF W X → X.cell? ⟨p.gm, q, none⟩ = some (.int .u8 (M (q))) := fun X hu => ((h.bm.upd hu (fun h => h)).cell _).trans (rowX_get hq)
  have m2 : ∀ X, Upd NoF W X → X.frozen? ⟨p.gm, q, none⟩ = false := fun X hu => (h.bm.upd hu (fun h => h)).frozen _
  have d3 : IntKind.i64.wrap (q : Int) = (q : Int) := IntWalk.i64_in _ (by omega)
  have d4 : IntKind.i64.wrap (j : Int) = (j : Int) := IntWalk.i64_in _ (by omega)
  have d5 : ((p.y : Int) == 0) = false := by simp; omega
  have d6 : (q : Int) < (p.s : Int) := by omega
  have d7 : ¬ p.y = 0 := by omega
  have HI := Lib.hid h
  have HQ := Lib.hid (And.intro hq hz)
  have HK := Lib.hid (fun X hu => (And.intro hu (And.intro (k2 X hu) (And.intro (k9 X hu) (m1 X hu))) : (fun X => Upd NoF W X ∧ X.cell? ⟨p.kb, 2, none⟩ = some (.int .i64 p.y) ∧ X.cell? ⟨p.kb, 9, none⟩ = some (.slice (some ⟨p.gm, 0, none⟩) p.s p.cm) ∧ X.cell? ⟨p.gm, q, none⟩ = some (.int .u8 (M (q)))) X))
  have HM2 := Lib.hid m2
  have k2 := k2 W (Upd.refl _ _)
  clear h hsm hy hq hj hz k9 m1 m2 hi hyp
  generalize useV (M (q)) p.y (j : Int) = z at *
  generalize M (q) = x at *
  go_enter Tryz.func139, Tryz.ntmps139
  go_wp2_with fail
  clear k2
  go_region_held3 (fun X => Upd NoF W X ∧ X.cell? ⟨p.kb, 2, none⟩ = some (.int .i64 p.y) ∧ X.cell? ⟨p.kb, 9, none⟩ = some (.slice (some ⟨p.gm, 0, none⟩) p.s p.cm) ∧ X.cell? ⟨p.gm, q, none⟩ = some (.int .u8 x)) (first | assumption | exact HK.out _ (Upd.drew NoF W))
    (first | (go_at_call 156; have hS : Upd NoF W _ ∧ _ := ‹_›; refine (HC.out _).mono ?_; rintro e w1 ⟨rfl, hu⟩; have HU1 := Lib.hid (hS.1.trans hu (fun _ _ h => h)); have hS' : (fun X => Upd NoF W X ∧ X.cell? ⟨p.kb, 2, none⟩ = some (.int .i64 p.y) ∧ X.cell? ⟨p.kb, 9, none⟩ = some (.slice (some ⟨p.gm, 0, none⟩) p.s p.cm) ∧ X.cell? ⟨p.gm, q, none⟩ = some (.int .u8 x)) w1 := HK.out _ HU1.out; clear hu))
  all_goals
    obtain ⟨-, -, c9, -⟩ := hS'
    have m2 := HM2.out _ HU1.out
    have m1 := (HK.out _ HU1.out).2.2.2
    clear hS
    go_wp2
    go_end0
    exact ⟨rfl, (HI.out.upd0 HU1.out).mem HQ.out.1 HQ.out.2⟩
end
end Go.Proofs.YtjgeflbhmhmjdaaGreat.KA
namespace Go.Proofs.YtjgeflbhmhmjdaaGreat.KA
open Go.RowKit
open BU (IsU words)
open PL (Cfg CC CV May)
attribute [local go_sem] Oper.semAt_some
attribute [local go_sem ↓] TLin.ld_eq TLin.st_eq TLin.al_eq TLin.bx_eq
attribute [local go_sem] TLin.al_run TLin.bx_run
section
variable {w0 W W' : World} {p : Kp} {T : TypeId} {c : Cfg} {A : Nat → Ln} {M : Nat → Int} {L : List Obj}
theorem st_line (h : CIs T w0 W p c A M L) {i : Nat} (hi : i < p.s * p.y) {x : Ln} (hx : x.Ok) : (TLin.st (.pointer (some ⟨p.gl, i * 18, none⟩)) (.agg x.cells)).run Tryz.prog W = .ok () (W.setCells p.gl (i * 18) x.cells.toList) :=
  st_mid (Ln.Ok.isN hx.isU) h.bl (by rw [Array.size_append, lnRow_size]; omega)
theorem plI_some {b : Int} {i : Nat} (h : p.place A b = some i) : p.plI A b = i := by unfold Kp.plI; rw [h]
theorem plI_none {b : Int} (h : p.place A b = none) : p.plI A b = -1 := by unfold Kp.plI; rw [h]
theorem CIs.box' (h : CIs T w0 W p c A M L) (cs : Array Value) (U : TypeId) : CIs T w0 (W.alloc (.cells cs U)) p c A M (boxO W.heap.size cs U :: L) :=
  ⟨(h.sep.alloc cs U).sink 3, h.fits, h.ok⟩
theorem CIs.drop' {O : Obj} (h : CIs T w0 W p c A M (O :: L)) : CIs T w0 W p c A M L := ⟨h.sep.drop 3 (by simp), h.fits, h.ok⟩
theorem slot_cases (p : Kp) (A : Nat → Ln) (b : Int) : (∃ i, p.place A b = some i ∧ p.slot A b = some i) ∨ (p.place A b = none ∧ p.slot A b = none ∧ p.frI A b = -1) ∨ ∃ i, p.place A b = none ∧ p.slot A b = some i ∧ p.frI A b = (i : Int) := by
  unfold Kp.slot Kp.frI
  cases hp : p.place A b with
  | some i => exact .inl ⟨i, rfl, rfl⟩
  | none =>
    dsimp only
    by_cases h : p.fr A b < 0
    · exact .inr (.inl ⟨rfl, by rw [if_pos h], by rw [if_pos h]⟩)
    · exact .inr (.inr ⟨_, rfl, by rw [if_neg h], by rw [if_neg h]⟩)
set_option maxRecDepth 100000 in
set_option maxHeartbeats 2000000 in
theorem rput_is (h : CIs T w0 W p c A M L) (hg : Good p A) (hu : Uniq p A) (x : Ln) (hx : x.Ok) : Calls Tryz.prog 118 #[ptr p.kb, .agg x.cells] W fun e W' =>
    e = .returned (.int .i64 (p.putE A x)) ∧ CIs T w0 W' p c (p.putA A x) (p.putM A M x) L := by
  unfold Kp.putE Kp.putA Kp.putM
  have h1 := h.box' x.cells LT
  obtain ⟨W1, hW1⟩ : ∃ W1, W.alloc (.cells x.cells LT) = W1 := ⟨_, rfl⟩
  rw [hW1] at h1
  have HW := Lib.hid hW1
  have hxN := Ln.Ok.isN hx.isU
  have l1 := TLin.ld_at hxN (h1.sep.box 3 rfl).whole
  have HMX := Lib.hid (rmay_any x W1)
  have HI := Lib.hid h1
  have HXO := Lib.hid hx
  have HGU := Lib.hid (And.intro hg hu)
  clear h h1 hW1 hx hg hu
  cases hm : mayX x
  · rw [hm] at HMX
    simp only [Bool.false_eq_true, if_false]
    clear hm
    go_enter Tryz.func118, Tryz.ntmps118
    go_upto_region 1 with fail
    rw [HW.out]
    go_wp2_with fail
    refine HMX.out.mono ?_
    rintro e W2 ⟨rfl, hu⟩
    have HI2 := Lib.hid (HI.out.upd0 hu).drop'
    clear hu
    go_wp2
    go_ret
    exact ⟨rfl, HI2.out⟩
  · rw [hm] at HMX
    simp only [if_true]
    have hmk : mayK x.blk = true := by unfold mayX at hm; revert hm; cases mayK x.blk <;> simp
    rcases slot_cases p A x.blk with ⟨i, hp, hs⟩ | ⟨hp, hs, hf⟩ | ⟨i, hp, hs, hf⟩
    · obtain ⟨hi, -⟩ := slot_facts HI.out.fits HGU.out.1 HGU.out.2 hs
      rw [hs]
      dsimp only
      have hpI := plI_some hp
      clear hm hs hp hmk
      go_enter Tryz.func118, Tryz.ntmps118
      go_upto_region 1 with fail
      rw [HW.out]
      go_wp2_with fail
      refine HMX.out.mono ?_
      rintro e W2 ⟨rfl, hu⟩
      have HI2 := Lib.hid (HI.out.upd0 hu)
      clear hu l1
      have f0 : W2.cell? ⟨W.heap.size, 0, none⟩ = some (.int .i64 x.blk) := ((HI2.out.sep.box 3 rfl).cell 0).trans x.get0
      go_wp2_with fail
      refine (rplace_is HI2.out HGU.out.1 HGU.out.2 x.blk).mono ?_
      rintro e W3 ⟨rfl, rfl⟩
      rw [hpI]
      clear hpI
      have HI3 := Lib.hid (HI2.out.upd0 (Upd.drew NoF W2))
      have l1 := TLin.ld_at hxN (HI3.out.sep.box 3 rfl).whole
      have s1 := st_line HI3.out hi HXO.out
      have k8 : W2.drew.cell? ⟨p.kb, 8, none⟩ = some (.slice (some ⟨p.gl, 0, none⟩) (p.s * p.y) p.cl) := HI3.out.bk.cell 8
      have HI4 := Lib.hid (HI3.out.line hi HXO.out)
      have hii : (i : Int) < ((p.s * p.y : Nat) : Int) := by omega
      have hi0 : decide ((i : Int) < 0) = false := by simp
      clear f0
      go_wp2_with fail
      go_region
      all_goals
        obtain ⟨W4, hW4⟩ : ∃ X, W2.drew.setCells p.gl (i * 18) x.cells.toList = X := ⟨_, rfl⟩
        rw [hW4] at HI4 ⊢
        clear hW4 l1 s1 k8 HI3
        go_wp2_with fail
        refine (rused_is HI4.out i hi).mono ?_
        rintro e W5 ⟨rfl, hc⟩
        have HI5 := Lib.hid hc.drop'
        clear hc
        go_wp2
        go_ret
        exact ⟨rfl, HI5.out⟩
    · rw [hs]
      dsimp only
      have hpI := plI_none hp
      have hfI := hf
      clear hm hs hp hf
      go_enter Tryz.func118, Tryz.ntmps118
      go_upto_region 1 with fail
      rw [HW.out]
      go_wp2_with fail
      refine HMX.out.mono ?_
      rintro e W2 ⟨rfl, hu⟩
      have HI2 := Lib.hid (HI.out.upd0 hu)
      clear hu l1
      have f0 : W2.cell? ⟨W.heap.size, 0, none⟩ = some (.int .i64 x.blk) := ((HI2.out.sep.box 3 rfl).cell 0).trans x.get0
      go_wp2_with fail
      refine (rplace_is HI2.out HGU.out.1 HGU.out.2 x.blk).mono ?_
      rintro e W3 ⟨rfl, rfl⟩
      rw [hpI]
      clear hpI
      have HFR := rfree_is HI2.out x.blk hmk
      rw [hfI] at HFR
      have HFR := Lib.hid HFR
      clear hfI hmk
      go_wp2_with fail
      refine HFR.out.mono ?_
      rintro e W4 ⟨rfl, hu⟩
      have HI3 := Lib.hid (HI2.out.upd0 hu).drop'
      clear hu HFR
      go_wp2
      go_ret
      exact ⟨rfl, HI3.out⟩
    · obtain ⟨hi, -⟩ := slot_facts HI.out.fits HGU.out.1 HGU.out.2 hs
      rw [hs]
      dsimp only
      have hpI := plI_none hp
      have hfI := hf
      clear hm hs hp hf
      go_enter Tryz.func118, Tryz.ntmps118
      go_upto_region 1 with fail
      rw [HW.out]
      go_wp2_with fail
      refine HMX.out.mono ?_
      rintro e W2 ⟨rfl, hu⟩
      have HI2 := Lib.hid (HI.out.upd0 hu)
      clear hu l1
      have f0 : W2.cell? ⟨W.heap.size, 0, none⟩ = some (.int .i64 x.blk) := ((HI2.out.sep.box 3 rfl).cell 0).trans x.get0
      go_wp2_with fail
      refine (rplace_is HI2.out HGU.out.1 HGU.out.2 x.blk).mono ?_
      rintro e W3 ⟨rfl, rfl⟩
      rw [hpI]
      clear hpI
      have HFR := rfree_is HI2.out x.blk hmk
      rw [hfI] at HFR
      have HFR := Lib.hid HFR
      clear hfI hmk
      go_wp2_with fail
      refine HFR.out.mono ?_
      rintro e W4' ⟨rfl, hu⟩
      have HI2b := Lib.hid (HI2.out.upd0 hu)
      clear hu HFR
      have HI3 := Lib.hid (HI2b.out.upd0 (Upd.drew NoF W4'))
      have l1 := TLin.ld_at hxN (HI3.out.sep.box 3 rfl).whole
      have s1 := st_line HI3.out hi HXO.out
      have k8 : W4'.drew.cell? ⟨p.kb, 8, none⟩ = some (.slice (some ⟨p.gl, 0, none⟩) (p.s * p.y) p.cl) := HI3.out.bk.cell 8
      have HI4 := Lib.hid (HI3.out.line hi HXO.out)
      have hii : (i : Int) < ((p.s * p.y : Nat) : Int) := by omega
      have hi0 : decide ((i : Int) < 0) = false := by simp
      clear f0
      go_wp2_with fail
      go_region
      all_goals
        obtain ⟨W4, hW4⟩ : ∃ X, W4'.drew.setCells p.gl (i * 18) x.cells.toList = X := ⟨_, rfl⟩
        rw [hW4] at HI4 ⊢
        clear hW4 l1 s1 k8 HI3
        go_wp2_with fail
        refine (rused_is HI4.out i hi).mono ?_
        rintro e W5 ⟨rfl, hc⟩
        have HI5 := Lib.hid hc.drop'
        clear hc
        go_wp2
        go_ret
        exact ⟨rfl, HI5.out⟩
end
end Go.Proofs.YtjgeflbhmhmjdaaGreat.KA
namespace Go.Proofs.YtjgeflbhmhmjdaaGreat.KA
open Go.RowKit
open BU (IsU words)
open PL (Cfg CC CV May)
attribute [local go_sem] Oper.semAt_some
attribute [local go_sem ↓] TLin.ld_eq TLin.st_eq TLin.al_eq TLin.bx_eq
attribute [local go_sem] TLin.al_run TLin.bx_run
section
variable {w0 W W' : World} {p : Kp} {T : TypeId} {c : Cfg} {A : Nat → Ln} {M : Nat → Int} {L : List Obj}
set_option maxRecDepth 100000 in
set_option maxHeartbeats 1000000 in
theorem rdrop_is (h : CIs T w0 W p c A M L) (hg : Good p A) (hu : Uniq p A) (b : Int) : Calls Tryz.prog 112 #[ptr p.kb, .int .i64 b] W fun e W' =>
    e = .returned (.bool (p.place A b).isSome) ∧ CIs T w0 W' p c (p.drpA A b) M L := by
  unfold Kp.drpA
  have HI := Lib.hid h
  have HPL := Lib.hid (fun (X : World) (hX : CIs T w0 X p c A M L) => rplace_is hX hg hu b)
  cases hp : p.place A b with
  | none =>
    have hpI := plI_none hp
    clear h hg hu hp
    dsimp only
    go_enter Tryz.func112, Tryz.ntmps112
    go_wp2_with fail
    refine (HPL.out _ HI.out).mono ?_
    rintro e W2 ⟨rfl, rfl⟩
    rw [hpI]
    clear hpI HPL
    go_wp2
    go_ret
    exact ⟨rfl, HI.out⟩
  | some i =>
    have hpI := plI_some hp
    obtain ⟨hi, hif, hib⟩ := place_lt h.fits hp
    have hi0 : decide ((i : Int) < 0) = false := by simp
    have hii : (i : Int) < ((p.s * p.y : Nat) : Int) := by omega
    clear h hg hu hp hif hib
    dsimp only
    have s1 := st_line HI.out hi Ln.nil_ok
    have HI2 := Lib.hid (HI.out.line hi Ln.nil_ok)
    rw [Ln.nil_cells, zlit] at s1
    rw [Ln.nil_cells] at HI2
    have k8 : W.cell? ⟨p.kb, 8, none⟩ = some (.slice (some ⟨p.gl, 0, none⟩) (p.s * p.y) p.cl) := HI.out.bk.cell 8
    go_enter Tryz.func112, Tryz.ntmps112
    go_wp2_with fail
    refine (HPL.out _ HI.out).mono ?_
    rintro e W2 ⟨rfl, rfl⟩
    rw [hpI]
    clear hpI HPL
    go_wp2
    go_ret
    exact ⟨rfl, HI2.out⟩
set_option maxRecDepth 100000 in
set_option maxHeartbeats 1000000 in
theorem rkUse_is (h : CIs T w0 W p c A M L) (hg : Good p A) (hu : Uniq p A) (b : Int) : Calls Tryz.prog 113 #[ptr p.kb, .int .i64 b] W fun e W' =>
    e = .returned (.bool (p.place A b).isSome) ∧ CIs T w0 W' p c A (p.useM A M b) L := by
  unfold Kp.useM
  have HI := Lib.hid h
  have HPL := Lib.hid (fun (X : World) (hX : CIs T w0 X p c A M L) => rplace_is hX hg hu b)
  cases hp : p.place A b with
  | none =>
    have hpI := plI_none hp
    clear h hg hu hp
    dsimp only
    go_enter Tryz.func113, Tryz.ntmps113
    go_wp2_with fail
    refine (HPL.out _ HI.out).mono ?_
    rintro e W2 ⟨rfl, rfl⟩
    rw [hpI]
    clear hpI HPL
    go_wp2
    go_ret
    exact ⟨rfl, HI.out⟩
  | some i =>
    have hpI := plI_some hp
    obtain ⟨hi, hif, hib⟩ := place_lt h.fits hp
    have hi0 : decide ((i : Int) < 0) = false := by simp
    have hii : (i : Int) < ((p.s * p.y : Nat) : Int) := by omega
    clear h hg hu hp hif hib
    dsimp only
    go_enter Tryz.func113, Tryz.ntmps113
    go_wp2_with fail
    refine (HPL.out _ HI.out).mono ?_
    rintro e W2 ⟨rfl, rfl⟩
    rw [hpI]
    clear hpI HPL
    go_wp2_with fail
    refine (rused_is HI.out i hi).mono ?_
    rintro e W3 ⟨rfl, hc⟩
    have HI3 := Lib.hid hc
    clear hc
    go_wp2
    go_ret
    exact ⟨rfl, HI3.out⟩
set_option maxRecDepth 100000 in
set_option maxHeartbeats 1000000 in
theorem rturn_is (h : CIs T w0 W p c A M L) (hg : Good p A) (hu : Uniq p A) (b s : Int) (hs : 0 ≤ s ∧ s ≤ 255) : Calls Tryz.prog 146 #[ptr p.kb, .int .i64 b, .int .u8 s] W fun e W' =>
    e = .returned (.int .i64 (p.trnE A b s)) ∧ CIs T w0 W' p c (p.trnA A b s) M L := by
  unfold Kp.trnE Kp.trnA maySt
  have HI := Lib.hid h
  have HPL := Lib.hid (fun (X : World) (hX : CIs T w0 X p c A M L) => rplace_is hX hg hu b)
  cases hp : p.place A b with
  | none =>
    have hpI := plI_none hp
    clear h hg hu hp
    dsimp only
    go_enter Tryz.func146, Tryz.ntmps146
    go_wp2_with fail
    refine (HPL.out _ HI.out).mono ?_
    rintro e W2 ⟨rfl, rfl⟩
    rw [hpI]
    clear hpI HPL
    go_wp2
    go_ret
    exact ⟨rfl, HI.out⟩
  | some i =>
    have hpI := plI_some hp
    obtain ⟨hi, hif, hib⟩ := place_lt h.fits hp
    have hi0 : decide ((i : Int) < 0) = false := by simp
    have hii : (i : Int) < ((p.s * p.y : Nat) : Int) := by omega
    clear h hg hu hp hif hib
    dsimp only
    by_cases c1 : s < 1
    · have g1 : decide (s < 1) = true := by simp; omega
      have g2 : decide (1 ≤ s) = false := by simp; omega
      rw [g2]
      simp only [Bool.false_and, Bool.false_eq_true, if_false]
      clear c1 g2
      go_enter Tryz.func146, Tryz.ntmps146
      go_wp2_with fail
      refine (HPL.out _ HI.out).mono ?_
      rintro e W2 ⟨rfl, rfl⟩
      rw [hpI]
      clear hpI HPL
      go_wp2
      go_ret
      exact ⟨rfl, HI.out⟩
    · have g1 : decide (s < 1) = false := by simp; omega
      have g2 : decide (1 ≤ s) = true := by simp; omega
      rw [g2]
      simp only [Bool.true_and]
      by_cases c2 : 3 < s
      · have g3 : decide (3 < s) = true := by simp; omega
        have g4 : decide (s ≤ 3) = false := by simp; omega
        rw [g4]
        simp only [Bool.false_eq_true, if_false]
        clear c1 c2 g2 g4
        go_enter Tryz.func146, Tryz.ntmps146
        go_wp2_with fail
        refine (HPL.out _ HI.out).mono ?_
        rintro e W2 ⟨rfl, rfl⟩
        rw [hpI]
        clear hpI HPL
        go_wp2
        go_ret
        exact ⟨rfl, HI.out⟩
      · have g3 : decide (3 < s) = false := by simp; omega
        have g4 : decide (s ≤ 3) = true := by simp; omega
        rw [g4]
        simp only [if_true]
        clear c1 c2 g2 g4
        have k8 : W.cell? ⟨p.kb, 8, none⟩ = some (.slice (some ⟨p.gl, 0, none⟩) (p.s * p.y) p.cl) := HI.out.bk.cell 8
        have hx : ({ A i with st := s } : Ln).Ok := ⟨hs, (HI.out.ok.okA i).isU⟩
        have v1 : W.cell? ⟨p.gl, i * 18 + 1, none⟩ = some (.int .u8 (A i).st) := (HI.out.bl.cell (i * 18 + 1)).trans ((lnX_get (HI.out.ok.okA i).isU hi (show 1 < 18 by omega)).trans (Ln.get1 _))
        have v2 : W.frozen? ⟨p.gl, i * 18 + 1, none⟩ = false := HI.out.bl.frozen _
        have HI2 := Lib.hid (HI.out.cell hi hx (show 1 < 18 by omega) (cells_st (A i) s))
        go_enter Tryz.func146, Tryz.ntmps146
        go_wp2_with fail
        refine (HPL.out _ HI.out).mono ?_
        rintro e W2 ⟨rfl, rfl⟩
        rw [hpI]
        clear hpI HPL
        go_wp2
        go_ret
        exact ⟨rfl, HI2.out⟩
set_option maxRecDepth 100000 in
set_option maxHeartbeats 2000000 in
theorem rwrite_is (h : CIs T w0 W p c A M L) (hg : Good p A) (hu : Uniq p A) (b w z : Int) : Calls Tryz.prog 115 #[ptr p.kb, .int .i64 b, .int .i64 w, .int .u32 z] W fun e W' =>
    e = .returned (.int .i64 (p.wrE A b w)) ∧ CIs T w0 W' p c (p.wrA A b w z) (p.wrM A M b w) L := by
  unfold Kp.wrE Kp.wrA Kp.wrM mayW
  have HI := Lib.hid h
  have HPL := Lib.hid (fun (X : World) (hX : CIs T w0 X p c A M L) => rplace_is hX hg hu b)
  cases hp : p.place A b with
  | none =>
    have hpI := plI_none hp
    clear h hg hu hp
    dsimp only
    go_enter Tryz.func115, Tryz.ntmps115
    go_wp2_with fail
    refine (HPL.out _ HI.out).mono ?_
    rintro e W2 ⟨rfl, rfl⟩
    rw [hpI]
    clear hpI HPL
    go_wp2
    go_ret
    exact ⟨rfl, HI.out⟩
  | some i =>
    have hpI := plI_some hp
    obtain ⟨hi, hif, hib⟩ := place_lt h.fits hp
    have hi0 : decide ((i : Int) < 0) = false := by simp
    have hii : (i : Int) < ((p.s * p.y : Nat) : Int) := by omega
    clear h hg hu hp hif hib
    dsimp only
    by_cases c1 : w < 0
    · have g1 : decide (w < 0) = true := by simp; omega
      have g2 : decide (0 ≤ w) = false := by simp; omega
      rw [g2]
      simp only [Bool.false_and, Bool.false_eq_true, if_false]
      clear c1 g2
      go_enter Tryz.func115, Tryz.ntmps115
      go_wp2_with fail
      refine (HPL.out _ HI.out).mono ?_
      rintro e W2 ⟨rfl, rfl⟩
      rw [hpI]
      clear hpI HPL
      go_wp2
      go_ret
      exact ⟨rfl, HI.out⟩
    · have g1 : decide (w < 0) = false := by simp; omega
      have g2 : decide (0 ≤ w) = true := by simp; omega
      rw [g2]
      simp only [Bool.true_and]
      by_cases c2 : 15 < w
      · have g3 : decide (15 < w) = true := by simp; omega
        have g4 : decide (w < 16) = false := by simp; omega
        rw [g4]
        simp only [Bool.false_eq_true, if_false]
        clear c1 c2 g2 g4
        go_enter Tryz.func115, Tryz.ntmps115
        go_wp2_with fail
        refine (HPL.out _ HI.out).mono ?_
        rintro e W2 ⟨rfl, rfl⟩
        rw [hpI]
        clear hpI HPL
        go_wp2
        go_ret
        exact ⟨rfl, HI.out⟩
      · have g3 : decide (15 < w) = false := by simp; omega
        have g4 : decide (w < 16) = true := by simp; omega
        rw [g4]
        simp only [if_true]
        obtain ⟨n, rfl⟩ : ∃ n : Nat, w = n := ⟨w.toNat, by omega⟩
        have hn : n < 16 := by omega
        clear c1 c2 g2 g4
        have k8 : W.cell? ⟨p.kb, 8, none⟩ = some (.slice (some ⟨p.gl, 0, none⟩) (p.s * p.y) p.cl) := HI.out.bk.cell 8
        have hU := (HI.out.ok.okA i).isU
        have v1 : W.cell? ⟨p.gl, i * 18 + 1, none⟩ = some (.int .u8 (A i).st) := (HI.out.bl.cell (i * 18 + 1)).trans ((lnX_get hU hi (show 1 < 18 by omega)).trans (Ln.get1 _))
        by_cases c3 : (A i).st = 1
        · have g5 : ((A i).st == 1) = true := by simpa using c3
          simp only [if_pos c3]
          clear c3
          go_enter Tryz.func115, Tryz.ntmps115
          go_wp2_with fail
          refine (HPL.out _ HI.out).mono ?_
          rintro e W2 ⟨rfl, rfl⟩
          rw [hpI]
          clear hpI HPL
          go_wp2
          go_ret
          exact ⟨rfl, HI.out⟩
        · have g5 : ((A i).st == 1) = false := by simpa using c3
          simp only [if_neg c3]
          clear c3
          obtain ⟨d, hd⟩ := isU_get hU hn
          have v3 : W.cell? ⟨p.gl, i * 18 + 2 + n, none⟩ = some (.int .u32 d) := by
            rw [Nat.add_assoc]
            exact (HI.out.bl.cell (i * 18 + (2 + n))).trans ((lnX_get hU hi (show 2 + n < 18 by omega)).trans ((Ln.getD _ _).trans hd))
          have v4 : W.frozen? ⟨p.gl, i * 18 + 2 + n, none⟩ = false := HI.out.bl.frozen _
          have hx2 : ({ A i with D := (A i).D.setIfInBounds n (.int .u32 z) } : Ln).Ok := ⟨(HI.out.ok.okA i).st, isU_set hU _ _⟩
          have HI2 := HI.out.cell hi hx2 (show 2 + n < 18 by omega) (cells_D (A i) n (.int .u32 z))
          rw [← Nat.add_assoc] at HI2
          obtain ⟨W4, hW4⟩ : ∃ X, W.setCell ⟨p.gl, i * 18 + 2 + n, none⟩ (.int .u32 z) = X := ⟨_, rfl⟩
          rw [hW4] at HI2
          have HI2 := Lib.hid HI2
          have HW4 := Lib.hid hW4
          have hx3 : (wrL (A i) n z).Ok := ⟨by show 0 ≤ (3 : Int) ∧ (3 : Int) ≤ 255; omega, isU_set hU _ _⟩
          have hn16 : ((n : Nat) : Int) < 16 := by omega
          clear hd hx2 hW4
          go_enter Tryz.func115, Tryz.ntmps115
          go_wp2_with fail
          refine (HPL.out _ HI.out).mono ?_
          rintro e W2 ⟨rfl, rfl⟩
          rw [hpI]
          clear hpI HPL
          go_upto_region 9 with fail
          rw [HW4.out]
          clear v1 v3 v4 HW4 k8
          have k8 : W4.cell? ⟨p.kb, 8, none⟩ = some (.slice (some ⟨p.gl, 0, none⟩) (p.s * p.y) p.cl) := HI2.out.bk.cell 8
          have hU2 := (HI2.out.ok.okA i).isU
          have v1 : W4.cell? ⟨p.gl, i * 18 + 1, none⟩ = some (.int .u8 (updL A i { A i with D := (A i).D.setIfInBounds n (.int .u32 z) } i).st) := (HI2.out.bl.cell (i * 18 + 1)).trans ((lnX_get hU2 hi (show 1 < 18 by omega)).trans (Ln.get1 _))
          have v2 : W4.frozen? ⟨p.gl, i * 18 + 1, none⟩ = false := HI2.out.bl.frozen _
          have hc3 := HI2.out.cell hi hx3 (show 1 < 18 by omega) (v := .int .u8 3) (by
            rw [updL_self, ← cells_st]
            unfold wrL
            rw [Int.toNat_natCast])
          rw [updL_updL] at hc3
          have HI3 := Lib.hid hc3
          obtain ⟨W5, hW5⟩ : ∃ X, W4.setCell ⟨p.gl, i * 18 + 1, none⟩ (.int .u8 3) = X := ⟨_, rfl⟩
          rw [hW5] at HI3
          have HW5 := Lib.hid hW5
          clear hc3 hU hU2 hx3 hW5
          go_upto_region 10 with fail
          rw [HW5.out]
          clear v1 v2 HW5 k8 HI2
          go_wp2_with fail
          refine (rused_is HI3.out i hi).mono ?_
          rintro e W6 ⟨rfl, hc⟩
          have HI6 := Lib.hid hc
          clear hc
          go_wp2
          go_ret
          exact ⟨rfl, HI6.out⟩
end
end Go.Proofs.YtjgeflbhmhmjdaaGreat.KA
namespace Go.Proofs.YtjgeflbhmhmjdaaGreat.KA
open Go.RowKit
open BU (IsU words)
open PL (Cfg CC CV May)
attribute [local go_sem] Oper.semAt_some
attribute [local go_sem ↓] TLin.ld_eq TLin.st_eq TLin.al_eq TLin.bx_eq mkL_eq mkU_eq
attribute [local go_sem] TLin.al_run TLin.bx_run
section
variable {w0 W W' : World} {p : Kp} {T : TypeId} {c : Cfg} {A : Nat → Ln} {M : Nat → Int} {L : List Obj}
set_option maxRecDepth 100000 in
set_option maxHeartbeats 2000000 in
theorem rnew_yes (h : Sep NoF w0 W L) (c : Cfg) (hc : May c) : Calls Tryz.prog 64 #[CV c] W fun e W' =>
    ∃ p : Kp, e = .returned (.tuple #[ptr p.kb, .int .i64 0]) ∧ CIs RT w0 W' p c (fun _ => Ln.nil) (fun _ => 0) L ∧ Upd NoF W W' := by
  have hs := hc.2.2.2.2.2.2.1; have hy := hc.2.2.2.2.2.2.2.1
  obtain ⟨s, es⟩ : ∃ s : Nat, c.sets = s := ⟨c.sets.toNat, by omega⟩
  obtain ⟨y, ey⟩ : ∃ y : Nat, c.ways = y := ⟨c.ways.toNat, by omega⟩
  have hf : ∀ kb gl gm, (Kp.mk kb gl gm (s * y) s #[] #[] s y).Fits c := fun kb gl gm => by
    have hsy : s * y ≤ 64 := by
      have h1 : s = 1 ∨ s = 2 ∨ s = 4 ∨ s = 8 ∨ s = 16 := by omega
      have h2 : y = 1 ∨ y = 2 ∨ y = 4 := by omega
      rcases h1 with e | e | e | e | e <;> rcases h2 with e2 | e2 | e2 <;> rw [e, e2] <;> omega
    exact ⟨hc, es, ey, ⟨Nat.le_refl _, by unfold maxLen; dsimp only; omega⟩, ⟨Nat.le_refl _, by unfold maxLen; dsimp only; omega⟩, by simp, by simp⟩
  have hsm := Kp.small (hf 0 0 0)
  dsimp only at hsm
  have HFT := Lib.hid hf
  have HM := Lib.hid (fun w => (PL.rMay_any c w))
  rw [decide_eq_true hc] at HM
  have h1 := h.alloc (CC c) 27
  have hu1 := Upd.alloc NoF W (.cells (CC c) 27)
  obtain ⟨W1, hW1⟩ : ∃ X, W.alloc (.cells (CC c) 27) = X := ⟨_, rfl⟩
  rw [hW1] at h1 hu1
  have HS := Lib.hid h1; have HW1 := Lib.hid hW1; have HU1 := Lib.hid hu1
  have mk1 := mkL_run (s * y) (by omega)
  have mk2 := mkU_run s (by omega)
  have wm : IntKind.i64.wrap ((s : Int) * (y : Int)) = ((s * y : Nat) : Int) := by
    rw [show ((s : Int) * (y : Int)) = ((s * y : Nat) : Int) by simp]
    exact IntWalk.i64_in _ (by omega)
  have HES := Lib.hid (And.intro es ey)
  clear hc hs hy hf hW1 h h1 hu1 hsm es ey
  generalize hn : s * y = n at *
  go_enter Tryz.func64, Tryz.ntmps64
  go_wp2_with fail
  rw [HW1.out]
  refine (HM.out _).mono ?_
  rintro e W2 ⟨rfl, hu⟩
  have HS2 := Lib.hid (HS.out.upd0 hu)
  have HU2 := Lib.hid (HU1.out.trans hu (fun _ _ h => h))
  have d0 : W2.cell? ⟨W.heap.size, 0, none⟩ = some (.int .i64 c.cores) := (HS2.out.box 0 rfl).cell 0
  have d1 : W2.cell? ⟨W.heap.size, 1, none⟩ = some (.int .i64 s) := by rw [← HES.out.1]; exact (HS2.out.box 0 rfl).cell 1
  have d2 : W2.cell? ⟨W.heap.size, 2, none⟩ = some (.int .i64 y) := by rw [← HES.out.2]; exact (HS2.out.box 0 rfl).cell 2
  have d3 : W2.cell? ⟨W.heap.size, 3, none⟩ = some (.int .i64 c.blocks) := (HS2.out.box 0 rfl).cell 3
  have d4 : W2.cell? ⟨W.heap.size, 4, none⟩ = some (.int .i64 c.logs) := (HS2.out.box 0 rfl).cell 4
  have d5 : W2.cell? ⟨W.heap.size, 5, none⟩ = some (.int .i64 c.backs) := (HS2.out.box 0 rfl).cell 5
  have d6 : W2.cell? ⟨W.heap.size, 6, none⟩ = some (.int .i64 c.nest) := (HS2.out.box 0 rfl).cell 6
  have d7 : W2.cell? ⟨W.heap.size, 7, none⟩ = some (.int .i64 c.tries) := (HS2.out.box 0 rfl).cell 7
  have HS3 : Hid (Sep NoF w0 W2 L) := Lib.hid (HS2.out.drop 0 (Nat.succ_pos _))
  have d0_0 : (W2.alloc (.cells (lnRow n fun _ => Ln.nil) LT)).drew.cell? ⟨W.heap.size, 0, none⟩ = some (.int .i64 c.cores) := ((Upd.alloc NoF W2 _).trans (Upd.drew NoF _) (fun _ _ h => h)).cell d0 (fun h => h)
  have d0_1 : (W2.alloc (.cells (lnRow n fun _ => Ln.nil) LT)).drew.cell? ⟨W.heap.size, 1, none⟩ = some (.int .i64 s) := ((Upd.alloc NoF W2 _).trans (Upd.drew NoF _) (fun _ _ h => h)).cell d1 (fun h => h)
  have d0_2 : (W2.alloc (.cells (lnRow n fun _ => Ln.nil) LT)).drew.cell? ⟨W.heap.size, 2, none⟩ = some (.int .i64 y) := ((Upd.alloc NoF W2 _).trans (Upd.drew NoF _) (fun _ _ h => h)).cell d2 (fun h => h)
  have d0_3 : (W2.alloc (.cells (lnRow n fun _ => Ln.nil) LT)).drew.cell? ⟨W.heap.size, 3, none⟩ = some (.int .i64 c.blocks) := ((Upd.alloc NoF W2 _).trans (Upd.drew NoF _) (fun _ _ h => h)).cell d3 (fun h => h)
  have d0_4 : (W2.alloc (.cells (lnRow n fun _ => Ln.nil) LT)).drew.cell? ⟨W.heap.size, 4, none⟩ = some (.int .i64 c.logs) := ((Upd.alloc NoF W2 _).trans (Upd.drew NoF _) (fun _ _ h => h)).cell d4 (fun h => h)
  have d0_5 : (W2.alloc (.cells (lnRow n fun _ => Ln.nil) LT)).drew.cell? ⟨W.heap.size, 5, none⟩ = some (.int .i64 c.backs) := ((Upd.alloc NoF W2 _).trans (Upd.drew NoF _) (fun _ _ h => h)).cell d5 (fun h => h)
  have d0_6 : (W2.alloc (.cells (lnRow n fun _ => Ln.nil) LT)).drew.cell? ⟨W.heap.size, 6, none⟩ = some (.int .i64 c.nest) := ((Upd.alloc NoF W2 _).trans (Upd.drew NoF _) (fun _ _ h => h)).cell d6 (fun h => h)
  have d0_7 : (W2.alloc (.cells (lnRow n fun _ => Ln.nil) LT)).drew.cell? ⟨W.heap.size, 7, none⟩ = some (.int .i64 c.tries) := ((Upd.alloc NoF W2 _).trans (Upd.drew NoF _) (fun _ _ h => h)).cell d7 (fun h => h)
  have d1_0 : (W2.alloc (.cells (rowU s fun _ => 0) UT)).drew.cell? ⟨W.heap.size, 0, none⟩ = some (.int .i64 c.cores) := ((Upd.alloc NoF W2 _).trans (Upd.drew NoF _) (fun _ _ h => h)).cell d0 (fun h => h)
  have d1_1 : (W2.alloc (.cells (rowU s fun _ => 0) UT)).drew.cell? ⟨W.heap.size, 1, none⟩ = some (.int .i64 s) := ((Upd.alloc NoF W2 _).trans (Upd.drew NoF _) (fun _ _ h => h)).cell d1 (fun h => h)
  have d1_2 : (W2.alloc (.cells (rowU s fun _ => 0) UT)).drew.cell? ⟨W.heap.size, 2, none⟩ = some (.int .i64 y) := ((Upd.alloc NoF W2 _).trans (Upd.drew NoF _) (fun _ _ h => h)).cell d2 (fun h => h)
  have d1_3 : (W2.alloc (.cells (rowU s fun _ => 0) UT)).drew.cell? ⟨W.heap.size, 3, none⟩ = some (.int .i64 c.blocks) := ((Upd.alloc NoF W2 _).trans (Upd.drew NoF _) (fun _ _ h => h)).cell d3 (fun h => h)
  have d1_4 : (W2.alloc (.cells (rowU s fun _ => 0) UT)).drew.cell? ⟨W.heap.size, 4, none⟩ = some (.int .i64 c.logs) := ((Upd.alloc NoF W2 _).trans (Upd.drew NoF _) (fun _ _ h => h)).cell d4 (fun h => h)
  have d1_5 : (W2.alloc (.cells (rowU s fun _ => 0) UT)).drew.cell? ⟨W.heap.size, 5, none⟩ = some (.int .i64 c.backs) := ((Upd.alloc NoF W2 _).trans (Upd.drew NoF _) (fun _ _ h => h)).cell d5 (fun h => h)
  have d1_6 : (W2.alloc (.cells (rowU s fun _ => 0) UT)).drew.cell? ⟨W.heap.size, 6, none⟩ = some (.int .i64 c.nest) := ((Upd.alloc NoF W2 _).trans (Upd.drew NoF _) (fun _ _ h => h)).cell d6 (fun h => h)
  have d1_7 : (W2.alloc (.cells (rowU s fun _ => 0) UT)).drew.cell? ⟨W.heap.size, 7, none⟩ = some (.int .i64 c.tries) := ((Upd.alloc NoF W2 _).trans (Upd.drew NoF _) (fun _ _ h => h)).cell d7 (fun h => h)
  have d2_0 : ((W2.alloc (.cells (lnRow n fun _ => Ln.nil) LT)).alloc (.cells (rowU s fun _ => 0) UT)).drew.cell? ⟨W.heap.size, 0, none⟩ = some (.int .i64 c.cores) := (((Upd.alloc NoF W2 _).trans (Upd.alloc NoF _ _) (fun _ _ h => h)).trans (Upd.drew NoF _) (fun _ _ h => h)).cell d0 (fun h => h)
  have d2_1 : ((W2.alloc (.cells (lnRow n fun _ => Ln.nil) LT)).alloc (.cells (rowU s fun _ => 0) UT)).drew.cell? ⟨W.heap.size, 1, none⟩ = some (.int .i64 s) := (((Upd.alloc NoF W2 _).trans (Upd.alloc NoF _ _) (fun _ _ h => h)).trans (Upd.drew NoF _) (fun _ _ h => h)).cell d1 (fun h => h)
  have d2_2 : ((W2.alloc (.cells (lnRow n fun _ => Ln.nil) LT)).alloc (.cells (rowU s fun _ => 0) UT)).drew.cell? ⟨W.heap.size, 2, none⟩ = some (.int .i64 y) := (((Upd.alloc NoF W2 _).trans (Upd.alloc NoF _ _) (fun _ _ h => h)).trans (Upd.drew NoF _) (fun _ _ h => h)).cell d2 (fun h => h)
  have d2_3 : ((W2.alloc (.cells (lnRow n fun _ => Ln.nil) LT)).alloc (.cells (rowU s fun _ => 0) UT)).drew.cell? ⟨W.heap.size, 3, none⟩ = some (.int .i64 c.blocks) := (((Upd.alloc NoF W2 _).trans (Upd.alloc NoF _ _) (fun _ _ h => h)).trans (Upd.drew NoF _) (fun _ _ h => h)).cell d3 (fun h => h)
  have d2_4 : ((W2.alloc (.cells (lnRow n fun _ => Ln.nil) LT)).alloc (.cells (rowU s fun _ => 0) UT)).drew.cell? ⟨W.heap.size, 4, none⟩ = some (.int .i64 c.logs) := (((Upd.alloc NoF W2 _).trans (Upd.alloc NoF _ _) (fun _ _ h => h)).trans (Upd.drew NoF _) (fun _ _ h => h)).cell d4 (fun h => h)
  have d2_5 : ((W2.alloc (.cells (lnRow n fun _ => Ln.nil) LT)).alloc (.cells (rowU s fun _ => 0) UT)).drew.cell? ⟨W.heap.size, 5, none⟩ = some (.int .i64 c.backs) := (((Upd.alloc NoF W2 _).trans (Upd.alloc NoF _ _) (fun _ _ h => h)).trans (Upd.drew NoF _) (fun _ _ h => h)).cell d5 (fun h => h)
  have d2_6 : ((W2.alloc (.cells (lnRow n fun _ => Ln.nil) LT)).alloc (.cells (rowU s fun _ => 0) UT)).drew.cell? ⟨W.heap.size, 6, none⟩ = some (.int .i64 c.nest) := (((Upd.alloc NoF W2 _).trans (Upd.alloc NoF _ _) (fun _ _ h => h)).trans (Upd.drew NoF _) (fun _ _ h => h)).cell d6 (fun h => h)
  have d2_7 : ((W2.alloc (.cells (lnRow n fun _ => Ln.nil) LT)).alloc (.cells (rowU s fun _ => 0) UT)).drew.cell? ⟨W.heap.size, 7, none⟩ = some (.int .i64 c.tries) := (((Upd.alloc NoF W2 _).trans (Upd.alloc NoF _ _) (fun _ _ h => h)).trans (Upd.drew NoF _) (fun _ _ h => h)).cell d7 (fun h => h)
  have d3_0 : ((W2.alloc (.cells (rowU s fun _ => 0) UT)).alloc (.cells (lnRow n fun _ => Ln.nil) LT)).drew.cell? ⟨W.heap.size, 0, none⟩ = some (.int .i64 c.cores) := (((Upd.alloc NoF W2 _).trans (Upd.alloc NoF _ _) (fun _ _ h => h)).trans (Upd.drew NoF _) (fun _ _ h => h)).cell d0 (fun h => h)
  have d3_1 : ((W2.alloc (.cells (rowU s fun _ => 0) UT)).alloc (.cells (lnRow n fun _ => Ln.nil) LT)).drew.cell? ⟨W.heap.size, 1, none⟩ = some (.int .i64 s) := (((Upd.alloc NoF W2 _).trans (Upd.alloc NoF _ _) (fun _ _ h => h)).trans (Upd.drew NoF _) (fun _ _ h => h)).cell d1 (fun h => h)
  have d3_2 : ((W2.alloc (.cells (rowU s fun _ => 0) UT)).alloc (.cells (lnRow n fun _ => Ln.nil) LT)).drew.cell? ⟨W.heap.size, 2, none⟩ = some (.int .i64 y) := (((Upd.alloc NoF W2 _).trans (Upd.alloc NoF _ _) (fun _ _ h => h)).trans (Upd.drew NoF _) (fun _ _ h => h)).cell d2 (fun h => h)
  have d3_3 : ((W2.alloc (.cells (rowU s fun _ => 0) UT)).alloc (.cells (lnRow n fun _ => Ln.nil) LT)).drew.cell? ⟨W.heap.size, 3, none⟩ = some (.int .i64 c.blocks) := (((Upd.alloc NoF W2 _).trans (Upd.alloc NoF _ _) (fun _ _ h => h)).trans (Upd.drew NoF _) (fun _ _ h => h)).cell d3 (fun h => h)
  have d3_4 : ((W2.alloc (.cells (rowU s fun _ => 0) UT)).alloc (.cells (lnRow n fun _ => Ln.nil) LT)).drew.cell? ⟨W.heap.size, 4, none⟩ = some (.int .i64 c.logs) := (((Upd.alloc NoF W2 _).trans (Upd.alloc NoF _ _) (fun _ _ h => h)).trans (Upd.drew NoF _) (fun _ _ h => h)).cell d4 (fun h => h)
  have d3_5 : ((W2.alloc (.cells (rowU s fun _ => 0) UT)).alloc (.cells (lnRow n fun _ => Ln.nil) LT)).drew.cell? ⟨W.heap.size, 5, none⟩ = some (.int .i64 c.backs) := (((Upd.alloc NoF W2 _).trans (Upd.alloc NoF _ _) (fun _ _ h => h)).trans (Upd.drew NoF _) (fun _ _ h => h)).cell d5 (fun h => h)
  have d3_6 : ((W2.alloc (.cells (rowU s fun _ => 0) UT)).alloc (.cells (lnRow n fun _ => Ln.nil) LT)).drew.cell? ⟨W.heap.size, 6, none⟩ = some (.int .i64 c.nest) := (((Upd.alloc NoF W2 _).trans (Upd.alloc NoF _ _) (fun _ _ h => h)).trans (Upd.drew NoF _) (fun _ _ h => h)).cell d6 (fun h => h)
  have d3_7 : ((W2.alloc (.cells (rowU s fun _ => 0) UT)).alloc (.cells (lnRow n fun _ => Ln.nil) LT)).drew.cell? ⟨W.heap.size, 7, none⟩ = some (.int .i64 c.tries) := (((Upd.alloc NoF W2 _).trans (Upd.alloc NoF _ _) (fun _ _ h => h)).trans (Upd.drew NoF _) (fun _ _ h => h)).cell d7 (fun h => h)
  have d4_0 : W2.drew.cell? ⟨W.heap.size, 0, none⟩ = some (.int .i64 c.cores) := (Upd.drew NoF W2).cell d0 (fun h => h)
  have d4_1 : W2.drew.cell? ⟨W.heap.size, 1, none⟩ = some (.int .i64 s) := (Upd.drew NoF W2).cell d1 (fun h => h)
  have d4_2 : W2.drew.cell? ⟨W.heap.size, 2, none⟩ = some (.int .i64 y) := (Upd.drew NoF W2).cell d2 (fun h => h)
  have d4_3 : W2.drew.cell? ⟨W.heap.size, 3, none⟩ = some (.int .i64 c.blocks) := (Upd.drew NoF W2).cell d3 (fun h => h)
  have d4_4 : W2.drew.cell? ⟨W.heap.size, 4, none⟩ = some (.int .i64 c.logs) := (Upd.drew NoF W2).cell d4 (fun h => h)
  have d4_5 : W2.drew.cell? ⟨W.heap.size, 5, none⟩ = some (.int .i64 c.backs) := (Upd.drew NoF W2).cell d5 (fun h => h)
  have d4_6 : W2.drew.cell? ⟨W.heap.size, 6, none⟩ = some (.int .i64 c.nest) := (Upd.drew NoF W2).cell d6 (fun h => h)
  have d4_7 : W2.drew.cell? ⟨W.heap.size, 7, none⟩ = some (.int .i64 c.tries) := (Upd.drew NoF W2).cell d7 (fun h => h)
  have HN := Lib.hid hn
  have hcl : ∀ kb gl gm, (Kp.mk kb gl gm n s #[] #[] s y).cells c = #[.int .i64 c.cores, .int .i64 s, .int .i64 y, .int .i64 c.blocks, .int .i64 c.logs, .int .i64 c.backs, .int .i64 c.nest, .int .i64 c.tries, .slice (some ⟨gl, 0, none⟩) n n, .slice (some ⟨gm, 0, none⟩) s s] := fun kb gl gm => by
    unfold Kp.cells; rw [HES.out.1, HES.out.2]; dsimp only; rw [hn]
  have HCL := Lib.hid hcl
  have fin : ∀ (kb gl gm : Nat) (V : World), Upd NoF W2 V → Sep NoF w0 V (boxO kb ((Kp.mk kb gl gm n s #[] #[] s y).cells c) RT :: boxO gl (lnRow n (fun _ => Ln.nil)) LT :: boxO gm (rowU s (fun _ => 0)) UT :: L) →
      ∃ p : Kp, (Ending.returned (.tuple #[ptr kb, .int .i64 0])) = .returned (.tuple #[ptr p.kb, .int .i64 0]) ∧ CIs RT w0 V p c (fun _ => Ln.nil) (fun _ => 0) L ∧ Upd NoF W V := fun kb gl gm V hu hs => by
    refine ⟨Kp.mk kb gl gm n s #[] #[] s y, rfl, ⟨?_, HFT.out kb gl gm, ⟨fun _ => Ln.nil_ok, fun _ => by omega⟩⟩, HU2.out.trans hu (fun _ _ h => h)⟩
    dsimp only
    rw [hn, Array.append_empty, Array.append_empty]
    exact hs
  have HFIN := Lib.hid fin
  clear hu HM HS HS2 HW1 HU1 hn hcl fin
  go_wp2_with fail
  go_region
  · go_wp2
    go_ret2
    refine HFIN.out _ W2.heap.size (W2.heap.size + 1) _ ((((Upd.alloc NoF _ _).trans (Upd.alloc NoF _ _) (fun _ _ h => h)).trans (Upd.alloc NoF _ _) (fun _ _ h => h)).trans (Upd.drew NoF _) (fun _ _ h => h)) ?_
    have a1 := ((HS3.out.alloc (lnRow n (fun _ => Ln.nil)) LT).alloc (rowU s (fun _ => 0)) UT).alloc ((Kp.mk 0 W2.heap.size (W2.heap.size + 1) n s #[] #[] s y).cells c) RT
    rw [World.size_alloc, World.size_alloc] at a1
    have a2 := (swap23 a1).upd0 (Upd.drew NoF _)
    rw [HCL.out] at a2 ⊢
    exact a2
  · go_wp2
    go_ret2
    refine HFIN.out _ (W2.heap.size + 1) W2.heap.size _ ((((Upd.alloc NoF _ _).trans (Upd.alloc NoF _ _) (fun _ _ h => h)).trans (Upd.alloc NoF _ _) (fun _ _ h => h)).trans (Upd.drew NoF _) (fun _ _ h => h)) ?_
    have a1 := ((HS3.out.alloc (rowU s (fun _ => 0)) UT).alloc (lnRow n (fun _ => Ln.nil)) LT).alloc ((Kp.mk 0 (W2.heap.size + 1) W2.heap.size n s #[] #[] s y).cells c) RT
    rw [World.size_alloc, World.size_alloc] at a1
    have a2 := a1.upd0 (Upd.drew NoF _)
    rw [HCL.out] at a2 ⊢
    exact a2
set_option maxRecDepth 100000 in
set_option maxHeartbeats 1000000 in
theorem rfind_is (h : CIs T w0 W p c A M L) (hg : Good p A) (hu : Uniq p A) (b : Int) : Calls Tryz.prog 29 #[ptr p.kb, .int .i64 b] W fun e W' =>
    e = .returned (.tuple #[.agg (p.fnd A b).cells, .bool (p.place A b).isSome]) ∧ Upd NoF W W' := by
  have hu1 := Upd.alloc NoF W (.cells TLin.Z LT)
  have h1 := h.upd0 hu1
  have HPL := Lib.hid (rplace_is h1 hg hu b)
  have hub : ∀ (Y : World) (vs : List Value), (W.alloc (.cells TLin.Z LT)).setCells W.heap.size 0 vs = Y → Upd NoF W Y := fun Y vs e => by
    rw [← e]; exact hu1.trans (upd_setCells vs 0 _) (fun k hk e => by have e : k = W.heap.size := e; omega)
  have HB := Lib.hid hub
  have hQ := Blk.new W TLin.Z LT
  cases hp : p.place A b with
  | none =>
    rw [plI_none hp] at HPL
    have e1 : p.fnd A b = Ln.nil := by unfold Kp.fnd; rw [hp]
    rw [e1, Ln.nil_cells]
    obtain ⟨s1, q1⟩ := TLin.st_at TLin.isZ TLin.isZ hQ
    rw [zlit] at s1
    have HV := Lib.hid (TLin.ldV_at TLin.isZ q1.whole)
    generalize hX : (W.alloc (.cells TLin.Z LT)).setCells W.heap.size 0 TLin.Z.toList = X at *
    have HF := Lib.hid (HB.out _ _ hX)
    clear hX q1 hQ hub hu1 h h1 hg hu hp e1 HB
    go_enter Tryz.func29, Tryz.ntmps29
    go_wp2_with fail
    refine HPL.out.mono ?_
    rintro e W2 ⟨rfl, rfl⟩
    go_wp2
    have hv := HV.out
    refine bodyPost_ret (v := .tuple #[.agg TLin.Z, .bool false]) ?_ ?_ ?_
    · simp [results, Tryz.f29, asAddr, hv]
    · rfl
    exact ⟨rfl, HF.out⟩
  | some i =>
    rw [plI_some hp] at HPL
    obtain ⟨hi, -⟩ := place_lt h.fits hp
    have e1 : p.fnd A b = A i := by unfold Kp.fnd; rw [hp]
    rw [e1]
    have hx := h.ok.okA i
    have hxN := Ln.Ok.isN hx.isU
    have l1 := TLin.ld_at hxN (lnRow_range h1.bl hx.isU hi)
    have k8 : (W.alloc (.cells TLin.Z LT)).cell? ⟨p.kb, 8, none⟩ = some (.slice (some ⟨p.gl, 0, none⟩) (p.s * p.y) p.cl) := h1.bk.cell 8
    have hi0 : decide ((i : Int) < 0) = false := by simp
    have hii : (i : Int) < ((p.s * p.y : Nat) : Int) := by omega
    obtain ⟨s1, q1⟩ := TLin.st_at TLin.isZ hxN hQ
    have HV := Lib.hid (TLin.ldV_at hxN q1.whole)
    generalize A i = x at *
    generalize hX : (W.alloc (.cells TLin.Z LT)).setCells W.heap.size 0 x.cells.toList = X at *
    have HF := Lib.hid (HB.out _ _ hX)
    clear hX q1 hQ hub hu1 h h1 hg hu hp e1 HB hxN hx
    go_enter Tryz.func29, Tryz.ntmps29
    go_wp2_with fail
    refine HPL.out.mono ?_
    rintro e W2 ⟨rfl, rfl⟩
    go_wp2
    have hv := HV.out
    refine bodyPost_ret (v := .tuple #[.agg x.cells, .bool true]) ?_ ?_ ?_
    · simp [results, Tryz.f29, asAddr, hv]
    · rfl
    exact ⟨rfl, HF.out⟩
end
end Go.Proofs.YtjgeflbhmhmjdaaGreat.KA
