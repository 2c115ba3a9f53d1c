/- The reference of the cache: Goes (printed by tools/mkcre.py). -/
import Derived.Test.YtjgeflbhmhmjdaaGreatCacheSl
import Derived.Test.YtjgeflbhmhmjdaaGreatNearE
import Derived.Test.YtjgeflbhmhmjdaaGreatAggRback
import Derived.Test.YtjgeflbhmhmjdaaGreatDealRef
import Derived.Test.YtjgeflbhmhmjdaaGreatRefFits
import Derived.Test.YtjgeflbhmhmjdaaGreatCacheGd
set_option linter.unusedSimpArgs false
set_option linter.unusedVariables false
namespace Go.Proofs.YtjgeflbhmhmjdaaGreat.KA
open Go.RowKit
open BU (IsU words)
open PL (Cfg CC CV May)
attribute [local go_sem] Oper.semAt_some
attribute [local go_sem ↓] TLin.ld_eq TLin.st_eq TLin.al_eq TLin.bx_eq
attribute [local go_sem] TLin.al_run TLin.bx_run
section
variable {w0 W W' : World} {p : Kp} {T : TypeId} {c : Cfg} {A : Nat → Ln} {M : Nat → Int} {L : List Obj}
set_option maxRecDepth 100000 in
set_option maxHeartbeats 4000000 in
theorem rgoes_is (h : CIs T w0 W p c A M L) (hg : Good p A) (hu : Uniq p A) (b : Int) : Calls Tryz.prog 109 #[ptr p.kb, .int .i64 b] W fun e W' =>
    e = .returned (.tuple #[.agg (p.gone A M b).cells, .bool (p.goes A M b).isSome]) ∧ Upd NoF W W' := by
  have hu1 := Upd.alloc NoF W (.cells TLin.Z LT)
  have h1 := h.upd0 hu1
  have HPL := Lib.hid (rplace_is h1 hg hu b)
  have HFR := fun hm => Lib.hid (rfree_is h1 b hm)
  have hub : ∀ (X Y : World) (vs : List Value), Upd NoF W X → X.setCells W.heap.size 0 vs = Y → Upd NoF W Y := fun X Y vs hX e => by
    rw [← e]; exact hX.trans (upd_setCells vs 0 _) (fun k hk e => by have e : k = W.heap.size := e; omega)
  have HB := Lib.hid hub
  have HQ := Lib.hid (Blk.new W TLin.Z LT)
  have HU1 := Lib.hid hu1
  clear hub hu1
  cases hm : mayK b with
  | false =>
    have e1 : p.goes A M b = none := by unfold Kp.goes; rw [hm]; rfl
    have e2 : p.gone A M b = Ln.nil := by unfold Kp.gone; rw [e1]
    rw [e1, e2, Ln.nil_cells]
    obtain ⟨s1, q1⟩ := TLin.st_at TLin.isZ TLin.isZ HQ.out
    rw [zlit] at s1
    have HV := Lib.hid (TLin.ldV_at TLin.isZ q1.whole)
    generalize hX : (W.alloc (.cells TLin.Z LT)).setCells W.heap.size 0 TLin.Z.toList = X at *
    have HF := Lib.hid (HB.out _ _ _ HU1.out hX)
    have hnb := mayK_not hm
    clear hX q1 HB h h1 hg hu hm HPL HFR e1 e2
    by_cases c1 : b < 0
    · have g1 : decide (b < 0) = true := by simp; omega
      clear hnb c1
      go_enter Tryz.func109, Tryz.ntmps109
      go_wp2_with fail
      have hv := HV.out
      refine bodyPost_ret (v := .tuple #[.agg TLin.Z, .bool false]) ?_ ?_ ?_
      · simp [results, Tryz.f109, asAddr, hv]
      · rfl
      exact ⟨rfl, HF.out⟩
    · have g1 : decide (b < 0) = false := by simp; omega
      have g2 : decide (255 < b) = true := by simp; omega
      clear hnb c1
      go_enter Tryz.func109, Tryz.ntmps109
      go_wp2_with fail
      have hv := HV.out
      refine bodyPost_ret (v := .tuple #[.agg TLin.Z, .bool false]) ?_ ?_ ?_
      · simp [results, Tryz.f109, asAddr, hv]
      · rfl
      exact ⟨rfl, HF.out⟩
  | true =>
    have hbb := mayK_of hm
    have g1 : decide (b < 0) = false := by simp; omega
    have g2 : decide (255 < b) = false := by simp; omega
    rcases slot_cases p A b with ⟨i, hp, hs⟩ | ⟨hp, hs, hf⟩ | ⟨i, hp, hs, hf⟩
    · have e1 : p.goes A M b = none := by unfold Kp.goes; rw [hm, hp]; rfl
      have e2 : p.gone A M b = Ln.nil := by unfold Kp.gone; rw [e1]
      rw [e1, e2, Ln.nil_cells]
      rw [plI_some hp] at HPL
      obtain ⟨s1, q1⟩ := TLin.st_at TLin.isZ TLin.isZ HQ.out
      rw [zlit] at s1
      have HV := Lib.hid (TLin.ldV_at TLin.isZ q1.whole)
      generalize hX : (W.alloc (.cells TLin.Z LT)).setCells W.heap.size 0 TLin.Z.toList = X at *
      have HF := Lib.hid (HB.out _ _ _ HU1.out hX)
      have hi0 : decide (0 ≤ (i : Int)) = true := by simp
      clear hX q1 HB h h1 hg hu hm HFR e1 e2 hp hs hbb
      go_enter Tryz.func109, Tryz.ntmps109
      go_wp2_with fail
      refine HPL.out.mono ?_
      rintro e W2 ⟨rfl, rfl⟩
      go_wp2_with fail
      have hv := HV.out
      refine bodyPost_ret (v := .tuple #[.agg TLin.Z, .bool false]) ?_ ?_ ?_
      · simp [results, Tryz.f109, asAddr, hv]
      · rfl
      exact ⟨rfl, HF.out⟩
    · have hfr0 : p.fr A b < 0 := by
        unfold Kp.frI at hf
        by_cases h9 : p.fr A b < 0
        · exact h9
        · rw [if_neg h9] at hf; omega
      have hvr := vicV_rng (M (p.set b)) p.y (by have := h.fits.sy.2; omega)
      obtain ⟨v, hv2⟩ : ∃ v : Nat, vicV (M (p.set b)) p.y = v := ⟨_, (Int.toNat_of_nonneg hvr.1).symm⟩
      have e1 : p.goes A M b = some (p.set b * p.y + v) := by unfold Kp.goes; rw [hm, hp]; dsimp only; rw [if_pos rfl, if_pos hfr0, hv2]; rfl
      have e2 : p.gone A M b = A (p.set b * p.y + v) := by unfold Kp.gone; rw [e1]
      rw [e1, e2]
      rw [plI_none hp] at HPL
      have HFR := HFR hm
      rw [hf] at HFR
      have hvy : v < p.y := by omega
      have hlt := h.fits.idx_lt (b := b) hvy
      have hsm := Kp.small h.fits
      have hq := h.fits.set_lt b
      have hse := mayK_set h.fits hm
      have HSE := Lib.hid (fun w => rset_any c h.fits.may b hbb w)
      rw [hse] at HSE
      have HVC := Lib.hid (fun w => rvic_any (M (p.set b)) (h.ok.okM _) p.y (by have := h.fits.sy.2; omega) w)
      rw [hv2] at HVC
      have hxo := h.ok.okA (p.set b * p.y + v)
      have hxN := Ln.Ok.isN hxo.isU
      have HA : Hid (∀ X, Upd NoF (W.alloc (.cells TLin.Z LT)) X → X.cell? ⟨p.kb, 8, none⟩ = some (.slice (some ⟨p.gl, 0, none⟩) (p.s * p.y) p.cl) ∧ X.cell? ⟨p.kb, 2, none⟩ = some (.int .i64 p.y) ∧ X.cell? ⟨p.kb, 9, none⟩ = some (.slice (some ⟨p.gm, 0, none⟩) p.s p.cm) ∧ X.cell? ⟨p.gm, p.set b, none⟩ = some (.int .u8 (M (p.set b))) ∧ (TLin.ld (.pointer (some ⟨p.gl, (p.set b * p.y + v) * 18, none⟩))).run Tryz.prog X = .ok (.agg (A (p.set b * p.y + v)).cells) X) := Lib.hid (fun X hX => ⟨(h1.bk.upd hX (fun h => h)).cell 8, by rw [← h.fits.ew]; exact (h1.bk.upd hX (fun h => h)).cell 2, (h1.bk.upd hX (fun h => h)).cell 9, ((h1.bm.upd hX (fun h => h)).cell (p.set b)).trans (rowX_get hq), TLin.ld_at hxN (lnRow_range (h1.bl.upd hX (fun h => h)) hxo.isU hlt)⟩)
      have HCF := Lib.hid (fun X (hX : Upd NoF (W.alloc (.cells TLin.Z LT)) X) => (h1.bk.upd hX (fun h => h)))
      have hsb : ((p.set b * p.y : Nat) : Int) ≤ 64 := by have := Kp.row_le (y := p.y) hq; omega
      have w1 : IntKind.i64.wrap ((p.set b : Int) * (p.y : Int)) = ((p.set b * p.y : Nat) : Int) := by
        rw [show ((p.set b * p.y : Nat) : Int) = (p.set b : Int) * p.y by simp] at *
        exact IntWalk.i64_in _ (by omega)
      have w2 : IntKind.i64.wrap (((p.set b * p.y : Nat) : Int) + (v : Int)) = ((p.set b * p.y + v : Nat) : Int) := by rw [IntWalk.i64_in _ (by omega)]; simp
      have hin : ((p.set b * p.y + v : Nat) : Int) < ((p.s * p.y : Nat) : Int) := by omega
      have hqs : ((p.set b : Nat) : Int) < (p.s : Int) := by omega
      have HN := Lib.hid (And.intro w1 (And.intro w2 (And.intro hin hqs)))
      clear w1 w2 hin hqs hsb hse hsm hlt hvy hv2 hvr hfr0 hf hp hs hm hbb h h1 hg hu e1 e2 hxo
      generalize M (p.set b) = m at *
      generalize A (p.set b * p.y + v) = x at *
      generalize p.set b * p.y = oo at *
      generalize p.set b = q at *
      generalize p.s * p.y = n at *
      have hn1 : decide ((0 : Int) ≤ -1) = false := by decide
      go_enter Tryz.func109, Tryz.ntmps109
      go_wp2_with fail
      refine HPL.out.mono ?_
      rintro e W2 ⟨rfl, rfl⟩
      go_wp2_with fail
      refine HFR.out.mono ?_
      rintro e W3 ⟨rfl, hu⟩
      have HU3 := Lib.hid hu
      clear hu
      have k0 : W3.cell? ⟨p.kb, 0, none⟩ = some (.int .i64 c.cores) := (HCF.out _ HU3.out).cell 0
      have k1 : W3.cell? ⟨p.kb, 1, none⟩ = some (.int .i64 c.sets) := (HCF.out _ HU3.out).cell 1
      have k2 : W3.cell? ⟨p.kb, 2, none⟩ = some (.int .i64 c.ways) := (HCF.out _ HU3.out).cell 2
      have k3 : W3.cell? ⟨p.kb, 3, none⟩ = some (.int .i64 c.blocks) := (HCF.out _ HU3.out).cell 3
      have k4 : W3.cell? ⟨p.kb, 4, none⟩ = some (.int .i64 c.logs) := (HCF.out _ HU3.out).cell 4
      have k5 : W3.cell? ⟨p.kb, 5, none⟩ = some (.int .i64 c.backs) := (HCF.out _ HU3.out).cell 5
      have k6 : W3.cell? ⟨p.kb, 6, none⟩ = some (.int .i64 c.nest) := (HCF.out _ HU3.out).cell 6
      have k7 : W3.cell? ⟨p.kb, 7, none⟩ = some (.int .i64 c.tries) := (HCF.out _ HU3.out).cell 7
      go_wp2_with fail
      refine (HSE.out _).mono ?_
      rintro e W4 ⟨rfl, hu⟩
      have HU4 := Lib.hid (HU3.out.trans hu (fun _ _ h => h))
      clear hu k0 k1 k2 k3 k4 k5 k6 k7
      have hqs := HN.out.2.2.2
      go_wp2_with fail
      go_region_held3 (fun X => Upd NoF (W.alloc (.cells TLin.Z LT)) X ∧ X.cell? ⟨p.kb, 2, none⟩ = some (.int .i64 p.y) ∧ X.cell? ⟨p.kb, 9, none⟩ = some (.slice (some ⟨p.gm, 0, none⟩) p.s p.cm) ∧ X.cell? ⟨p.gm, q, none⟩ = some (.int .u8 m)) (first | assumption | exact ⟨HU4.out.trans (Upd.drew NoF _) (fun _ _ h => h), (HA.out _ (HU4.out.trans (Upd.drew NoF _) (fun _ _ h => h))).2.1, (HA.out _ (HU4.out.trans (Upd.drew NoF _) (fun _ _ h => h))).2.2.1, (HA.out _ (HU4.out.trans (Upd.drew NoF _) (fun _ _ h => h))).2.2.2.1⟩)
        (first | (go_at_call 138; have hS : Upd NoF (W.alloc (.cells TLin.Z LT)) _ ∧ _ := ‹_›; refine (HVC.out _).mono ?_; rintro e w1 ⟨rfl, hu⟩; have HU5 := Lib.hid (hS.1.trans hu (fun _ _ h => h)); have hS' : (fun X => Upd NoF (W.alloc (.cells TLin.Z LT)) X ∧ X.cell? ⟨p.kb, 2, none⟩ = some (.int .i64 p.y) ∧ X.cell? ⟨p.kb, 9, none⟩ = some (.slice (some ⟨p.gm, 0, none⟩) p.s p.cm) ∧ X.cell? ⟨p.gm, q, none⟩ = some (.int .u8 m)) w1 := ⟨HU5.out, (HA.out _ HU5.out).2.1, (HA.out _ HU5.out).2.2.1, (HA.out _ HU5.out).2.2.2.1⟩; clear hu))
      all_goals
        clear hS hS'
        have HU6 := Lib.hid (HU5.out.trans (Upd.drew NoF w1) (fun _ _ h => h))
        obtain ⟨k8, k2, -, -, l1⟩ := HA.out _ HU6.out
        obtain ⟨w1', w2', hin, -⟩ := HN.out
        obtain ⟨s1, q1⟩ := TLin.st_at TLin.isZ hxN (HQ.out.upd HU6.out (fun h => h))
        have HV := Lib.hid (TLin.ldV_at hxN q1.whole)
        have HF := Lib.hid (HB.out _ _ x.cells.toList (HU1.out.trans HU6.out (fun _ _ h => h)) rfl)
        clear q1 hqs
        go_wp2_with fail
        go_region
        all_goals
          go_wp2
          have hv := HV.out
          refine bodyPost_ret (v := .tuple #[.agg x.cells, .bool true]) ?_ ?_ ?_
          · simp [results, Tryz.f109, asAddr, hv]
          · rfl
          exact ⟨rfl, HF.out⟩
    · have e1 : p.goes A M b = none := by
        have h9 := goes_slot (p := p) (A := A) (M := M) hm
        rw [hs] at h9
        cases hgo : p.goes A M b with
        | none => rfl
        | some k => rw [hgo] at h9; cases h9
      have e2 : p.gone A M b = Ln.nil := by unfold Kp.gone; rw [e1]
      rw [e1, e2, Ln.nil_cells]
      rw [plI_none hp] at HPL
      have HFR := HFR hm
      rw [hf] at HFR
      have hi0 : decide (0 ≤ (i : Int)) = true := by simp
      clear h h1 hg hu hm e1 e2 hp hs hbb hf
      go_enter Tryz.func109, Tryz.ntmps109
      go_wp2_with fail
      refine HPL.out.mono ?_
      rintro e W2 ⟨rfl, rfl⟩
      go_wp2_with fail
      refine HFR.out.mono ?_
      rintro e W3 ⟨rfl, hu⟩
      obtain ⟨s1, q1⟩ := TLin.st_at TLin.isZ TLin.isZ (HQ.out.upd hu (fun h => h))
      rw [zlit] at s1
      have HV := Lib.hid (TLin.ldV_at TLin.isZ q1.whole)
      generalize hX : W3.setCells W.heap.size 0 TLin.Z.toList = X at *
      have HF := Lib.hid (HB.out _ _ _ (HU1.out.trans hu (fun _ _ h => h)) hX)
      clear hX q1 HB hu
      go_wp2_with fail
      have hv := HV.out
      refine bodyPost_ret (v := .tuple #[.agg TLin.Z, .bool false]) ?_ ?_ ?_
      · simp [results, Tryz.f109, asAddr, hv]
      · rfl
      exact ⟨rfl, HF.out⟩
end
end Go.Proofs.YtjgeflbhmhmjdaaGreat.KA
namespace Go.Proofs.YtjgeflbhmhmjdaaGreat.KA
open Go.RowKit
open BU (IsU words)
open PL (Cfg CC CV May)
section
variable {p r : Kp} {c : Cfg} {A : Nat → Ln} {M : Nat → Int}
def Like (p r : Kp) : Prop := r.s = p.s ∧ r.y = p.y
theorem Like.all (h : Like p r) : (∀ A x, r.putE A x = p.putE A x) ∧ (∀ A x, r.putA A x = p.putA A x) ∧ (∀ A M x, r.putM A M x = p.putM A M x) ∧ (∀ A b, r.place A b = p.place A b) ∧ (∀ A b, r.drpA A b = p.drpA A b) ∧ (∀ A M b, r.useM A M b = p.useM A M b) ∧
    (∀ A b s, r.trnE A b s = p.trnE A b s) ∧ (∀ A b s, r.trnA A b s = p.trnA A b s) ∧ (∀ A b w, r.wrE A b w = p.wrE A b w) ∧ (∀ A b w z, r.wrA A b w z = p.wrA A b w z) ∧ (∀ A M b w, r.wrM A M b w = p.wrM A M b w) ∧
    (∀ A M b, r.goes A M b = p.goes A M b) ∧ (∀ A M b, r.gone A M b = p.gone A M b) ∧ (∀ A b, r.fnd A b = p.fnd A b) ∧ (∀ A, Good r A ↔ Good p A) ∧ (∀ A, Uniq r A ↔ Uniq p A) := by
  obtain ⟨h1, h2⟩ := h
  cases r; cases p
  dsimp only at h1 h2
  subst h1 h2
  exact ⟨fun _ _ => rfl, fun _ _ => rfl, fun _ _ _ => rfl, fun _ _ => rfl, fun _ _ => rfl, fun _ _ _ => rfl, fun _ _ _ => rfl, fun _ _ _ => rfl, fun _ _ _ => rfl, fun _ _ _ _ => rfl, fun _ _ _ _ => rfl, fun _ _ _ => rfl, fun _ _ _ => rfl, fun _ _ => rfl, fun _ => Iff.rfl, fun _ => Iff.rfl⟩
end
end Go.Proofs.YtjgeflbhmhmjdaaGreat.KA
namespace Go.Proofs.YtjgeflbhmhmjdaaGreat.NR
open Go.RowKit
open BU (IsU words)
open PL (Cfg CC CV May)
open KA (Kp CIs OkA LT UT)
open DL (DS CD SV stampE beginE beginS endB openE endS failS overV overS)
abbrev RnT : TypeId := 73
abbrev RdT : TypeId := 78
structure Rd where
  p : Kp
  nb : Nat
  bb : Nat
  rb : Nat
  gr : Nat
  gw : Nat
  db : Nat
def Ns.dn (S : Ns) : Nat := S.data.toNat
def Ns.rhead (S : Ns) (r : Rd) : Array Value := #[.int .i64 S.c.cores, .int .i64 S.c.sets, .int .i64 S.c.ways, .int .i64 S.c.blocks, .int .i64 S.c.logs, .int .i64 S.c.backs, .int .i64 S.c.nest, .int .i64 S.c.tries,
  .int .i64 S.core, ptr r.p.kb, ptr r.bb, ptr r.rb, ptr r.db]
def Ns.rcells (S : Ns) (r : Rd) : Array Value := S.rhead r ++ (S.q.cells ++ #[.bool S.wa])
abbrev Rd.tail (r : Rd) (S : Ns) (L : List Obj) : List Obj :=
  boxO r.nb (S.rcells r) RnT :: BK.Ro r.bb S.dn S.zs S.c.backs :: boxO r.rb #[MK.sl r.gr S.dn, MK.sl r.gw S.dn] MK.RT :: boxO r.gr (MK.rowB S.dn (fun b => (S.f b).1)) MK.BT :: boxO r.gw (MK.rowB S.dn (fun b => (S.f b).2)) MK.BT ::
    boxO r.db (CD S.c.nest S.d) RdT :: L
abbrev Rd.objs (r : Rd) (S : Ns) (L : List Obj) : List Obj :=
  boxO r.p.kb (r.p.cells S.c) KA.RT :: boxO r.p.gl (lnRow (r.p.s * r.p.y) S.A ++ r.p.tl) LT :: boxO r.p.gm (rowU r.p.s S.M ++ r.p.tm) UT :: r.tail S L
structure ROk (p : Kp) (S : Ns) : Prop where
  ok : S.Ok p
  good : KA.Good p S.A
  uniq : KA.Uniq p S.A
  ind : ∀ b, ((S.f b).1 || (S.f b).2) = true → 0 ≤ b ∧ b < S.data
structure RIs (w0 W : World) (r : Rd) (S : Ns) (L : List Obj) : Prop where
  sep : Sep NoF w0 W (r.objs S L)
  ok : ROk r.p S
section
variable {w0 W W' : World} {r : Rd} {a : Ad} {S R : Ns} {L : List Obj}
theorem NIs.toR (h : NIs w0 W a S (r.objs R L)) (ok : ROk r.p R) : RIs w0 W r R (a.objs S L) :=
  ⟨((((((((h.sep.pickN 16 rfl).pickN 16 rfl).pickN 16 rfl).pickN 16 rfl).pickN 16 rfl).pickN 16 rfl).pickN 16 rfl).pickN 16 rfl).pickN 16 rfl, ok⟩
theorem RIs.toN (h : RIs w0 W r R (a.objs S L)) (ok : S.Ok a.p) : NIs w0 W a S (r.objs R L) :=
  ⟨(((((((h.sep.pickN 16 rfl).pickN 16 rfl).pickN 16 rfl).pickN 16 rfl).pickN 16 rfl).pickN 16 rfl).pickN 16 rfl).pickN 16 rfl, ok⟩
theorem dn_data {p : Kp} (h : S.Ok p) : (S.dn : Int) = S.data := by have := h.dataR; unfold Ns.dn; omega
theorem dn_le {p : Kp} (h : S.Ok p) : S.dn ≤ 256 := by have := h.dataR; unfold Ns.dn; omega
theorem rhead_size (S : Ns) (r : Rd) : (S.rhead r).size = 13 := rfl
theorem rcells_head (S : Ns) (r : Rd) {i : Nat} (hi : i < 13) : (S.rcells r)[i]? = (S.rhead r)[i]? := by
  unfold Ns.rcells
  rw [Array.getElem?_append_left (by rw [rhead_size]; exact hi)]
theorem rcells_q (S : Ns) (r : Rd) {i : Nat} {v : Value} (h : S.q.cells[i]? = some v) : (S.rcells r)[13 + i]? = some v := by
  unfold Ns.rcells
  have hl := (Array.getElem?_eq_some_iff.1 h).1
  rw [Array.getElem?_append_right (by rw [rhead_size]; omega), rhead_size, show 13 + i - 13 = i by omega, Array.getElem?_append_left hl]
  exact h
theorem rcells_wa {p : Kp} (h : S.Ok p) (r : Rd) : (S.rcells r)[37]? = some (.bool S.wa) := by
  unfold Ns.rcells
  have hq := (Nt.Ok.isN h.q.isU).1
  rw [Array.getElem?_append_right (by rw [rhead_size]; omega), rhead_size, Array.getElem?_append_right (by omega), hq]
  rfl
theorem RIs.box (h : RIs w0 W r S L) : Blk W r.nb (S.rcells r) RnT := h.sep.box 3 rfl
theorem RIs.deal (h : RIs w0 W r S L) : Blk W r.db (CD S.c.nest S.d) RdT := h.sep.box 8 rfl
theorem RIs.upd0 (h : RIs w0 W r S L) (hu : Upd NoF W W') : RIs w0 W' r S L := ⟨h.sep.upd0 hu, h.ok⟩
theorem RIs.hd (h : RIs w0 W r S L) {i : Nat} (hi : i < 13) : W.cell? ⟨r.nb, i, none⟩ = (S.rhead r)[i]? := (h.box.cell i).trans (rcells_head S r hi)
theorem RIs.qc (h : RIs w0 W r S L) {i : Nat} {v : Value} (hv : S.q.cells[i]? = some v) : W.cell? ⟨r.nb, 13 + i, none⟩ = some v := (h.box.cell _).trans (rcells_q S r hv)
theorem RIs.wc (h : RIs w0 W r S L) : W.cell? ⟨r.nb, 37, none⟩ = some (.bool S.wa) := (h.box.cell _).trans (rcells_wa h.ok.ok r)
theorem RIs.ldq (h : RIs w0 W r S L) : (TNot.ld (.pointer (some ⟨r.nb, 13, none⟩))).run Tryz.prog W = .ok (.agg S.q.cells) W :=
  TNot.ld_at (Nt.Ok.isN h.ok.ok.q.isU) (h.box.range 13 _ (fun j v hv => rcells_q S r (by simpa using hv)))
/- What lies beside it. -/
theorem RIs.alloc (h : RIs w0 W r S L) (cs : Array Value) (T : TypeId) : RIs w0 (W.alloc (.cells cs T)) r S (boxO W.heap.size cs T :: L) := ⟨(h.sep.alloc cs T).sink 9, h.ok⟩
theorem RIs.lb {g : Nat} {cs : Array Value} {T : TypeId} (h : RIs w0 W r S (boxO g cs T :: L)) : Blk W g cs T := h.sep.box 9 rfl
theorem RIs.lb2 {Φ : Obj} {g : Nat} {cs : Array Value} {T : TypeId} (h : RIs w0 W r S (Φ :: boxO g cs T :: L)) : Blk W g cs T := h.sep.box 10 rfl
theorem RIs.pop {Φ : Obj} (h : RIs w0 W r S (Φ :: L)) : RIs w0 W r S L := ⟨h.sep.drop 9 (by simp), h.ok⟩
theorem RIs.pop2 {Φ Ψ : Obj} (h : RIs w0 W r S (Φ :: Ψ :: L)) : RIs w0 W r S (Φ :: L) := ⟨h.sep.drop 10 (by simp), h.ok⟩
theorem RIs.outNil (h : RIs w0 W r S L) : RIs w0 W r S (outO nilV [] :: L) :=
  ⟨(h.sep.push (Φ := outO nilV []) (Upd.refl _ _) ⟨Row.nilN W, fun k hk => by simp [Value.ownBlock] at hk⟩).sink 9, h.ok⟩
theorem RIs.toOut {g : Nat} {n : Nt} (h : RIs w0 W r S (boxO g n.cells NT :: L)) (hn : IsU n.D) : RIs w0 W r S (outO (sl g 1 1) [n] :: L) :=
  ⟨((h.sep.pickN 9 rfl).head (fun F hF => out_one (Nt.Ok.isN hn).1 hF)).sink 9, h.ok⟩
theorem RIs.setAt (h : RIs w0 W r S L) (i : Nat) {g : Nat} {cs : Array Value} {T : TypeId} (hi : L[i]? = some (boxO g cs T)) {vs : Array Value} (hs : vs.size = cs.size) : RIs w0 (W.setCells g 0 vs.toList) r S (L.set i (boxO g vs T)) := by
  have hi' : (r.objs S L)[i + 9]? = some (boxO g cs T) := hi
  obtain ⟨F, hF, hst⟩ := h.sep.step (i + 9) hi'
  have h1 := blk_setCells vs.toList 0 W _ hF.1
  have e : setMany cs 0 vs.toList = vs := by
    have := setMany_front (A := cs) (B := #[]) (D := vs) hs
    simpa using this
  rw [e] at h1
  exact ⟨hst (boxO g vs T) _ ((upd_setCells (b := g) vs.toList 0 W).mono (fun k _ (hk : k = g) => hk ▸ hF.2)) ⟨h1, .inl hF.2⟩, h.ok⟩
theorem RIs.setIn (h : RIs w0 W r S L) (i : Nat) {g : Nat} {cs : Array Value} {T : TypeId} (hi : L[i]? = some (boxO g cs T)) (j : Nat) (vs : List Value) : RIs w0 (W.setCells g j vs) r S (L.set i (boxO g (setMany cs j vs) T)) := by
  have hi' : (r.objs S L)[i + 9]? = some (boxO g cs T) := hi
  obtain ⟨F, hF, hst⟩ := h.sep.step (i + 9) hi'
  exact ⟨hst (boxO g (setMany cs j vs) T) _ ((upd_setCells (b := g) vs j W).mono (fun k _ (hk : k = g) => hk ▸ hF.2)) ⟨blk_setCells vs j W _ hF.1, .inl hF.2⟩, h.ok⟩
theorem RIs.set1 (h : RIs w0 W r S L) (i : Nat) {g : Nat} {cs : Array Value} {T : TypeId} (hi : L[i]? = some (boxO g cs T)) (j : Nat) (v : Value) : RIs w0 (W.setCell ⟨g, j, none⟩ v) r S (L.set i (boxO g (cs.setIfInBounds j v) T)) :=
  ⟨h.sep.set (i + 9) hi j v, h.ok⟩
theorem RIs.lbAt (h : RIs w0 W r S L) (i : Nat) {g : Nat} {cs : Array Value} {T : TypeId} (hi : L[i]? = some (boxO g cs T)) : Blk W g cs T := h.sep.box (i + 9) hi
/- Its own cells are written. -/
theorem ROk.chq {p : Kp} (h : ROk p S) {q : Nt} (hok : q.Ok) : ROk p { S with q := q } := ⟨⟨h.ok.fits, h.ok.okA, h.ok.inv, h.ok.allU, h.ok.dep, h.ok.ca, h.ok.st, hok⟩, h.good, h.uniq, h.ind⟩
theorem ROk.chw {p : Kp} (h : ROk p S) (b : Bool) : ROk p { S with wa := b } := ⟨⟨h.ok.fits, h.ok.okA, h.ok.inv, h.ok.allU, h.ok.dep, h.ok.ca, h.ok.st, h.ok.q⟩, h.good, h.uniq, h.ind⟩
theorem RIs.setw (h : RIs w0 W r S L) (b : Bool) : RIs w0 (W.setCell ⟨r.nb, 37, none⟩ (.bool b)) r { S with wa := b } L := by
  have h1 := h.sep.set 3 rfl 37 (.bool b)
  have hq := (Nt.Ok.isN h.ok.ok.q.isU).1
  have e : (S.rcells r).setIfInBounds 37 (.bool b) = Ns.rcells { S with wa := b } r := by
    have e0 : Ns.rhead { S with wa := b } r = S.rhead r := rfl
    unfold Ns.rcells
    rw [e0, Array.setIfInBounds_append_right (by rw [rhead_size]; omega), rhead_size, Array.setIfInBounds_append_right (by rw [hq]; omega), hq]
    rfl
  rw [e] at h1
  exact ⟨h1, h.ok.chw b⟩
theorem RIs.setqc (h : RIs w0 W r S L) {j : Nat} {v : Value} (hj : j < 24) {q : Nt} (hq : S.q.cells.setIfInBounds j v = q.cells) (hok : q.Ok) : RIs w0 (W.setCell ⟨r.nb, 13 + j, none⟩ v) r { S with q := q } L := by
  have h1 := h.sep.set 3 rfl (13 + j) v
  have hs := (Nt.Ok.isN h.ok.ok.q.isU).1
  have e : (S.rcells r).setIfInBounds (13 + j) v = Ns.rcells { S with q := q } r := by
    have e0 : Ns.rhead { S with q := q } r = S.rhead r := rfl
    unfold Ns.rcells
    rw [e0, Array.setIfInBounds_append_right (by rw [rhead_size]; omega), rhead_size, show 13 + j - 13 = j by omega, Array.setIfInBounds_append_left (by omega), hq]
  rw [e] at h1
  exact ⟨h1, h.ok.chq hok⟩
theorem RIs.setq (h : RIs w0 W r S L) {q : Nt} (hok : q.Ok) : RIs w0 (W.setCells r.nb 13 q.cells.toList) r { S with q := q } L := by
  obtain ⟨F, hF, hst⟩ := h.sep.step 3 rfl
  have h1 := blk_setCells q.cells.toList 13 W _ hF.1
  have e : setMany (S.rcells r) 13 q.cells.toList = Ns.rcells { S with q := q } r := by
    have hs := (Nt.Ok.isN h.ok.ok.q.isU).1
    have hs2 := (Nt.Ok.isN hok.isU).1
    have e0 : Ns.rhead { S with q := q } r = S.rhead r := rfl
    unfold Ns.rcells
    rw [e0, ← Array.append_assoc, ← Array.append_assoc, setMany_app (by rw [Array.size_append, rhead_size, hs, Array.length_toList, hs2]; decide), setMany_tail (rhead_size S r) (by rw [hs, hs2])]
  rw [e] at h1
  exact ⟨hst (boxO r.nb (Ns.rcells { S with q := q } r) RnT) _ ((upd_setCells (b := r.nb) q.cells.toList 13 W).mono (fun k _ (hk : k = r.nb) => hk ▸ hF.2)) ⟨h1, .inl hF.2⟩, h.ok.chq hok⟩
theorem rnst_mid (h : RIs w0 W r S L) {q : Nt} (hok : q.Ok) : (TNot.st (.pointer (some ⟨r.nb, 13, none⟩)) (.agg q.cells)).run Tryz.prog W = .ok () (W.setCells r.nb 13 q.cells.toList) :=
  run_storeAt_mid W r.nb 13 NT q.cells (there_of h.box (by
    have hs := (Nt.Ok.isN h.ok.ok.q.isU).1
    have hs2 := (Nt.Ok.isN hok.isU).1
    unfold Ns.rcells
    rw [Array.size_append, Array.size_append, rhead_size, hs, hs2]; exact (by decide : 13 + 24 ≤ 13 + (24 + 1)))) (by rw [TNot.infoS, (Nt.Ok.isN hok.isU).1]) (Nt.Ok.isN hok.isU).all
/- The cache. -/
theorem RIs.cache (h : RIs w0 W r S L) : CIs KA.RT w0 W r.p S.c S.A S.M (r.tail S L) := ⟨h.sep, h.ok.ok.fits, h.ok.ok.okA⟩
theorem RIs.ofCache (h : RIs w0 W r S L) {A : Nat → Ln} {M : Nat → Int} (hc : CIs KA.RT w0 W' r.p S.c A M (r.tail S L)) (hg : KA.Good r.p A) (hu : KA.Uniq r.p A) : RIs w0 W' r { S with A := A, M := M } L :=
  ⟨hc.sep, ⟨⟨hc.fits, hc.ok, h.ok.ok.inv, h.ok.ok.allU, h.ok.ok.dep, h.ok.ok.ca, h.ok.ok.st, h.ok.ok.q⟩, hg, hu, h.ok.ind⟩⟩
theorem rcfind_is (h : RIs w0 W r S L) (b : Int) : Calls Tryz.prog 29 #[ptr r.p.kb, .int .i64 b] W fun e W' => e = .returned (.tuple #[.agg (r.p.fnd S.A b).cells, .bool (r.p.place S.A b).isSome]) ∧ Upd NoF W W' := KA.rfind_is h.cache h.ok.good h.ok.uniq b
theorem rcgoes_is (h : RIs w0 W r S L) (b : Int) : Calls Tryz.prog 109 #[ptr r.p.kb, .int .i64 b] W fun e W' => e = .returned (.tuple #[.agg (r.p.gone S.A S.M b).cells, .bool (r.p.goes S.A S.M b).isSome]) ∧ Upd NoF W W' := KA.rgoes_is h.cache h.ok.good h.ok.uniq b
theorem rcput_is (h : RIs w0 W r S L) (x : Ln) (hx : x.Ok) : Calls Tryz.prog 118 #[ptr r.p.kb, .agg x.cells] W fun e W' => e = .returned (.int .i64 (r.p.putE S.A x)) ∧ RIs w0 W' r { S with A := r.p.putA S.A x, M := r.p.putM S.A S.M x } L :=
  (KA.rput_is h.cache h.ok.good h.ok.uniq x hx).mono fun e W' ⟨he, hc⟩ => ⟨he, h.ofCache hc (h.ok.good.put x) (KA.Uniq.put h.ok.ok.fits h.ok.good h.ok.uniq x)⟩
theorem rcdrop_is (h : RIs w0 W r S L) (b : Int) : Calls Tryz.prog 112 #[ptr r.p.kb, .int .i64 b] W fun e W' => e = .returned (.bool (r.p.place S.A b).isSome) ∧ RIs w0 W' r { S with A := r.p.drpA S.A b } L :=
  (KA.rdrop_is h.cache h.ok.good h.ok.uniq b).mono fun e W' ⟨he, hc⟩ => ⟨he, h.ofCache hc (h.ok.good.drp b) (h.ok.uniq.drp b)⟩
theorem rcuse_is (h : RIs w0 W r S L) (b : Int) : Calls Tryz.prog 113 #[ptr r.p.kb, .int .i64 b] W fun e W' => e = .returned (.bool (r.p.place S.A b).isSome) ∧ RIs w0 W' r { S with M := r.p.useM S.A S.M b } L :=
  (KA.rkUse_is h.cache h.ok.good h.ok.uniq b).mono fun e W' ⟨he, hc⟩ => ⟨he, h.ofCache hc h.ok.good h.ok.uniq⟩
theorem rcturn_is (h : RIs w0 W r S L) (b s : Int) (hs : 0 ≤ s ∧ s ≤ 255) : Calls Tryz.prog 146 #[ptr r.p.kb, .int .i64 b, .int .u8 s] W fun e W' => e = .returned (.int .i64 (r.p.trnE S.A b s)) ∧ RIs w0 W' r { S with A := r.p.trnA S.A b s } L :=
  (KA.rturn_is h.cache h.ok.good h.ok.uniq b s hs).mono fun e W' ⟨he, hc⟩ => ⟨he, h.ofCache hc (KA.Good.trn h.ok.ok.fits h.ok.good b s) (KA.Uniq.trn h.ok.ok.fits h.ok.uniq b s)⟩
theorem rcwrite_is (h : RIs w0 W r S L) (b w z : Int) : Calls Tryz.prog 115 #[ptr r.p.kb, .int .i64 b, .int .i64 w, .int .u32 z] W fun e W' => e = .returned (.int .i64 (r.p.wrE S.A b w)) ∧ RIs w0 W' r { S with A := r.p.wrA S.A b w z, M := r.p.wrM S.A S.M b w } L :=
  (KA.rwrite_is h.cache h.ok.good h.ok.uniq b w z).mono fun e W' ⟨he, hc⟩ => ⟨he, h.ofCache hc (KA.Good.wr h.ok.ok.fits h.ok.good b w z) (KA.Uniq.wr h.ok.ok.fits h.ok.uniq b w z)⟩
/- The backs. -/
theorem ROk.bk {p : Kp} (h : ROk p S) {zs : List BK.Bk} (hi : BK.Inv S.data S.c.backs zs) (hu : AllU zs) : ROk p { S with zs := zs } := ⟨h.ok.bk hi hu, h.good, h.uniq, h.ind⟩
theorem rbhas_is (h : RIs w0 W r S L) (b : Int) : Calls Tryz.prog 81 #[ptr r.bb, .int .i64 b] W fun e W' => e = .returned (.bool (bkI S.zs b)) ∧ W = W' := by
  obtain ⟨F, hF⟩ := h.sep.has 4 rfl
  exact BK.rhas_any W F r.bb S.dn S.zs S.c.backs b hF h.ok.ok.inv (dn_data h.ok.ok) (by have := dn_le h.ok.ok; omega)
theorem rbfind_is (h : RIs w0 W r S L) (b : Int) : Calls Tryz.prog 30 #[ptr r.bb, .int .i64 b] W fun e W' => e = .returned (.tuple #[.agg (bkD S.zs b), .bool (bkL S.zs b), .bool (bkI S.zs b)]) ∧ Upd NoF W W' := by
  obtain ⟨F, hF⟩ := h.sep.has 4 rfl
  rw [← findV_eq]
  exact BK.rfind_any W F r.bb S.dn S.zs S.c.backs b hF h.ok.ok.inv (dn_data h.ok.ok) (by have := dn_le h.ok.ok; omega)
theorem rblen_is (h : RIs w0 W r S L) : Calls Tryz.prog 110 #[ptr r.bb] W fun e W' => e = .returned (.int .i64 S.zs.length) ∧ W = W' := by
  obtain ⟨F, hF⟩ := h.sep.has 4 rfl
  exact BK.rlen_any W F r.bb S.dn S.zs S.c.backs hF h.ok.ok.inv (dn_data h.ok.ok) (by have := dn_le h.ok.ok; omega)
theorem rbput_is (h : RIs w0 W r S L) (b : Int) (D : Array Value) (hD : IsU D) : Calls Tryz.prog 111 #[ptr r.bb, .int .i64 b, .agg D] W fun e W' =>
    e = .returned (.int .i64 (BK.putE S.data S.c.backs S.zs b)) ∧ RIs w0 W' r { S with zs := BK.putS S.data S.c.backs S.zs b D } L :=
  (h.sep.call 4 rfl (fun F hF => BK.rput_any W F r.bb S.dn S.zs S.c.backs b D (isU_N hD) hF h.ok.ok.inv (dn_data h.ok.ok) (by have := dn_le h.ok.ok; omega))).mono fun e W' ⟨he, hs⟩ =>
    ⟨he, hs, h.ok.bk (h.ok.ok.inv.put b (isU_N hD)) (allU_put h.ok.ok.allU b hD)⟩
theorem rbdrop_is (h : RIs w0 W r S L) (b : Int) : Calls Tryz.prog 120 #[ptr r.bb, .int .i64 b] W fun e W' =>
    e = .returned (.bool (BK.dropB S.zs b)) ∧ RIs w0 W' r { S with zs := BK.dropS S.zs b } L :=
  (h.sep.call 4 rfl (fun F hF => BK.rdrop_any W F r.bb S.dn S.zs S.c.backs b hF h.ok.ok.inv (dn_data h.ok.ok) (by have := dn_le h.ok.ok; omega))).mono fun e W' ⟨he, hs⟩ =>
    ⟨he, hs, h.ok.bk (h.ok.ok.inv.drop b) (allU_drop h.ok.ok.allU b)⟩
theorem rbkill_is (h : RIs w0 W r S L) (b : Int) : Calls Tryz.prog 145 #[ptr r.bb, .int .i64 b] W fun e W' =>
    e = .returned (.bool (BK.killB S.zs b)) ∧ RIs w0 W' r { S with zs := BK.killS S.zs b } L :=
  (h.sep.call 4 rfl (fun F hF => BK.rkill_any W F r.bb S.dn S.zs S.c.backs b hF h.ok.ok.inv (dn_data h.ok.ok) (by have := dn_le h.ok.ok; omega))).mono fun e W' ⟨he, hs⟩ =>
    ⟨he, hs, h.ok.bk (h.ok.ok.inv.kill b) (allU_kill h.ok.ok.allU b)⟩
/- The marks. -/
theorem mk_in (h : ROk r.p S) (x : Int) : (MK.mayB S.dn x && (S.f x).1) = (S.f x).1 ∧ (MK.mayB S.dn x && (S.f x).2) = (S.f x).2 := by
  have hd := dn_data h.ok
  rw [hd]
  have hb : ((S.f x).1 || (S.f x).2) = true → MK.mayB S.data x = true := fun hh => by
    obtain ⟨h1, h2⟩ := h.ind x hh
    unfold MK.mayB
    simp [h1, h2]
  cases h1 : (S.f x).1 <;> cases h2 : (S.f x).2 <;> simp [h1, h2] at hb ⊢ <;> exact hb
theorem putF_1 (data : Int) (f : Int → Bool × Bool) (x : Int) (r q : Bool) (j : Int) : (MK.putF data f x r q j).1 = (if MK.mayB data x = true ∧ j = x then (f x).1 || r else (f j).1) := by
  unfold MK.putF MM.put
  cases h : MK.mayB data x <;> by_cases e : j = x <;> simp [e]
theorem putF_2 (data : Int) (f : Int → Bool × Bool) (x : Int) (r q : Bool) (j : Int) : (MK.putF data f x r q j).2 = (if MK.mayB data x = true ∧ j = x then (f x).2 || q else (f j).2) := by
  unfold MK.putF MM.put
  cases h : MK.mayB data x <;> by_cases e : j = x <;> simp [e]
theorem ROk.put {p : Kp} (h : ROk p S) (x : Int) (r q : Bool) (n : Nat) : ROk p { S with n := n, f := MK.putF S.data S.f x r q } :=
  ⟨⟨h.ok.fits, h.ok.okA, h.ok.inv, h.ok.allU, h.ok.dep, h.ok.ca, h.ok.st, h.ok.q⟩, h.good, h.uniq, fun b hb => by
    replace hb : ((MK.putF S.data S.f x r q b).1 || (MK.putF S.data S.f x r q b).2) = true := hb
    rw [putF_1, putF_2] at hb
    by_cases e : MK.mayB S.data x = true ∧ b = x
    · obtain ⟨e1, rfl⟩ := e
      unfold MK.mayB at e1
      have : 0 ≤ b ∧ b < S.data := by simpa using e1
      exact this
    · rw [if_neg e, if_neg e] at hb
      exact h.ind b hb⟩
theorem rmhas_is (h : RIs w0 W r S L) (x : Int) : Calls Tryz.prog 32 #[ptr r.rb, .int .i64 x] W fun e W' => e = .returned (.tuple #[.bool (S.f x).1, .bool (S.f x).2]) ∧ Upd NoF W W' := by
  have := MK.rhas_any h.sep 5 rfl rfl rfl x
  rw [(mk_in h.ok x).1, (mk_in h.ok x).2] at this
  exact this
theorem rmmeets_is (h : RIs w0 W r S L) (k x : Int) : Calls Tryz.prog 144 #[ptr r.rb, .int .u8 k, .int .i64 x] W fun e W' => e = .returned (.bool (MK.meetB k (S.f x))) ∧ Upd NoF W W' := by
  have := MK.rmeets_any h.sep 5 rfl rfl rfl k x
  rw [(mk_in h.ok x).1, (mk_in h.ok x).2] at this
  exact this
theorem rmread_is (h : RIs w0 W r S L) (x : Int) (n : Nat) : Calls Tryz.prog 114 #[ptr r.rb, .int .i64 x] W fun e W' => e = .returned (.int .i64 (MK.putE S.data x)) ∧ RIs w0 W' r { S with n := n, f := MK.putF S.data S.f x true false } L := by
  refine (MK.rread_any h.sep 5 rfl rfl x).mono fun e W' ⟨he, hs, _⟩ => ?_
  rw [dn_data h.ok.ok] at he hs
  refine ⟨he, ?_, h.ok.put x true false n⟩
  have e1 : (fun j => if MK.mayB S.data x = true ∧ j = x then true else (S.f j).1) = fun j => (MK.putF S.data S.f x true false j).1 := by
    funext j; rw [putF_1]; split <;> simp
  have e2 : (fun j => (S.f j).2) = fun j => (MK.putF S.data S.f x true false j).2 := by
    funext j; rw [putF_2]; split
    · rename_i e; rw [e.2]; simp
    · rfl
  rw [e1] at hs
  have hs : Sep NoF w0 W' (boxO r.p.kb (r.p.cells S.c) KA.RT :: boxO r.p.gl (lnRow (r.p.s * r.p.y) S.A ++ r.p.tl) LT :: boxO r.p.gm (rowU r.p.s S.M ++ r.p.tm) UT :: boxO r.nb (S.rcells r) RnT :: BK.Ro r.bb S.dn S.zs S.c.backs :: boxO r.rb #[MK.sl r.gr S.dn, MK.sl r.gw S.dn] MK.RT :: boxO r.gr (MK.rowB S.dn (fun j => (MK.putF S.data S.f x true false j).1)) MK.BT :: boxO r.gw (MK.rowB S.dn (fun j => (S.f j).2)) MK.BT :: boxO r.db (CD S.c.nest S.d) RdT :: L) := hs
  rw [e2] at hs
  exact hs
theorem rmwrite_is (h : RIs w0 W r S L) (x : Int) (n : Nat) : Calls Tryz.prog 116 #[ptr r.rb, .int .i64 x] W fun e W' => e = .returned (.int .i64 (MK.putE S.data x)) ∧ RIs w0 W' r { S with n := n, f := MK.putF S.data S.f x false true } L := by
  refine (MK.rwrite_any h.sep 5 rfl rfl x).mono fun e W' ⟨he, hs, _⟩ => ?_
  rw [dn_data h.ok.ok] at he hs
  refine ⟨he, ?_, h.ok.put x false true n⟩
  have e1 : (fun j => if MK.mayB S.data x = true ∧ j = x then true else (S.f j).2) = fun j => (MK.putF S.data S.f x false true j).2 := by
    funext j; rw [putF_2]; split <;> simp
  have e2 : (fun j => (S.f j).1) = fun j => (MK.putF S.data S.f x false true j).1 := by
    funext j; rw [putF_1]; split
    · rename_i e; rw [e.2]; simp
    · rfl
  rw [e1] at hs
  have hs : Sep NoF w0 W' (boxO r.p.kb (r.p.cells S.c) KA.RT :: boxO r.p.gl (lnRow (r.p.s * r.p.y) S.A ++ r.p.tl) LT :: boxO r.p.gm (rowU r.p.s S.M ++ r.p.tm) UT :: boxO r.nb (S.rcells r) RnT :: BK.Ro r.bb S.dn S.zs S.c.backs :: boxO r.rb #[MK.sl r.gr S.dn, MK.sl r.gw S.dn] MK.RT :: boxO r.gr (MK.rowB S.dn (fun j => (S.f j).1)) MK.BT :: boxO r.gw (MK.rowB S.dn (fun j => (MK.putF S.data S.f x false true j).2)) MK.BT :: boxO r.db (CD S.c.nest S.d) RdT :: L) := hs
  rw [e2] at hs
  exact hs
theorem rmclear_is (h : RIs w0 W r S L) (n : Nat) : Calls Tryz.prog 79 #[ptr r.rb] W fun e W' => e = .returned (.tuple #[]) ∧ ∃ g1 g2, RIs w0 W' { r with gr := g1, gw := g2 } { S with n := n, f := MK.none2 } L := by
  have h1 := ((((h.sep.pickN 7 rfl).pickN 7 rfl).pickN 7 rfl).pickN 3 rfl).pickN 4 rfl
  refine (MK.rclear_any h1 (dn_le h.ok.ok)).mono fun e W' ⟨he, _, g1, g2, hs⟩ => ⟨he, g1, g2, ?_, ?_⟩
  · exact ((((hs.pickN 7 rfl).pickN 7 rfl).pickN 7 rfl).pickN 3 rfl).pickN 4 rfl
  · exact ⟨⟨h.ok.ok.fits, h.ok.ok.okA, h.ok.ok.inv, h.ok.ok.allU, h.ok.ok.dep, h.ok.ok.ca, h.ok.ok.st, h.ok.ok.q⟩, h.ok.good, h.ok.uniq, fun b hb => by cases hb⟩
/- The transaction. -/
theorem RIs.ofDeal (h : RIs w0 W r S L) {d : DS} (hb : DL.RAt W' r.db S.c.nest d) (hu : Upd (OnlyAt r.db) W W') (h1 : 0 ≤ d.depth ∧ d.depth ≤ S.c.nest) (h2 : 0 ≤ d.ca ∧ d.ca ≤ 4294967295) (h3 : 0 ≤ d.st ∧ d.st ≤ 18446744073709551615) : RIs w0 W' r { S with d := d } L := by
  obtain ⟨F, hF, hs⟩ := h.sep.step 8 rfl
  exact ⟨hs (boxO r.db (CD S.c.nest d) RdT) W' (hu.mono (fun k _ (hk : k = r.db) => hk ▸ hF.2)) ⟨hb, .inl hF.2⟩, ⟨⟨h.ok.ok.fits, h.ok.ok.okA, h.ok.ok.inv, h.ok.ok.allU, h1, h2, h3, h.ok.ok.q⟩, h.ok.good, h.ok.uniq, h.ok.ind⟩⟩
theorem stampE_ge {d : DS} (h : 0 ≤ d.st) : 0 ≤ stampE d := by
  unfold stampE
  split
  · exact Int.le_refl 0
  · exact h
theorem rdstamp_is (h : RIs w0 W r S L) : Calls Tryz.prog 26 #[ptr r.db] W fun e W' => e = .returned (.int .u64 (stampE S.d)) ∧ W = W' := DL.rstamp_any r.db S.c.nest S.d W h.deal
theorem rdasked_is (h : RIs w0 W r S L) (m : Bool) (s : Int) (hs : 0 ≤ s) : Calls Tryz.prog 143 #[ptr r.db, .bool m, .int .u64 s] W fun e W' =>
    e = .returned (.bool (DL.askedB S.d m)) ∧ RIs w0 W' r { S with d := DL.askedS S.d m s } L :=
  (DL.rasked_any r.db S.c.nest S.d m s (stampE_ge h.ok.ok.st.1) hs W h.deal).mono fun e W' ⟨he, hb, hu⟩ => ⟨he, h.ofDeal hb hu h.ok.ok.dep h.ok.ok.ca h.ok.ok.st⟩
theorem rdrefused_is (h : RIs w0 W r S L) (s : Int) (hs : 0 ≤ s) : Calls Tryz.prog 119 #[ptr r.db, .int .u64 s] W fun e W' => e = .returned (.bool (DL.refusedB S.d s)) ∧ Upd NoF W W' :=
  DL.rrefused_any r.db S.c.nest S.d s h.ok.ok.dep.1 h.ok.ok.st.1 hs W h.deal
theorem rdbegin_is (h : RIs w0 W r S L) (m st : Int) (hs : 0 ≤ st ∧ st ≤ 18446744073709551615) : Calls Tryz.prog 72 #[ptr r.db, SV m, .int .u64 st] W fun e W' =>
    e = .returned (.int .i64 (beginE S.c.nest S.d st)) ∧ RIs w0 W' r { S with d := beginS S.c.nest S.d m st } L :=
  (DL.rbegin_any r.db S.c.nest S.d m st h.ok.ok.dep8 h.ok.ok.dep.2 W h.deal).mono fun e W' ⟨he, hb, hu⟩ => ⟨he, h.ofDeal hb hu (begin_dep h.ok.ok.dep h.ok.ok.dataR.2.2.2.2.1) (by rw [begin_ca]; exact h.ok.ok.ca) (begin_st h.ok.ok.st hs)⟩
theorem rdend_is (h : RIs w0 W r S L) : Calls Tryz.prog 74 #[ptr r.db] W fun e W' =>
    e = .returned (.tuple #[.bool (endB S.d), .int .i64 (openE S.d)]) ∧ RIs w0 W' r { S with d := endS S.d } L :=
  (DL.rend_any r.db S.c.nest S.d h.ok.ok.dep8 W h.deal).mono fun e W' ⟨he, hb, hu⟩ => ⟨he, h.ofDeal hb hu (endS_dep h.ok.ok.dep) (by rw [endS_ca]; exact h.ok.ok.ca) (endS_st h.ok.ok.st)⟩
theorem rdfail_is (h : RIs w0 W r S L) (c : Int) (hc : 0 ≤ c ∧ c ≤ 4294967295) : Calls Tryz.prog 76 #[ptr r.db, .int .u32 c] W fun e W' =>
    e = .returned (.int .i64 (openE S.d)) ∧ RIs w0 W' r { S with d := failS S.d c } L :=
  (DL.rfail_any r.db S.c.nest S.d c h.ok.ok.dep8 W h.deal).mono fun e W' ⟨he, hb, hu⟩ => ⟨he, h.ofDeal hb hu (by unfold failS; split <;> exact h.ok.ok.dep) (by unfold failS; split; exact hc; exact h.ok.ok.ca) (by unfold failS; split <;> exact h.ok.ok.st)⟩
theorem rdover_is (h : RIs w0 W r S L) : Calls Tryz.prog 78 #[ptr r.db] W fun e W' =>
    e = .returned (overV S.d) ∧ RIs w0 W' r { S with d := overS S.d } L :=
  (DL.rover_any r.db S.c.nest S.d h.ok.ok.ca W h.deal).mono fun e W' ⟨he, hb, hu⟩ => ⟨he, h.ofDeal hb hu (by have h0 := h.ok.ok.dep; unfold overS; split; exact ⟨Int.le_refl 0, Int.le_trans h0.1 h0.2⟩; exact h0) (by unfold overS; split <;> exact h.ok.ok.ca) (by
    unfold overS
    split
    · show 0 ≤ (if S.d.ca % 256 = 1 then S.d.st else 0) ∧ (if S.d.ca % 256 = 1 then S.d.st else 0) ≤ 18446744073709551615
      split
      · exact h.ok.ok.st
      · exact ⟨Int.le_refl 0, (by decide : (0 : Int) ≤ 18446744073709551615)⟩
    · exact h.ok.ok.st)⟩
/- What fits. -/
theorem rfit_eq {p : Kp} (ho : S.Ok p) (n : Nt) (hc : 0 ≤ S.core ∧ S.core < S.c.cores) : (NE.fitsN S.c n && (n.too == S.core)) = fitsB S n := by
  have hd : S.c.blocks - S.c.cores * S.c.logs = S.data := rfl
  unfold NE.fitsN fitsB
  rw [hd]
  by_cases ht : n.too = S.core
  · have e1 : (n.too == S.core) = true := by simpa using ht
    rw [e1, Bool.and_true, Bool.and_true]
    cases hm : MayN n with
    | false => rfl
    | true =>
      have hfr : n.frm ≤ -1 := by
        unfold MayN at hm
        simp only [Bool.and_eq_true] at hm
        obtain ⟨⟨⟨⟨⟨⟨⟨⟨⟨h1, h2⟩, h3⟩, h4⟩, -⟩, -⟩, -⟩, -⟩, -⟩, -⟩ := hm
        cases h : toHome n.kind with
        | true =>
          rw [h] at h4
          have h4 : n.too = -1 := by simpa using h4
          omega
        | false =>
          rw [h] at h4
          have h4 : n.frm = -1 := by simpa using h4
          omega
      have : decide (max n.frm n.too < S.c.cores) = true := by simp; omega
      rw [this, Bool.true_and, Bool.true_and]
  · have e1 : (n.too == S.core) = false := by simpa using ht
    rw [e1, Bool.and_false, Bool.and_false, Bool.false_and]
end
end Go.Proofs.YtjgeflbhmhmjdaaGreat.NR
