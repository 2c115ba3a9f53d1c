/- CacheKeeps: what the Go function does (printed by tools/mkcache.py). -/
import Derived.Test.YtaneobggbplkbaaCacheHas
set_option linter.unusedSimpArgs false
set_option linter.unusedVariables false
namespace Go.Proofs.Ytaneobggbplkbaa.KA
open Go.RowKit
open BU (IsU words)
open PL (Cfg CC CV May)
attribute [local go_sem] Oper.semAt_some
attribute [local go_sem ↓] TLin.ld_eq TLin.st_eq TLin.al_eq TLin.bx_eq eqL_eq neL_eq
attribute [local go_sem] TLin.al_run TLin.bx_run
theorem CIs.box {T : TypeId} {w0 W : World} {p : Kp} {c : Cfg} {A : Nat → Ln} {M : Nat → Int} {L : List Obj} (h : CIs T w0 W p c A M L) (cs : Array Value) (U : TypeId) : CIs T w0 (W.alloc (.cells cs U)) p c A M (boxO W.heap.size cs U :: L) :=
  ⟨(h.sep.alloc cs U).sink 3, h.fits, h.ok⟩
theorem CIs.drop {T : TypeId} {w0 W : World} {p : Kp} {c : Cfg} {A : Nat → Ln} {M : Nat → Int} {O : Obj} {L : List Obj} (h : CIs T w0 W p c A M (O :: L)) : CIs T w0 W p c A M L :=
  ⟨h.sep.drop 3 (by simp), h.fits, h.ok⟩
theorem CIs.mapN {T : TypeId} {w0 W : World} {p : Kp} {c : Cfg} {A : Nat → Ln} {M : Nat → Int} {L : List Obj} {κ : Type} (h : CIs T w0 W p c A M L) (m : GM.Ty Try.prog κ) : CIs T w0 (W.alloc (.map #[] 0)) p c A M (GM.mapO m W.heap.size 0 (fun _ => none) :: L) :=
  ⟨(GM.mapNew m h.sep).sink 3, h.fits, h.ok⟩
theorem CIs.bk0 {T : TypeId} {w0 W W' : World} {p : Kp} {c : Cfg} {A : Nat → Ln} {M : Nat → Int} {L : List Obj} {n : Nat} (h : CIs T w0 W p c A M L) (hb : Bk n NoF W W') (hn : w0.heap.size ≤ n) : CIs T w0 W' p c A M L :=
  ⟨h.sep.bk hb hn, h.fits, h.ok⟩
def mapL : GM.Ty Try.prog Int := GM.ints 54 3 38 (.agg TLin.Z) Try.underlying3 Try.underlying54 (fun w => agg_zero TLin.infoZ w)
/-- A line with the word 3. -/
def lineX (b s x : Int) : Ln := { lineL b s with D := (lineL b s).D.setIfInBounds 3 (.int .u32 x) }
theorem lineX_cells (b s x : Int) : (lineX b s x).cells = (lineL b s).cells.setIfInBounds 5 (.int .u32 x) := cells_D (lineL b s) 3 _
theorem lineX_ok (b s x : Int) (hs : 0 ≤ s ∧ s ≤ 255) : (lineX b s x).Ok := ⟨hs, isU_set (lineL_ok b s hs).isU _ _⟩
theorem cnt_small {p : Kp} {c : Cfg} (hf : p.Fits c) (A : Nat → Ln) : cntL (p.s * p.y) A < maxLen := by
  have h1 := lns_len_le A (p.s * p.y)
  have h2 := (Kp.small hf).2.2.2.2.1
  unfold cntL maxLen
  omega
theorem hasF_at (p : Kp) (A : Nat → Ln) (b : Int) : mapL.at (hasF p A) b = .agg (p.fnd A b).cells := by
  unfold GM.Ty.at hasF Kp.fnd
  cases p.place A b with
  | none => show Value.agg TLin.Z = Value.agg Ln.nil.cells; rw [Ln.nil_cells]
  | some i => rfl
set_option maxRecDepth 100000 in
set_option maxHeartbeats 4000000 in
theorem keeps_any (c : Cfg) (a1 : Option Addr) (len1 cap1 : Nat) (V : Nat → Nat → Value) (K B Ww Ss X : Nat → Int) (w : World) (h1 : IsRowF w a1 len1 cap1 5 V) (hV : ∀ i, i < len1 → V i 0 = .int .i64 (K i) ∧ V i 1 = .int .i64 (B i) ∧ V i 2 = .int .i64 (Ww i) ∧ V i 3 = .int .u8 (Ss i) ∧ V i 4 = .int .u32 (X i))
    (hB : ∀ i, i < len1 → (0 ≤ Ss i ∧ Ss i ≤ 255) ∧ (-9223372036854775808 ≤ B i ∧ B i ≤ 9223372036854775807)) :
    Calls Try.prog 5 #[CV c, .slice a1 len1 cap1] w fun e w' => e = .returned (.bool true) ∧ Below w.heap.size w w' := by
  have HC := Lib.hid (script_at h1 hV)
  have HB := Lib.hid hB
  obtain ⟨lc1, m1, _⟩ := h1
  clear hV hB
  unfold maxLen at m1
  obtain ⟨W0, hW0⟩ : ∃ W0, w.alloc (.cells (CC c) 23) = W0 := ⟨_, rfl⟩
  have HS0 : Hid (Sep NoF w W0 [cfgO w.heap.size c]) := Lib.hid (by rw [← hW0]; exact (Sep.zero NoF w).alloc _ _)
  have e0 : W0.cell? ⟨w.heap.size, 0, none⟩ = some (.int .i64 c.cores) := (HS0.out.box 0 rfl).cell 0
  have e1 : W0.cell? ⟨w.heap.size, 1, none⟩ = some (.int .i64 c.sets) := (HS0.out.box 0 rfl).cell 1
  have e2 : W0.cell? ⟨w.heap.size, 2, none⟩ = some (.int .i64 c.ways) := (HS0.out.box 0 rfl).cell 2
  have e3 : W0.cell? ⟨w.heap.size, 3, none⟩ = some (.int .i64 c.blocks) := (HS0.out.box 0 rfl).cell 3
  have e4 : W0.cell? ⟨w.heap.size, 4, none⟩ = some (.int .i64 c.logs) := (HS0.out.box 0 rfl).cell 4
  have e5 : W0.cell? ⟨w.heap.size, 5, none⟩ = some (.int .i64 c.backs) := (HS0.out.box 0 rfl).cell 5
  have e6 : W0.cell? ⟨w.heap.size, 6, none⟩ = some (.int .i64 c.nest) := (HS0.out.box 0 rfl).cell 6
  have e7 : W0.cell? ⟨w.heap.size, 7, none⟩ = some (.int .i64 c.tries) := (HS0.out.box 0 rfl).cell 7
  have HW0 := Lib.hid hW0
  clear hW0
  by_cases g1 : 300 < len1
  · have hb1 : decide ((300 : Int) < (len1 : Int)) = true := by simp; omega
    clear e0 e1 e2 e3 e4 e5 e6 e7
    go_enter Try.func5, Try.ntmps5
    go_wp2_with fail
    rw [HW0.out]
    refine (works_any _).mono ?_
    rintro e w9 ⟨rfl, hu⟩
    have HS9 := Lib.hid (HS0.out.upd0 hu)
    clear hu
    go_wp2
    go_ret
    exact ⟨rfl, HS9.out.below⟩
  · have hb1 : decide ((300 : Int) < (len1 : Int)) = false := by simp; omega
    by_cases hm : May c
    · have HM := Lib.hid hm
      clear hm
      go_enter Try.func5, Try.ntmps5
      go_upto_region 1 with fail
      rw [HW0.out]
      go_wp2_with fail
      refine (new_yes HS0.out c HM.out).mono ?_
      rintro e w2 ⟨p, rfl, hk2, -⟩
      have HK2 := Lib.hid hk2
      have HF := Lib.hid hk2.fits
      clear hk2 e0 e1 e2 e3 e4 e5 e6 e7 HW0 HS0
      obtain ⟨cb, hcb⟩ : ∃ cb, w.heap.size = cb := ⟨_, rfl⟩
      rw [hcb] at HK2 ⊢
      have HCB := Lib.hid hcb
      clear hcb
      have hmm := @run_makeMap Try.prog
      go_upto_region 7 with fail
      have hk3 := HK2.out.mapN mapL
      obtain ⟨w3, hw3⟩ : ∃ X, w2.alloc (.map #[] 0) = X := ⟨_, rfl⟩
      rw [hw3] at hk3 ⊢
      obtain ⟨mb, hmb⟩ : ∃ b, w2.heap.size = b := ⟨_, rfl⟩
      rw [hmb] at hk3 ⊢
      have HK3 := Lib.hid hk3
      clear hk3 hw3 hmb HK2 hmm
      go_wp2_with fail
      go_loopw [33] (fun i wr => ∃ (k : Nat) (A : Nat → Ln) (M : Nat → Int), k ≤ len1 ∧ i = .int .i64 k ∧ Hid (Good p A ∧ Uniq p A ∧ CIs KT w wr p c A M [GM.mapO mapL mb (cntL (p.s * p.y) A) (hasF p A), cfgO cb c])) (fun i _ => len1 - (intOf i).toNat)
      case atStart => exact ⟨0, _, _, Nat.zero_le _, rfl, Lib.hid ⟨Good.nil, Uniq.nil, by rw [cntL_nil, hasF_nil]; exact HK3.out⟩⟩
      case round =>
        clear HK3
        obtain ⟨k, A, M, hk, rfl, HI0⟩ := hrel
        have HG := Lib.hid HI0.out.1
        have HQ := Lib.hid HI0.out.2.1
        have HI := Lib.hid HI0.out.2.2
        clear HI0
        by_cases hlt : k < len1
        · skip
          obtain ⟨x, g, q, rfl, hxa, hgl, z0, z1, z2, z3, z4⟩ := HC.out k hlt
          have y0 := HI.out.sep.old z0
          have y1 := HI.out.sep.old z1
          have y2 := HI.out.sep.old z2
          have y3 := HI.out.sep.old z3
          have y4 := HI.out.sep.old z4
          have hsd := (HB.out k hlt).1
          have hbd := (HB.out k hlt).2
          clear z0 z1 z2 z3 z4
          generalize K k = kk at *
          generalize B k = bb at *
          generalize Ww k = ww at *
          generalize Ss k = ss at *
          generalize X k = xx at *
          have HI5 := Lib.hid (HI.out.box (opC kk bb ww ss xx) OT)
          obtain ⟨w5, hw5⟩ : ∃ X, wr.alloc (.cells (opC kk bb ww ss xx) OT) = X := ⟨_, rfl⟩
          rw [hw5] at HI5
          have p0 : w5.cell? ⟨wr.heap.size, 0, none⟩ = some (.int .i64 kk) := (HI5.out.sep.box 3 rfl).cell 0
          have p1 : w5.cell? ⟨wr.heap.size, 1, none⟩ = some (.int .i64 bb) := (HI5.out.sep.box 3 rfl).cell 1
          have p2 : w5.cell? ⟨wr.heap.size, 2, none⟩ = some (.int .i64 ww) := (HI5.out.sep.box 3 rfl).cell 2
          have p3 : w5.cell? ⟨wr.heap.size, 3, none⟩ = some (.int .u8 ss) := (HI5.out.sep.box 3 rfl).cell 3
          have p4 : w5.cell? ⟨wr.heap.size, 4, none⟩ = some (.int .u32 xx) := (HI5.out.sep.box 3 rfl).cell 4
          have HW5 := Lib.hid hw5
          clear hw5 HI
          go_upto_region 10 with fail
          rw [HW5.out]
          clear y0 y1 y2 y3 y4 HW5
          obtain ⟨ob, hob⟩ : ∃ b, wr.heap.size = b := ⟨_, rfl⟩
          rw [hob] at HI5 p0 p1 p2 p3 p4 ⊢
          clear hob
          by_cases k0 : kk = 0
          · subst k0
            go_wp2_with fail
            refine (line_any bb ss hsd w5).mono ?_
            rintro e w6 ⟨rfl, hu⟩
            have HI6 := Lib.hid (HI5.out.upd0 hu)
            clear hu
            have hN := Ln.Ok.isN (lineL_ok bb ss hsd).isU
            have s1 := TLin.st_new hN w6
            have HI7 := Lib.hid (HI6.out.box (lineL bb ss).cells LT)
            obtain ⟨w7, hw7⟩ : ∃ X, w6.alloc (.cells (lineL bb ss).cells LT) = X := ⟨_, rfl⟩
            rw [hw7] at s1 HI7
            have z1 : w7.cell? ⟨w6.heap.size, 5, none⟩ = some (.int .u32 0) := ((HI7.out.sep.box 3 rfl).cell 5).trans (by rw [lineL_cells]; rfl)
            have z2 : w7.frozen? ⟨w6.heap.size, 5, none⟩ = false := (HI7.out.sep.box 3 rfl).frozen 5
            have p4 : w7.cell? ⟨ob, 4, none⟩ = some (.int .u32 xx) := (HI7.out.sep.box 4 rfl).cell 4
            have h8 : CIs KT w _ p c A M _ := ⟨HI7.out.sep.set 3 rfl 5 (.int .u32 xx), HI7.out.fits, HI7.out.ok⟩
            rw [← lineX_cells] at h8
            have HI8 := Lib.hid h8
            clear h8 hN hw7
            go_upto_region 14 with fail
            obtain ⟨w8, hw8⟩ : ∃ X, w7.setCell ⟨w6.heap.size, 5, none⟩ (.int .u32 xx) = X := ⟨_, rfl⟩
            rw [hw8] at HI8 ⊢
            obtain ⟨lb, hlb⟩ : ∃ lb, w6.heap.size = lb := ⟨_, rfl⟩
            rw [hlb] at HI8 ⊢
            clear hw8 hlb z1 z2 s1 p0 p1 p2 p3 p4 HI7 HI6 HI5
            have hxo := lineX_ok bb ss xx hsd
            have hxN := Ln.Ok.isN hxo.isU
            have l1 := TLin.ld_at hxN (HI8.out.sep.box 3 rfl).whole
            by_cases hE : p.putE A (lineX bb ss xx) = 0
            · obtain ⟨q1, q2, q3⟩ := put_has HF.out HG.out HQ.out hE
              have HQQ := Lib.hid (And.intro q1 q2)
              clear q1 q2 q3
              go_wp2_with fail
              refine (put_is HI8.out (lineX bb ss xx) hxo).mono ?_
              rintro e w9 ⟨rfl, hc, -⟩
              rw [hE]
              have HI9 := Lib.hid hc
              clear hc l1 hE
              have p1 : w9.cell? ⟨ob, 1, none⟩ = some (.int .i64 bb) := (HI9.out.sep.box 4 rfl).cell 1
              have l1 := TLin.ld_at hxN (HI9.out.sep.box 3 rfl).whole
              obtain ⟨w10, hrun, hs, -⟩ := GM.mapPut HI9.out.sep 5 rfl (a := bb) (cnt_small HF.out A) (GM.fit_of hbd) (.agg (lineX bb ss xx).cells)
              have l3 : (Instr.mapUpdate 54 (.map (some mb)) (.int .i64 bb) (.agg (lineX bb ss xx).cells)).run Try.prog w9 = .ok () w10 := hrun
              have HI10 : Hid (CIs KT w w10 p c (p.putA A (lineX bb ss xx)) (p.putM A M (lineX bb ss xx)) [GM.mapO mapL mb (cntL (p.s * p.y) (p.putA A (lineX bb ss xx))) (hasF p (p.putA A (lineX bb ss xx))), cfgO cb c]) := Lib.hid (by
                rw [HQQ.out.1, HQQ.out.2]
                exact ⟨(hs.drop 3 (by simp)).drop 3 (by simp), HF.out, HI9.out.ok⟩)
              clear hrun hs HI9
              go_wp2_with fail
              exact ⟨⟨k + 1, _, _, by omega, by go_num, Lib.hid ⟨HG.out.put _, HQ.out.put HF.out HG.out _, HI10.out⟩⟩, by simp [intOf]; omega⟩
            · have hE2 : (p.putE A (lineX bb ss xx) == 0) = false := by simpa using hE
              have hN := put_not hE
              go_wp2_with fail
              refine (put_is HI8.out (lineX bb ss xx) hxo).mono ?_
              rintro e w9 ⟨rfl, hc, -⟩
              rw [hN] at hc
              have HI9 := Lib.hid hc.drop.drop
              clear hc l1 hE hN
              go_wp2_with fail
              exact ⟨⟨k + 1, _, _, by omega, by go_num, Lib.hid ⟨HG.out, HQ.out, HI9.out⟩⟩, by simp [intOf]; omega⟩
          · have e0 : (kk == 0) = false := by simpa using k0
            by_cases k1 : kk = 1
            · subst k1
              have hlk := (GM.mapIs HI5.out.sep 4 rfl).look2 (a := bb) (GM.fit_of hbd)
              rw [hasF_at, hasF_some] at hlk
              have l1 : (Instr.lookup 54 (.map (some mb)) (.int .i64 bb) true).run Try.prog w5 = .ok (.tuple #[.agg (p.fnd A bb).cells, .bool (p.place A bb).isSome]) w5 := hlk
              have hN := Ln.Ok.isN (fnd_ok (p := p) HI5.out.ok bb).isU
              have s1 := TLin.st_new hN w5
              clear hlk
              have HI6 := Lib.hid (HI5.out.upd0 (Upd.alloc NoF w5 (.cells (p.fnd A bb).cells LT)))
              obtain ⟨w6, hw6⟩ : ∃ X, w5.alloc (.cells (p.fnd A bb).cells LT) = X := ⟨_, rfl⟩
              rw [hw6] at s1 HI6
              clear hw6
              have HDR := Lib.hid (drop_is HI6.out bb)
              obtain ⟨q1, q2⟩ := drp_has HF.out HG.out HQ.out bb
              have HQQ := Lib.hid (And.intro q1 q2)
              have p1 : w6.cell? ⟨ob, 1, none⟩ = some (.int .i64 bb) := (HI6.out.sep.box 3 rfl).cell 1
              clear q1 q2 hN
              generalize (p.place A bb).isSome = o at *
              go_upto_region 18 with fail
              go_wp2_with fail
              refine HDR.out.mono ?_
              rintro e w7 ⟨rfl, hc, -⟩
              have HI7 := Lib.hid hc
              clear hc HDR l1 s1 p0 p1 p2 p3 p4 HI6 HI5
              have p1 : w7.cell? ⟨ob, 1, none⟩ = some (.int .i64 bb) := (HI7.out.sep.box 3 rfl).cell 1
              obtain ⟨w8, hrun, hs, -⟩ := GM.mapDel HI7.out.sep 4 rfl (a := bb) (GM.fit_of hbd) 0
              have l3 : (Builtin.delete_ #[54, 3] 0 #[.map (some mb), .int .i64 bb]).run Try.prog w7 = .ok (.tuple #[]) w8 := hrun
              have HI8 : Hid (CIs KT w w8 p c (p.drpA A bb) M [GM.mapO mapL mb (cntL (p.s * p.y) (p.drpA A bb)) (hasF p (p.drpA A bb)), cfgO cb c]) := Lib.hid (by
                rw [HQQ.out.1, HQQ.out.2]
                exact ⟨hs.drop 3 (by simp), HF.out, HI7.out.ok⟩)
              clear hrun hs HI7
              go_wp2_with fail
              exact ⟨⟨k + 1, _, _, by omega, by go_num, Lib.hid ⟨HG.out.drp _, HQ.out.drp _, HI8.out⟩⟩, by simp [intOf]; omega⟩
            · have e1 : (kk == 1) = false := by simpa using k1
              by_cases k2 : kk = 2
              · subst k2
                go_wp2_with fail
                refine (kUse_is HI5.out bb).mono ?_
                rintro e w7 ⟨rfl, hc, -⟩
                have HI7 := Lib.hid hc.drop
                clear hc
                go_wp2_with fail
                exact ⟨⟨k + 1, _, _, by omega, by go_num, Lib.hid ⟨HG.out, HQ.out, HI7.out⟩⟩, by simp [intOf]; omega⟩
              · have e2 : (kk == 2) = false := by simpa using k2
                by_cases k4 : kk = 4
                · subst k4
                  by_cases hE : p.wrE A bb ww = 0
                  · obtain ⟨i, hp, hw, q1, q2⟩ := wr_has HF.out HG.out HQ.out (z := xx) hE
                    have HQQ := Lib.hid (And.intro q1 q2)
                    have hfn : p.fnd A bb = A i := by unfold Kp.fnd; rw [hp]
                    obtain ⟨n, rfl⟩ : ∃ n : Nat, ww = n := ⟨ww.toNat, by unfold mayW at hw; simp at hw; omega⟩
                    have hn : n < 16 := by unfold mayW at hw; simp at hw; omega
                    have hpn : GM.putN (hasF p A) (cntL (p.s * p.y) A) bb = cntL (p.s * p.y) A := by unfold GM.putN; rw [hasF_some, hp]; rfl
                    clear q1 q2 hp hw
                    go_wp2_with fail
                    refine (write_is HI5.out bb n xx).mono ?_
                    rintro e w9 ⟨rfl, hc, -⟩
                    rw [hE]
                    have HI9 := Lib.hid hc
                    clear hc hE p0 p1 p2 p3 p4
                    have hxo := HI5.out.ok.okA i
                    clear HI5
                    generalize A i = z at *
                    have p1 : w9.cell? ⟨ob, 1, none⟩ = some (.int .i64 bb) := (HI9.out.sep.box 3 rfl).cell 1
                    have hlk := (GM.mapIs HI9.out.sep 4 rfl).look (a := bb) (GM.fit_of hbd)
                    rw [hasF_at, hfn] at hlk
                    have l1 : (Instr.lookup 54 (.map (some mb)) (.int .i64 bb) false).run Try.prog w9 = .ok (.agg z.cells) w9 := hlk
                    have hzN := Ln.Ok.isN hxo.isU
                    have s1 := TLin.st_new hzN w9
                    have HI10 := Lib.hid (HI9.out.box z.cells LT)
                    obtain ⟨w10, hw10⟩ : ∃ X, w9.alloc (.cells z.cells LT) = X := ⟨_, rfl⟩
                    rw [hw10] at s1 HI10
                    have HW10 := Lib.hid hw10
                    clear hlk hw10 HI9
                    have g1 : decide (((n : Nat) : Int) < 0) = false := by simp
                    have g2 : decide ((16 : Int) ≤ ((n : Nat) : Int)) = false := by simp; omega
                    have p2 : w10.cell? ⟨ob, 2, none⟩ = some (.int .i64 (n : Int)) := (HI10.out.sep.box 4 rfl).cell 2
                    go_upto_region 28 with fail
                    obtain ⟨lb, hlb⟩ : ∃ lb, w9.heap.size = lb := ⟨_, rfl⟩
                    rw [hlb] at HI10 ⊢
                    clear hlb HW10 l1 s1 p1 p2 g1 g2
                    obtain ⟨d, hd⟩ := isU_get hxo.isU hn
                    have v1 : w10.cell? ⟨lb, 2 + n, none⟩ = some (.int .u32 d) := ((HI10.out.sep.box 3 rfl).cell (2 + n)).trans ((Ln.getD z n).trans hd)
                    have v2 : w10.frozen? ⟨lb, 2 + n, none⟩ = false := (HI10.out.sep.box 3 rfl).frozen (2 + n)
                    have hs11 := HI10.out.sep.set 3 rfl (2 + n) (.int .u32 xx)
                    have v3 : (w10.setCell ⟨lb, 2 + n, none⟩ (.int .u32 xx)).frozen? ⟨lb, 1, none⟩ = false := (hs11.box 3 rfl).frozen 1
                    have v4 : (w10.setCell ⟨lb, 2 + n, none⟩ (.int .u32 xx)).cell? ⟨lb, 1, none⟩ = some (.int .u8 z.st) := ((hs11.box 3 rfl).cell 1).trans (by
                      rw [← cells_D]; exact Ln.get1 _)
                    have hs12 := hs11.set 3 rfl 1 (.int .u8 3)
                    have hcl : (z.cells.setIfInBounds (2 + n) (.int .u32 xx)).setIfInBounds 1 (.int .u8 3) = (wrL z (n : Int) xx).cells := by
                      rw [← cells_D, ← cells_st]
                      unfold wrL
                      rw [Int.toNat_natCast]
                    have hz2 : (wrL z (n : Int) xx).Ok := ⟨by show 0 ≤ (3 : Int) ∧ (3 : Int) ≤ 255; omega, isU_set hxo.isU _ _⟩
                    have hzN2 := Ln.Ok.isN hz2.isU
                    have HI12 : Hid (CIs KT w _ p c _ _ _) := Lib.hid ⟨hs12, HF.out, HI10.out.ok⟩
                    rw [show (boxO lb ((z.cells.setIfInBounds (2 + n) (.int .u32 xx)).setIfInBounds 1 (.int .u8 3)) LT) = boxO lb (wrL z (n : Int) xx).cells LT by rw [hcl]] at HI12
                    have p2 : w10.cell? ⟨ob, 2, none⟩ = some (.int .i64 (n : Int)) := (HI10.out.sep.box 4 rfl).cell 2
                    have p4 : w10.cell? ⟨ob, 4, none⟩ = some (.int .u32 xx) := (HI10.out.sep.box 4 rfl).cell 4
                    have hn16 : ((n : Nat) : Int) < 16 := by omega
                    clear hs11 hs12 hcl hzN hd
                    go_upto_region 29 with fail
                    obtain ⟨w12, hw12⟩ : ∃ X, (w10.setCell ⟨lb, 2 + n, none⟩ (.int .u32 xx)).setCell ⟨lb, 1, none⟩ (.int .u8 3) = X := ⟨_, rfl⟩
                    rw [hw12] at HI12 ⊢
                    clear hw12 v1 v2 v3 v4 p2 p4 hn16 HI10
                    have p1 : w12.cell? ⟨ob, 1, none⟩ = some (.int .i64 bb) := (HI12.out.sep.box 4 rfl).cell 1
                    have l1 := TLin.ld_at hzN2 (HI12.out.sep.box 3 rfl).whole
                    obtain ⟨w13, hrun, hs, -⟩ := GM.mapPut HI12.out.sep 5 rfl (a := bb) (cnt_small HF.out A) (GM.fit_of hbd) (.agg (wrL z (n : Int) xx).cells)
                    have l3 : (Instr.mapUpdate 54 (.map (some mb)) (.int .i64 bb) (.agg (wrL z (n : Int) xx).cells)).run Try.prog w12 = .ok () w13 := hrun
                    have HI13 : Hid (CIs KT w w13 p c (p.wrA A bb n xx) (p.wrM A M bb n) [GM.mapO mapL mb (cntL (p.s * p.y) (p.wrA A bb n xx)) (hasF p (p.wrA A bb n xx)), cfgO cb c]) := Lib.hid (by
                      have h := (hs.drop 3 (by simp)).drop 3 (by simp)
                      rw [hpn] at h
                      rw [HQQ.out.1, HQQ.out.2]
                      exact ⟨h, HF.out, HI12.out.ok⟩)
                    clear hrun hs HI12
                    go_wp2_with fail
                    exact ⟨⟨k + 1, _, _, by omega, by go_num, Lib.hid ⟨HG.out.wr HF.out _ _ _, HQ.out.wr HF.out _ _ _, HI13.out⟩⟩, by simp [intOf]; omega⟩
                  · have hE2 : (p.wrE A bb ww == 0) = false := by simpa using hE
                    have hN := wr_not (z := xx) hE
                    go_wp2_with fail
                    refine (write_is HI5.out bb ww xx).mono ?_
                    rintro e w9 ⟨rfl, hc, -⟩
                    rw [hN] at hc
                    have HI9 := Lib.hid hc.drop
                    clear hc hE hN
                    go_wp2_with fail
                    exact ⟨⟨k + 1, _, _, by omega, by go_num, Lib.hid ⟨HG.out, HQ.out, HI9.out⟩⟩, by simp [intOf]; omega⟩
                · have e4 : (kk == 4) = false := by simpa using k4
                  go_wp2_with fail
                  exact ⟨⟨k + 1, _, _, by omega, by go_num, Lib.hid ⟨HG.out, HQ.out, HI5.out.drop⟩⟩, by simp [intOf]; omega⟩
        · obtain rfl : k = len1 := by omega
          obtain ⟨w1, hrun, hrg, hu, hsz⟩ := (GM.mapIs HI.out.sep 3 rfl).range
          have l1 : (Instr.range 54 (.map (some mb))).run Try.prog wr = .ok (.pointer (some ⟨wr.heap.size, 0, none⟩)) w1 := hrun
          have HR1 := Lib.hid hrg
          have HI1 := Lib.hid (HI.out.upd0 hu)
          have hws := HI.out.sep.size
          obtain ⟨r, hr⟩ : ∃ r, wr.heap.size = r := ⟨_, rfl⟩
          rw [hr] at HR1 l1
          clear hrun hrg hu hsz HI
          obtain ⟨wo, rfl⟩ : ∃ x, x = wr := ⟨_, rfl⟩
          go_wp2_with fail
          go_loopw [] (fun wr2 => ∃ cnt : Nat, Hid (GM.Rng mapL wr2 mb r (cntL (p.s * p.y) A) (hasF p A) cnt ∧ CIs KT w wr2 p c A M [GM.mapO mapL mb (cntL (p.s * p.y) A) (hasF p A), cfgO cb c])) (fun wr2 => wr2.rangeLeft mb r)
          case atStart => exact ⟨_, Lib.hid ⟨HR1.out, HI1.out⟩⟩
          case round =>
            clear HR1 HI1 l1
            obtain ⟨cnt, hrr⟩ := hrel
            have HRg := Lib.hid hrr.out.1
            have HIr := Lib.hid hrr.out.2
            have hle := hrr.out.1.left_eq
            clear hrr
            have hmw : w.heap.size ≤ r := by rw [← hr]; exact hws
            rcases HRg.out.next 0 with ⟨h0, l2⟩ | ⟨a, v, w', cnt', ha, hfa, l2, hr', hlt2, hbk, hsz, l3⟩
            · go_wp2_with fail
              refine (len_is HIr.out).mono ?_
              rintro e w2' ⟨rfl, hu⟩
              have HI2 := Lib.hid (HIr.out.upd0 hu)
              have l3 : (Builtin.len_ #[54] 3 #[.map (some mb)]).run Try.prog w2' = .ok (.int .i64 ((lns (p.s * p.y) A).length : Nat)) w2' := (GM.mapIs HI2.out.sep 3 rfl).len _
              clear hu l2 HRg HIr hle h0
              generalize (lns (p.s * p.y) A).length = m at *
              go_wp2_with fail
              refine (works_any _).mono ?_
              rintro e w9 ⟨rfl, hu⟩
              have HS9 := Lib.hid (HI2.out.sep.upd0 hu)
              clear hu
              go_wp2
              go_ret
              exact ⟨rfl, HS9.out.below⟩
            · have HI2 := Lib.hid (HIr.out.bk0 hbk hmw)
              have HR2 := Lib.hid hr'
              have l2 : (Instr.next (.pointer (some ⟨r, 0, none⟩)) false 0).run Try.prog wr = .ok (.tuple #[.bool true, .int .i64 a, v]) w' := l2
              have l3 : (Instr.entry (.pointer (some ⟨r, 0, none⟩))).run Try.prog w' = .ok (.tuple #[.int .i64 a, v]) w' := l3
              clear hr' hbk HRg HIr hsz
              obtain ⟨i, hpi, rfl⟩ : ∃ i, p.place A a = some i ∧ v = .agg (A i).cells := by
                unfold hasF at hfa
                cases hp : p.place A a with
                | none => rw [hp] at hfa; cases hfa
                | some i => rw [hp] at hfa; cases hfa; exact ⟨i, rfl, rfl⟩
              have hfn : p.fnd A a = A i := by unfold Kp.fnd; rw [hpi]
              have hxo := HI2.out.ok.okA i
              have hxN := Ln.Ok.isN hxo.isU
              have s1 := TLin.st_new hxN w'
              have HI3 := Lib.hid (HI2.out.box (A i).cells LT)
              have HR3 := Lib.hid (HR2.out.upd (Upd.alloc NoF w' (.cells (A i).cells LT)) (fun h => h))
              obtain ⟨w3', hw3⟩ : ∃ X, w'.alloc (.cells (A i).cells LT) = X := ⟨_, rfl⟩
              rw [hw3] at s1 HI3 HR3
              have HW3 := Lib.hid hw3
              clear hw3 hfa
              have HFI := Lib.hid (find_is HI3.out a)
              rw [hfn, hpi] at HFI
              go_upto_region 34 with fail
              obtain ⟨xb, hxb⟩ : ∃ b, w'.heap.size = b := ⟨_, rfl⟩
              rw [hxb] at HI3 ⊢
              clear hxb HW3 s1 l2 l3 hpi hfn
              generalize A i = z at *
              go_wp2_with fail
              refine HFI.out.mono ?_
              rintro e w4 ⟨rfl, hu⟩
              have HI4 := Lib.hid (HI3.out.upd0 hu)
              have HR4 := Lib.hid (HR3.out.upd hu (fun h => h))
              have s1 := TLin.st_new hxN w4
              have HI5 := Lib.hid (HI4.out.box z.cells LT)
              have HR5 := Lib.hid (HR4.out.upd (Upd.alloc NoF w4 (.cells z.cells LT)) (fun h => h))
              obtain ⟨w5', hw5⟩ : ∃ X, w4.alloc (.cells z.cells LT) = X := ⟨_, rfl⟩
              rw [hw5] at s1 HI5 HR5
              have HW5 := Lib.hid hw5
              clear hw5 hu HFI HI3 HI4 HR3 HR4
              go_upto_region 35 with fail
              obtain ⟨yb, hyb⟩ : ∃ b, w4.heap.size = b := ⟨_, rfl⟩
              rw [hyb] at HI5 ⊢
              clear hyb HW5 s1
              have l4 := TLin.ld_at hxN (HI5.out.sep.box 3 rfl).whole
              have l5 := TLin.ld_at hxN (HI5.out.sep.box 4 rfl).whole
              have hne : ∀ X, (neL (.agg z.cells) (.agg z.cells)).run Try.prog X = .ok (.bool false) X := fun X => by rw [neL_run hxo.isU hxo.isU X, Ln.same_self]; rfl
              go_wp2_with fail
              refine ⟨⟨cnt', Lib.hid ⟨HR5.out, HI5.out.drop.drop⟩⟩, ?_⟩
              rw [HR5.out.left_eq, hle]
              exact hlt2
    · have HN := Lib.hid hm
      clear hm
      go_enter Try.func5, Try.ntmps5
      go_upto_region 1 with fail
      rw [HW0.out]
      go_wp2_with fail
      refine (new_no c HN.out _).mono ?_
      rintro e w2 ⟨rfl, hu⟩
      have HS2 := Lib.hid (HS0.out.upd0 hu)
      clear hu e0 e1 e2 e3 e4 e5 e6 e7
      go_wp2_with fail
      refine (works_any _).mono ?_
      rintro e w9 ⟨rfl, hu⟩
      have HS9 := Lib.hid (HS2.out.upd0 hu)
      clear hu
      go_wp2
      go_ret
      exact ⟨rfl, HS9.out.below⟩
end Go.Proofs.Ytaneobggbplkbaa.KA
