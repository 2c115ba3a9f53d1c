/- CacheSets: what the Go function does (printed by tools/mkcsets.py). -/
import Derived.Test.YtaneobggbplkbaaCacheUniq
import Derived.Test.YtaneobggbplkbaaGMap
import Derived.Test.YtaneobggbplkbaaDefM
import Derived.Test.YtaneobggbplkbaaQuietR
import Derived.Sort.CutIn
set_option linter.unusedSimpArgs false
set_option linter.unusedVariables false
namespace Go.Proofs.Ytaneobggbplkbaa.KA
open Go.RowKit
open BU (IsU words)
open PL (Cfg CC CV May)
attribute [local go_sem] Oper.semAt_some
attribute [local go_sem ↓] TLin.ld_eq TLin.st_eq TLin.al_eq TLin.bx_eq eqL_eq neL_eq
attribute [local go_sem] TLin.al_run TLin.bx_run

theorem CIs.box {T : TypeId} {w0 W : World} {p : Kp} {c : Cfg} {A : Nat → Ln} {M : Nat → Int} {L : List Obj} (h : CIs T w0 W p c A M L) (cs : Array Value) (U : TypeId) : CIs T w0 (W.alloc (.cells cs U)) p c A M (boxO W.heap.size cs U :: L) :=
  ⟨(h.sep.alloc cs U).sink 3, h.fits, h.ok⟩
theorem CIs.drop {T : TypeId} {w0 W : World} {p : Kp} {c : Cfg} {A : Nat → Ln} {M : Nat → Int} {O : Obj} {L : List Obj} (h : CIs T w0 W p c A M (O :: L)) : CIs T w0 W p c A M L :=
  ⟨h.sep.drop 3 (by simp), h.fits, h.ok⟩
theorem CIs.mapN {T : TypeId} {w0 W : World} {p : Kp} {c : Cfg} {A : Nat → Ln} {M : Nat → Int} {L : List Obj} {κ : Type} (h : CIs T w0 W p c A M L) (m : GM.Ty Try.prog κ) : CIs T w0 (W.alloc (.map #[] 0)) p c A M (GM.mapO m W.heap.size 0 (fun _ => none) :: L) :=
  ⟨(GM.mapNew m h.sep).sink 3, h.fits, h.ok⟩
theorem CIs.bk0 {T : TypeId} {w0 W W' : World} {p : Kp} {c : Cfg} {A : Nat → Ln} {M : Nat → Int} {L : List Obj} {n : Nat} (h : CIs T w0 W p c A M L) (hb : Bk n NoF W W') (hn : w0.heap.size ≤ n) : CIs T w0 W' p c A M L :=
  ⟨h.sep.bk hb hn, h.fits, h.ok⟩
def mapB : GM.Ty Try.prog Int := GM.ints 48 3 4 (.bool false) Try.underlying3 Try.underlying48 (fun _ => by kernel_rfl)
def mapI : GM.Ty Try.prog Int := GM.ints 49 3 3 (.int .i64 0) Try.underlying3 Try.underlying49 (fun _ => by kernel_rfl)
abbrev resO (rb : Nat) : Obj := boxO rb #[.bool false] 4
set_option maxRecDepth 100000 in
set_option maxHeartbeats 4000000 in
theorem sets_any (c : Cfg) (a1 : Option Addr) (len1 cap1 : Nat) (V : Nat → Nat → Value) (K B Ww Ss X : Nat → Int) (w : World) (h1 : IsRowF w a1 len1 cap1 5 V) (hV : ∀ i, i < len1 → V i 0 = .int .i64 (K i) ∧ V i 1 = .int .i64 (B i) ∧ V i 2 = .int .i64 (Ww i) ∧ V i 3 = .int .u8 (Ss i) ∧ V i 4 = .int .u32 (X i))
    (hB : ∀ i, i < len1 → (0 ≤ Ss i ∧ Ss i ≤ 255) ∧ True) :
    Calls Try.prog 4 #[CV c, .slice a1 len1 cap1] w fun e w' => e = .returned (.bool true) ∧ Below w.heap.size w w' := by
  have HC := Lib.hid (script_at h1 hV)
  have HB := Lib.hid hB
  obtain ⟨lc1, m1, _⟩ := h1
  clear hV hB
  unfold maxLen at m1
  obtain ⟨W0, hW0⟩ : ∃ W0, (w.alloc (.cells (CC c) 23)).alloc (.cells #[.bool false] 4) = W0 := ⟨_, rfl⟩
  have HS0 : Hid (Sep NoF w W0 [resO (w.heap.size + 1), cfgO w.heap.size c]) := Lib.hid (by rw [← hW0]; have h := ((Sep.zero NoF w).alloc (CC c) 23).alloc #[.bool false] 4; rwa [World.size_alloc] at h)
  have e0 : W0.cell? ⟨w.heap.size, 0, none⟩ = some (.int .i64 c.cores) := (HS0.out.box 1 rfl).cell 0
  have e1 : W0.cell? ⟨w.heap.size, 1, none⟩ = some (.int .i64 c.sets) := (HS0.out.box 1 rfl).cell 1
  have e2 : W0.cell? ⟨w.heap.size, 2, none⟩ = some (.int .i64 c.ways) := (HS0.out.box 1 rfl).cell 2
  have e3 : W0.cell? ⟨w.heap.size, 3, none⟩ = some (.int .i64 c.blocks) := (HS0.out.box 1 rfl).cell 3
  have e4 : W0.cell? ⟨w.heap.size, 4, none⟩ = some (.int .i64 c.logs) := (HS0.out.box 1 rfl).cell 4
  have e5 : W0.cell? ⟨w.heap.size, 5, none⟩ = some (.int .i64 c.backs) := (HS0.out.box 1 rfl).cell 5
  have e6 : W0.cell? ⟨w.heap.size, 6, none⟩ = some (.int .i64 c.nest) := (HS0.out.box 1 rfl).cell 6
  have e7 : W0.cell? ⟨w.heap.size, 7, none⟩ = some (.int .i64 c.tries) := (HS0.out.box 1 rfl).cell 7
  have HW0 := Lib.hid hW0
  clear hW0
  refine calls_of_wp_marks Try.func4 rfl ?_
  simp only [Try.ntmps4, List.size_toArray, List.length_cons, List.length_nil, Nat.reduceAdd, Nat.reduceSub, Array.replicate_succ, Array.replicate_zero, List.push_toArray, List.append_toArray, List.nil_append, List.cons_append]
  go_upto_region 1 with fail
  rw [HW0.out]
  obtain ⟨rb, hrb⟩ : ∃ rb, w.heap.size + 1 = rb := ⟨_, rfl⟩
  obtain ⟨cb, hcb⟩ : ∃ cb, w.heap.size = cb := ⟨_, rfl⟩
  rw [hrb, hcb] at HS0 ⊢
  rw [hcb] at e0 e1 e2 e3 e4 e5 e6 e7
  have HRB := Lib.hid hrb
  have HCB := Lib.hid hcb
  clear hrb HW0
  go_wp2_with fail
  refine (works_any _).mono ?_
  rintro e w1 ⟨rfl, hu⟩
  have HS1 := Lib.hid (HS0.out.upd0 hu)
  clear hu e0 e1 e2 e3 e4 e5 e6 e7 HS0
  by_cases g1 : 300 < len1
  · have hb1 : decide ((300 : Int) < (len1 : Int)) = true := by simp; omega
    go_wp2_with fail
    refine (works_any _).mono ?_
    rintro e w9 ⟨rfl, hu⟩
    have hs9 := HS1.out.upd0 hu
    have z1 : w9.cell? ⟨rb, 0, none⟩ = some (.bool false) := (hs9.box 0 rfl).cell 0
    have z2 : w9.frozen? ⟨rb, 0, none⟩ = false := (hs9.box 0 rfl).frozen 0
    have HS9 := Lib.hid (hs9.set 0 rfl 0 (.bool true))
    clear hu hs9
    go_wp2
    have hcr : _ = some (Value.bool true) := (HS9.out.box 0 rfl).cell 0
    refine postM_ret0 (v := .bool true) (by simp [results, Try.f4, go_sem, hcr]) ⟨rfl, HS9.out.below⟩
  · have hb1 : decide ((300 : Int) < (len1 : Int)) = false := by simp; omega
    have e0 : w1.cell? ⟨cb, 0, none⟩ = some (.int .i64 c.cores) := (HS1.out.box 1 rfl).cell 0
    have e1 : w1.cell? ⟨cb, 1, none⟩ = some (.int .i64 c.sets) := (HS1.out.box 1 rfl).cell 1
    have e2 : w1.cell? ⟨cb, 2, none⟩ = some (.int .i64 c.ways) := (HS1.out.box 1 rfl).cell 2
    have e3 : w1.cell? ⟨cb, 3, none⟩ = some (.int .i64 c.blocks) := (HS1.out.box 1 rfl).cell 3
    have e4 : w1.cell? ⟨cb, 4, none⟩ = some (.int .i64 c.logs) := (HS1.out.box 1 rfl).cell 4
    have e5 : w1.cell? ⟨cb, 5, none⟩ = some (.int .i64 c.backs) := (HS1.out.box 1 rfl).cell 5
    have e6 : w1.cell? ⟨cb, 6, none⟩ = some (.int .i64 c.nest) := (HS1.out.box 1 rfl).cell 6
    have e7 : w1.cell? ⟨cb, 7, none⟩ = some (.int .i64 c.tries) := (HS1.out.box 1 rfl).cell 7
    by_cases hm : May c
    · have HM := Lib.hid hm
      clear hm
      go_wp2_with fail
      refine (new_yes HS1.out c HM.out).mono ?_
      rintro e w2 ⟨p, rfl, hk2, -⟩
      have HK2 := Lib.hid hk2
      have HF := Lib.hid hk2.fits
      clear hk2 e0 e1 e2 e3 e4 e5 e6 e7 HS1
      go_wp2_with fail
      refine wp_loop (fun a' wr => ∃ (Ds : List Nat) (u3 u6 u7 u8 u9 u10 u11 u12 u13 u14 u15 u16 u17 u18 u19 u20 u21 u22 u23 u24 u25 u26 u29 u30 u31 u32 u33 u34 u35 u36 u37 u38 u39 u40 u41 u42 u43 u44 u45 u46 u47 u48 u49 u50 u51 u52 u53 u54 u55 u56 u57 u58 u59 u60 u61 u62 u63 u64 u65 u66 u67 u68 u69 u70 u71 u72 u73 u74 u75 u76 u77 u78 u79 u80 u81 u82 u83 u84 u85 u86 u87 u88 u89 u90 u91 u92 u93 u94 u95 u96 u97 u98 u99 u100 u101 u102 u103 u104 u105 u106 u107 : Value), (∃ (k : Nat) (A : Nat → Ln) (M : Nat → Int), k ≤ len1 ∧ u29 = .int .i64 k ∧ Hid (Good p A ∧ Uniq p A ∧ CIs KT w wr p c A M [resO rb, cfgO cb c] ∧ MarksAt w.heap.size wr Ds)) ∧ a' = { tmps := #[CV c, .slice a1 len1 cap1, ptr cb, u3, ptr rb, ptr p.kb, u6, u7, u8, u9, u10, u11, u12, u13, u14, u15, u16, u17, u18, u19, u20, u21, u22, u23, u24, u25, u26, .slice a1 len1 cap1, .int .i64 (len1 : Int), u29, u30, u31, u32, u33, u34, u35, u36, u37, u38, u39, u40, u41, u42, u43, u44, u45, u46, u47, u48, u49, u50, u51, u52, u53, u54, u55, u56, u57, u58, u59, u60, u61, u62, u63, u64, u65, u66, u67, u68, u69, u70, u71, u72, u73, u74, u75, u76, u77, u78, u79, u80, u81, u82, u83, u84, u85, u86, u87, u88, u89, u90, u91, u92, u93, u94, u95, u96, u97, u98, u99, u100, u101, u102, u103, u104, u105, u106, u107], defers := Ds.map markD }) (fun a' _ => len1 - (intOf (a'.tmps.getD 29 undef)).toNat) ?atStart ?round
      case atStart => refine ⟨[], ?_⟩; (repeat apply Exists.intro); exact ⟨⟨0, _, _, Nat.zero_le _, rfl, Lib.hid ⟨Good.nil, Uniq.nil, HK2.out, MarksAt.nil _ _⟩⟩, rfl⟩
      case round =>
        clear HK2
        intro a' wr hinv
        obtain ⟨Ds, hinv⟩ := hinv
        obtain ⟨u3, hinv⟩ := hinv
        obtain ⟨u6, hinv⟩ := hinv
        obtain ⟨u7, hinv⟩ := hinv
        obtain ⟨u8, hinv⟩ := hinv
        obtain ⟨u9, hinv⟩ := hinv
        obtain ⟨u10, hinv⟩ := hinv
        obtain ⟨u11, hinv⟩ := hinv
        obtain ⟨u12, hinv⟩ := hinv
        obtain ⟨u13, hinv⟩ := hinv
        obtain ⟨u14, hinv⟩ := hinv
        obtain ⟨u15, hinv⟩ := hinv
        obtain ⟨u16, hinv⟩ := hinv
        obtain ⟨u17, hinv⟩ := hinv
        obtain ⟨u18, hinv⟩ := hinv
        obtain ⟨u19, hinv⟩ := hinv
        obtain ⟨u20, hinv⟩ := hinv
        obtain ⟨u21, hinv⟩ := hinv
        obtain ⟨u22, hinv⟩ := hinv
        obtain ⟨u23, hinv⟩ := hinv
        obtain ⟨u24, hinv⟩ := hinv
        obtain ⟨u25, hinv⟩ := hinv
        obtain ⟨u26, hinv⟩ := hinv
        obtain ⟨u29, hinv⟩ := hinv
        obtain ⟨u30, hinv⟩ := hinv
        obtain ⟨u31, hinv⟩ := hinv
        obtain ⟨u32, hinv⟩ := hinv
        obtain ⟨u33, hinv⟩ := hinv
        obtain ⟨u34, hinv⟩ := hinv
        obtain ⟨u35, hinv⟩ := hinv
        obtain ⟨u36, hinv⟩ := hinv
        obtain ⟨u37, hinv⟩ := hinv
        obtain ⟨u38, hinv⟩ := hinv
        obtain ⟨u39, hinv⟩ := hinv
        obtain ⟨u40, hinv⟩ := hinv
        obtain ⟨u41, hinv⟩ := hinv
        obtain ⟨u42, hinv⟩ := hinv
        obtain ⟨u43, hinv⟩ := hinv
        obtain ⟨u44, hinv⟩ := hinv
        obtain ⟨u45, hinv⟩ := hinv
        obtain ⟨u46, hinv⟩ := hinv
        obtain ⟨u47, hinv⟩ := hinv
        obtain ⟨u48, hinv⟩ := hinv
        obtain ⟨u49, hinv⟩ := hinv
        obtain ⟨u50, hinv⟩ := hinv
        obtain ⟨u51, hinv⟩ := hinv
        obtain ⟨u52, hinv⟩ := hinv
        obtain ⟨u53, hinv⟩ := hinv
        obtain ⟨u54, hinv⟩ := hinv
        obtain ⟨u55, hinv⟩ := hinv
        obtain ⟨u56, hinv⟩ := hinv
        obtain ⟨u57, hinv⟩ := hinv
        obtain ⟨u58, hinv⟩ := hinv
        obtain ⟨u59, hinv⟩ := hinv
        obtain ⟨u60, hinv⟩ := hinv
        obtain ⟨u61, hinv⟩ := hinv
        obtain ⟨u62, hinv⟩ := hinv
        obtain ⟨u63, hinv⟩ := hinv
        obtain ⟨u64, hinv⟩ := hinv
        obtain ⟨u65, hinv⟩ := hinv
        obtain ⟨u66, hinv⟩ := hinv
        obtain ⟨u67, hinv⟩ := hinv
        obtain ⟨u68, hinv⟩ := hinv
        obtain ⟨u69, hinv⟩ := hinv
        obtain ⟨u70, hinv⟩ := hinv
        obtain ⟨u71, hinv⟩ := hinv
        obtain ⟨u72, hinv⟩ := hinv
        obtain ⟨u73, hinv⟩ := hinv
        obtain ⟨u74, hinv⟩ := hinv
        obtain ⟨u75, hinv⟩ := hinv
        obtain ⟨u76, hinv⟩ := hinv
        obtain ⟨u77, hinv⟩ := hinv
        obtain ⟨u78, hinv⟩ := hinv
        obtain ⟨u79, hinv⟩ := hinv
        obtain ⟨u80, hinv⟩ := hinv
        obtain ⟨u81, hinv⟩ := hinv
        obtain ⟨u82, hinv⟩ := hinv
        obtain ⟨u83, hinv⟩ := hinv
        obtain ⟨u84, hinv⟩ := hinv
        obtain ⟨u85, hinv⟩ := hinv
        obtain ⟨u86, hinv⟩ := hinv
        obtain ⟨u87, hinv⟩ := hinv
        obtain ⟨u88, hinv⟩ := hinv
        obtain ⟨u89, hinv⟩ := hinv
        obtain ⟨u90, hinv⟩ := hinv
        obtain ⟨u91, hinv⟩ := hinv
        obtain ⟨u92, hinv⟩ := hinv
        obtain ⟨u93, hinv⟩ := hinv
        obtain ⟨u94, hinv⟩ := hinv
        obtain ⟨u95, hinv⟩ := hinv
        obtain ⟨u96, hinv⟩ := hinv
        obtain ⟨u97, hinv⟩ := hinv
        obtain ⟨u98, hinv⟩ := hinv
        obtain ⟨u99, hinv⟩ := hinv
        obtain ⟨u100, hinv⟩ := hinv
        obtain ⟨u101, hinv⟩ := hinv
        obtain ⟨u102, hinv⟩ := hinv
        obtain ⟨u103, hinv⟩ := hinv
        obtain ⟨u104, hinv⟩ := hinv
        obtain ⟨u105, hinv⟩ := hinv
        obtain ⟨u106, hinv⟩ := hinv
        obtain ⟨u107, hinv⟩ := hinv
        obtain ⟨hrel, ha⟩ := hinv
        subst ha
        obtain ⟨k, A, M, hk, rfl, HI0⟩ := hrel
        have HG := Lib.hid HI0.out.1
        have HQ := Lib.hid HI0.out.2.1
        have HI := Lib.hid HI0.out.2.2.1
        have HMA := Lib.hid HI0.out.2.2.2
        clear HI0
        try dsimp only
        by_cases hlt : k < len1
        · skip
          obtain ⟨x, g, q, rfl, hxa, hgl, z0, z1, z2, z3, z4⟩ := HC.out k hlt
          have y0 := HI.out.sep.old z0
          have y1 := HI.out.sep.old z1
          have y2 := HI.out.sep.old z2
          have y3 := HI.out.sep.old z3
          have y4 := HI.out.sep.old z4
          have hsd := (HB.out k hlt).1
          clear z0 z1 z2 z3 z4
          generalize K k = kk at *
          generalize B k = bb at *
          generalize Ww k = ww at *
          generalize Ss k = ss at *
          generalize X k = xx at *
          have HI5 := Lib.hid (HI.out.box (opC kk bb ww ss xx) OT)
          have HMB := Lib.hid (HMA.out.upd (Upd.alloc NoF wr (.cells (opC kk bb ww ss xx) OT)))
          obtain ⟨w5, hw5⟩ : ∃ X, wr.alloc (.cells (opC kk bb ww ss xx) OT) = X := ⟨_, rfl⟩
          rw [hw5] at HI5 HMB
          have p0 : w5.cell? ⟨wr.heap.size, 0, none⟩ = some (.int .i64 kk) := (HI5.out.sep.box 3 rfl).cell 0
          have p1 : w5.cell? ⟨wr.heap.size, 1, none⟩ = some (.int .i64 bb) := (HI5.out.sep.box 3 rfl).cell 1
          have p2 : w5.cell? ⟨wr.heap.size, 2, none⟩ = some (.int .i64 ww) := (HI5.out.sep.box 3 rfl).cell 2
          have p3 : w5.cell? ⟨wr.heap.size, 3, none⟩ = some (.int .u8 ss) := (HI5.out.sep.box 3 rfl).cell 3
          have p4 : w5.cell? ⟨wr.heap.size, 4, none⟩ = some (.int .u32 xx) := (HI5.out.sep.box 3 rfl).cell 4
          have HW5 := Lib.hid hw5
          clear hw5 HI HMA
          go_upto_region 11 with fail
          rw [HW5.out]
          clear y0 y1 y2 y3 y4 HW5
          obtain ⟨ob, hob⟩ : ∃ b, wr.heap.size = b := ⟨_, rfl⟩
          rw [hob] at HI5 p0 p1 p2 p3 p4 ⊢
          clear hob
          go_upto_block 2 with fail
          go_cut [] from 30 to 106 (fun wx => ∃ (A2 : Nat → Ln) (M2 : Nat → Int), Hid (Good p A2 ∧ Uniq p A2 ∧ CIs KT w wx p c A2 M2 [boxO ob (opC kk bb ww ss xx) OT, resO rb, cfgO cb c] ∧ MarksAt w.heap.size wx Ds))
          case first =>
            by_cases k0 : kk = 0
            · subst k0
              go_wp2_with fail
              refine (line_any bb ss hsd w5).mono ?_
              rintro e w6 ⟨rfl, hu⟩
              have HI6 := Lib.hid (HI5.out.upd0 hu)
              have HM6 := Lib.hid (HMB.out.upd hu)
              clear hu
              go_wp2_with fail
              refine (put_is HI6.out (lineL bb ss) (lineL_ok _ _ hsd)).mono ?_
              rintro e w7 ⟨rfl, hc, hk⟩
              have HI7 := Lib.hid hc
              have HM7 := Lib.hid (HM6.out.rec hk)
              clear hc hk
              go_wp2_with fail
              go_meet
              exact ⟨_, _, Lib.hid ⟨HG.out.put _, HQ.out.put HF.out HG.out _, HI7.out, HM7.out⟩⟩
            · have e0 : (kk == 0) = false := by simpa using k0
              by_cases k1 : kk = 1
              · subst k1
                go_wp2_with fail
                refine (drop_is HI5.out bb).mono ?_
                rintro e w7 ⟨rfl, hc, hk⟩
                have HI7 := Lib.hid hc
                have HM7 := Lib.hid (HMB.out.rec hk)
                clear hc hk
                go_wp2_with fail
                go_meet
                exact ⟨_, _, Lib.hid ⟨HG.out.drp _, HQ.out.drp _, HI7.out, HM7.out⟩⟩
              · have e1 : (kk == 1) = false := by simpa using k1
                by_cases k4 : kk = 4
                · subst k4
                  go_wp2_with fail
                  refine (write_is HI5.out bb ww xx).mono ?_
                  rintro e w7 ⟨rfl, hc, hk⟩
                  have HI7 := Lib.hid hc
                  have HM7 := Lib.hid (HMB.out.rec hk)
                  clear hc hk
                  go_wp2_with fail
                  go_meet
                  exact ⟨_, _, Lib.hid ⟨HG.out.wr HF.out _ _ _, HQ.out.wr HF.out _ _ _, HI7.out, HM7.out⟩⟩
                · have e4 : (kk == 4) = false := by simpa using k4
                  by_cases k5 : kk = 5
                  · subst k5
                    go_wp2_with fail
                    refine (turn_is HI5.out bb ss hsd).mono ?_
                    rintro e w7 ⟨rfl, hc, hk⟩
                    have HI7 := Lib.hid hc
                    have HM7 := Lib.hid (HMB.out.rec hk)
                    clear hc hk
                    go_wp2_with fail
                    go_meet
                    exact ⟨_, _, Lib.hid ⟨HG.out.trn HF.out _ _, HQ.out.trn HF.out _ _, HI7.out, HM7.out⟩⟩
                  · have e5 : (kk == 5) = false := by simpa using k5
                    go_wp2_with fail
                    go_meet
                    exact ⟨_, _, Lib.hid ⟨HG.out, HQ.out, HI5.out, HMB.out⟩⟩
          case rest =>
            obtain ⟨A2, M2, hc2⟩ := hcut
            have HG2 := Lib.hid hc2.out.1
            have HQ2 := Lib.hid hc2.out.2.1
            have HI2 := Lib.hid hc2.out.2.2.1
            have HM2 := Lib.hid hc2.out.2.2.2
            clear hc2
            have hmm := @run_makeMap Try.prog
            clear HI5 p0 p1 p2 p3 p4 HG HQ HMB
            have hlt := HI2.out.bl.lt
            have hsy := (Kp.small HF.out).2.2.2.2.1
            have h1 : CIs KT w _ p c A2 M2 _ := (HI2.out.drop.mapN mapB)
            have h2 : CIs KT w _ p c A2 M2 _ := h1.mapN mapI
            have h3 := h2.box #[.map (some wc.heap.size)] 48
            have h4 := h3.box #[.map (some (wc.heap.size + 1))] 49
            have hM := ((((HM2.out.upd (Upd.alloc NoF _ (.map #[] 0))).upd (Upd.alloc NoF _ (.map #[] 0))).upd (Upd.alloc NoF _ (.cells #[.map (some wc.heap.size)] 48))).upd (Upd.alloc NoF _ (.cells #[.map (some (wc.heap.size + 1))] 49)))
            simp only [World.size_alloc] at h2 h3 h4
            obtain ⟨W1, hW1⟩ : ∃ X, (((wc.alloc (.map #[] 0)).alloc (.map #[] 0)).alloc (.cells #[.map (some wc.heap.size)] 48)).alloc (.cells #[.map (some (wc.heap.size + 1))] 49) = X := ⟨_, rfl⟩
            have hs1 : W1.heap.size = wc.heap.size + 1 + 1 + 1 + 1 := by rw [← hW1]; simp
            rw [hW1] at h4 hM
            have HJ1 := Lib.hid h4; have HM1 := Lib.hid hM; have HW1 := Lib.hid hW1
            clear h1 h2 h3 h4 hM hW1 HI2 HM2
            go_upto_region 21 with fail
            rw [HW1.out]
            obtain ⟨sb, hsb⟩ : ∃ b, wc.heap.size = b := ⟨_, rfl⟩
            rw [hsb] at HJ1 hs1 hlt ⊢
            clear HW1 hsb
            go_wp2_with fail
            refine (all_any p.kb W1).mono ?_
            rintro e W2 ⟨rfl, hW2⟩
            have hu2 := Upd.alloc NoF W1 (.cells #[ptr p.kb] 26)
            have q2 := Blk.new W1 #[ptr p.kb] 26
            rw [hW2] at hu2 q2
            have hs2 : W2.heap.size = sb + 1 + 1 + 1 + 1 + 1 := by rw [← hW2]; simp [hs1]
            rw [hs1] at q2 ⊢
            have HJ2 := Lib.hid (HJ1.out.upd0 hu2)
            have HM2 := Lib.hid (HM1.out.upd hu2)
            have hseq := all_seq (c := c) (T := KT) (sb + 1 + 1 + 1 + 1) (fun k => k ≠ p.gl) W2 (q2.cell 0) HJ2.out.bk HJ2.out.bl HJ2.out.ok.okA HF.out (fun h => h rfl) (fun k hk => by omega)
            have hw2 := HJ2.out.sep.size
            have HOK := Lib.hid HJ2.out.ok
            clear HJ1 HM1 hu2 q2 hW2 hs1
            generalize hN : lns (p.s * p.y) A2 = ns at *
            have hnl : ns.length ≤ 64 := by rw [← hN]; have := lns_len_le A2 (p.s * p.y); omega
            have HNS := Lib.hid hN
            have HDL := Lib.hid (fun D (hD : D ∈ Ds) => HM2.out.lt hD)
            clear hN
            go_wp2_with fail
            refine wp_rangeC (gf := 38) (lb := #[ptr (sb + 1 + 1 + 1 + 1)]) rfl (enters_of Try.func38 (by kernel_rfl) rfl)
              hseq (fun _ => rfl) (fun _ h => h.elim) (fun k hk => by show k ≠ p.gl; omega)
              (fun j W' => W2.heap.size ≤ W'.heap.size ∧ MarksAt w.heap.size W' Ds ∧ ∃ N1 N2 : Nat, N1 ≤ j ∧ N2 ≤ j ∧ CIs KT w W' p c A2 M2 [boxO (sb + 1 + 1 + 1) #[.map (some (sb + 1))] 49, boxO (sb + 1 + 1) #[.map (some sb)] 48, GM.mapO mapI (sb + 1) N2 (manyF p (ns.take j)), GM.mapO mapB sb N1 (seenF (ns.take j)), resO rb, cfgO cb c])
              (fun _ _ _ => False)
              (fun j A B hs hb => ⟨Nat.le_trans hs.1 hb.size, hs.2.1.bk hb (fun D hD => ⟨HDL.out D hD, fun h => h⟩), by obtain ⟨N1, N2, a, b, h⟩ := hs.2.2; exact ⟨N1, N2, a, b, h.bk0 hb (hw2)⟩⟩)
              (fun _ _ _ _ h _ => h)
              ⟨Nat.le_refl _, HM2.out, 0, 0, Nat.le_refl _, Nat.le_refl _, by rw [List.take_zero, seenF_nil, manyF_nil]; exact HJ2.out⟩
              ?rnd ?done ?stop
            case rnd =>
              intro lp j x hx U K' hI hK'
              have hj : j < ns.length := (List.getElem?_eq_some_iff.1 hx).1
              have HK := Lib.hid hK'
              have HIU := Lib.hid hI
              have hxm : x ∈ lns (p.s * p.y) A2 := by rw [HNS.out]; exact List.mem_of_getElem? hx
              have hxo : x.Ok := lns_ok HJ2.out.ok.okA hxm
              have hmx := lns_mem HF.out HG2.out hxm
              have hns := not_seen HQ2.out (x := x) (k := j) (by rw [HNS.out]; exact hx)
              have hml := manyI_le HG2.out x.blk (j + 1)
              have htk := take_succ hx
              rw [HNS.out] at hns hml
              rw [htk, manyI_app, if_pos rfl] at hml
              have hxN := Ln.Ok.isN hxo.isU
              have s1 := TLin.st_new hxN U
              clear hK' hI hx hxm hseq HNS HJ2 HM2
              obtain ⟨hsz, hM, N1, N2, n1, n2, hcU⟩ := HIU.out
              have hmk : mayK x.blk = true := by unfold mayX at hmx; revert hmx; cases mayK x.blk <;> simp
              have hbb := mayK_of hmk
              have hse := mayK_set HF.out hmk
              have hst : 1 ≤ x.st ∧ x.st ≤ 3 := by unfold mayX at hmx; rw [hmk] at hmx; simpa using hmx
              have hyl := (Kp.small HF.out).2.1
              clear hmx hmk HIU
              gi_wp2
              refine HK.out _ _ (Upd.alloc NoF U _) ?_
              rintro Y - hbk
              have hcY := (hcU.box x.cells LT).bk0 hbk hw2
              have hMY := (hM.upd (Upd.alloc NoF U (.cells x.cells LT))).bk hbk (fun D hD => ⟨HDL.out D hD, fun h => h⟩)
              have hzY := hbk.size
              rw [World.size_alloc] at hzY
              obtain ⟨lb, hlb⟩ : ∃ lb, U.heap.size = lb := ⟨_, rfl⟩
              rw [hlb] at hcY hzY
              have HU := Lib.hid hlb
              have HY := Lib.hid hcY; have HMY := Lib.hid hMY
              clear hcU hM hbk hcY hMY HK s1
              rw [hlb]
              clear hlb
              have e0 : Y.cell? ⟨cb, 0, none⟩ = some (.int .i64 c.cores) := (HY.out.sep.box 9 rfl).cell 0
              have e1 : Y.cell? ⟨cb, 1, none⟩ = some (.int .i64 c.sets) := (HY.out.sep.box 9 rfl).cell 1
              have e2 : Y.cell? ⟨cb, 2, none⟩ = some (.int .i64 c.ways) := (HY.out.sep.box 9 rfl).cell 2
              have e3 : Y.cell? ⟨cb, 3, none⟩ = some (.int .i64 c.blocks) := (HY.out.sep.box 9 rfl).cell 3
              have e4 : Y.cell? ⟨cb, 4, none⟩ = some (.int .i64 c.logs) := (HY.out.sep.box 9 rfl).cell 4
              have e5 : Y.cell? ⟨cb, 5, none⟩ = some (.int .i64 c.backs) := (HY.out.sep.box 9 rfl).cell 5
              have e6 : Y.cell? ⟨cb, 6, none⟩ = some (.int .i64 c.nest) := (HY.out.sep.box 9 rfl).cell 6
              have e7 : Y.cell? ⟨cb, 7, none⟩ = some (.int .i64 c.tries) := (HY.out.sep.box 9 rfl).cell 7
              have f0 : Y.cell? ⟨lb, 0, none⟩ = some (.int .i64 x.blk) := ((HY.out.sep.box 3 rfl).cell 0).trans x.get0
              have HSet := Lib.hid (set_any c HF.out.may x.blk hbb Y)
              gi_upto_region 23 with fail
              gi_wp2_with fail
              refine ⟨trivial, (callsIn_wide.2 HSet.out).mono ?_⟩
              rintro e Y2 ⟨rfl, hu⟩
              rw [hse]
              have HY2 := Lib.hid (HY.out.upd0 hu)
              have HM2 := Lib.hid (HMY.out.upd hu)
              have hz2 := Nat.le_trans hzY hu.size
              have HUP := Lib.hid (hu.mono (G := fun k => k ≠ p.gl) (fun _ _ h => h.elim))
              have HBB := Lib.hid hbb
              clear hu HY HMY e0 e1 e2 e3 e4 e5 e6 e7 f0 HSet hzY hse hbb
              have hq16 : p.set x.blk ≤ 16 := by have h1 := HF.out.set_lt x.blk; have h2 := (Kp.small HF.out).1; omega
              have hman := manyF_app (p := p) (ns.take j) x
              rw [← htk] at hman
              generalize p.set x.blk = q at *
              have d10 : Y2.cell? ⟨sb + 1 + 1 + 1, 0, none⟩ = some (.map (some (sb + 1))) := (HY2.out.sep.box 4 rfl).cell 0
              have l1 : (Instr.lookup 49 (.map (some (sb + 1))) (.int .i64 (q : Int)) false).run Try.prog Y2 = .ok (.int .i64 (manyI p q (ns.take j) : Nat)) Y2 := by
                have h := (GM.mapIs HY2.out.sep 6 rfl).look (a := (q : Int)) (GM.fit_of (by omega))
                have e : mapI.at (manyF p (ns.take j)) (q : Int) = .int .i64 (manyI p q (ns.take j) : Nat) := manyF_at _ _
                rw [e] at h
                exact h
              have w1 : IntKind.i64.wrap (((manyI p q (ns.take j) : Nat) : Int) + 1) = ((manyI p q (ns.take j) : Nat) : Int) + 1 := IntWalk.i64_in _ (by omega)
              obtain ⟨Y3, hrun, hs3, hg3⟩ := GM.mapPut HY2.out.sep 6 rfl (a := (q : Int)) (by unfold maxLen; omega) (GM.fit_of (by omega)) (.int .i64 (((manyI p q (ns.take j) : Nat) : Int) + 1))
              have l2 : (Instr.mapUpdate 49 (.map (some (sb + 1))) (.int .i64 (q : Int)) (.int .i64 (((manyI p q (ns.take j) : Nat) : Int) + 1))).run Try.prog Y2 = .ok () Y3 := hrun
              have hu3 := Upd.mapped (F := fun k => k ≠ p.gl) hg3 (by show sb + 1 ≠ p.gl; omega) (GM.mapIs HY2.out.sep 6 rfl).obj
              have HY3 := Lib.hid hs3
              have HM3 := Lib.hid (HM2.out.upd hu3)
              have HUP3 := Lib.hid (HUP.out.trans hu3 (fun _ _ h => h))
              have hz3 := Nat.le_trans hz2 hu3.size
              clear hrun hs3 hg3 hu3 HUP
              gi_upto_region 25 with fail
              clear l1 l2 d10 w1
              have b1 : decide (c.ways < ((manyI p q (ns.take j) : Nat) : Int) + 1) = false := by have h := HF.out.ew; simp; omega
              have b2 : decide (x.st < 1) = false := by simp; omega
              have b3 : decide (3 < x.st) = false := by simp; omega
              have d9 : Y3.cell? ⟨sb + 1 + 1, 0, none⟩ = some (.map (some sb)) := (HY3.out.box 5 rfl).cell 0
              have d10 : Y3.cell? ⟨sb + 1 + 1 + 1, 0, none⟩ = some (.map (some (sb + 1))) := (HY3.out.box 4 rfl).cell 0
              have f0 : Y3.cell? ⟨lb, 0, none⟩ = some (.int .i64 x.blk) := ((HY3.out.box 3 rfl).cell 0).trans x.get0
              have f1 : Y3.cell? ⟨lb, 1, none⟩ = some (.int .u8 x.st) := ((HY3.out.box 3 rfl).cell 1).trans x.get1
              have e2 : Y3.cell? ⟨cb, 2, none⟩ = some (.int .i64 c.ways) := (HY3.out.box 9 rfl).cell 2
              have l3 : (Instr.lookup 48 (.map (some sb)) (.int .i64 x.blk) false).run Try.prog Y3 = .ok (.bool false) Y3 := by
                have h := (GM.mapIs HY3.out 7 rfl).look (a := x.blk) (GM.fit_of (by have h := HBB.out; omega))
                have e : mapB.at (seenF (ns.take j)) x.blk = .bool (seen x.blk (ns.take j)) := seenF_at _ _
                rw [e, hns] at h
                exact h
              have l4 : (Instr.lookup 49 (.map (some (sb + 1))) (.int .i64 (q : Int)) false).run Try.prog Y3 = .ok (.int .i64 (((manyI p q (ns.take j) : Nat) : Int) + 1)) Y3 := by
                have h := (GM.mapIs HY3.out 6 rfl).look (a := (q : Int)) (GM.fit_of (by omega))
                have e : mapI.at (GM.put (manyF p (ns.take j)) (q : Int) (.int .i64 (((manyI p q (ns.take j) : Nat) : Int) + 1))) (q : Int) = .int .i64 (((manyI p q (ns.take j) : Nat) : Int) + 1) := by simp [GM.Ty.at, GM.put]
                rw [e] at h
                exact h
              gi_upto_region 27 with fail
              obtain ⟨Y4, hrun, hs4, hg4⟩ := GM.mapPut HY3.out 7 rfl (a := x.blk) (by unfold maxLen; omega) (GM.fit_of (by have h := HBB.out; omega)) (.bool true)
              have l5 : (Instr.mapUpdate 48 (.map (some sb)) (.int .i64 x.blk) (.bool true)).run Try.prog Y3 = .ok () Y4 := hrun
              have hu4 := Upd.mapped (F := fun k => k ≠ p.gl) hg4 (by show sb ≠ p.gl; omega) (GM.mapIs HY3.out 7 rfl).obj
              have HY4 := Lib.hid hs4
              have HM4 := Lib.hid (HM3.out.upd hu4)
              have HUP4 := Lib.hid (HUP3.out.trans hu4 (fun _ _ h => h))
              have hz4 := Nat.le_trans hz3 hu4.size
              clear hrun hs4 hg4 hu4 HUP3 l3 l4 b1 b2 b3 d10 f1 e2
              gi_wp2
              refine ⟨HUP4.out, by have h := HU.out; omega, HM4.out, GM.putN (seenF (ns.take j)) N1 x.blk, GM.putN (manyF p (ns.take j)) N2 (q : Int), by unfold GM.putN; split <;> omega, by unfold GM.putN; split <;> omega, ?_⟩
              have hsn := seenF_app (ns.take j) x
              rw [← htk] at hsn
              rw [hman, hsn]
              exact ⟨HY4.out.drop 3 (by simp), HF.out, HOK.out⟩
            case done =>
              rintro D X hD ⟨hsz, hM, N1, N2, h1, h2, hc⟩ hKD
              have HX := Lib.hid hc.drop.drop.drop.drop
              have HMX := Lib.hid (hM.cons (by omega) hKD (fun E hE => by have := HDL.out E hE; omega))
              clear hc hM hseq HJ2 HM2
              go_wp2_with fail
              refine ⟨⟨D :: Ds, ?_⟩, ?_⟩
              · (repeat apply Exists.intro)
                exact ⟨⟨k + 1, A2, M2, by omega, by go_num, Lib.hid ⟨HG2.out, HQ2.out, HX.out, HMX.out⟩⟩, rfl⟩
              · simp [intOf]; omega
            case stop =>
              rintro D cc k W hD hkl h hK
              exact h.elim
        · obtain rfl : k = len1 := by omega
          go_wp2_with fail
          refine (works_any _).mono ?_
          rintro e w9 ⟨rfl, hu⟩
          have hs9 := HI.out.sep.upd0 hu
          have HM9 := Lib.hid (HMA.out.upd hu)
          have z1 : w9.cell? ⟨rb, 0, none⟩ = some (.bool false) := (hs9.box 3 rfl).cell 0
          have z2 : w9.frozen? ⟨rb, 0, none⟩ = false := (hs9.box 3 rfl).frozen 0
          have HS9 := Lib.hid (hs9.set 3 rfl 0 (.bool true))
          have hM9 := HM9.out.upd (Upd.setCell (F := fun _ => True) w9 (p := ⟨rb, 0, none⟩) trivial (.bool true))
          clear hu hs9
          go_wp2
          refine postM_marks hM9 (fun X hb => ?_)
          have HX := HS9.out.bk hb (Nat.le_refl _)
          have hcr : _ = some (Value.bool true) := (HX.box 3 rfl).cell 0
          exact ⟨.bool true, by simp [results, Try.f4, go_sem, hcr], rfl, HX.below⟩
    · have HN := Lib.hid hm
      clear hm
      go_wp2_with fail
      refine (new_no c HN.out _).mono ?_
      rintro e w2 ⟨rfl, hu⟩
      have HS2 := Lib.hid (HS1.out.upd0 hu)
      clear hu e0 e1 e2 e3 e4 e5 e6 e7
      go_wp2_with fail
      refine (works_any _).mono ?_
      rintro e w9 ⟨rfl, hu⟩
      have hs9 := HS2.out.upd0 hu
      have z1 : w9.cell? ⟨rb, 0, none⟩ = some (.bool false) := (hs9.box 0 rfl).cell 0
      have z2 : w9.frozen? ⟨rb, 0, none⟩ = false := (hs9.box 0 rfl).frozen 0
      have HS9 := Lib.hid (hs9.set 0 rfl 0 (.bool true))
      clear hu hs9
      go_wp2
      have hcr : _ = some (Value.bool true) := (HS9.out.box 0 rfl).cell 0
      refine postM_ret0 (v := .bool true) (by simp [results, Try.f4, go_sem, hcr]) ⟨rfl, HS9.out.below⟩
end Go.Proofs.Ytaneobggbplkbaa.KA
