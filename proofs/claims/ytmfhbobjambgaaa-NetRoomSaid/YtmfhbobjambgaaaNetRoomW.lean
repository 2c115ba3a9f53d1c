/- NetRoom: what the Go function does. -/
import Derived.Test.YtmfhbobjambgaaaNetTook
import Derived.Test.YtmfhbobjambgaaaNetM
import Derived.Test.YtmfhbobjambgaaaCntMap
import Derived.Test.YtmfhbobjambgaaaAggInt2
set_option linter.unusedSimpArgs false
set_option linter.unusedVariables false
namespace Go.Proofs.Ytmfhbobjambgaaa.NE
open Go.RowKit
open BU (IsU words)
open PL (Cfg CC CV May)
open GR (hopsN)
attribute [local go_sem] Oper.semAt_some
attribute [local go_sem ↓] eqN_eq neN_eq eqB_eq neB_eq TNot.ld_eq TNot.st_eq TNot.al_eq TNot.bx_eq TI2.ld_eq TI2.st_eq TI2.al_eq
attribute [local go_sem] TNot.al_run TNot.bx_run TI2.al_run
theorem Sep.mapped {w0 W W' : World} {L : List Obj} {mb n : Nat} {f : Int → Int → Int} (h : Sep NoF w0 W L) (hm : CM.Is W mb n f) (hw : w0.heap.size ≤ mb) (hg : W.grownBy W' (some mb)) : Sep NoF w0 W' L := by
  have hu := h.upd
  refine ⟨⟨hg.os.trans hu.os, hg.tape.trans hu.tape, hg.output.trans hu.output, Nat.le_trans hu.size hg.size, fun k hk hF => ?_⟩, h.own.kept ⟨hg.size, fun k o _ ho hc => ?_⟩⟩
  · exact (hg.block k (Nat.lt_of_lt_of_le hk hu.size) (by simp; omega)).trans (hu.block k hk hF)
  · have hlt := (Array.getElem?_eq_some_iff.1 ho).1
    refine (hg.block k hlt (fun e => ?_)).trans ho
    cases e
    obtain ⟨D, ⟨es, clock, hb, _⟩, _⟩ := hm
    rw [ho] at hb
    cases hb
    cases hc
theorem cm_upd {W W' : World} {b n : Nat} {f : Int → Int → Int} (h : CM.Is W b n f) (hu : Upd NoF W W') : CM.Is W' b n f := h.kept (hu.block b h.lt (.inl (fun h => h)))
theorem cm_others {W W' : World} {b n : Nat} {f : Int → Int → Int} (h : CM.Is W b n f) (hu : KeepsOthers W W') : CM.Is W' b n f := by
  have h0 := h
  obtain ⟨D, ⟨es, clock, hb, _⟩, _⟩ := h
  exact h0.kept ((hu.same b _ hb rfl).trans hb.symm)
theorem Sep.callO {P : Program} {G : Nat → Prop} {w0 W : World} {L : List Obj} {Φ Φ' : Obj} (h : Sep G w0 W L) (i : Nat) (hi : L[i]? = some Φ) {f : FuncId} {args : Array Value} {E : Ending → Prop}
    (hc : ∀ F, Φ.is W F → Calls P f args W fun e W' => E e ∧ Upd F W W' ∧ Φ'.is W' (AndNew F W)) : Calls P f args W fun e W' => E e ∧ KeepsOthers W W' ∧ Sep G w0 W' (L.set i Φ') := by
  obtain ⟨F, h2, h3⟩ := h.step i hi
  exact (hc F h2).mono fun e W' ⟨he, hu, hi'⟩ => ⟨he, hu.others, h3 _ _ hu hi'⟩
theorem Sep.readsO {P : Program} {G : Nat → Prop} {w0 W : World} {L : List Obj} {Φ : Obj} (h : Sep G w0 W L) (i : Nat) (hi : L[i]? = some Φ) {f : FuncId} {args : Array Value} {E : Ending → Prop}
    (hc : ∀ F, Φ.is W F → Calls P f args W fun e W' => E e ∧ Upd NoF W W') : Calls P f args W fun e W' => E e ∧ KeepsOthers W W' ∧ Sep G w0 W' L := by
  obtain ⟨F, hF⟩ := h.has i hi
  exact (hc F hF).mono fun e W' ⟨he, hu⟩ => ⟨he, hu.others, h.upd0 hu⟩
theorem send_O {w0 W : World} {L : List Obj} {tb : Nat} {c : Cfg} {room hops : Int} {ns : List Nt} (h : Sep NoF w0 W L) (i : Nat) (hi : L[i]? = some (To tb c room ns hops)) (hc : May c) (hv : InvT c room ns) (hr : 1 ≤ room ∧ room ≤ 1024) (n : Nt) (hn : n.Ok) :
    Calls Try.prog 11 #[ptr tb, .agg n.cells] W fun e W' => e = .returned (.int .i64 (sendE c room ns n)) ∧ KeepsOthers W W' ∧ Sep NoF w0 W' (L.set i (To tb c room (sendS c room ns n) hops)) := by
  have hset : L.set i (To tb c room ns hops) = L := by
    apply List.ext_getElem?
    intro j
    rw [List.getElem?_set]
    split
    · rename_i e; subst e; rw [hi]; simp [(List.getElem?_eq_some_iff.1 hi).1]
    · rfl
  have hcc : c.cores ≤ 16 := hc.1.2
  have hlen := hv.len hcc (by omega)
  unfold sendS sendE
  cases hf : fitsN c n
  · simp only [if_true, show ¬ ((2 : Int) = 0) from by decide, if_false]
    rw [hset]
    exact Sep.readsO h (E := fun e => e = _) i hi (fun F hF => send_no W F tb c room ns hops n hn hc hF hf)
  · by_cases hrm : roomN c room ns n.too (netN n.kind) = 0
    · simp only [Bool.true_eq_false, if_false, hrm, if_true, show ¬ ((7 : Int) = 0) from by decide]
      rw [hset]
      exact Sep.readsO h (E := fun e => e = _) i hi (fun F hF => send_full W F tb c room ns hops n hn hc hF hf (by omega) hr.1 hr.2 hrm)
    · have hp := hv.push hcc hn hf hrm
      have hl2 := hp.len hcc (by omega)
      rw [List.length_append] at hl2
      simp only [Bool.true_eq_false, if_false, hrm, if_true]
      exact Sep.callO h (E := fun e => e = _) i hi (fun F hF => send_ok W F tb c room ns hops n hn hc hF hf (by omega) hr.1 hr.2 hrm (by simp at hl2; omega))
theorem cnt_upd (ns : List Nt) (n : Nt) : CM.upd (fun a b => cntN a b ns) n.too (netN n.kind) (cntN n.too (netN n.kind) ns + 1) = fun a b => cntN a b (ns ++ [n]) := by
  funext a b
  unfold CM.upd
  rw [cnt_push]
  by_cases h : a = n.too ∧ b = netN n.kind
  · obtain ⟨rfl, rfl⟩ := h
    simp [isB]
  · rw [if_neg h]
    have : isB a b n = false := by
      unfold isB
      cases h1 : (n.too == a) && (netN n.kind == b)
      · rfl
      · simp only [Bool.and_eq_true, beq_iff_eq] at h1
        exact absurd ⟨h1.1.symm, h1.2.symm⟩ h
    rw [this]
    simp
theorem isN2 (a b : Int) : IsN 2 #[.int .i64 a, .int .i64 b] := ⟨rfl, by simp [Value.oneCell']⟩
theorem fit_small {a : Int} (h : -9223372036854775808 ≤ a ∧ a ≤ 9223372036854775807) : CM.fit a := WalkArith.wf_i64 h
set_option maxRecDepth 100000 in
set_option maxHeartbeats 4000000 in
theorem room_law (c : Cfg) (room : Int) (a1 : Option Addr) (len1 cap1 : Nat) (N : Nat → Nt) (w : World) (h1 : IsRowN w a1 len1 cap1 N) :
    Calls Try.prog 4 #[CV c, .int .i64 room, .slice a1 len1 cap1] w fun e w' => e = .returned (.bool true) ∧ Below w.heap.size w w' := by
  have HC1 := Lib.hid (fun i (hi : i < len1) => h1.at hi)
  obtain ⟨lc1, m1, _⟩ := h1
  unfold maxLen at m1
  have hmm := @run_makeMap Try.prog
  obtain ⟨W0, hW0⟩ : ∃ W0, w.alloc (.cells (CC c) 23) = W0 := ⟨_, rfl⟩
  have HS0 : Hid (Sep NoF w W0 [cfgO w.heap.size c]) := Lib.hid (by rw [← hW0]; exact (Sep.zero NoF w).alloc _ _)
  have HW0 := Lib.hid hW0
  clear hW0
  by_cases g1 : 100 < len1
  · have hb1 : decide ((100 : Int) < (len1 : Int)) = true := by simp; omega
    go_enter Try.func4, Try.ntmps4
    go_wp2_with fail
    rw [HW0.out]
    refine (works_any _).mono ?_
    rintro e w9 ⟨rfl, hu⟩
    have HS9 := Lib.hid (HS0.out.upd0 hu)
    clear hu
    go_wp2
    go_ret
    exact ⟨rfl, HS9.out.below⟩
  · have hb1 : decide ((100 : Int) < (len1 : Int)) = false := by simp; omega
    by_cases hmr : May c ∧ 1 ≤ room ∧ room ≤ 1024
    · obtain ⟨hm, hr1, hr2⟩ := hmr
      have hcc : c.cores ≤ 16 := hm.1.2
      have HN := Lib.hid (new_yes c hm room hr1 hr2)
      have HM := Lib.hid hm
      have I0 := Lib.hid (InvT.nil c room (by omega))
      clear hm
      go_enter Try.func4, Try.ntmps4
      go_wp2_with fail
      rw [HW0.out]
      refine (HN.out W0).mono ?_
      rintro e w2 ⟨tb, rfl, hu, ht⟩
      have HS2 : Hid (Sep NoF w w2 [To tb c room [] 0, cfgO w.heap.size c]) := Lib.hid (HS0.out.push hu ht)
      clear hu ht
      obtain ⟨cb, hcb⟩ : ∃ cb, w.heap.size = cb := ⟨_, rfl⟩
      have HCB := Lib.hid hcb
      rw [hcb] at HS2 ⊢
      clear hcb
      obtain ⟨w3, hw3⟩ : ∃ W, w2.alloc (.map #[] 0) = W := ⟨_, rfl⟩
      have HS3 : Hid (Sep NoF w w3 [To tb c room [] 0, cfgO cb c]) := Lib.hid (by rw [← hw3]; exact HS2.out.upd0 (Upd.alloc NoF w2 _))
      have HM3 : Hid (CM.Is w3 w2.heap.size 0 (fun a b => cntN a b [])) := Lib.hid (by rw [← hw3]; exact CM.Is.made w2)
      have hmb : w.heap.size ≤ w2.heap.size := HS2.out.size
      have HW3 := Lib.hid hw3
      clear hw3
      go_upto_region 7 with fail
      rw [HW3.out]
      obtain ⟨mb, hmbe⟩ : ∃ b, w2.heap.size = b := ⟨_, rfl⟩
      rw [hmbe] at hmb HM3 ⊢
      have HMB := Lib.hid hmb
      clear hmb hmbe HW3 hmm
      go_wp2_with fail
      go_loopw [31] (fun i wr => ∃ (k : Nat) (ns : List Nt), k ≤ len1 ∧ i = .int .i64 k ∧ Hid (InvT c room ns ∧ ns.length ≤ k ∧ CM.Is wr mb k (fun a b => cntN a b ns) ∧ Sep NoF w wr [To tb c room ns 0, cfgO cb c])) (fun i _ => len1 - (intOf i).toNat)
      case atStart => exact ⟨0, [], Nat.zero_le _, rfl, I0.out, Nat.le_refl _, HM3.out, HS3.out⟩
      case round =>
        clear HM3 HS3 HS2 HS0 HW0
        obtain ⟨k, ns, hk, rfl, HI⟩ := hrel
        by_cases hlt : k < len1
        · obtain ⟨hok, x, g, q, rfl, hxa, hgl, hrg⟩ := HC1.out k hlt
          have HOK := Lib.hid hok
          have hrw : wr.rangeAt g q (N k).cells.toList := fun j v hv => HI.out.2.2.2.old (hrg j v hv)
          have hrw2 : (wr.alloc (.cells TNot.Z 37)).rangeAt g q (N k).cells.toList := World.rangeAt_alloc hrw _
          generalize N k = n at *
          have l1 := TNot.ld_at (Nt.Ok.isN HOK.out.isU) hrw
          have l2 := TNot.ld_at (Nt.Ok.isN HOK.out.isU) hrw2
          have s1 := TNot.st_new (Nt.Ok.isN HOK.out.isU) wr
          obtain ⟨w5, hw5⟩ : ∃ W, wr.alloc (.cells n.cells 37) = W := ⟨_, rfl⟩
          have hu5 : Upd NoF wr w5 := by rw [← hw5]; exact Upd.alloc NoF wr _
          have HS5 : Hid (Sep NoF w w5 [noteO wr.heap.size n, To tb c room ns 0, cfgO cb c]) := Lib.hid (by rw [← hw5]; exact HI.out.2.2.2.alloc _ _)
          have HM5 : Hid (CM.Is w5 mb k (fun a b => cntN a b ns)) := Lib.hid (cm_upd HI.out.2.2.1 hu5)
          have HV := Lib.hid HI.out.1; have HL := Lib.hid HI.out.2.1
          have HW5 := Lib.hid hw5
          clear hw5 HI hok hrw hrw2 hrg hu5
          go_upto_region 10 with fail
          rw [HW5.out]
          clear HW5 l1 l2 s1
          obtain ⟨nb, hnb⟩ : ∃ b, wr.heap.size = b := ⟨_, rfl⟩
          rw [hnb] at HS5 ⊢
          clear hnb
          have l9 := TNot.ld_at (Nt.Ok.isN HOK.out.isU) (HS5.out.box 0 rfl).whole
          have d0 : w5.cell? ⟨cb, 0, none⟩ = some (.int .i64 c.cores) := (HS5.out.box 2 rfl).cell 0
          have d1 : w5.cell? ⟨cb, 1, none⟩ = some (.int .i64 c.sets) := (HS5.out.box 2 rfl).cell 1
          have d2 : w5.cell? ⟨cb, 2, none⟩ = some (.int .i64 c.ways) := (HS5.out.box 2 rfl).cell 2
          have d3 : w5.cell? ⟨cb, 3, none⟩ = some (.int .i64 c.blocks) := (HS5.out.box 2 rfl).cell 3
          have d4 : w5.cell? ⟨cb, 4, none⟩ = some (.int .i64 c.logs) := (HS5.out.box 2 rfl).cell 4
          have d5 : w5.cell? ⟨cb, 5, none⟩ = some (.int .i64 c.backs) := (HS5.out.box 2 rfl).cell 5
          have d6 : w5.cell? ⟨cb, 6, none⟩ = some (.int .i64 c.nest) := (HS5.out.box 2 rfl).cell 6
          have d7 : w5.cell? ⟨cb, 7, none⟩ = some (.int .i64 c.tries) := (HS5.out.box 2 rfl).cell 7
          have HF := Lib.hid (rfits_any c n HOK.out HM.out w5)
          go_wp2_with fail
          refine HF.out.mono ?_
          rintro e w6 ⟨rfl, hu⟩
          have HS6 := Lib.hid (HS5.out.upd0 hu)
          have HM6 := Lib.hid (cm_upd HM5.out hu)
          clear hu l9 HF HS5 HM5 d0 d1 d2 d3 d4 d5 d6 d7
          have hds := HS6.out.upd0 (Upd.drew NoF w6)
          have z2 : w6.drew.cell? ⟨nb, 2, none⟩ = some (.int .i64 n.too) := ((hds.box 0 rfl).cell 2).trans n.get2
          have z0 : w6.drew.cell? ⟨nb, 0, none⟩ = some (.int .u8 n.kind) := ((hds.box 0 rfl).cell 0).trans n.get0
          have z2a : (w6.alloc (.cells TI2.Z 46)).drew.cell? ⟨nb, 2, none⟩ = some (.int .i64 n.too) := (Upd.alloc NoF w6.drew (.cells TI2.Z 46)).cell z2 (fun h => h)
          have z0a : (w6.alloc (.cells TI2.Z 46)).drew.cell? ⟨nb, 0, none⟩ = some (.int .u8 n.kind) := (Upd.alloc NoF w6.drew (.cells TI2.Z 46)).cell z0 (fun h => h)
          have HNT := Lib.hid (NC.net_any n.kind)
          obtain ⟨w7, hw7⟩ : ∃ W, (w6.alloc (.cells #[.int .i64 n.too, .int .i64 (netN n.kind)] 46)).drew = W := ⟨_, rfl⟩
          have HS7 : Hid (Sep NoF w w7 [boxO w6.heap.size #[.int .i64 n.too, .int .i64 (netN n.kind)] 46, noteO nb n, To tb c room ns 0, cfgO cb c]) := Lib.hid (by rw [← hw7]; exact hds.alloc _ _)
          have HM7 : Hid (CM.Is w7 mb k (fun a b => cntN a b ns)) := Lib.hid (by rw [← hw7]; exact cm_upd (cm_upd HM6.out (Upd.drew NoF w6)) (Upd.alloc NoF _ _))
          have HW7 := Lib.hid hw7
          clear hw7 hds
          obtain ⟨kb, hkb⟩ : ∃ b, w6.heap.size = b := ⟨_, rfl⟩
          rw [hkb] at HS7
          have HKB := Lib.hid hkb
          clear hkb
          have s7 : (TI2.st (.pointer (some ⟨w6.heap.size, 0, none⟩)) (.agg #[.int .i64 n.too, .int .i64 (netN n.kind)])).run Try.prog (w6.alloc (.cells TI2.Z 46)).drew = .ok () (w6.alloc (.cells #[.int .i64 n.too, .int .i64 (netN n.kind)] 46)).drew := TI2.st_new (isN2 n.too (netN n.kind)) w6.drew
          go_upto_region 11 with fail
          go_cut [13] from 38 to 43 (fun s13 wx => s13 = ptr kb ∧ wx = w7)
          case first =>
            go_region_with (go_at_call 15; refine (HNT.out _).mono ?_; rintro e wm ⟨rfl, rfl⟩)
            all_goals
              go_wp2_with fail
              go_meet
              exact ⟨by rw [HKB.out], HW7.out⟩
          case rest =>
            obtain ⟨rfl, hwx⟩ := hcut
            rw [hwx]
            clear hwx HW7 HKB HM6 HS6 z2 z0 z2a z0a s7
            have l9 := TNot.ld_at (Nt.Ok.isN HOK.out.isU) (HS7.out.box 1 rfl).whole
            have hsd := send_O HS7.out 2 rfl HM.out HV.out ⟨hr1, hr2⟩ n HOK.out
            have hk100 : k ≤ 100 := by omega
            cases hff : fitsN c n
            · have hse : sendE c room ns n = 2 := by unfold sendE; rw [hff]; rfl
              have hss : sendS c room ns n = ns := by unfold sendS; rw [hse]; rfl
              rw [hse, hss] at hsd
              have HSD := Lib.hid hsd
              clear hsd hse hss
              go_wp2_with fail
              refine HSD.out.mono ?_
              rintro e w8 ⟨rfl, hko, hs⟩
              have HS8 := Lib.hid hs
              have HM8 := Lib.hid (cm_others HM7.out hko)
              clear hs hko HM7 HS7 HSD l9
              go_wp2_with fail
              go_quiet (fail)
              have HS9 : Hid (Sep NoF w (w8.drewN nq) [To tb c room ns 0, cfgO cb c]) := Lib.hid (((HS8.out.drop 0 (by simp)).drop 0 (by simp)).upd0 (Upd.drewN NoF _ _))
              have HM9 := Lib.hid ((cm_upd HM8.out (Upd.drewN NoF _ nq)).mono (Nat.le_succ k))
              go_wp2_with fail
              exact ⟨⟨k + 1, ns, by omega, by go_num, HV.out, by have := HL.out; omega, HM9.out, HS9.out⟩, by simp [intOf]; omega⟩
            · have hrf := room_fit hcc hff room ns
              have hft := fits_too hcc hff
              have hcb := cnt_le n.too (netN n.kind) ns
              have hfew := HV.out.few n.too (netN n.kind)
              by_cases hrm : roomN c room ns n.too (netN n.kind) = 0
              · have hse : sendE c room ns n = 7 := by unfold sendE; rw [hff, hrm]; rfl
                have hss : sendS c room ns n = ns := by unfold sendS; rw [hse]; rfl
                rw [hse, hss] at hsd
                have HSD := Lib.hid hsd
                clear hsd hse hss
                go_wp2_with fail
                refine HSD.out.mono ?_
                rintro e w8 ⟨rfl, hko, hs⟩
                have HS : Hid (Sep NoF w w8 [boxO kb #[.int .i64 n.too, .int .i64 (netN n.kind)] 46, noteO nb n, To tb c room ns 0, cfgO cb c]) := Lib.hid hs
                have HMP := Lib.hid (cm_others HM7.out hko)
                clear hs hko HM7 HS7 HSD l9
                have hl := HMP.out.look (a := n.too) (c := netN n.kind) (fit_small (by omega)) (fit_small (by omega))
                have lk8 := TI2.ld_at (isN2 n.too (netN n.kind)) (HS.out.box 0 rfl).whole
                have HLN : Hid (ns.length ≤ 100) := Lib.hid (by have := HL.out; omega)
                obtain ⟨cc, hcn⟩ : ∃ x, cntN n.too (netN n.kind) ns = x := ⟨_, rfl⟩
                simp only [hcn] at hl hrf hcb hfew
                have hge : decide (room ≤ cc) = true := by simp; omega
                have hccb : 0 ≤ cc ∧ cc ≤ 1024 := by omega
                have HCC := Lib.hid hcn
                clear hcn hrf hft hcb hfew hrm
                go_upto_region 19 with fail
                have hhs : (fun W => Sep NoF w W [boxO kb #[.int .i64 n.too, .int .i64 (netN n.kind)] 46, noteO nb n, To tb c room ns 0, cfgO cb c] ∧ CM.Is W mb k (fun a b => cntN a b ns)) w8.drew := ⟨HS.out.upd0 (Upd.drew NoF _), cm_upd HMP.out (Upd.drew NoF _)⟩
                have HST := Lib.hid hhs
                clear hhs
                have hfit := fits_too hcc hff
                have hsk : ∀ W W2, (fun W => Sep NoF w W [boxO kb #[.int .i64 n.too, .int .i64 (netN n.kind)] 46, noteO nb n, To tb c room ns 0, cfgO cb c] ∧ CM.Is W mb k (fun a b => cntN a b ns)) W → Upd NoF W W2 → (fun W => Sep NoF w W [boxO kb #[.int .i64 n.too, .int .i64 (netN n.kind)] 46, noteO nb n, To tb c room ns 0, cfgO cb c] ∧ CM.Is W mb k (fun a b => cntN a b ns)) W2 := fun W W2 h hu => ⟨h.1.upd0 hu, cm_upd h.2 hu⟩
                have HSK := Lib.hid hsk
                clear hsk
                have hlk : ∀ W, (fun W => Sep NoF w W [boxO kb #[.int .i64 n.too, .int .i64 (netN n.kind)] 46, noteO nb n, To tb c room ns 0, cfgO cb c] ∧ CM.Is W mb k (fun a b => cntN a b ns)) W → (Instr.lookup 43 (.map (some mb)) (.agg #[.int .i64 n.too, .int .i64 (netN n.kind)]) false).run Try.prog W = .ok (.int .i64 cc) W := fun W h => by have := h.2.look (a := n.too) (c := netN n.kind) (fit_small (by omega)) (fit_small (by omega)); rw [← HCC.out]; exact this
                have HLK := Lib.hid hlk
                clear hlk
                have hrm9 : ∀ W, (fun W => Sep NoF w W [boxO kb #[.int .i64 n.too, .int .i64 (netN n.kind)] 46, noteO nb n, To tb c room ns 0, cfgO cb c] ∧ CM.Is W mb k (fun a b => cntN a b ns)) W → Calls Try.prog 16 #[ptr tb, .int .i64 n.too, .int .i64 (netN n.kind)] W fun e W2 => e = .returned (.int .i64 (room - cc)) ∧ (fun W => Sep NoF w W [boxO kb #[.int .i64 n.too, .int .i64 (netN n.kind)] 46, noteO nb n, To tb c room ns 0, cfgO cb c] ∧ CM.Is W mb k (fun a b => cntN a b ns)) W2 := fun W h => by
                  obtain ⟨F, hF⟩ := h.1.has 2 rfl
                  refine (room_any W F tb c room ns 0 n.too (netN n.kind) hF (by have := HLN.out; omega) hr1 hr2).mono ?_
                  rintro e W2 ⟨rfl, hu⟩
                  exact ⟨by rw [room_fit hcc hff, HCC.out], h.1.upd0 hu, cm_upd h.2 hu⟩
                have HRM := Lib.hid hrm9
                clear hrm9 hfit
                have hwrp : IntKind.i64.wrap (room - cc) = room - cc := IntWalk.i64_in _ (by omega)
                refine wp_region_held_drew (S := (fun W => Sep NoF w W [boxO kb #[.int .i64 n.too, .int .i64 (netN n.kind)] 46, noteO nb n, To tb c room ns 0, cfgO cb c] ∧ CM.Is W mb k (fun a b => cntN a b ns))) (by kernel_rfl) (HST.out) (fun hHeld => ?_)
                refine reg_on (i := 0) (v := .bool true) rfl (by kernel_rfl) (by kernel_rfl) (by kernel_rfl) (fun _ _ _ h => h) (by kernel_rfl) hHeld ?yr1_0 ?_
                case yr1_0 => (intro w hSw; (try dsimp only at hSw); have hLK := HLK.out _ hSw; obtain ⟨hS, hMp⟩ := hSw; have k0 := ((hS.box 1 rfl).cell 0).trans n.get0; have k2 := ((hS.box 1 rfl).cell 2).trans n.get2; have kk := TI2.ld_at (isN2 n.too (netN n.kind)) (hS.box 0 rfl).whole; clear hS hMp; go_simp; first | done | with_reducible rfl)
                simp only [Act.put, List.setIfInBounds_toArray, List.set_cons_zero, List.set_cons_succ, List.getElem_toArray, List.getElem_cons_succ, List.getElem_cons_zero]
                refine reg_on (i := 1) (v := .bool true) rfl (by kernel_rfl) (by kernel_rfl) (by kernel_rfl) (fun _ _ _ h => h) (by kernel_rfl) hHeld ?yr1_1 ?_
                case yr1_1 => (intro w hSw; (try dsimp only at hSw); have hLK := HLK.out _ hSw; obtain ⟨hS, hMp⟩ := hSw; have k0 := ((hS.box 1 rfl).cell 0).trans n.get0; have k2 := ((hS.box 1 rfl).cell 2).trans n.get2; have kk := TI2.ld_at (isN2 n.too (netN n.kind)) (hS.box 0 rfl).whole; clear hS hMp; go_simp; first | done | with_reducible rfl)
                simp only [Act.put, List.setIfInBounds_toArray, List.set_cons_zero, List.set_cons_succ, List.getElem_toArray, List.getElem_cons_succ, List.getElem_cons_zero]
                refine reg_on (i := 2) (v := ?vr1_2) rfl (by kernel_rfl) (by kernel_rfl) (by kernel_rfl) (fun _ _ _ h => h) (by kernel_rfl) hHeld ?yr1_2 ?_
                case yr1_2 => (intro w hSw; (try dsimp only at hSw); have hLK := HLK.out _ hSw; obtain ⟨hS, hMp⟩ := hSw; have k0 := ((hS.box 1 rfl).cell 0).trans n.get0; have k2 := ((hS.box 1 rfl).cell 2).trans n.get2; have kk := TI2.ld_at (isN2 n.too (netN n.kind)) (hS.box 0 rfl).whole; clear hS hMp; go_simp; first | done | with_reducible rfl)
                simp only [Act.put, List.setIfInBounds_toArray, List.set_cons_zero, List.set_cons_succ, List.getElem_toArray, List.getElem_cons_succ, List.getElem_cons_zero]
                refine reg_on (i := 3) (v := ?vr1_3) rfl (by kernel_rfl) (by kernel_rfl) (by kernel_rfl) (fun _ _ _ h => h) (by kernel_rfl) hHeld ?yr1_3 ?_
                case yr1_3 => (intro w hSw; (try dsimp only at hSw); have hLK := HLK.out _ hSw; obtain ⟨hS, hMp⟩ := hSw; have k0 := ((hS.box 1 rfl).cell 0).trans n.get0; have k2 := ((hS.box 1 rfl).cell 2).trans n.get2; have kk := TI2.ld_at (isN2 n.too (netN n.kind)) (hS.box 0 rfl).whole; clear hS hMp; go_simp; first | done | with_reducible rfl)
                simp only [Act.put, List.setIfInBounds_toArray, List.set_cons_zero, List.set_cons_succ, List.getElem_toArray, List.getElem_cons_succ, List.getElem_cons_zero]
                refine reg_on (i := 4) (v := ?vr1_4) rfl (by kernel_rfl) (by kernel_rfl) (by kernel_rfl) (fun _ _ _ h => h) (by kernel_rfl) hHeld ?yr1_4 ?_
                case yr1_4 => (intro w hSw; (try dsimp only at hSw); have hLK := HLK.out _ hSw; obtain ⟨hS, hMp⟩ := hSw; have k0 := ((hS.box 1 rfl).cell 0).trans n.get0; have k2 := ((hS.box 1 rfl).cell 2).trans n.get2; have kk := TI2.ld_at (isN2 n.too (netN n.kind)) (hS.box 0 rfl).whole; clear hS hMp; go_simp; first | done | with_reducible rfl)
                simp only [Act.put, List.setIfInBounds_toArray, List.set_cons_zero, List.set_cons_succ, List.getElem_toArray, List.getElem_cons_succ, List.getElem_cons_zero]
                refine reg_on (i := 5) (v := ?vr1_5) rfl (by kernel_rfl) (by kernel_rfl) (by kernel_rfl) (fun _ _ _ h => h) (by kernel_rfl) hHeld ?yr1_5 ?_
                case yr1_5 => (intro w hSw; (try dsimp only at hSw); have hLK := HLK.out _ hSw; obtain ⟨hS, hMp⟩ := hSw; have k0 := ((hS.box 1 rfl).cell 0).trans n.get0; have k2 := ((hS.box 1 rfl).cell 2).trans n.get2; have kk := TI2.ld_at (isN2 n.too (netN n.kind)) (hS.box 0 rfl).whole; clear hS hMp; go_simp; first | done | with_reducible rfl)
                simp only [Act.put, List.setIfInBounds_toArray, List.set_cons_zero, List.set_cons_succ, List.getElem_toArray, List.getElem_cons_succ, List.getElem_cons_zero]
                refine reg_on (i := 6) (v := ?vr1_6) rfl (by kernel_rfl) (by kernel_rfl) (by kernel_rfl) (fun _ _ _ h => h) (by kernel_rfl) hHeld ?yr1_6 ?_
                case yr1_6 => (intro w hSw; (try dsimp only at hSw); have hLK := HLK.out _ hSw; obtain ⟨hS, hMp⟩ := hSw; have k0 := ((hS.box 1 rfl).cell 0).trans n.get0; have k2 := ((hS.box 1 rfl).cell 2).trans n.get2; have kk := TI2.ld_at (isN2 n.too (netN n.kind)) (hS.box 0 rfl).whole; clear hS hMp; go_simp; first | done | with_reducible rfl)
                simp only [Act.put, List.setIfInBounds_toArray, List.set_cons_zero, List.set_cons_succ, List.getElem_toArray, List.getElem_cons_succ, List.getElem_cons_zero]
                refine reg_on (i := 9) (v := ?vr1_9) rfl (by kernel_rfl) (by kernel_rfl) (by kernel_rfl) (fun _ _ _ h => h) (by kernel_rfl) hHeld ?yr1_9 ?_
                case yr1_9 => (intro w hSw; (try dsimp only at hSw); have hLK := HLK.out _ hSw; obtain ⟨hS, hMp⟩ := hSw; have k0 := ((hS.box 1 rfl).cell 0).trans n.get0; have k2 := ((hS.box 1 rfl).cell 2).trans n.get2; have kk := TI2.ld_at (isN2 n.too (netN n.kind)) (hS.box 0 rfl).whole; clear hS hMp; go_simp; first | done | with_reducible rfl)
                simp only [Act.put, List.setIfInBounds_toArray, List.set_cons_zero, List.set_cons_succ, List.getElem_toArray, List.getElem_cons_succ, List.getElem_cons_zero]
                refine reg_on (i := 10) (v := ?vr1_10) rfl (by kernel_rfl) (by kernel_rfl) (by kernel_rfl) (fun _ _ _ h => h) (by kernel_rfl) hHeld ?yr1_10 ?_
                case yr1_10 => (intro w hSw; (try dsimp only at hSw); have hLK := HLK.out _ hSw; obtain ⟨hS, hMp⟩ := hSw; have k0 := ((hS.box 1 rfl).cell 0).trans n.get0; have k2 := ((hS.box 1 rfl).cell 2).trans n.get2; have kk := TI2.ld_at (isN2 n.too (netN n.kind)) (hS.box 0 rfl).whole; clear hS hMp; go_simp; first | done | with_reducible rfl)
                simp only [Act.put, List.setIfInBounds_toArray, List.set_cons_zero, List.set_cons_succ, List.getElem_toArray, List.getElem_cons_succ, List.getElem_cons_zero]
                refine reg_on (i := 11) (v := ?vr1_11) rfl (by kernel_rfl) (by kernel_rfl) (by kernel_rfl) (fun _ _ _ h => h) (by kernel_rfl) hHeld ?yr1_11 ?_
                case yr1_11 => (intro w hSw; (try dsimp only at hSw); have hLK := HLK.out _ hSw; obtain ⟨hS, hMp⟩ := hSw; have k0 := ((hS.box 1 rfl).cell 0).trans n.get0; have k2 := ((hS.box 1 rfl).cell 2).trans n.get2; have kk := TI2.ld_at (isN2 n.too (netN n.kind)) (hS.box 0 rfl).whole; clear hS hMp; go_simp; first | done | with_reducible rfl)
                simp only [Act.put, List.setIfInBounds_toArray, List.set_cons_zero, List.set_cons_succ, List.getElem_toArray, List.getElem_cons_succ, List.getElem_cons_zero]
                refine reg_on (i := 12) (v := ?vr1_12) rfl (by kernel_rfl) (by kernel_rfl) (by kernel_rfl) (fun _ _ _ h => h) (by kernel_rfl) hHeld ?yr1_12 ?_
                case yr1_12 => (intro w hSw; (try dsimp only at hSw); have hLK := HLK.out _ hSw; obtain ⟨hS, hMp⟩ := hSw; have k0 := ((hS.box 1 rfl).cell 0).trans n.get0; have k2 := ((hS.box 1 rfl).cell 2).trans n.get2; have kk := TI2.ld_at (isN2 n.too (netN n.kind)) (hS.box 0 rfl).whole; clear hS hMp; go_simp; first | done | with_reducible rfl)
                simp only [Act.put, List.setIfInBounds_toArray, List.set_cons_zero, List.set_cons_succ, List.getElem_toArray, List.getElem_cons_succ, List.getElem_cons_zero]
                refine reg_on (i := 13) (v := .int .i64 (room - cc)) rfl (by kernel_rfl) (by kernel_rfl) (by kernel_rfl) (fun _ _ _ h => h) (by kernel_rfl) hHeld ?yr1_13 ?_
                case yr1_13 => (intro w hSw; (try dsimp only at hSw); have hLK := HLK.out _ hSw; obtain ⟨hS, hMp⟩ := hSw; have k0 := ((hS.box 1 rfl).cell 0).trans n.get0; have k2 := ((hS.box 1 rfl).cell 2).trans n.get2; have kk := TI2.ld_at (isN2 n.too (netN n.kind)) (hS.box 0 rfl).whole; clear hS hMp; go_simp; first | done | with_reducible rfl)
                simp only [Act.put, List.setIfInBounds_toArray, List.set_cons_zero, List.set_cons_succ, List.getElem_toArray, List.getElem_cons_succ, List.getElem_cons_zero]
                refine reg_step (i := 7) (by kernel_rfl) rfl (by kernel_rfl) (fun K hK => ?_)
                go_simp
                refine (HNT.out _).mono ?_
                rintro e y1 ⟨rfl, rfl⟩
                have HS9 := hHeld
                go_wp2_with fail
                refine hK.out _ _ HS9 (fun hHeld2 => ?_)
                clear hK hHeld2 hHeld
                have hHeld := HS9
                clear HS9
                try simp only [Act.put, List.setIfInBounds_toArray, List.set_cons_zero, List.set_cons_succ, List.getElem_toArray, List.getElem_cons_succ, List.getElem_cons_zero]
                refine reg_step (i := 8) (by kernel_rfl) rfl (by kernel_rfl) (fun K hK => ?_)
                go_simp
                refine (HRM.out _ hHeld).mono ?_
                rintro e y1 ⟨rfl, HS9⟩
                go_wp2_with fail
                refine hK.out _ _ HS9 (fun hHeld2 => ?_)
                clear hK hHeld2 hHeld
                have hHeld := HS9
                clear HS9
                try simp only [Act.put, List.setIfInBounds_toArray, List.set_cons_zero, List.set_cons_succ, List.getElem_toArray, List.getElem_cons_succ, List.getElem_cons_zero]
                refine reg_on (i := 14) (v := .bool false) rfl (by kernel_rfl) (by kernel_rfl) (by kernel_rfl) (fun _ _ _ h => h) (by kernel_rfl) hHeld ?yr1_14 ?_
                case yr1_14 => (intro w hSw; (try dsimp only at hSw); have hLK := HLK.out _ hSw; obtain ⟨hS, hMp⟩ := hSw; have k0 := ((hS.box 1 rfl).cell 0).trans n.get0; have k2 := ((hS.box 1 rfl).cell 2).trans n.get2; have kk := TI2.ld_at (isN2 n.too (netN n.kind)) (hS.box 0 rfl).whole; clear hS hMp; go_simp; first | done | with_reducible rfl)
                simp only [Act.put, List.setIfInBounds_toArray, List.set_cons_zero, List.set_cons_succ, List.getElem_toArray, List.getElem_cons_succ, List.getElem_cons_zero]
                refine reg_on (i := 15) (v := .bool false) rfl (by kernel_rfl) (by kernel_rfl) (by kernel_rfl) (fun _ _ _ h => h) (by kernel_rfl) hHeld ?yr1_15 ?_
                case yr1_15 => (intro w hSw; (try dsimp only at hSw); have hLK := HLK.out _ hSw; obtain ⟨hS, hMp⟩ := hSw; have k0 := ((hS.box 1 rfl).cell 0).trans n.get0; have k2 := ((hS.box 1 rfl).cell 2).trans n.get2; have kk := TI2.ld_at (isN2 n.too (netN n.kind)) (hS.box 0 rfl).whole; clear hS hMp; go_simp; first | done | with_reducible rfl)
                simp only [Act.put, List.setIfInBounds_toArray, List.set_cons_zero, List.set_cons_succ, List.getElem_toArray, List.getElem_cons_succ, List.getElem_cons_zero]
                refine wpAnyH_done (by kernel_rfl) ?_ _
                go_wp2_with fail
                have HS9 : Hid (Sep NoF w _ [To tb c room ns 0, cfgO cb c]) := Lib.hid ((hHeld.1.drop 0 (by simp)).drop 0 (by simp))
                have HM9 := Lib.hid (hHeld.2.mono (Nat.le_succ k))
                exact ⟨⟨k + 1, ns, by omega, by go_num, HV.out, by have := HL.out; omega, HM9.out, HS9.out⟩, by simp [intOf]; omega⟩
              · have hse : sendE c room ns n = 0 := by unfold sendE; rw [hff, if_neg hrm]; rfl
                have hss : sendS c room ns n = ns ++ [n] := by unfold sendS; rw [hse]; rfl
                have HV2 := HV.out.send hcc HOK.out
                rw [hss] at HV2
                have HV2 := Lib.hid HV2
                rw [hse, hss] at hsd
                have HSD := Lib.hid hsd
                clear hsd hse hss
                go_wp2_with fail
                refine HSD.out.mono ?_
                rintro e w8 ⟨rfl, hko, hs⟩
                have HS8 : Hid (Sep NoF w w8 [boxO kb #[.int .i64 n.too, .int .i64 (netN n.kind)] 46, noteO nb n, To tb c room (ns ++ [n]) 0, cfgO cb c]) := Lib.hid hs
                have HM8 := Lib.hid (cm_others HM7.out hko)
                clear hs hko HM7 HS7 HSD l9
                have f1 := fit_small (a := n.too) (by omega)
                have f2 := fit_small (a := netN n.kind) (by omega)
                have hl := HM8.out.look f1 f2
                have lk8 := TI2.ld_at (isN2 n.too (netN n.kind)) (HS8.out.box 0 rfl).whole
                have HMD := cm_upd HM8.out (Upd.drew NoF w8)
                have HSD8 := HS8.out.upd0 (Upd.drew NoF w8)
                have hl8 := HMD.look f1 f2
                have lk9 := TI2.ld_at (isN2 n.too (netN n.kind)) (HSD8.box 0 rfl).whole
                obtain ⟨st, w9, hent, HI9, hg9, hput⟩ := HMD.entry (by unfold maxLen; omega) f1 f2
                have HS9 := Sep.mapped HSD8 HMD HMB.out hg9
                have hl9 := HI9.look f1 f2
                have lk10 := TI2.ld_at (isN2 n.too (netN n.kind)) (HS9.box 0 rfl).whole
                obtain ⟨w10, hstr0, HI10, hg10⟩ := hput w9 (cntN n.too (netN n.kind) ns + 1) (fit_small (by omega)) rfl
                have hstr : (Instr.entryStore 43 (.map (some mb)) (.int .i64 st) (.int .i64 (cntN n.too (netN n.kind) ns + 1))).run Try.prog w9 = .ok () w10 := hstr0
                clear hstr0
                have hS10 := Sep.mapped HS9 HI9 HMB.out hg10
                rw [cnt_upd] at HI10
                have HS := Lib.hid hS10; have HMP := Lib.hid HI10
                have hcp := cnt_push n.too (netN n.kind) ns n
                have hib : isB n.too (netN n.kind) n = true := by simp [isB]
                rw [hib, if_pos rfl] at hcp
                have HLN : Hid ((ns ++ [n]).length ≤ 101) := Lib.hid (by have := HL.out; rw [List.length_append]; simp; omega)
                obtain ⟨cc, hcn⟩ : ∃ x, cntN n.too (netN n.kind) (ns ++ [n]) = x := ⟨_, rfl⟩
                have HCC := Lib.hid hcn
                rw [hcn] at hcp
                obtain ⟨c0, hc0⟩ : ∃ x, cntN n.too (netN n.kind) ns = x := ⟨_, rfl⟩
                simp only [hc0] at hl hl8 hl9 hent hstr hrf hcb hfew hcp
                have hge : decide (room ≤ c0) = false := by simp; omega
                have hwa : IntKind.i64.wrap (c0 + 1) = c0 + 1 := IntWalk.i64_in _ (by omega)
                have hccb : 0 ≤ cc ∧ cc ≤ 1024 := by omega
                clear hcn hc0 hrf hft hcb hfew hrm HMD HSD8 HI9 HS9 hput hg9 hg10 hS10 HI10 hcp hib f1 f2 HM8 HS8
                go_upto_region 18 with fail
                go_cut [] from 76 to 81 (fun wx => wx = w10)
                case first =>
                  go_region
                  all_goals
                    go_wp2_with fail
                    go_meet
                    rfl
                case rest =>
                  rw [hcut]
                  clear hcut hl hl8 hl9 lk8 lk9 lk10 hent hstr
                  go_upto_region 19 with fail
                  have hhs : (fun W => Sep NoF w W [boxO kb #[.int .i64 n.too, .int .i64 (netN n.kind)] 46, noteO nb n, To tb c room (ns ++ [n]) 0, cfgO cb c] ∧ CM.Is W mb (k + 1) (fun a b => cntN a b (ns ++ [n]))) w10.drew := ⟨HS.out.upd0 (Upd.drew NoF _), cm_upd HMP.out (Upd.drew NoF _)⟩
                  have HST := Lib.hid hhs
                  clear hhs
                  have hfit := fits_too hcc hff
                  have hsk : ∀ W W2, (fun W => Sep NoF w W [boxO kb #[.int .i64 n.too, .int .i64 (netN n.kind)] 46, noteO nb n, To tb c room (ns ++ [n]) 0, cfgO cb c] ∧ CM.Is W mb (k + 1) (fun a b => cntN a b (ns ++ [n]))) W → Upd NoF W W2 → (fun W => Sep NoF w W [boxO kb #[.int .i64 n.too, .int .i64 (netN n.kind)] 46, noteO nb n, To tb c room (ns ++ [n]) 0, cfgO cb c] ∧ CM.Is W mb (k + 1) (fun a b => cntN a b (ns ++ [n]))) W2 := fun W W2 h hu => ⟨h.1.upd0 hu, cm_upd h.2 hu⟩
                  have HSK := Lib.hid hsk
                  clear hsk
                  have hlk : ∀ W, (fun W => Sep NoF w W [boxO kb #[.int .i64 n.too, .int .i64 (netN n.kind)] 46, noteO nb n, To tb c room (ns ++ [n]) 0, cfgO cb c] ∧ CM.Is W mb (k + 1) (fun a b => cntN a b (ns ++ [n]))) W → (Instr.lookup 43 (.map (some mb)) (.agg #[.int .i64 n.too, .int .i64 (netN n.kind)]) false).run Try.prog W = .ok (.int .i64 cc) W := fun W h => by have := h.2.look (a := n.too) (c := netN n.kind) (fit_small (by omega)) (fit_small (by omega)); rw [← HCC.out]; exact this
                  have HLK := Lib.hid hlk
                  clear hlk
                  have hrm9 : ∀ W, (fun W => Sep NoF w W [boxO kb #[.int .i64 n.too, .int .i64 (netN n.kind)] 46, noteO nb n, To tb c room (ns ++ [n]) 0, cfgO cb c] ∧ CM.Is W mb (k + 1) (fun a b => cntN a b (ns ++ [n]))) W → Calls Try.prog 16 #[ptr tb, .int .i64 n.too, .int .i64 (netN n.kind)] W fun e W2 => e = .returned (.int .i64 (room - cc)) ∧ (fun W => Sep NoF w W [boxO kb #[.int .i64 n.too, .int .i64 (netN n.kind)] 46, noteO nb n, To tb c room (ns ++ [n]) 0, cfgO cb c] ∧ CM.Is W mb (k + 1) (fun a b => cntN a b (ns ++ [n]))) W2 := fun W h => by
                    obtain ⟨F, hF⟩ := h.1.has 2 rfl
                    refine (room_any W F tb c room (ns ++ [n]) 0 n.too (netN n.kind) hF (by have := HLN.out; omega) hr1 hr2).mono ?_
                    rintro e W2 ⟨rfl, hu⟩
                    exact ⟨by rw [room_fit hcc hff, HCC.out], h.1.upd0 hu, cm_upd h.2 hu⟩
                  have HRM := Lib.hid hrm9
                  clear hrm9 hfit
                  have hwrp : IntKind.i64.wrap (room - cc) = room - cc := IntWalk.i64_in _ (by omega)
                  refine wp_region_held_drew (S := (fun W => Sep NoF w W [boxO kb #[.int .i64 n.too, .int .i64 (netN n.kind)] 46, noteO nb n, To tb c room (ns ++ [n]) 0, cfgO cb c] ∧ CM.Is W mb (k + 1) (fun a b => cntN a b (ns ++ [n])))) (by kernel_rfl) (HST.out) (fun hHeld => ?_)
                  refine reg_on (i := 0) (v := .bool true) rfl (by kernel_rfl) (by kernel_rfl) (by kernel_rfl) (fun _ _ _ h => h) (by kernel_rfl) hHeld ?yr2_0 ?_
                  case yr2_0 => (intro w hSw; (try dsimp only at hSw); have hLK := HLK.out _ hSw; obtain ⟨hS, hMp⟩ := hSw; have k0 := ((hS.box 1 rfl).cell 0).trans n.get0; have k2 := ((hS.box 1 rfl).cell 2).trans n.get2; have kk := TI2.ld_at (isN2 n.too (netN n.kind)) (hS.box 0 rfl).whole; clear hS hMp; go_simp; first | done | with_reducible rfl)
                  simp only [Act.put, List.setIfInBounds_toArray, List.set_cons_zero, List.set_cons_succ, List.getElem_toArray, List.getElem_cons_succ, List.getElem_cons_zero]
                  refine reg_on (i := 1) (v := .bool true) rfl (by kernel_rfl) (by kernel_rfl) (by kernel_rfl) (fun _ _ _ h => h) (by kernel_rfl) hHeld ?yr2_1 ?_
                  case yr2_1 => (intro w hSw; (try dsimp only at hSw); have hLK := HLK.out _ hSw; obtain ⟨hS, hMp⟩ := hSw; have k0 := ((hS.box 1 rfl).cell 0).trans n.get0; have k2 := ((hS.box 1 rfl).cell 2).trans n.get2; have kk := TI2.ld_at (isN2 n.too (netN n.kind)) (hS.box 0 rfl).whole; clear hS hMp; go_simp; first | done | with_reducible rfl)
                  simp only [Act.put, List.setIfInBounds_toArray, List.set_cons_zero, List.set_cons_succ, List.getElem_toArray, List.getElem_cons_succ, List.getElem_cons_zero]
                  refine reg_on (i := 2) (v := ?vr2_2) rfl (by kernel_rfl) (by kernel_rfl) (by kernel_rfl) (fun _ _ _ h => h) (by kernel_rfl) hHeld ?yr2_2 ?_
                  case yr2_2 => (intro w hSw; (try dsimp only at hSw); have hLK := HLK.out _ hSw; obtain ⟨hS, hMp⟩ := hSw; have k0 := ((hS.box 1 rfl).cell 0).trans n.get0; have k2 := ((hS.box 1 rfl).cell 2).trans n.get2; have kk := TI2.ld_at (isN2 n.too (netN n.kind)) (hS.box 0 rfl).whole; clear hS hMp; go_simp; first | done | with_reducible rfl)
                  simp only [Act.put, List.setIfInBounds_toArray, List.set_cons_zero, List.set_cons_succ, List.getElem_toArray, List.getElem_cons_succ, List.getElem_cons_zero]
                  refine reg_on (i := 3) (v := ?vr2_3) rfl (by kernel_rfl) (by kernel_rfl) (by kernel_rfl) (fun _ _ _ h => h) (by kernel_rfl) hHeld ?yr2_3 ?_
                  case yr2_3 => (intro w hSw; (try dsimp only at hSw); have hLK := HLK.out _ hSw; obtain ⟨hS, hMp⟩ := hSw; have k0 := ((hS.box 1 rfl).cell 0).trans n.get0; have k2 := ((hS.box 1 rfl).cell 2).trans n.get2; have kk := TI2.ld_at (isN2 n.too (netN n.kind)) (hS.box 0 rfl).whole; clear hS hMp; go_simp; first | done | with_reducible rfl)
                  simp only [Act.put, List.setIfInBounds_toArray, List.set_cons_zero, List.set_cons_succ, List.getElem_toArray, List.getElem_cons_succ, List.getElem_cons_zero]
                  refine reg_on (i := 4) (v := ?vr2_4) rfl (by kernel_rfl) (by kernel_rfl) (by kernel_rfl) (fun _ _ _ h => h) (by kernel_rfl) hHeld ?yr2_4 ?_
                  case yr2_4 => (intro w hSw; (try dsimp only at hSw); have hLK := HLK.out _ hSw; obtain ⟨hS, hMp⟩ := hSw; have k0 := ((hS.box 1 rfl).cell 0).trans n.get0; have k2 := ((hS.box 1 rfl).cell 2).trans n.get2; have kk := TI2.ld_at (isN2 n.too (netN n.kind)) (hS.box 0 rfl).whole; clear hS hMp; go_simp; first | done | with_reducible rfl)
                  simp only [Act.put, List.setIfInBounds_toArray, List.set_cons_zero, List.set_cons_succ, List.getElem_toArray, List.getElem_cons_succ, List.getElem_cons_zero]
                  refine reg_on (i := 5) (v := ?vr2_5) rfl (by kernel_rfl) (by kernel_rfl) (by kernel_rfl) (fun _ _ _ h => h) (by kernel_rfl) hHeld ?yr2_5 ?_
                  case yr2_5 => (intro w hSw; (try dsimp only at hSw); have hLK := HLK.out _ hSw; obtain ⟨hS, hMp⟩ := hSw; have k0 := ((hS.box 1 rfl).cell 0).trans n.get0; have k2 := ((hS.box 1 rfl).cell 2).trans n.get2; have kk := TI2.ld_at (isN2 n.too (netN n.kind)) (hS.box 0 rfl).whole; clear hS hMp; go_simp; first | done | with_reducible rfl)
                  simp only [Act.put, List.setIfInBounds_toArray, List.set_cons_zero, List.set_cons_succ, List.getElem_toArray, List.getElem_cons_succ, List.getElem_cons_zero]
                  refine reg_on (i := 6) (v := ?vr2_6) rfl (by kernel_rfl) (by kernel_rfl) (by kernel_rfl) (fun _ _ _ h => h) (by kernel_rfl) hHeld ?yr2_6 ?_
                  case yr2_6 => (intro w hSw; (try dsimp only at hSw); have hLK := HLK.out _ hSw; obtain ⟨hS, hMp⟩ := hSw; have k0 := ((hS.box 1 rfl).cell 0).trans n.get0; have k2 := ((hS.box 1 rfl).cell 2).trans n.get2; have kk := TI2.ld_at (isN2 n.too (netN n.kind)) (hS.box 0 rfl).whole; clear hS hMp; go_simp; first | done | with_reducible rfl)
                  simp only [Act.put, List.setIfInBounds_toArray, List.set_cons_zero, List.set_cons_succ, List.getElem_toArray, List.getElem_cons_succ, List.getElem_cons_zero]
                  refine reg_on (i := 9) (v := ?vr2_9) rfl (by kernel_rfl) (by kernel_rfl) (by kernel_rfl) (fun _ _ _ h => h) (by kernel_rfl) hHeld ?yr2_9 ?_
                  case yr2_9 => (intro w hSw; (try dsimp only at hSw); have hLK := HLK.out _ hSw; obtain ⟨hS, hMp⟩ := hSw; have k0 := ((hS.box 1 rfl).cell 0).trans n.get0; have k2 := ((hS.box 1 rfl).cell 2).trans n.get2; have kk := TI2.ld_at (isN2 n.too (netN n.kind)) (hS.box 0 rfl).whole; clear hS hMp; go_simp; first | done | with_reducible rfl)
                  simp only [Act.put, List.setIfInBounds_toArray, List.set_cons_zero, List.set_cons_succ, List.getElem_toArray, List.getElem_cons_succ, List.getElem_cons_zero]
                  refine reg_on (i := 10) (v := ?vr2_10) rfl (by kernel_rfl) (by kernel_rfl) (by kernel_rfl) (fun _ _ _ h => h) (by kernel_rfl) hHeld ?yr2_10 ?_
                  case yr2_10 => (intro w hSw; (try dsimp only at hSw); have hLK := HLK.out _ hSw; obtain ⟨hS, hMp⟩ := hSw; have k0 := ((hS.box 1 rfl).cell 0).trans n.get0; have k2 := ((hS.box 1 rfl).cell 2).trans n.get2; have kk := TI2.ld_at (isN2 n.too (netN n.kind)) (hS.box 0 rfl).whole; clear hS hMp; go_simp; first | done | with_reducible rfl)
                  simp only [Act.put, List.setIfInBounds_toArray, List.set_cons_zero, List.set_cons_succ, List.getElem_toArray, List.getElem_cons_succ, List.getElem_cons_zero]
                  refine reg_on (i := 11) (v := ?vr2_11) rfl (by kernel_rfl) (by kernel_rfl) (by kernel_rfl) (fun _ _ _ h => h) (by kernel_rfl) hHeld ?yr2_11 ?_
                  case yr2_11 => (intro w hSw; (try dsimp only at hSw); have hLK := HLK.out _ hSw; obtain ⟨hS, hMp⟩ := hSw; have k0 := ((hS.box 1 rfl).cell 0).trans n.get0; have k2 := ((hS.box 1 rfl).cell 2).trans n.get2; have kk := TI2.ld_at (isN2 n.too (netN n.kind)) (hS.box 0 rfl).whole; clear hS hMp; go_simp; first | done | with_reducible rfl)
                  simp only [Act.put, List.setIfInBounds_toArray, List.set_cons_zero, List.set_cons_succ, List.getElem_toArray, List.getElem_cons_succ, List.getElem_cons_zero]
                  refine reg_on (i := 12) (v := ?vr2_12) rfl (by kernel_rfl) (by kernel_rfl) (by kernel_rfl) (fun _ _ _ h => h) (by kernel_rfl) hHeld ?yr2_12 ?_
                  case yr2_12 => (intro w hSw; (try dsimp only at hSw); have hLK := HLK.out _ hSw; obtain ⟨hS, hMp⟩ := hSw; have k0 := ((hS.box 1 rfl).cell 0).trans n.get0; have k2 := ((hS.box 1 rfl).cell 2).trans n.get2; have kk := TI2.ld_at (isN2 n.too (netN n.kind)) (hS.box 0 rfl).whole; clear hS hMp; go_simp; first | done | with_reducible rfl)
                  simp only [Act.put, List.setIfInBounds_toArray, List.set_cons_zero, List.set_cons_succ, List.getElem_toArray, List.getElem_cons_succ, List.getElem_cons_zero]
                  refine reg_on (i := 13) (v := .int .i64 (room - cc)) rfl (by kernel_rfl) (by kernel_rfl) (by kernel_rfl) (fun _ _ _ h => h) (by kernel_rfl) hHeld ?yr2_13 ?_
                  case yr2_13 => (intro w hSw; (try dsimp only at hSw); have hLK := HLK.out _ hSw; obtain ⟨hS, hMp⟩ := hSw; have k0 := ((hS.box 1 rfl).cell 0).trans n.get0; have k2 := ((hS.box 1 rfl).cell 2).trans n.get2; have kk := TI2.ld_at (isN2 n.too (netN n.kind)) (hS.box 0 rfl).whole; clear hS hMp; go_simp; first | done | with_reducible rfl)
                  simp only [Act.put, List.setIfInBounds_toArray, List.set_cons_zero, List.set_cons_succ, List.getElem_toArray, List.getElem_cons_succ, List.getElem_cons_zero]
                  refine reg_step (i := 7) (by kernel_rfl) rfl (by kernel_rfl) (fun K hK => ?_)
                  go_simp
                  refine (HNT.out _).mono ?_
                  rintro e y1 ⟨rfl, rfl⟩
                  have HS9 := hHeld
                  go_wp2_with fail
                  refine hK.out _ _ HS9 (fun hHeld2 => ?_)
                  clear hK hHeld2 hHeld
                  have hHeld := HS9
                  clear HS9
                  try simp only [Act.put, List.setIfInBounds_toArray, List.set_cons_zero, List.set_cons_succ, List.getElem_toArray, List.getElem_cons_succ, List.getElem_cons_zero]
                  refine reg_step (i := 8) (by kernel_rfl) rfl (by kernel_rfl) (fun K hK => ?_)
                  go_simp
                  refine (HRM.out _ hHeld).mono ?_
                  rintro e y1 ⟨rfl, HS9⟩
                  go_wp2_with fail
                  refine hK.out _ _ HS9 (fun hHeld2 => ?_)
                  clear hK hHeld2 hHeld
                  have hHeld := HS9
                  clear HS9
                  try simp only [Act.put, List.setIfInBounds_toArray, List.set_cons_zero, List.set_cons_succ, List.getElem_toArray, List.getElem_cons_succ, List.getElem_cons_zero]
                  refine reg_on (i := 14) (v := .bool false) rfl (by kernel_rfl) (by kernel_rfl) (by kernel_rfl) (fun _ _ _ h => h) (by kernel_rfl) hHeld ?yr2_14 ?_
                  case yr2_14 => (intro w hSw; (try dsimp only at hSw); have hLK := HLK.out _ hSw; obtain ⟨hS, hMp⟩ := hSw; have k0 := ((hS.box 1 rfl).cell 0).trans n.get0; have k2 := ((hS.box 1 rfl).cell 2).trans n.get2; have kk := TI2.ld_at (isN2 n.too (netN n.kind)) (hS.box 0 rfl).whole; clear hS hMp; go_simp; first | done | with_reducible rfl)
                  simp only [Act.put, List.setIfInBounds_toArray, List.set_cons_zero, List.set_cons_succ, List.getElem_toArray, List.getElem_cons_succ, List.getElem_cons_zero]
                  refine reg_on (i := 15) (v := .bool false) rfl (by kernel_rfl) (by kernel_rfl) (by kernel_rfl) (fun _ _ _ h => h) (by kernel_rfl) hHeld ?yr2_15 ?_
                  case yr2_15 => (intro w hSw; (try dsimp only at hSw); have hLK := HLK.out _ hSw; obtain ⟨hS, hMp⟩ := hSw; have k0 := ((hS.box 1 rfl).cell 0).trans n.get0; have k2 := ((hS.box 1 rfl).cell 2).trans n.get2; have kk := TI2.ld_at (isN2 n.too (netN n.kind)) (hS.box 0 rfl).whole; clear hS hMp; go_simp; first | done | with_reducible rfl)
                  simp only [Act.put, List.setIfInBounds_toArray, List.set_cons_zero, List.set_cons_succ, List.getElem_toArray, List.getElem_cons_succ, List.getElem_cons_zero]
                  refine wpAnyH_done (by kernel_rfl) ?_ _
                  go_wp2_with fail
                  have HS9 : Hid (Sep NoF w _ [To tb c room (ns ++ [n]) 0, cfgO cb c]) := Lib.hid ((hHeld.1.drop 0 (by simp)).drop 0 (by simp))
                  exact ⟨⟨k + 1, ns ++ [n], by omega, by go_num, HV2.out, by have := HL.out; rw [List.length_append]; simp; omega, hHeld.2, HS9.out⟩, by simp [intOf]; omega⟩
        · obtain rfl : len1 = k := by omega
          have HS9 := Lib.hid HI.out.2.2.2
          clear HI
          go_wp2_with fail
          refine (works_any _).mono ?_
          rintro e w9 ⟨rfl, hu⟩
          have HSF := Lib.hid (HS9.out.upd0 hu)
          clear hu
          go_wp2
          go_ret
          exact ⟨rfl, HSF.out.below⟩
    · have HN := Lib.hid (new_no c room hmr)
      clear hmr
      go_enter Try.func4, Try.ntmps4
      go_wp2_with fail
      rw [HW0.out]
      refine (HN.out W0).mono ?_
      rintro e w2 ⟨rfl, hu⟩
      have HS2 := Lib.hid (HS0.out.upd0 hu)
      clear hu
      go_wp2_with fail
      refine (works_any _).mono ?_
      rintro e w9 ⟨rfl, hu⟩
      have HS9 := Lib.hid (HS2.out.upd0 hu)
      clear hu
      go_wp2
      go_ret
      exact ⟨rfl, HS9.out.below⟩
end Go.Proofs.Ytmfhbobjambgaaa.NE
