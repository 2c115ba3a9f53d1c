/- BacksMost: what the Go function does. -/
import Derived.Test.YtoddipfgkbaeaaaBacksQ
set_option linter.unusedSimpArgs false
set_option linter.unusedVariables false
namespace Go.Proofs.Ytoddipfgkbaeaaa.BK
open Go.RowKit
open PL (Cfg CC CV May)
attribute [local go_sem] Oper.semAt_some
attribute [local go_sem ↓] TBlk.ld_eq TBlk.st_eq TBlk.al_eq
attribute [local go_sem] TBlk.al_run

theorem firstAt_or {α : Type} (g : α → Bool) (zs : List α) : (firstAt g zs = -1 ∧ ∀ z ∈ zs, g z = false) ∨ ∃ (i : Nat) (z : α), firstAt g zs = i ∧ zs[i]? = some z ∧ g z = true ∧ ∀ (j : Nat) (y : α), j < i → zs[j]? = some y → g y = false := by
  unfold firstAt
  cases h : zs.findIdx? g with
  | none => exact .inl ⟨rfl, fun z hz => by have := List.findIdx?_eq_none_iff.1 h z hz; simpa using this⟩
  | some i =>
    obtain ⟨hl, hg, hb⟩ := List.findIdx?_eq_some_iff_getElem.1 h
    exact .inr ⟨i, zs[i], rfl, List.getElem?_eq_getElem hl, hg, fun j y hj hy => by
      obtain ⟨hjl, rfl⟩ := List.getElem?_eq_some_iff.1 hy
      have := hb j hj
      simpa using this⟩
theorem cfg_cells {W : World} {b : Nat} {c : Cfg} {T : TypeId} (h : Blk W b (CC c) T) : W.cell? ⟨b, 0, none⟩ = some (.int .i64 c.cores) ∧ W.cell? ⟨b, 1, none⟩ = some (.int .i64 c.sets) ∧ W.cell? ⟨b, 2, none⟩ = some (.int .i64 c.ways) ∧ W.cell? ⟨b, 3, none⟩ = some (.int .i64 c.blocks) ∧
    W.cell? ⟨b, 4, none⟩ = some (.int .i64 c.logs) ∧ W.cell? ⟨b, 5, none⟩ = some (.int .i64 c.backs) ∧ W.cell? ⟨b, 6, none⟩ = some (.int .i64 c.nest) ∧ W.cell? ⟨b, 7, none⟩ = some (.int .i64 c.tries) :=
  ⟨h.cell 0, h.cell 1, h.cell 2, h.cell 3, h.cell 4, h.cell 5, h.cell 6, h.cell 7⟩

set_option maxRecDepth 100000 in
set_option maxHeartbeats 4000000 in
theorem most_any (c : Cfg) (a : Option Addr) (len cap : Nat) (Z : Nat → Int) (w : World) (h1 : IsRow1 w a len cap (fun i => .int .i64 (Z i))) :
    Calls Try.prog 3 #[CV c, .slice a len cap] w fun e w' => e = .returned (.bool true) ∧ Below w.heap.size w w' := by
  obtain ⟨l1, m1, c1⟩ := h1
  unfold maxLen at m1
  have C1 := Lib.hid c1
  clear c1
  obtain ⟨W0, hW0⟩ : ∃ W0, w.alloc (.cells (CC c) 23) = W0 := ⟨_, rfl⟩
  have HS0 : Hid (Sep NoF w W0 [boxO w.heap.size (CC c) 23]) := Lib.hid (by rw [← hW0]; exact (Sep.zero NoF w).alloc _ _)
  have HW0 := Lib.hid hW0
  clear hW0
  by_cases hbig : 300 < len
  · have hb0 : decide ((300 : Int) < (len : Int)) = true := by simp; omega
    go_enter Try.func3, Try.ntmps3
    go_wp2_with fail
    rw [HW0.out]
    refine (works_any _).mono ?_
    rintro e w2 ⟨rfl, hu⟩
    have HS2 := Lib.hid (HS0.out.upd0 hu)
    clear hu
    go_wp2
    go_ret
    exact ⟨rfl, HS2.out.below⟩
  · have hb0 : decide ((300 : Int) < (len : Int)) = false := by simp; omega
    by_cases hm : May c
    · have HM := Lib.hid hm
      have hbk : 1 ≤ c.backs ∧ c.backs ≤ 4 := hm.2.2.2.1
      have hND := new_yes c hm
      have hPD := PL.pData_yes c hm
      clear hm
      generalize hdata : c.blocks - c.cores * c.logs = data at hND hPD
      have HN := Lib.hid hND; have HPD := Lib.hid hPD
      clear hND hPD hdata
      go_enter Try.func3, Try.ntmps3
      go_wp2_with fail
      rw [HW0.out]
      refine (HN.out W0).mono ?_
      rintro e w2 ⟨kb, rfl, hu, hb⟩
      have HS2 := Lib.hid (HS0.out.push hu hb)
      clear hu hb
      obtain ⟨cb, hcb⟩ : ∃ cb, w.heap.size = cb := ⟨_, rfl⟩
      rw [hcb] at HS2 ⊢
      go_wp2_with fail
      go_loopw [29] (fun i wr => ∃ (k : Nat) (zs : List Bk), k ≤ len ∧ i = .int .i64 k ∧ Hid ((zs.length : Int) ≤ c.backs ∧ (∀ z ∈ zs, 0 ≤ z.blk ∧ z.blk < data) ∧ Sep NoF w wr [Bo kb data zs c.backs, boxO cb (CC c) 23])) (fun i _ => len - (intOf i).toNat)
      case atStart => exact ⟨0, [], Nat.zero_le _, rfl, by simp; omega, (fun z hz => by cases hz), HS2.out⟩
      case round =>
        obtain ⟨k, zs, hk, rfl, HI⟩ := hrel
        by_cases hlt : k < len
        · obtain ⟨x1, rfl, g1⟩ := C1.out k hlt
          have g2 := HI.out.2.2.old g1
          generalize Z k = bl at *
          clear g1
          have hzl := HI.out.1
          have HZL := Lib.hid hzl
          have HZB := Lib.hid HI.out.2.1
          have HS := Lib.hid HI.out.2.2
          have hlen0 : (0 : Int) ≤ (zs.length : Int) := by omega
          clear HI
          by_cases h2 : c.backs ≤ (zs.length : Int)
          · have hrm : decide ((zs.length : Int) < c.backs) = false := by simp; omega
            rcases firstAt_or (fun z : Bk => z.blk == bl) zs with ⟨hf, hno⟩ | ⟨i, z, hf, hi, hg, _⟩
            · have HF := Lib.hid hf
              clear hf hno
              by_cases h0 : bl < 0
              · have hneg : bl < 0 := by omega
                have hg1 : decide (0 ≤ bl) = false := by simp; omega
                go_wp2_with fail
                refine (HS.out.reads (E := fun e => e = _) 0 rfl (fun F hF => find_no wr F kb data zs c.backs bl hF HF.out)).mono ?_
                rintro e wa ⟨rfl, hs⟩
                have s9 := TBlk.st_new TBlk.isZ wa
                have HSa := Lib.hid (hs.upd0 (Upd.alloc NoF wa (.cells TBlk.Z 32)))
                clear hs
                go_wp2_with fail
                obtain ⟨FR, hFR⟩ := HSa.out.has 0 rfl
                refine (room_any _ FR kb data zs c.backs hFR (by omega) (by omega) HZL.out).mono ?_
                rintro e wb ⟨rfl, hu⟩
                have HSb := Lib.hid (HSa.out.upd0 hu)
                clear hu hFR
                go_wp2_with fail
                refine (HSb.out.reads (E := fun e => e = _) 0 rfl (fun F hF => put_arg _ F kb data zs c.backs bl TBlk.Z hF (.inl hneg))).mono ?_
                rintro e wc ⟨rfl, hs⟩
                have HSc := Lib.hid hs
                clear hs
                obtain ⟨f0, f1, f2, f3, f4, f5, f6, f7⟩ := cfg_cells (HSc.out.box 1 rfl)
                clear f0 f1 f2 f3 f4 f6 f7
                clear f5
                have f5 : wc.cell? ⟨cb, 5, none⟩ = some (.int .i64 c.backs) := (HSc.out.box 1 rfl).cell 5
                have hsum : IntKind.i64.wrap (((zs).length : Int) + (c.backs - ((zs).length : Int))) = c.backs := by rw [show ((zs).length : Int) + (c.backs - ((zs).length : Int)) = c.backs from by omega]; exact IntWalk.i64_in _ (by omega)
                obtain ⟨nz, hnz⟩ : ∃ nz : Int, ((zs).length : Int) = nz := ⟨_, rfl⟩
                have hzn : nz ≤ c.backs := by have := hzl; omega
                have hov : decide (c.backs < nz) = false := by simp; omega
                rw [hnz] at hsum
                have HLN := Lib.hid (fun (X : World) (hx : Upd NoF wc X) => (HSc.out.upd0 hx).looks (E := fun e => e = Ending.returned (.int .i64 nz)) 0 rfl (fun F hF => by have := len_any X F kb data (zs) c.backs hF; rw [hnz] at this; exact this))
                have HRM := Lib.hid (fun (X : World) (hx : Upd NoF wc X) => show Calls Try.prog 11 #[ptr kb] X fun e w' => e = .returned (.int .i64 (c.backs - nz)) ∧ ∃ m, w' = X.drewN m from by obtain ⟨F, hF⟩ := (HSc.out.upd0 hx).has 0 rfl; have := room_q X F kb data (zs) c.backs hF (by omega) (by omega) (by omega); rw [hnz] at this; exact this)
                have HHZ := Lib.hid (show (((zs).length : Nat) : Int) ≤ c.backs by omega)
                clear hnz
                go_wp2_with fail
                go_quiet (first | (go_at_call 14; exact Calls.quiet_of_same ((HLN.out _ (Upd.drewN NoF wc _)).mono (fun _ _ h => ⟨h.1, h.2.symm⟩))) | (go_at_call 11; exact Calls.quiet_of (HRM.out _ (Upd.drewN NoF wc _))))
                go_wp2_with fail
                exact ⟨⟨k + 1, zs, by omega, by go_num, HHZ.out, HZB.out, HSc.out.upd0 (Upd.drewN NoF _ _)⟩, by simp [intOf]; omega⟩
              · by_cases h1 : data ≤ bl
                · have hg1 : decide (0 ≤ bl) = true := by simp; omega
                  have hg2 : decide (bl < data) = false := by simp; omega
                  have hbig2 : data ≤ bl := by omega
                  go_wp2_with fail
                  refine (HS.out.reads (E := fun e => e = _) 0 rfl (fun F hF => find_no wr F kb data zs c.backs bl hF HF.out)).mono ?_
                  rintro e wa ⟨rfl, hs⟩
                  have s9 := TBlk.st_new TBlk.isZ wa
                  have HSa := Lib.hid (hs.upd0 (Upd.alloc NoF wa (.cells TBlk.Z 32)))
                  clear hs
                  go_wp2_with fail
                  obtain ⟨FR, hFR⟩ := HSa.out.has 0 rfl
                  refine (room_any _ FR kb data zs c.backs hFR (by omega) (by omega) HZL.out).mono ?_
                  rintro e wb ⟨rfl, hu⟩
                  have HSb := Lib.hid (HSa.out.upd0 hu)
                  clear hu hFR
                  go_wp2_with fail
                  refine (HSb.out.reads (E := fun e => e = _) 0 rfl (fun F hF => put_arg _ F kb data zs c.backs bl TBlk.Z hF (.inr hbig2))).mono ?_
                  rintro e wc ⟨rfl, hs⟩
                  have HSc := Lib.hid hs
                  clear hs
                  obtain ⟨f0, f1, f2, f3, f4, f5, f6, f7⟩ := cfg_cells (HSc.out.box 1 rfl)
                  go_wp2_with fail
                  refine (HPD.out _).mono ?_
                  rintro e wd ⟨rfl, hu⟩
                  have HSd := Lib.hid (HSc.out.upd0 hu)
                  clear hu f0 f1 f2 f3 f4 f5 f6 f7
                  have f5 : wd.cell? ⟨cb, 5, none⟩ = some (.int .i64 c.backs) := (HSd.out.box 1 rfl).cell 5
                  have hsum : IntKind.i64.wrap (((zs).length : Int) + (c.backs - ((zs).length : Int))) = c.backs := by rw [show ((zs).length : Int) + (c.backs - ((zs).length : Int)) = c.backs from by omega]; exact IntWalk.i64_in _ (by omega)
                  obtain ⟨nz, hnz⟩ : ∃ nz : Int, ((zs).length : Int) = nz := ⟨_, rfl⟩
                  have hzn : nz ≤ c.backs := by have := hzl; omega
                  have hov : decide (c.backs < nz) = false := by simp; omega
                  rw [hnz] at hsum
                  have HLN := Lib.hid (fun (X : World) (hx : Upd NoF wd X) => (HSd.out.upd0 hx).looks (E := fun e => e = Ending.returned (.int .i64 nz)) 0 rfl (fun F hF => by have := len_any X F kb data (zs) c.backs hF; rw [hnz] at this; exact this))
                  have HRM := Lib.hid (fun (X : World) (hx : Upd NoF wd X) => show Calls Try.prog 11 #[ptr kb] X fun e w' => e = .returned (.int .i64 (c.backs - nz)) ∧ ∃ m, w' = X.drewN m from by obtain ⟨F, hF⟩ := (HSd.out.upd0 hx).has 0 rfl; have := room_q X F kb data (zs) c.backs hF (by omega) (by omega) (by omega); rw [hnz] at this; exact this)
                  have HHZ := Lib.hid (show (((zs).length : Nat) : Int) ≤ c.backs by omega)
                  clear hnz
                  go_wp2_with fail
                  go_quiet (first | (go_at_call 14; exact Calls.quiet_of_same ((HLN.out _ (Upd.drewN NoF wd _)).mono (fun _ _ h => ⟨h.1, h.2.symm⟩))) | (go_at_call 11; exact Calls.quiet_of (HRM.out _ (Upd.drewN NoF wd _))))
                  go_wp2_with fail
                  exact ⟨⟨k + 1, zs, by omega, by go_num, HHZ.out, HZB.out, HSd.out.upd0 (Upd.drewN NoF _ _)⟩, by simp [intOf]; omega⟩
                · have hg1 : decide (0 ≤ bl) = true := by simp; omega
                  have hg2 : decide (bl < data) = true := by simp; omega
                  have hfull : c.backs ≤ (zs.length : Int) := by omega
                  go_wp2_with fail
                  refine (HS.out.reads (E := fun e => e = _) 0 rfl (fun F hF => find_no wr F kb data zs c.backs bl hF HF.out)).mono ?_
                  rintro e wa ⟨rfl, hs⟩
                  have s9 := TBlk.st_new TBlk.isZ wa
                  have HSa := Lib.hid (hs.upd0 (Upd.alloc NoF wa (.cells TBlk.Z 32)))
                  clear hs
                  go_wp2_with fail
                  obtain ⟨FR, hFR⟩ := HSa.out.has 0 rfl
                  refine (room_any _ FR kb data zs c.backs hFR (by omega) (by omega) HZL.out).mono ?_
                  rintro e wb ⟨rfl, hu⟩
                  have HSb := Lib.hid (HSa.out.upd0 hu)
                  clear hu hFR
                  go_wp2_with fail
                  refine (HSb.out.reads (E := fun e => e = _) 0 rfl (fun F hF => put_full _ F kb data zs c.backs bl TBlk.Z TBlk.isZ hF (by omega) (by omega) HF.out hfull)).mono ?_
                  rintro e wc ⟨rfl, hs⟩
                  have HSc := Lib.hid hs
                  clear hs
                  obtain ⟨f0, f1, f2, f3, f4, f5, f6, f7⟩ := cfg_cells (HSc.out.box 1 rfl)
                  go_wp2_with fail
                  refine (HPD.out _).mono ?_
                  rintro e wd ⟨rfl, hu⟩
                  have HSd := Lib.hid (HSc.out.upd0 hu)
                  clear hu f0 f1 f2 f3 f4 f5 f6 f7
                  have f5 : wd.cell? ⟨cb, 5, none⟩ = some (.int .i64 c.backs) := (HSd.out.box 1 rfl).cell 5
                  have hsum : IntKind.i64.wrap (((zs).length : Int) + (c.backs - ((zs).length : Int))) = c.backs := by rw [show ((zs).length : Int) + (c.backs - ((zs).length : Int)) = c.backs from by omega]; exact IntWalk.i64_in _ (by omega)
                  obtain ⟨nz, hnz⟩ : ∃ nz : Int, ((zs).length : Int) = nz := ⟨_, rfl⟩
                  have hzn : nz ≤ c.backs := by have := hzl; omega
                  have hov : decide (c.backs < nz) = false := by simp; omega
                  rw [hnz] at hsum
                  have HLN := Lib.hid (fun (X : World) (hx : Upd NoF wd X) => (HSd.out.upd0 hx).looks (E := fun e => e = Ending.returned (.int .i64 nz)) 0 rfl (fun F hF => by have := len_any X F kb data (zs) c.backs hF; rw [hnz] at this; exact this))
                  have HRM := Lib.hid (fun (X : World) (hx : Upd NoF wd X) => show Calls Try.prog 11 #[ptr kb] X fun e w' => e = .returned (.int .i64 (c.backs - nz)) ∧ ∃ m, w' = X.drewN m from by obtain ⟨F, hF⟩ := (HSd.out.upd0 hx).has 0 rfl; have := room_q X F kb data (zs) c.backs hF (by omega) (by omega) (by omega); rw [hnz] at this; exact this)
                  have HHZ := Lib.hid (show (((zs).length : Nat) : Int) ≤ c.backs by omega)
                  clear hnz
                  go_wp2_with fail
                  go_quiet (first | (go_at_call 14; exact Calls.quiet_of_same ((HLN.out _ (Upd.drewN NoF wd _)).mono (fun _ _ h => ⟨h.1, h.2.symm⟩))) | (go_at_call 11; exact Calls.quiet_of (HRM.out _ (Upd.drewN NoF wd _))))
                  go_wp2_with fail
                  exact ⟨⟨k + 1, zs, by omega, by go_num, HHZ.out, HZB.out, HSd.out.upd0 (Upd.drewN NoF _ _)⟩, by simp [intOf]; omega⟩
            · have hbz := HZB.out z (List.mem_of_getElem? hi)
              have hbe : z.blk = bl := by simpa using hg
              rw [hbe] at hbz
              have HF := Lib.hid hf; have HI2 := Lib.hid hi
              have HD := Lib.hid (show IsN 16 z.D from by obtain ⟨F, hF⟩ := HS.out.has 0 rfl; exact (open_bo hF).choose_spec.choose_spec.1 z (List.mem_of_getElem? hi))
              clear hf hi hg hbe
              have hg1 : decide (0 ≤ bl) = true := by simp; omega
              have hg2 : decide (bl < data) = true := by simp; omega
              go_wp2_with fail
              refine (HS.out.reads (E := fun e => e = _) 0 rfl (fun F hF => find_yes wr F kb data zs c.backs bl i z hF HF.out HI2.out)).mono ?_
              rintro e wa ⟨rfl, hs⟩
              have s9 := TBlk.st_new HD.out wa
              have HSa := Lib.hid (hs.upd0 (Upd.alloc NoF wa (.cells z.D 32)))
              clear hs
              go_wp2_with fail
              obtain ⟨FR, hFR⟩ := HSa.out.has 0 rfl
              refine (room_any _ FR kb data zs c.backs hFR (by omega) (by omega) HZL.out).mono ?_
              rintro e wb ⟨rfl, hu⟩
              have HSb := Lib.hid (HSa.out.upd0 hu)
              clear hu hFR
              go_wp2_with fail
              refine (HSb.out.reads (E := fun e => e = _) 0 rfl (fun F hF => put_state _ F kb data zs c.backs bl i TBlk.Z hF hbz.1 hbz.2 HF.out)).mono ?_
              rintro e wc ⟨rfl, hs⟩
              have HSc := Lib.hid hs
              clear hs
              obtain ⟨f0, f1, f2, f3, f4, f5, f6, f7⟩ := cfg_cells (HSc.out.box 1 rfl)
              go_wp2_with fail
              refine (HPD.out _).mono ?_
              rintro e wd ⟨rfl, hu⟩
              have HSd := Lib.hid (HSc.out.upd0 hu)
              clear hu f0 f1 f2 f3 f4 f5 f6 f7
              have f5 : wd.cell? ⟨cb, 5, none⟩ = some (.int .i64 c.backs) := (HSd.out.box 1 rfl).cell 5
              have hsum : IntKind.i64.wrap (((zs).length : Int) + (c.backs - ((zs).length : Int))) = c.backs := by rw [show ((zs).length : Int) + (c.backs - ((zs).length : Int)) = c.backs from by omega]; exact IntWalk.i64_in _ (by omega)
              obtain ⟨nz, hnz⟩ : ∃ nz : Int, ((zs).length : Int) = nz := ⟨_, rfl⟩
              have hzn : nz ≤ c.backs := by have := hzl; omega
              have hov : decide (c.backs < nz) = false := by simp; omega
              rw [hnz] at hsum
              have HLN := Lib.hid (fun (X : World) (hx : Upd NoF wd X) => (HSd.out.upd0 hx).looks (E := fun e => e = Ending.returned (.int .i64 nz)) 0 rfl (fun F hF => by have := len_any X F kb data (zs) c.backs hF; rw [hnz] at this; exact this))
              have HRM := Lib.hid (fun (X : World) (hx : Upd NoF wd X) => show Calls Try.prog 11 #[ptr kb] X fun e w' => e = .returned (.int .i64 (c.backs - nz)) ∧ ∃ m, w' = X.drewN m from by obtain ⟨F, hF⟩ := (HSd.out.upd0 hx).has 0 rfl; have := room_q X F kb data (zs) c.backs hF (by omega) (by omega) (by omega); rw [hnz] at this; exact this)
              have HHZ := Lib.hid (show (((zs).length : Nat) : Int) ≤ c.backs by omega)
              clear hnz
              go_wp2_with fail
              go_quiet (first | (go_at_call 14; exact Calls.quiet_of_same ((HLN.out _ (Upd.drewN NoF wd _)).mono (fun _ _ h => ⟨h.1, h.2.symm⟩))) | (go_at_call 11; exact Calls.quiet_of (HRM.out _ (Upd.drewN NoF wd _))))
              go_wp2_with fail
              exact ⟨⟨k + 1, zs, by omega, by go_num, HHZ.out, HZB.out, HSd.out.upd0 (Upd.drewN NoF _ _)⟩, by simp [intOf]; omega⟩
          · have hrm : decide ((zs.length : Int) < c.backs) = true := by simp; omega
            rcases firstAt_or (fun z : Bk => z.blk == bl) zs with ⟨hf, hno⟩ | ⟨i, z, hf, hi, hg, _⟩
            · have HF := Lib.hid hf
              clear hf hno
              by_cases h0 : bl < 0
              · have hneg : bl < 0 := by omega
                have hg1 : decide (0 ≤ bl) = false := by simp; omega
                go_wp2_with fail
                refine (HS.out.reads (E := fun e => e = _) 0 rfl (fun F hF => find_no wr F kb data zs c.backs bl hF HF.out)).mono ?_
                rintro e wa ⟨rfl, hs⟩
                have s9 := TBlk.st_new TBlk.isZ wa
                have HSa := Lib.hid (hs.upd0 (Upd.alloc NoF wa (.cells TBlk.Z 32)))
                clear hs
                go_wp2_with fail
                obtain ⟨FR, hFR⟩ := HSa.out.has 0 rfl
                refine (room_any _ FR kb data zs c.backs hFR (by omega) (by omega) HZL.out).mono ?_
                rintro e wb ⟨rfl, hu⟩
                have HSb := Lib.hid (HSa.out.upd0 hu)
                clear hu hFR
                go_wp2_with fail
                refine (HSb.out.reads (E := fun e => e = _) 0 rfl (fun F hF => put_arg _ F kb data zs c.backs bl TBlk.Z hF (.inl hneg))).mono ?_
                rintro e wc ⟨rfl, hs⟩
                have HSc := Lib.hid hs
                clear hs
                obtain ⟨f0, f1, f2, f3, f4, f5, f6, f7⟩ := cfg_cells (HSc.out.box 1 rfl)
                clear f0 f1 f2 f3 f4 f6 f7
                clear f5
                have f5 : wc.cell? ⟨cb, 5, none⟩ = some (.int .i64 c.backs) := (HSc.out.box 1 rfl).cell 5
                have hsum : IntKind.i64.wrap (((zs).length : Int) + (c.backs - ((zs).length : Int))) = c.backs := by rw [show ((zs).length : Int) + (c.backs - ((zs).length : Int)) = c.backs from by omega]; exact IntWalk.i64_in _ (by omega)
                obtain ⟨nz, hnz⟩ : ∃ nz : Int, ((zs).length : Int) = nz := ⟨_, rfl⟩
                have hzn : nz ≤ c.backs := by have := hzl; omega
                have hov : decide (c.backs < nz) = false := by simp; omega
                rw [hnz] at hsum
                have HLN := Lib.hid (fun (X : World) (hx : Upd NoF wc X) => (HSc.out.upd0 hx).looks (E := fun e => e = Ending.returned (.int .i64 nz)) 0 rfl (fun F hF => by have := len_any X F kb data (zs) c.backs hF; rw [hnz] at this; exact this))
                have HRM := Lib.hid (fun (X : World) (hx : Upd NoF wc X) => show Calls Try.prog 11 #[ptr kb] X fun e w' => e = .returned (.int .i64 (c.backs - nz)) ∧ ∃ m, w' = X.drewN m from by obtain ⟨F, hF⟩ := (HSc.out.upd0 hx).has 0 rfl; have := room_q X F kb data (zs) c.backs hF (by omega) (by omega) (by omega); rw [hnz] at this; exact this)
                have HHZ := Lib.hid (show (((zs).length : Nat) : Int) ≤ c.backs by omega)
                clear hnz
                go_wp2_with fail
                go_quiet (first | (go_at_call 14; exact Calls.quiet_of_same ((HLN.out _ (Upd.drewN NoF wc _)).mono (fun _ _ h => ⟨h.1, h.2.symm⟩))) | (go_at_call 11; exact Calls.quiet_of (HRM.out _ (Upd.drewN NoF wc _))))
                go_wp2_with fail
                exact ⟨⟨k + 1, zs, by omega, by go_num, HHZ.out, HZB.out, HSc.out.upd0 (Upd.drewN NoF _ _)⟩, by simp [intOf]; omega⟩
              · by_cases h1 : data ≤ bl
                · have hg1 : decide (0 ≤ bl) = true := by simp; omega
                  have hg2 : decide (bl < data) = false := by simp; omega
                  have hbig2 : data ≤ bl := by omega
                  go_wp2_with fail
                  refine (HS.out.reads (E := fun e => e = _) 0 rfl (fun F hF => find_no wr F kb data zs c.backs bl hF HF.out)).mono ?_
                  rintro e wa ⟨rfl, hs⟩
                  have s9 := TBlk.st_new TBlk.isZ wa
                  have HSa := Lib.hid (hs.upd0 (Upd.alloc NoF wa (.cells TBlk.Z 32)))
                  clear hs
                  go_wp2_with fail
                  obtain ⟨FR, hFR⟩ := HSa.out.has 0 rfl
                  refine (room_any _ FR kb data zs c.backs hFR (by omega) (by omega) HZL.out).mono ?_
                  rintro e wb ⟨rfl, hu⟩
                  have HSb := Lib.hid (HSa.out.upd0 hu)
                  clear hu hFR
                  go_wp2_with fail
                  refine (HSb.out.reads (E := fun e => e = _) 0 rfl (fun F hF => put_arg _ F kb data zs c.backs bl TBlk.Z hF (.inr hbig2))).mono ?_
                  rintro e wc ⟨rfl, hs⟩
                  have HSc := Lib.hid hs
                  clear hs
                  obtain ⟨f0, f1, f2, f3, f4, f5, f6, f7⟩ := cfg_cells (HSc.out.box 1 rfl)
                  go_wp2_with fail
                  refine (HPD.out _).mono ?_
                  rintro e wd ⟨rfl, hu⟩
                  have HSd := Lib.hid (HSc.out.upd0 hu)
                  clear hu f0 f1 f2 f3 f4 f5 f6 f7
                  have f5 : wd.cell? ⟨cb, 5, none⟩ = some (.int .i64 c.backs) := (HSd.out.box 1 rfl).cell 5
                  have hsum : IntKind.i64.wrap (((zs).length : Int) + (c.backs - ((zs).length : Int))) = c.backs := by rw [show ((zs).length : Int) + (c.backs - ((zs).length : Int)) = c.backs from by omega]; exact IntWalk.i64_in _ (by omega)
                  obtain ⟨nz, hnz⟩ : ∃ nz : Int, ((zs).length : Int) = nz := ⟨_, rfl⟩
                  have hzn : nz ≤ c.backs := by have := hzl; omega
                  have hov : decide (c.backs < nz) = false := by simp; omega
                  rw [hnz] at hsum
                  have HLN := Lib.hid (fun (X : World) (hx : Upd NoF wd X) => (HSd.out.upd0 hx).looks (E := fun e => e = Ending.returned (.int .i64 nz)) 0 rfl (fun F hF => by have := len_any X F kb data (zs) c.backs hF; rw [hnz] at this; exact this))
                  have HRM := Lib.hid (fun (X : World) (hx : Upd NoF wd X) => show Calls Try.prog 11 #[ptr kb] X fun e w' => e = .returned (.int .i64 (c.backs - nz)) ∧ ∃ m, w' = X.drewN m from by obtain ⟨F, hF⟩ := (HSd.out.upd0 hx).has 0 rfl; have := room_q X F kb data (zs) c.backs hF (by omega) (by omega) (by omega); rw [hnz] at this; exact this)
                  have HHZ := Lib.hid (show (((zs).length : Nat) : Int) ≤ c.backs by omega)
                  clear hnz
                  go_wp2_with fail
                  go_quiet (first | (go_at_call 14; exact Calls.quiet_of_same ((HLN.out _ (Upd.drewN NoF wd _)).mono (fun _ _ h => ⟨h.1, h.2.symm⟩))) | (go_at_call 11; exact Calls.quiet_of (HRM.out _ (Upd.drewN NoF wd _))))
                  go_wp2_with fail
                  exact ⟨⟨k + 1, zs, by omega, by go_num, HHZ.out, HZB.out, HSd.out.upd0 (Upd.drewN NoF _ _)⟩, by simp [intOf]; omega⟩
                · have hg1 : decide (0 ≤ bl) = true := by simp; omega
                  have hg2 : decide (bl < data) = true := by simp; omega
                  go_wp2_with fail
                  refine (HS.out.reads (E := fun e => e = _) 0 rfl (fun F hF => find_no wr F kb data zs c.backs bl hF HF.out)).mono ?_
                  rintro e wa ⟨rfl, hs⟩
                  have s9 := TBlk.st_new TBlk.isZ wa
                  have HSa := Lib.hid (hs.upd0 (Upd.alloc NoF wa (.cells TBlk.Z 32)))
                  clear hs
                  go_wp2_with fail
                  obtain ⟨FR, hFR⟩ := HSa.out.has 0 rfl
                  refine (room_any _ FR kb data zs c.backs hFR (by omega) (by omega) HZL.out).mono ?_
                  rintro e wb ⟨rfl, hu⟩
                  have HSb := Lib.hid (HSa.out.upd0 hu)
                  clear hu hFR
                  go_wp2_with fail
                  refine (HSb.out.call (Φ' := Bo kb data (zs ++ [⟨bl, TBlk.Z, true⟩]) c.backs) (E := fun e => e = _) 0 rfl (fun F hF => put_ok _ F kb data zs c.backs bl TBlk.Z TBlk.isZ hF (by omega) (by omega) HF.out (by omega) (by omega))).mono ?_
                  rintro e wc ⟨rfl, hs⟩
                  have HSc : Hid (Sep NoF w wc [Bo kb data (zs ++ [⟨bl, TBlk.Z, true⟩]) c.backs, boxO cb (CC c) 23]) := Lib.hid hs
                  clear hs
                  have hzl2 : ((zs ++ [(⟨bl, TBlk.Z, true⟩ : Bk)]).length : Int) ≤ c.backs := by rw [List.length_append]; simp only [List.length_cons, List.length_nil]; omega
                  obtain ⟨f0, f1, f2, f3, f4, f5, f6, f7⟩ := cfg_cells (HSc.out.box 1 rfl)
                  go_wp2_with fail
                  refine (HPD.out _).mono ?_
                  rintro e wd ⟨rfl, hu⟩
                  have HSd := Lib.hid (HSc.out.upd0 hu)
                  clear hu f0 f1 f2 f3 f4 f5 f6 f7
                  have f5 : wd.cell? ⟨cb, 5, none⟩ = some (.int .i64 c.backs) := (HSd.out.box 1 rfl).cell 5
                  have hsum : IntKind.i64.wrap ((((zs ++ [(⟨bl, TBlk.Z, true⟩ : Bk)])).length : Int) + (c.backs - (((zs ++ [(⟨bl, TBlk.Z, true⟩ : Bk)])).length : Int))) = c.backs := by rw [show (((zs ++ [(⟨bl, TBlk.Z, true⟩ : Bk)])).length : Int) + (c.backs - (((zs ++ [(⟨bl, TBlk.Z, true⟩ : Bk)])).length : Int)) = c.backs from by omega]; exact IntWalk.i64_in _ (by omega)
                  obtain ⟨nz, hnz⟩ : ∃ nz : Int, (((zs ++ [(⟨bl, TBlk.Z, true⟩ : Bk)])).length : Int) = nz := ⟨_, rfl⟩
                  have hzn : nz ≤ c.backs := by have := hzl2; omega
                  have hov : decide (c.backs < nz) = false := by simp; omega
                  rw [hnz] at hsum
                  have HLN := Lib.hid (fun (X : World) (hx : Upd NoF wd X) => (HSd.out.upd0 hx).looks (E := fun e => e = Ending.returned (.int .i64 nz)) 0 rfl (fun F hF => by have := len_any X F kb data ((zs ++ [(⟨bl, TBlk.Z, true⟩ : Bk)])) c.backs hF; rw [hnz] at this; exact this))
                  have HRM := Lib.hid (fun (X : World) (hx : Upd NoF wd X) => show Calls Try.prog 11 #[ptr kb] X fun e w' => e = .returned (.int .i64 (c.backs - nz)) ∧ ∃ m, w' = X.drewN m from by obtain ⟨F, hF⟩ := (HSd.out.upd0 hx).has 0 rfl; have := room_q X F kb data ((zs ++ [(⟨bl, TBlk.Z, true⟩ : Bk)])) c.backs hF (by omega) (by omega) (by omega); rw [hnz] at this; exact this)
                  have HHZ := Lib.hid (show ((((zs ++ [(⟨bl, TBlk.Z, true⟩ : Bk)])).length : Nat) : Int) ≤ c.backs by omega)
                  clear hnz
                  go_wp2_with fail
                  go_quiet (first | (go_at_call 14; exact Calls.quiet_of_same ((HLN.out _ (Upd.drewN NoF wd _)).mono (fun _ _ h => ⟨h.1, h.2.symm⟩))) | (go_at_call 11; exact Calls.quiet_of (HRM.out _ (Upd.drewN NoF wd _))))
                  go_wp2_with fail
                  exact ⟨⟨k + 1, (zs ++ [(⟨bl, TBlk.Z, true⟩ : Bk)]), by omega, by go_num, HHZ.out, (fun y hy => by rcases List.mem_append.1 hy with hy | hy; exact HZB.out y hy; simp at hy; subst hy; exact ⟨by show 0 ≤ bl; omega, by show bl < data; omega⟩), HSd.out.upd0 (Upd.drewN NoF _ _)⟩, by simp [intOf]; omega⟩
            · have hbz := HZB.out z (List.mem_of_getElem? hi)
              have hbe : z.blk = bl := by simpa using hg
              rw [hbe] at hbz
              have HF := Lib.hid hf; have HI2 := Lib.hid hi
              have HD := Lib.hid (show IsN 16 z.D from by obtain ⟨F, hF⟩ := HS.out.has 0 rfl; exact (open_bo hF).choose_spec.choose_spec.1 z (List.mem_of_getElem? hi))
              clear hf hi hg hbe
              have hg1 : decide (0 ≤ bl) = true := by simp; omega
              have hg2 : decide (bl < data) = true := by simp; omega
              go_wp2_with fail
              refine (HS.out.reads (E := fun e => e = _) 0 rfl (fun F hF => find_yes wr F kb data zs c.backs bl i z hF HF.out HI2.out)).mono ?_
              rintro e wa ⟨rfl, hs⟩
              have s9 := TBlk.st_new HD.out wa
              have HSa := Lib.hid (hs.upd0 (Upd.alloc NoF wa (.cells z.D 32)))
              clear hs
              go_wp2_with fail
              obtain ⟨FR, hFR⟩ := HSa.out.has 0 rfl
              refine (room_any _ FR kb data zs c.backs hFR (by omega) (by omega) HZL.out).mono ?_
              rintro e wb ⟨rfl, hu⟩
              have HSb := Lib.hid (HSa.out.upd0 hu)
              clear hu hFR
              go_wp2_with fail
              refine (HSb.out.reads (E := fun e => e = _) 0 rfl (fun F hF => put_state _ F kb data zs c.backs bl i TBlk.Z hF hbz.1 hbz.2 HF.out)).mono ?_
              rintro e wc ⟨rfl, hs⟩
              have HSc := Lib.hid hs
              clear hs
              obtain ⟨f0, f1, f2, f3, f4, f5, f6, f7⟩ := cfg_cells (HSc.out.box 1 rfl)
              go_wp2_with fail
              refine (HPD.out _).mono ?_
              rintro e wd ⟨rfl, hu⟩
              have HSd := Lib.hid (HSc.out.upd0 hu)
              clear hu f0 f1 f2 f3 f4 f5 f6 f7
              have f5 : wd.cell? ⟨cb, 5, none⟩ = some (.int .i64 c.backs) := (HSd.out.box 1 rfl).cell 5
              have hsum : IntKind.i64.wrap (((zs).length : Int) + (c.backs - ((zs).length : Int))) = c.backs := by rw [show ((zs).length : Int) + (c.backs - ((zs).length : Int)) = c.backs from by omega]; exact IntWalk.i64_in _ (by omega)
              obtain ⟨nz, hnz⟩ : ∃ nz : Int, ((zs).length : Int) = nz := ⟨_, rfl⟩
              have hzn : nz ≤ c.backs := by have := hzl; omega
              have hov : decide (c.backs < nz) = false := by simp; omega
              rw [hnz] at hsum
              have HLN := Lib.hid (fun (X : World) (hx : Upd NoF wd X) => (HSd.out.upd0 hx).looks (E := fun e => e = Ending.returned (.int .i64 nz)) 0 rfl (fun F hF => by have := len_any X F kb data (zs) c.backs hF; rw [hnz] at this; exact this))
              have HRM := Lib.hid (fun (X : World) (hx : Upd NoF wd X) => show Calls Try.prog 11 #[ptr kb] X fun e w' => e = .returned (.int .i64 (c.backs - nz)) ∧ ∃ m, w' = X.drewN m from by obtain ⟨F, hF⟩ := (HSd.out.upd0 hx).has 0 rfl; have := room_q X F kb data (zs) c.backs hF (by omega) (by omega) (by omega); rw [hnz] at this; exact this)
              have HHZ := Lib.hid (show (((zs).length : Nat) : Int) ≤ c.backs by omega)
              clear hnz
              go_wp2_with fail
              go_quiet (first | (go_at_call 14; exact Calls.quiet_of_same ((HLN.out _ (Upd.drewN NoF wd _)).mono (fun _ _ h => ⟨h.1, h.2.symm⟩))) | (go_at_call 11; exact Calls.quiet_of (HRM.out _ (Upd.drewN NoF wd _))))
              go_wp2_with fail
              exact ⟨⟨k + 1, zs, by omega, by go_num, HHZ.out, HZB.out, HSd.out.upd0 (Upd.drewN NoF _ _)⟩, by simp [intOf]; omega⟩
        · obtain rfl : len = k := by omega
          have HS := Lib.hid HI.out.2.2
          clear HI
          go_wp2_with fail
          refine (works_any _).mono ?_
          rintro e w9 ⟨rfl, hu⟩
          have HS9 := Lib.hid (HS.out.upd0 hu)
          clear hu
          go_wp2
          go_ret
          exact ⟨rfl, HS9.out.below⟩
    · have HN := Lib.hid (new_no c hm)
      clear hm
      go_enter Try.func3, Try.ntmps3
      go_wp2_with fail
      rw [HW0.out]
      refine (HN.out W0).mono ?_
      rintro e w2 ⟨rfl, hu⟩
      have HS2 := Lib.hid (HS0.out.upd0 hu)
      clear hu
      go_wp2_with fail
      refine (works_any _).mono ?_
      rintro e w9 ⟨rfl, hu⟩
      have HS9 := Lib.hid (HS2.out.upd0 hu)
      clear hu
      go_wp2
      go_ret
      exact ⟨rfl, HS9.out.below⟩
end Go.Proofs.Ytoddipfgkbaeaaa.BK
