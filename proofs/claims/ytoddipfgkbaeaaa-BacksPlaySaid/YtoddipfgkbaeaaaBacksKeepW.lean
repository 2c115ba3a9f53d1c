/- BacksKeep: what the Go function does. -/
import Derived.Test.YtoddipfgkbaeaaaBacksLaws
import Derived.Test.YtoddipfgkbaeaaaBacksCopiesW
import Derived.Deep.CutBlock
set_option linter.unusedSimpArgs false
set_option linter.unusedVariables false
namespace Go.Proofs.Ytoddipfgkbaeaaa.BK
open Go.RowKit
open PL (Cfg CC CV May)
attribute [local go_sem] Oper.semAt_some
attribute [local go_sem ↓] TBlk.ld_eq TBlk.st_eq TBlk.al_eq
attribute [local go_sem] TBlk.al_run

abbrev D3 (x : Int) : Array Value := #[.int .u32 0, .int .u32 0, .int .u32 0, .int .u32 x, .int .u32 0, .int .u32 0, .int .u32 0, .int .u32 0, .int .u32 0, .int .u32 0, .int .u32 0, .int .u32 0, .int .u32 0, .int .u32 0, .int .u32 0, .int .u32 0]
theorem isU_D3 (x : Int) : IsU (D3 x) := ⟨by kernel_rfl, fun u hu => by
  simp only [D3, List.mem_toArray, List.mem_cons, List.not_mem_nil, or_false] at hu
  by_cases h : u = .int .u32 x
  · exact ⟨x, h⟩
  · exact ⟨0, by simpa [h] using hu⟩⟩
theorem s_store {G : Nat → Prop} {w0 W : World} {L : List Obj} (h : Sep G w0 W L) (i : Nat) {b : Nat} {x y : Array Value} {T : TypeId} (hi : L[i]? = some (boxO b x T)) (hx : IsN 16 x) (hy : IsN 16 y) :
    (TBlk.st (.pointer (some ⟨b, 0, none⟩)) (.agg y)).run Try.prog W = .ok () (W.setCells b 0 y.toList) ∧ Sep G w0 (W.setCells b 0 y.toList) (L.set i (boxO b y T)) := by
  obtain ⟨F, h2, h3⟩ := h.step i hi
  obtain ⟨r, q⟩ := TBlk.st_at hx hy h2.1
  exact ⟨r, h3 _ _ ((upd_setCells y.toList 0 W).mono (fun k _ hk => by have e : k = b := hk; subst e; exact h2.2)) ⟨q, .inl h2.2⟩⟩

abbrev blkO (b : Nat) (D : Array Value) : Obj := boxO b D 32
set_option maxRecDepth 100000 in
set_option maxHeartbeats 4000000 in
theorem keep_any (c : Cfg) (a1 : Option Addr) (len1 cap1 : Nat) (V1 : Nat → Nat → Value) (K1 B1 X1 : Nat → Int) (bl : Int) (w : World) (h1 : IsRowF w a1 len1 cap1 3 V1)
    (hV1 : ∀ i, i < len1 → V1 i 0 = .int .i64 (K1 i) ∧ V1 i 1 = .int .i64 (B1 i) ∧ V1 i 2 = .int .u32 (X1 i)) :
    Calls Try.prog 4 #[CV c, .slice a1 len1 cap1, .int .i64 bl] w fun e w' => e = .returned (.bool true) ∧ Below w.heap.size w w' := by
  have HC1 := Lib.hid (script_of h1 hV1)
  obtain ⟨lc1, m1, _⟩ := h1
  clear hV1
  unfold maxLen at m1
  obtain ⟨W0, hW0⟩ : ∃ W0, w.alloc (.cells (CC c) 23) = W0 := ⟨_, rfl⟩
  have HS0 : Hid (Sep NoF w W0 [cfgO w.heap.size c]) := Lib.hid (by rw [← hW0]; exact (Sep.zero NoF w).alloc _ _)
  have HW0 := Lib.hid hW0
  clear hW0
  by_cases g1 : 300 < len1
  · have hb1 : decide ((300 : Int) < (len1 : Int)) = true := by simp; omega
    go_enter Try.func4, Try.ntmps4
    go_wp2_with fail
    rw [HW0.out]
    refine (works_any _).mono ?_
    rintro e w9 ⟨rfl, hu⟩
    have HS9 := Lib.hid (HS0.out.upd0 hu)
    clear hu
    go_wp2
    go_ret
    exact ⟨rfl, HS9.out.below⟩
  · have hb1 : decide ((300 : Int) < (len1 : Int)) = false := by simp; omega
    by_cases hm : May c
    · have hbk : 1 ≤ c.backs ∧ c.backs ≤ 4 := hm.2.2.2.1
      have hND := new_yes c hm
      clear hm
      generalize hdata : c.blocks - c.cores * c.logs = data at hND
      have HN := Lib.hid hND
      clear hND hdata
      obtain ⟨room, hroom⟩ : ∃ r, c.backs = r := ⟨_, rfl⟩
      rw [hroom] at hbk HN
      clear hroom
      have hr6 : room ≤ 65536 := by omega
      have HV0 := Lib.hid (Inv.nil data room (by omega))
      go_enter Try.func4, Try.ntmps4
      go_wp2_with fail
      rw [HW0.out]
      refine (HN.out W0).mono ?_
      rintro e w2 ⟨kb, rfl, hu, hb⟩
      have HS2 := Lib.hid ((HS0.out.push hu hb).alloc TBlk.Z 32)
      clear hu hb
      obtain ⟨cb, hcb⟩ : ∃ cb, w.heap.size = cb := ⟨_, rfl⟩
      rw [hcb] at HS2 ⊢
      go_wp2_with fail
      obtain ⟨wb, hwb⟩ : ∃ wb, w2.heap.size = wb := ⟨_, rfl⟩
      rw [hwb] at HS2 ⊢
      clear hwb
      go_loopw [10, 11, 34] (fun tv av i wr => ∃ (k : Nat) (zs : List Bk) (D : Array Value) (al th : Bool), k ≤ len1 ∧ i = .int .i64 k ∧ tv = .bool th ∧ av = .bool al ∧ Hid (Inv data room zs ∧ AllU zs ∧ IsU D ∧ findV zs bl = .tuple #[.agg D, .bool al, .bool th] ∧ Sep NoF w wr [blkO wb D, Bo kb data zs room, cfgO cb c])) (fun _ _ i _ => len1 - (intOf i).toNat)
      case atStart => exact ⟨0, [], TBlk.Z, false, false, Nat.zero_le _, rfl, rfl, rfl, HV0.out, (fun z hz => by cases hz), isU_Z, rfl, HS2.out⟩
      case round =>
        obtain ⟨k, zs, D, al, th, hk, rfl, rfl, rfl, HI⟩ := hrel
        by_cases hlt : k < len1
        · obtain ⟨x, g, q, rfl, hxa, hgl, g0, g1, g2⟩ := HC1.out k hlt
          replace g0 := HI.out.2.2.2.2.old g0
          replace g1 := HI.out.2.2.2.2.old g1
          replace g2 := HI.out.2.2.2.2.old g2
          generalize K1 k = kk at *
          generalize B1 k = bb at *
          generalize X1 k = xx at *
          obtain ⟨w5, hw5⟩ : ∃ W, wr.alloc (.cells #[.int .i64 kk, .int .i64 bb, .int .u32 xx] 41) = W := ⟨_, rfl⟩
          have HS5 : Hid (Sep NoF w w5 [opB wr.heap.size kk bb xx, blkO wb D, Bo kb data zs room, cfgO cb c]) := Lib.hid (by rw [← hw5]; exact HI.out.2.2.2.2.alloc _ _)
          have HV := Lib.hid HI.out.1; have HUU := Lib.hid HI.out.2.1; have HD := Lib.hid HI.out.2.2.1; have HF := Lib.hid HI.out.2.2.2.1
          have HW5 := Lib.hid hw5
          clear hw5 HI
          go_upto_region 11 with fail
          rw [HW5.out]
          clear HW5
          obtain ⟨ob, hob⟩ : ∃ ob, wr.heap.size = ob := ⟨_, rfl⟩
          rw [hob] at HS5 ⊢
          clear hob
          have p2 : w5.cell? ⟨ob, 2, none⟩ = some (.int .u32 xx) := (HS5.out.box 0 rfl).cell 2
          have s14 := TBlk.st_new (isU_D3 xx).isN w5
          have p0a : (w5.alloc (.cells (D3 xx) 32)).cell? ⟨ob, 0, none⟩ = some (.int .i64 kk) := ((HS5.out.box 0 rfl).alloc _).cell 0
          obtain ⟨w6, hw6⟩ : ∃ W, w5.alloc (.cells (D3 xx) 32) = W := ⟨_, rfl⟩
          have HS6 : Hid (Sep NoF w w6 [blkO w5.heap.size (D3 xx), opB ob kk bb xx, blkO wb D, Bo kb data zs room, cfgO cb c]) := Lib.hid (by rw [← hw6]; exact HS5.out.alloc _ _)
          have HW6 := Lib.hid hw6
          clear hw6
          go_upto_block 2 with fail
          rw [HW6.out]
          clear HW6 p2 s14 p0a
          obtain ⟨db, hdb⟩ : ∃ db, w5.heap.size = db := ⟨_, rfl⟩
          rw [hdb] at HS6 ⊢
          clear hdb
          have p0 : w6.cell? ⟨ob, 0, none⟩ = some (.int .i64 kk) := (HS6.out.box 1 rfl).cell 0
          have p1 : w6.cell? ⟨ob, 1, none⟩ = some (.int .i64 bb) := (HS6.out.box 1 rfl).cell 1
          have l14 := TBlk.ld_at (isU_D3 xx).isN (HS6.out.box 0 rfl).whole
          by_cases h0 : kk = 0
          · subst h0
            by_cases hB : bb = bl
            · subst hB
              have hbe : (bb == bb) = true := by simp
              rcases findV_split zs bb with ⟨hf, hfv, _⟩ | ⟨z, hf, hfv, _⟩
              · rw [hfv] at HF
                obtain ⟨hD0, ha0, ht0⟩ : D = TBlk.Z ∧ al = false ∧ th = false := by have := HF.out; simp at this; exact ⟨this.1.symm, by simp [this.2.1], by simp [this.2.2]⟩
                subst hD0 ha0 ht0
                by_cases he : putE data room zs bb = 0
                · have HE := Lib.hid he
                  have hpe := Lib.hid (put_same HV.out bb (isU_D3 xx).isN he)
                  have hput := s_put HS6.out 3 rfl HV.out hr6 bb (D3 xx) (isU_D3 xx).isN
                  rw [he] at hput
                  have HP := Lib.hid hput
                  clear hput he
                  go_wp2_with fail
                  refine HP.out.mono ?_
                  rintro e w7 ⟨rfl, hs⟩
                  have HS7 : Hid (Sep NoF w w7 [blkO db (D3 xx), opB ob 0 bb xx, blkO wb TBlk.Z, Bo kb data (putS data room zs bb (D3 xx)) room, cfgO cb c]) := Lib.hid hs
                  clear hs
                  have p0 : w7.cell? ⟨ob, 0, none⟩ = some (.int .i64 0) := (HS7.out.box 1 rfl).cell 0
                  have p1 : w7.cell? ⟨ob, 1, none⟩ = some (.int .i64 bb) := (HS7.out.box 1 rfl).cell 1
                  have l14b := TBlk.ld_at (isU_D3 xx).isN (HS7.out.box 0 rfl).whole
                  obtain ⟨s9, hs9⟩ := s_store HS7.out 2 rfl HD.out.isN (isU_D3 xx).isN
                  have HS9 : Hid (Sep NoF w _ [blkO db (D3 xx), opB ob 0 bb xx, blkO wb (D3 xx), Bo kb data (putS data room zs bb (D3 xx)) room, cfgO cb c]) := Lib.hid hs9
                  clear hs9
                  have hfv : findV (putS data room zs bb (D3 xx)) bb = .tuple #[.agg (D3 xx), .bool true, .bool true] := hpe.out
                  have hD9 : IsU (D3 xx) := isU_D3 xx
                  have HFV := Lib.hid hfv; have HD9 := Lib.hid hD9
                  clear hfv hD9
                  have q1 := s_find HS9.out 3 rfl bb
                  rw [HFV.out] at q1
                  have HQ1 := Lib.hid q1
                  clear q1
                  go_wp2_with fail
                  refine HQ1.out.mono ?_
                  rintro e wq ⟨rfl, hs⟩
                  have s1 := TBlk.st_new HD9.out.isN wq
                  have hsb := hs.alloc ((D3 xx)) 32
                  have l1 := TBlk.ld_at HD9.out.isN (hsb.box 3 rfl).whole
                  have l2 := TBlk.ld_at HD9.out.isN (hsb.box 0 rfl).whole
                  have hne := neqU HD9.out (wq.alloc (.cells ((D3 xx)) 32))
                  have HSb : Hid (Sep NoF w _ [blkO wb ((D3 xx)), Bo kb data (putS data room zs bb (D3 xx)) room, cfgO cb c]) := Lib.hid (((hsb.drop 0 (Nat.succ_pos _)).drop 0 (Nat.succ_pos _)).drop 0 (Nat.succ_pos _))
                  clear hs hsb
                  go_wp2_with fail
                  exact ⟨⟨k + 1, (putS data room zs bb (D3 xx)), (D3 xx), true, true, by omega, by go_num, rfl, rfl, HV.out.put bb (isU_D3 xx).isN, allU_put HUU.out bb (isU_D3 xx), HD9.out, HFV.out, HSb.out⟩, by simp [intOf]; omega⟩
                · have hput := s_put HS6.out 3 rfl HV.out hr6 bb (D3 xx) (isU_D3 xx).isN
                  rw [put_none he] at hput
                  have heb : (putE data room zs bb == 0) = false := by simpa using he
                  generalize putE data room zs bb = ee at *
                  have HP := Lib.hid hput
                  clear hput he
                  go_wp2_with fail
                  refine HP.out.mono ?_
                  rintro e w7 ⟨rfl, hs⟩
                  have HS7 : Hid (Sep NoF w w7 [blkO db (D3 xx), opB ob 0 bb xx, blkO wb TBlk.Z, Bo kb data zs room, cfgO cb c]) := Lib.hid hs
                  clear hs
                  have p0 : w7.cell? ⟨ob, 0, none⟩ = some (.int .i64 0) := (HS7.out.box 1 rfl).cell 0
                  have p1 : w7.cell? ⟨ob, 1, none⟩ = some (.int .i64 bb) := (HS7.out.box 1 rfl).cell 1
                  have hfv : findV zs bb = .tuple #[.agg TBlk.Z, .bool false, .bool false] := hfv
                  have hD9 : IsU TBlk.Z := isU_Z
                  have HFV := Lib.hid hfv; have HD9 := Lib.hid hD9
                  clear hfv hD9
                  have q1 := s_find HS7.out 3 rfl bb
                  rw [HFV.out] at q1
                  have HQ1 := Lib.hid q1
                  clear q1
                  go_wp2_with fail
                  refine HQ1.out.mono ?_
                  rintro e wq ⟨rfl, hs⟩
                  have s1 := TBlk.st_new HD9.out.isN wq
                  have hsb := hs.alloc (TBlk.Z) 32
                  have l1 := TBlk.ld_at HD9.out.isN (hsb.box 3 rfl).whole
                  have l2 := TBlk.ld_at HD9.out.isN (hsb.box 0 rfl).whole
                  have hne := neqU HD9.out (wq.alloc (.cells (TBlk.Z) 32))
                  have HSb : Hid (Sep NoF w _ [blkO wb (TBlk.Z), Bo kb data zs room, cfgO cb c]) := Lib.hid (((hsb.drop 0 (Nat.succ_pos _)).drop 0 (Nat.succ_pos _)).drop 0 (Nat.succ_pos _))
                  clear hs hsb
                  go_wp2_with fail
                  exact ⟨⟨k + 1, zs, TBlk.Z, false, false, by omega, by go_num, rfl, rfl, HV.out, HUU.out, HD9.out, HFV.out, HSb.out⟩, by simp [intOf]; omega⟩
              · rw [hfv] at HF
                obtain ⟨hD0, ha0, ht0⟩ : D = z.D ∧ al = z.live ∧ th = true := by have := HF.out; simp at this; exact ⟨this.1.symm, this.2.1.symm, by simp [this.2.2]⟩
                subst hD0 ha0 ht0
                have he := putE_there HV.out hf
                have hput := s_put HS6.out 3 rfl HV.out hr6 bb (D3 xx) (isU_D3 xx).isN
                rw [put_none (by rw [he]; decide), he] at hput
                have HP := Lib.hid hput
                clear hput he
                go_wp2_with fail
                refine HP.out.mono ?_
                rintro e w7 ⟨rfl, hs⟩
                have HS7 : Hid (Sep NoF w w7 [blkO db (D3 xx), opB ob 0 bb xx, blkO wb z.D, Bo kb data zs room, cfgO cb c]) := Lib.hid hs
                clear hs
                have p0 : w7.cell? ⟨ob, 0, none⟩ = some (.int .i64 0) := (HS7.out.box 1 rfl).cell 0
                have p1 : w7.cell? ⟨ob, 1, none⟩ = some (.int .i64 bb) := (HS7.out.box 1 rfl).cell 1
                have hfv : findV zs bb = .tuple #[.agg z.D, .bool z.live, .bool true] := hfv
                have hD9 : IsU z.D := HD.out
                have HFV := Lib.hid hfv; have HD9 := Lib.hid hD9
                clear hfv hD9
                have q1 := s_find HS7.out 3 rfl bb
                rw [HFV.out] at q1
                have HQ1 := Lib.hid q1
                clear q1
                go_wp2_with fail
                refine HQ1.out.mono ?_
                rintro e wq ⟨rfl, hs⟩
                have s1 := TBlk.st_new HD9.out.isN wq
                have hsb := hs.alloc (z.D) 32
                have l1 := TBlk.ld_at HD9.out.isN (hsb.box 3 rfl).whole
                have l2 := TBlk.ld_at HD9.out.isN (hsb.box 0 rfl).whole
                have hne := neqU HD9.out (wq.alloc (.cells (z.D) 32))
                have HSb : Hid (Sep NoF w _ [blkO wb (z.D), Bo kb data zs room, cfgO cb c]) := Lib.hid (((hsb.drop 0 (Nat.succ_pos _)).drop 0 (Nat.succ_pos _)).drop 0 (Nat.succ_pos _))
                clear hs hsb
                go_wp2_with fail
                exact ⟨⟨k + 1, zs, z.D, z.live, true, by omega, by go_num, rfl, rfl, HV.out, HUU.out, HD9.out, HFV.out, HSb.out⟩, by simp [intOf]; omega⟩
            · have hpo := Lib.hid (put_other HV.out bb bl hB (isU_D3 xx).isN)
              have hput := s_put HS6.out 3 rfl HV.out hr6 bb (D3 xx) (isU_D3 xx).isN
              generalize putE data room zs bb = ee at hput
              have HP := Lib.hid hput
              clear hput
              have hbe : (bb == bl) = false := by simpa using hB
              go_wp2_with fail
              refine HP.out.mono ?_
              rintro e w7 ⟨rfl, hs⟩
              have HS7 : Hid (Sep NoF w w7 [blkO db (D3 xx), opB ob 0 bb xx, blkO wb D, Bo kb data (putS data room zs bb (D3 xx)) room, cfgO cb c]) := Lib.hid hs
              clear hs
              have p0 : w7.cell? ⟨ob, 0, none⟩ = some (.int .i64 0) := (HS7.out.box 1 rfl).cell 0
              have p1 : w7.cell? ⟨ob, 1, none⟩ = some (.int .i64 bb) := (HS7.out.box 1 rfl).cell 1
              have hfv : findV (putS data room zs bb (D3 xx)) bl = .tuple #[.agg D, .bool al, .bool th] := by rw [hpo.out]; exact HF.out
              have hD9 : IsU D := HD.out
              have HFV := Lib.hid hfv; have HD9 := Lib.hid hD9
              clear hfv hD9
              have q1 := s_find HS7.out 3 rfl bl
              rw [HFV.out] at q1
              have HQ1 := Lib.hid q1
              clear q1
              go_wp2_with fail
              refine HQ1.out.mono ?_
              rintro e wq ⟨rfl, hs⟩
              have s1 := TBlk.st_new HD9.out.isN wq
              have hsb := hs.alloc (D) 32
              have l1 := TBlk.ld_at HD9.out.isN (hsb.box 3 rfl).whole
              have l2 := TBlk.ld_at HD9.out.isN (hsb.box 0 rfl).whole
              have hne := neqU HD9.out (wq.alloc (.cells (D) 32))
              have HSb : Hid (Sep NoF w _ [blkO wb (D), Bo kb data (putS data room zs bb (D3 xx)) room, cfgO cb c]) := Lib.hid (((hsb.drop 0 (Nat.succ_pos _)).drop 0 (Nat.succ_pos _)).drop 0 (Nat.succ_pos _))
              clear hs hsb
              go_wp2_with fail
              exact ⟨⟨k + 1, (putS data room zs bb (D3 xx)), D, al, th, by omega, by go_num, rfl, rfl, HV.out.put bb (isU_D3 xx).isN, allU_put HUU.out bb (isU_D3 xx), HD9.out, HFV.out, HSb.out⟩, by simp [intOf]; omega⟩
          · have h0b : (kk == 0) = false := by simpa using h0
            by_cases h2 : kk = 2
            · subst h2
              by_cases hB : bb = bl
              · subst hB
                have hbe : (bb == bb) = true := by simp
                rcases findV_split zs bb with ⟨hf, hfv, hkb, hdb9, hks⟩ | ⟨z, hf, hfv, hkb, hdb9⟩
                · rw [hfv] at HF
                  obtain ⟨hD0, ha0, ht0⟩ : D = TBlk.Z ∧ al = false ∧ th = false := by have := HF.out; simp at this; exact ⟨this.1.symm, by simp [this.2.1], by simp [this.2.2]⟩
                  subst hD0 ha0 ht0
                  have hput := s_kill HS6.out 3 rfl HV.out hr6 bb
                  rw [hkb] at hput
                  have HP := Lib.hid hput
                  clear hput
                  go_wp2_with fail
                  refine HP.out.mono ?_
                  rintro e w7 ⟨rfl, hs⟩
                  have HS7 : Hid (Sep NoF w w7 [blkO db (D3 xx), opB ob 2 bb xx, blkO wb TBlk.Z, Bo kb data (killS zs bb) room, cfgO cb c]) := Lib.hid hs
                  clear hs
                  have p0 : w7.cell? ⟨ob, 0, none⟩ = some (.int .i64 2) := (HS7.out.box 1 rfl).cell 0
                  have p1 : w7.cell? ⟨ob, 1, none⟩ = some (.int .i64 bb) := (HS7.out.box 1 rfl).cell 1
                  have hfv : findV (killS zs bb) bb = .tuple #[.agg TBlk.Z, .bool false, .bool false] := by rw [hks]; exact hfv
                  have hD9 : IsU TBlk.Z := isU_Z
                  have HFV := Lib.hid hfv; have HD9 := Lib.hid hD9
                  clear hfv hD9
                  have q1 := s_find HS7.out 3 rfl bb
                  rw [HFV.out] at q1
                  have HQ1 := Lib.hid q1
                  clear q1
                  go_wp2_with fail
                  refine HQ1.out.mono ?_
                  rintro e wq ⟨rfl, hs⟩
                  have s1 := TBlk.st_new HD9.out.isN wq
                  have hsb := hs.alloc (TBlk.Z) 32
                  have l1 := TBlk.ld_at HD9.out.isN (hsb.box 3 rfl).whole
                  have l2 := TBlk.ld_at HD9.out.isN (hsb.box 0 rfl).whole
                  have hne := neqU HD9.out (wq.alloc (.cells (TBlk.Z) 32))
                  have HSb : Hid (Sep NoF w _ [blkO wb (TBlk.Z), Bo kb data (killS zs bb) room, cfgO cb c]) := Lib.hid (((hsb.drop 0 (Nat.succ_pos _)).drop 0 (Nat.succ_pos _)).drop 0 (Nat.succ_pos _))
                  clear hs hsb
                  go_wp2_with fail
                  exact ⟨⟨k + 1, (killS zs bb), TBlk.Z, false, false, by omega, by go_num, rfl, rfl, HV.out.kill bb, allU_kill HUU.out bb, HD9.out, HFV.out, HSb.out⟩, by simp [intOf]; omega⟩
                · rw [hfv] at HF
                  obtain ⟨hD0, ha0, ht0⟩ : D = z.D ∧ al = z.live ∧ th = true := by have := HF.out; simp at this; exact ⟨this.1.symm, this.2.1.symm, by simp [this.2.2]⟩
                  subst hD0 ha0 ht0
                  have hput := s_kill HS6.out 3 rfl HV.out hr6 bb
                  rw [hkb] at hput
                  have HP := Lib.hid hput
                  clear hput
                  have HKS := Lib.hid (kill_same HV.out bb hf)
                  go_wp2_with fail
                  refine HP.out.mono ?_
                  rintro e w7 ⟨rfl, hs⟩
                  have HS7 : Hid (Sep NoF w w7 [blkO db (D3 xx), opB ob 2 bb xx, blkO wb z.D, Bo kb data (killS zs bb) room, cfgO cb c]) := Lib.hid hs
                  clear hs
                  have p0 : w7.cell? ⟨ob, 0, none⟩ = some (.int .i64 2) := (HS7.out.box 1 rfl).cell 0
                  have p1 : w7.cell? ⟨ob, 1, none⟩ = some (.int .i64 bb) := (HS7.out.box 1 rfl).cell 1
                  have hfv : findV (killS zs bb) bb = .tuple #[.agg z.D, .bool false, .bool true] := HKS.out
                  have hD9 : IsU z.D := HD.out
                  have HFV := Lib.hid hfv; have HD9 := Lib.hid hD9
                  clear hfv hD9
                  have q1 := s_find HS7.out 3 rfl bb
                  rw [HFV.out] at q1
                  have HQ1 := Lib.hid q1
                  clear q1
                  go_wp2_with fail
                  refine HQ1.out.mono ?_
                  rintro e wq ⟨rfl, hs⟩
                  have s1 := TBlk.st_new HD9.out.isN wq
                  have hsb := hs.alloc (z.D) 32
                  have l1 := TBlk.ld_at HD9.out.isN (hsb.box 3 rfl).whole
                  have l2 := TBlk.ld_at HD9.out.isN (hsb.box 0 rfl).whole
                  have hne := neqU HD9.out (wq.alloc (.cells (z.D) 32))
                  have HSb : Hid (Sep NoF w _ [blkO wb (z.D), Bo kb data (killS zs bb) room, cfgO cb c]) := Lib.hid (((hsb.drop 0 (Nat.succ_pos _)).drop 0 (Nat.succ_pos _)).drop 0 (Nat.succ_pos _))
                  clear hs hsb
                  go_wp2_with fail
                  exact ⟨⟨k + 1, (killS zs bb), z.D, false, true, by omega, by go_num, rfl, rfl, HV.out.kill bb, allU_kill HUU.out bb, HD9.out, HFV.out, HSb.out⟩, by simp [intOf]; omega⟩
              · have hpo := Lib.hid (kill_other HV.out bb bl hB)
                have hput := s_kill HS6.out 3 rfl HV.out hr6 bb
                generalize killB zs bb = dn at hput
                have HP := Lib.hid hput
                clear hput
                have hbe : (bb == bl) = false := by simpa using hB
                go_wp2_with fail
                refine HP.out.mono ?_
                rintro e w7 ⟨rfl, hs⟩
                have HS7 : Hid (Sep NoF w w7 [blkO db (D3 xx), opB ob 2 bb xx, blkO wb D, Bo kb data (killS zs bb) room, cfgO cb c]) := Lib.hid hs
                clear hs
                have p0 : w7.cell? ⟨ob, 0, none⟩ = some (.int .i64 2) := (HS7.out.box 1 rfl).cell 0
                have p1 : w7.cell? ⟨ob, 1, none⟩ = some (.int .i64 bb) := (HS7.out.box 1 rfl).cell 1
                have hfv : findV (killS zs bb) bl = .tuple #[.agg D, .bool al, .bool th] := by rw [hpo.out]; exact HF.out
                have hD9 : IsU D := HD.out
                have HFV := Lib.hid hfv; have HD9 := Lib.hid hD9
                clear hfv hD9
                have q1 := s_find HS7.out 3 rfl bl
                rw [HFV.out] at q1
                have HQ1 := Lib.hid q1
                clear q1
                go_wp2_with fail
                refine HQ1.out.mono ?_
                rintro e wq ⟨rfl, hs⟩
                have s1 := TBlk.st_new HD9.out.isN wq
                have hsb := hs.alloc (D) 32
                have l1 := TBlk.ld_at HD9.out.isN (hsb.box 3 rfl).whole
                have l2 := TBlk.ld_at HD9.out.isN (hsb.box 0 rfl).whole
                have hne := neqU HD9.out (wq.alloc (.cells (D) 32))
                have HSb : Hid (Sep NoF w _ [blkO wb (D), Bo kb data (killS zs bb) room, cfgO cb c]) := Lib.hid (((hsb.drop 0 (Nat.succ_pos _)).drop 0 (Nat.succ_pos _)).drop 0 (Nat.succ_pos _))
                clear hs hsb
                go_wp2_with fail
                exact ⟨⟨k + 1, (killS zs bb), D, al, th, by omega, by go_num, rfl, rfl, HV.out.kill bb, allU_kill HUU.out bb, HD9.out, HFV.out, HSb.out⟩, by simp [intOf]; omega⟩
            · have h2b : (kk == 2) = false := by simpa using h2
              by_cases h3 : kk = 3
              · subst h3
                by_cases hB : bb = bl
                · subst hB
                  have hbe : (bb == bb) = true := by simp
                  rcases findV_split zs bb with ⟨hf, hfv, hkb, hdb9, hks⟩ | ⟨z, hf, hfv, hkb, hdb9⟩
                  · rw [hfv] at HF
                    obtain ⟨hD0, ha0, ht0⟩ : D = TBlk.Z ∧ al = false ∧ th = false := by have := HF.out; simp at this; exact ⟨this.1.symm, by simp [this.2.1], by simp [this.2.2]⟩
                    subst hD0 ha0 ht0
                    have hput := s_drop HS6.out 3 rfl HV.out hr6 bb
                    rw [hdb9] at hput
                    have HP := Lib.hid hput
                    clear hput
                    go_wp2_with fail
                    refine HP.out.mono ?_
                    rintro e w7 ⟨rfl, hs⟩
                    have HS7 : Hid (Sep NoF w w7 [blkO db (D3 xx), opB ob 3 bb xx, blkO wb TBlk.Z, Bo kb data (dropS zs bb) room, cfgO cb c]) := Lib.hid hs
                    clear hs
                    have p0 : w7.cell? ⟨ob, 0, none⟩ = some (.int .i64 3) := (HS7.out.box 1 rfl).cell 0
                    have p1 : w7.cell? ⟨ob, 1, none⟩ = some (.int .i64 bb) := (HS7.out.box 1 rfl).cell 1
                    obtain ⟨s9, hs9⟩ := s_store HS7.out 2 rfl HD.out.isN (isU_Z).isN
                    have HS9 : Hid (Sep NoF w _ [blkO db (D3 xx), opB ob 3 bb xx, blkO wb TBlk.Z, Bo kb data (dropS zs bb) room, cfgO cb c]) := Lib.hid hs9
                    clear hs9
                    have s9b : (TBlk.st (.pointer (some ⟨wb, 0, none⟩)) (.agg #[.int .u32 0, .int .u32 0, .int .u32 0, .int .u32 0, .int .u32 0, .int .u32 0, .int .u32 0, .int .u32 0, .int .u32 0, .int .u32 0, .int .u32 0, .int .u32 0, .int .u32 0, .int .u32 0, .int .u32 0, .int .u32 0])).run Try.prog w7 = .ok () (w7.setCells wb 0 TBlk.Z.toList) := s9
                    clear s9
                    have hfv : findV (dropS zs bb) bb = .tuple #[.agg TBlk.Z, .bool false, .bool false] := drop_same HV.out bb
                    have hD9 : IsU TBlk.Z := isU_Z
                    have HFV := Lib.hid hfv; have HD9 := Lib.hid hD9
                    clear hfv hD9
                    have q1 := s_find HS9.out 3 rfl bb
                    rw [HFV.out] at q1
                    have HQ1 := Lib.hid q1
                    clear q1
                    go_wp2_with fail
                    refine HQ1.out.mono ?_
                    rintro e wq ⟨rfl, hs⟩
                    have s1 := TBlk.st_new HD9.out.isN wq
                    have hsb := hs.alloc (TBlk.Z) 32
                    have l1 := TBlk.ld_at HD9.out.isN (hsb.box 3 rfl).whole
                    have l2 := TBlk.ld_at HD9.out.isN (hsb.box 0 rfl).whole
                    have hne := neqU HD9.out (wq.alloc (.cells (TBlk.Z) 32))
                    have HSb : Hid (Sep NoF w _ [blkO wb (TBlk.Z), Bo kb data (dropS zs bb) room, cfgO cb c]) := Lib.hid (((hsb.drop 0 (Nat.succ_pos _)).drop 0 (Nat.succ_pos _)).drop 0 (Nat.succ_pos _))
                    clear hs hsb
                    go_wp2_with fail
                    exact ⟨⟨k + 1, (dropS zs bb), TBlk.Z, false, false, by omega, by go_num, rfl, rfl, HV.out.drop bb, allU_drop HUU.out bb, HD9.out, HFV.out, HSb.out⟩, by simp [intOf]; omega⟩
                  · rw [hfv] at HF
                    obtain ⟨hD0, ha0, ht0⟩ : D = z.D ∧ al = z.live ∧ th = true := by have := HF.out; simp at this; exact ⟨this.1.symm, this.2.1.symm, by simp [this.2.2]⟩
                    subst hD0 ha0 ht0
                    have hput := s_drop HS6.out 3 rfl HV.out hr6 bb
                    rw [hdb9] at hput
                    have HP := Lib.hid hput
                    clear hput
                    go_wp2_with fail
                    refine HP.out.mono ?_
                    rintro e w7 ⟨rfl, hs⟩
                    have HS7 : Hid (Sep NoF w w7 [blkO db (D3 xx), opB ob 3 bb xx, blkO wb z.D, Bo kb data (dropS zs bb) room, cfgO cb c]) := Lib.hid hs
                    clear hs
                    have p0 : w7.cell? ⟨ob, 0, none⟩ = some (.int .i64 3) := (HS7.out.box 1 rfl).cell 0
                    have p1 : w7.cell? ⟨ob, 1, none⟩ = some (.int .i64 bb) := (HS7.out.box 1 rfl).cell 1
                    obtain ⟨s9, hs9⟩ := s_store HS7.out 2 rfl HD.out.isN (isU_Z).isN
                    have HS9 : Hid (Sep NoF w _ [blkO db (D3 xx), opB ob 3 bb xx, blkO wb TBlk.Z, Bo kb data (dropS zs bb) room, cfgO cb c]) := Lib.hid hs9
                    clear hs9
                    have s9b : (TBlk.st (.pointer (some ⟨wb, 0, none⟩)) (.agg #[.int .u32 0, .int .u32 0, .int .u32 0, .int .u32 0, .int .u32 0, .int .u32 0, .int .u32 0, .int .u32 0, .int .u32 0, .int .u32 0, .int .u32 0, .int .u32 0, .int .u32 0, .int .u32 0, .int .u32 0, .int .u32 0])).run Try.prog w7 = .ok () (w7.setCells wb 0 TBlk.Z.toList) := s9
                    clear s9
                    have hfv : findV (dropS zs bb) bb = .tuple #[.agg TBlk.Z, .bool false, .bool false] := drop_same HV.out bb
                    have hD9 : IsU TBlk.Z := isU_Z
                    have HFV := Lib.hid hfv; have HD9 := Lib.hid hD9
                    clear hfv hD9
                    have q1 := s_find HS9.out 3 rfl bb
                    rw [HFV.out] at q1
                    have HQ1 := Lib.hid q1
                    clear q1
                    go_wp2_with fail
                    refine HQ1.out.mono ?_
                    rintro e wq ⟨rfl, hs⟩
                    have s1 := TBlk.st_new HD9.out.isN wq
                    have hsb := hs.alloc (TBlk.Z) 32
                    have l1 := TBlk.ld_at HD9.out.isN (hsb.box 3 rfl).whole
                    have l2 := TBlk.ld_at HD9.out.isN (hsb.box 0 rfl).whole
                    have hne := neqU HD9.out (wq.alloc (.cells (TBlk.Z) 32))
                    have HSb : Hid (Sep NoF w _ [blkO wb (TBlk.Z), Bo kb data (dropS zs bb) room, cfgO cb c]) := Lib.hid (((hsb.drop 0 (Nat.succ_pos _)).drop 0 (Nat.succ_pos _)).drop 0 (Nat.succ_pos _))
                    clear hs hsb
                    go_wp2_with fail
                    exact ⟨⟨k + 1, (dropS zs bb), TBlk.Z, false, false, by omega, by go_num, rfl, rfl, HV.out.drop bb, allU_drop HUU.out bb, HD9.out, HFV.out, HSb.out⟩, by simp [intOf]; omega⟩
                · have hpo := Lib.hid (drop_other HV.out bb bl hB)
                  have hput := s_drop HS6.out 3 rfl HV.out hr6 bb
                  generalize dropB zs bb = dn at hput
                  have HP := Lib.hid hput
                  clear hput
                  have hbe : (bb == bl) = false := by simpa using hB
                  go_wp2_with fail
                  refine HP.out.mono ?_
                  rintro e w7 ⟨rfl, hs⟩
                  have HS7 : Hid (Sep NoF w w7 [blkO db (D3 xx), opB ob 3 bb xx, blkO wb D, Bo kb data (dropS zs bb) room, cfgO cb c]) := Lib.hid hs
                  clear hs
                  have p0 : w7.cell? ⟨ob, 0, none⟩ = some (.int .i64 3) := (HS7.out.box 1 rfl).cell 0
                  have p1 : w7.cell? ⟨ob, 1, none⟩ = some (.int .i64 bb) := (HS7.out.box 1 rfl).cell 1
                  have hfv : findV (dropS zs bb) bl = .tuple #[.agg D, .bool al, .bool th] := by rw [hpo.out]; exact HF.out
                  have hD9 : IsU D := HD.out
                  have HFV := Lib.hid hfv; have HD9 := Lib.hid hD9
                  clear hfv hD9
                  have q1 := s_find HS7.out 3 rfl bl
                  rw [HFV.out] at q1
                  have HQ1 := Lib.hid q1
                  clear q1
                  go_wp2_with fail
                  refine HQ1.out.mono ?_
                  rintro e wq ⟨rfl, hs⟩
                  have s1 := TBlk.st_new HD9.out.isN wq
                  have hsb := hs.alloc (D) 32
                  have l1 := TBlk.ld_at HD9.out.isN (hsb.box 3 rfl).whole
                  have l2 := TBlk.ld_at HD9.out.isN (hsb.box 0 rfl).whole
                  have hne := neqU HD9.out (wq.alloc (.cells (D) 32))
                  have HSb : Hid (Sep NoF w _ [blkO wb (D), Bo kb data (dropS zs bb) room, cfgO cb c]) := Lib.hid (((hsb.drop 0 (Nat.succ_pos _)).drop 0 (Nat.succ_pos _)).drop 0 (Nat.succ_pos _))
                  clear hs hsb
                  go_wp2_with fail
                  exact ⟨⟨k + 1, (dropS zs bb), D, al, th, by omega, by go_num, rfl, rfl, HV.out.drop bb, allU_drop HUU.out bb, HD9.out, HFV.out, HSb.out⟩, by simp [intOf]; omega⟩
              · have h3b : (kk == 3) = false := by simpa using h3
                have HS7 := HS6
                by_cases hB : bb = bl
                · subst hB
                  have hbe : (bb == bb) = true := by simp
                  have hfv : findV zs bb = .tuple #[.agg D, .bool al, .bool th] := HF.out
                  have hD9 : IsU D := HD.out
                  have HFV := Lib.hid hfv; have HD9 := Lib.hid hD9
                  clear hfv hD9
                  have q1 := s_find HS7.out 3 rfl bb
                  rw [HFV.out] at q1
                  have HQ1 := Lib.hid q1
                  clear q1
                  go_wp2_with fail
                  refine HQ1.out.mono ?_
                  rintro e wq ⟨rfl, hs⟩
                  have s1 := TBlk.st_new HD9.out.isN wq
                  have hsb := hs.alloc (D) 32
                  have l1 := TBlk.ld_at HD9.out.isN (hsb.box 3 rfl).whole
                  have l2 := TBlk.ld_at HD9.out.isN (hsb.box 0 rfl).whole
                  have hne := neqU HD9.out (wq.alloc (.cells (D) 32))
                  have HSb : Hid (Sep NoF w _ [blkO wb (D), Bo kb data zs room, cfgO cb c]) := Lib.hid (((hsb.drop 0 (Nat.succ_pos _)).drop 0 (Nat.succ_pos _)).drop 0 (Nat.succ_pos _))
                  clear hs hsb
                  go_wp2_with fail
                  exact ⟨⟨k + 1, zs, D, al, th, by omega, by go_num, rfl, rfl, HV.out, HUU.out, HD9.out, HFV.out, HSb.out⟩, by simp [intOf]; omega⟩
                · have hbe : (bb == bl) = false := by simpa using hB
                  have hfv : findV zs bl = .tuple #[.agg D, .bool al, .bool th] := HF.out
                  have hD9 : IsU D := HD.out
                  have HFV := Lib.hid hfv; have HD9 := Lib.hid hD9
                  clear hfv hD9
                  have q1 := s_find HS7.out 3 rfl bl
                  rw [HFV.out] at q1
                  have HQ1 := Lib.hid q1
                  clear q1
                  go_wp2_with fail
                  refine HQ1.out.mono ?_
                  rintro e wq ⟨rfl, hs⟩
                  have s1 := TBlk.st_new HD9.out.isN wq
                  have hsb := hs.alloc (D) 32
                  have l1 := TBlk.ld_at HD9.out.isN (hsb.box 3 rfl).whole
                  have l2 := TBlk.ld_at HD9.out.isN (hsb.box 0 rfl).whole
                  have hne := neqU HD9.out (wq.alloc (.cells (D) 32))
                  have HSb : Hid (Sep NoF w _ [blkO wb (D), Bo kb data zs room, cfgO cb c]) := Lib.hid (((hsb.drop 0 (Nat.succ_pos _)).drop 0 (Nat.succ_pos _)).drop 0 (Nat.succ_pos _))
                  clear hs hsb
                  go_wp2_with fail
                  exact ⟨⟨k + 1, zs, D, al, th, by omega, by go_num, rfl, rfl, HV.out, HUU.out, HD9.out, HFV.out, HSb.out⟩, by simp [intOf]; omega⟩
        · obtain rfl : len1 = k := by omega
          have HE := Lib.hid HI.out.2.2.2.2
          clear HI
          go_wp2_with fail
          refine (works_any _).mono ?_
          rintro e w9 ⟨rfl, hu⟩
          have HS9 := Lib.hid (HE.out.upd0 hu)
          clear hu
          go_wp2
          go_ret
          exact ⟨rfl, HS9.out.below⟩
    · have HN := Lib.hid (new_no c hm)
      clear hm
      go_enter Try.func4, Try.ntmps4
      go_wp2_with fail
      rw [HW0.out]
      refine (HN.out W0).mono ?_
      rintro e w2 ⟨rfl, hu⟩
      have HS2 := Lib.hid (HS0.out.upd0 hu)
      clear hu
      go_wp2_with fail
      refine (works_any _).mono ?_
      rintro e w9 ⟨rfl, hu⟩
      have HS9 := Lib.hid (HS2.out.upd0 hu)
      clear hu
      go_wp2
      go_ret
      exact ⟨rfl, HS9.out.below⟩
end Go.Proofs.Ytoddipfgkbaeaaa.BK
