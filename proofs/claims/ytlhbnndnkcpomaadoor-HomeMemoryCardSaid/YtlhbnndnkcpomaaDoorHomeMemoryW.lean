/- HomeMemory: what the Go function does. -/
import Derived.Test.YtlhbnndnkcpomaaDoorHomeWorks
import Derived.Test.YtlhbnndnkcpomaaDoorHomeMemL
set_option linter.unusedSimpArgs false
set_option linter.unusedVariables false
namespace Go.Proofs.YtlhbnndnkcpomaaDoor.HO
open Go.RowKit
open BU (IsU words)
open PL (Cfg CC CV May)
open ME (memO sl)
open ET (run_neq_entry)
attribute [local go_sem] Oper.semAt_some
attribute [local go_sem ↓] neB_eq TNot.ld_eq TNot.st_eq TNot.al_eq TNot.bx_eq TBlk.ld_eq TBlk.st_eq TBlk.al_eq
attribute [local go_sem] TNot.al_run TNot.bx_run TBlk.al_run
section
variable {w0 W W' : World} {hb mb : Nat} {S : Hs} {L : List Obj}
theorem block_at {n : Nat} {B : Nat → Array Value} (h : Sep NoF w0 W L) (i : Nat) (hi : L[i]? = some (memO mb n B)) (hn : n ≤ 256) (q : Nat) (hq : q < n) :
    Calls Tryd.prog 23 #[ptr mb, .int .i64 q] W fun e w' => e = .returned (.tuple #[.agg (B q), .int .i64 0]) ∧ Upd NoF W w' := by
  obtain ⟨F, hF⟩ := h.has i hi
  have := ME.block_any hF hn (q : Int)
  have e1 : ME.blkP n B q = B q := by unfold ME.blkP; rw [if_pos (by omega)]; rfl
  have e2 : ME.errP n q = 0 := by unfold ME.errP; rw [if_pos (by omega)]
  rw [e1, e2] at this
  exact this
theorem hblock_at (h : Sep NoF w0 W L) (i : Nat) (hi : L[i]? = some (homeO hb mb S)) (q : Nat) (hq : q < S.c.blocks.toNat) (hn : S.c.blocks.toNat ≤ 256) :
    Calls Tryd.prog 23 #[ptr mb, .int .i64 q] W fun e w' => e = .returned (.tuple #[.agg (S.B q), .int .i64 0]) ∧ Upd NoF W w' := by
  obtain ⟨F, hF⟩ := h.has i hi
  have := ME.block_any (home_mem hF) hn (q : Int)
  have e1 : ME.blkP S.c.blocks.toNat S.B q = S.B q := by unfold ME.blkP; rw [if_pos (by omega)]; rfl
  have e2 : ME.errP S.c.blocks.toNat q = 0 := by unfold ME.errP; rw [if_pos (by omega)]
  rw [e1, e2] at this
  exact this
abbrev ZB : Value := .agg #[.int .u32 0, .int .u32 0, .int .u32 0, .int .u32 0, .int .u32 0, .int .u32 0, .int .u32 0, .int .u32 0, .int .u32 0, .int .u32 0, .int .u32 0, .int .u32 0, .int .u32 0, .int .u32 0, .int .u32 0, .int .u32 0]
theorem zb_ok : hadT.ok (words TBlk.Z) := ⟨rfl, fun z hz => by
  have : z = 0 := by
    simp [words, TBlk.Z, intOf] at hz
    exact hz
  rw [this]; show (Lit.int .u32 0).wf = true; decide⟩
set_option maxRecDepth 100000 in
set_option maxHeartbeats 3000000 in
theorem memory_any (c : Cfg) (a1 : Option Addr) (len1 cap1 : Nat) (N : Nat → Nt) (w : World) (hT : Tab w) (h1 : IsRowN w a1 len1 cap1 N ∧ ∀ i, i < len1 → ∀ z ∈ words (N i).D, GM.wfq .u32 z) :
    Calls Tryd.prog 5 #[CV c, .slice a1 len1 cap1] w fun e w' => e = .returned (.bool true) ∧ Below w.heap.size w w' := by
  have HC1 := Lib.hid (fun i (hi : i < len1) => h1.1.at hi)
  have HWF := Lib.hid h1.2
  obtain ⟨⟨lc1, m1, _⟩, _⟩ := h1
  unfold maxLen at m1
  have HTB := Lib.hid hT
  obtain ⟨W0, hW0⟩ : ∃ W0, w.alloc (.cells (CC c) CT) = W0 := ⟨_, rfl⟩
  have HS0 : Hid (Sep NoF w W0 [boxO w.heap.size (CC c) CT]) := Lib.hid (by rw [← hW0]; exact (Sep.zero NoF w).alloc _ _)
  have HW0 := Lib.hid hW0
  clear hW0 hT
  by_cases g_len1 : 300 < len1
  · have hb_len1 : decide ((300 : Int) < (len1 : Int)) = true := by simp; omega
    go_enter Tryd.func5, Tryd.ntmps5
    go_wp2_with fail
    rw [HW0.out]
    refine (works_is HS0.out HTB.out).mono ?_
    rintro e w9 ⟨rfl, hs⟩
    have HS9 := Lib.hid hs
    clear hs
    go_wp2
    go_ret
    exact ⟨rfl, HS9.out.below⟩
  · have hb_len1 : decide ((300 : Int) < (len1 : Int)) = false := by simp; omega
    by_cases hm : May c
    · have hmd := mul_data hm
      have HMY := Lib.hid (fun W => PL.pMay_yes c hm W)
      obtain ⟨B, hB⟩ : ∃ B : Nat, c.blocks = B := ⟨c.blocks.toNat, by omega⟩
      obtain ⟨D, hD⟩ : ∃ D : Nat, c.blocks - c.cores * c.logs = D := ⟨(c.blocks - c.cores * c.logs).toNat, by omega⟩
      have HME := Lib.hid (fun W => ME.new_ok B (by omega) (by omega) W)
      have HNW := Lib.hid (fun (mb' : Nat) (W : World) (L : List Obj) (h : Sep NoF w W (memO mb' B (fun _ => TBlk.Z) :: L)) => new_yes h c hm hB (fun _ => BU.isU_Z))
      have hDD : 1 ≤ D ∧ D ≤ 255 := by omega
      have hBB : 1 ≤ B ∧ B ≤ 256 := by omega
      have HMM := Lib.hid hm
      have HDD := Lib.hid (And.intro hD hB)
      clear hmd hm hD hB
      go_enter Tryd.func5, Tryd.ntmps5
      go_wp2_with fail
      rw [HW0.out]
      refine (HMY.out W0).mono ?_
      rintro e w1 ⟨rfl, hu⟩
      have HS1 := Lib.hid (HS0.out.upd0 hu)
      clear hu
      obtain ⟨cb, hcb⟩ : ∃ x, w.heap.size = x := ⟨_, rfl⟩
      rw [hcb] at HS1 ⊢
      obtain ⟨k0, k1, k2, k3, k4, k5, k6, k7⟩ : (w1.cell? ⟨cb, 0, none⟩ = some (.int .i64 c.cores) ∧ w1.cell? ⟨cb, 1, none⟩ = some (.int .i64 c.sets) ∧ w1.cell? ⟨cb, 2, none⟩ = some (.int .i64 c.ways) ∧ w1.cell? ⟨cb, 3, none⟩ = some (.int .i64 c.blocks) ∧ w1.cell? ⟨cb, 4, none⟩ = some (.int .i64 c.logs) ∧ w1.cell? ⟨cb, 5, none⟩ = some (.int .i64 c.backs) ∧ w1.cell? ⟨cb, 6, none⟩ = some (.int .i64 c.nest) ∧ w1.cell? ⟨cb, 7, none⟩ = some (.int .i64 c.tries)) := ⟨(HS1.out.box 0 rfl).cell 0, (HS1.out.box 0 rfl).cell 1, (HS1.out.box 0 rfl).cell 2, (HS1.out.box 0 rfl).cell 3, (HS1.out.box 0 rfl).cell 4, (HS1.out.box 0 rfl).cell 5, (HS1.out.box 0 rfl).cell 6, (HS1.out.box 0 rfl).cell 7⟩
      rw [HDD.out.2] at k3
      go_wp2_with fail
      refine (HME.out _).mono ?_
      rintro e w2 ⟨mb, rfl, hu, hmo⟩
      have HS2 := Lib.hid (HS1.out.push hu hmo)
      clear hu hmo k0 k1 k2 k3 k4 k5 k6 k7
      obtain ⟨k0, k1, k2, k3, k4, k5, k6, k7⟩ : (w2.cell? ⟨cb, 0, none⟩ = some (.int .i64 c.cores) ∧ w2.cell? ⟨cb, 1, none⟩ = some (.int .i64 c.sets) ∧ w2.cell? ⟨cb, 2, none⟩ = some (.int .i64 c.ways) ∧ w2.cell? ⟨cb, 3, none⟩ = some (.int .i64 c.blocks) ∧ w2.cell? ⟨cb, 4, none⟩ = some (.int .i64 c.logs) ∧ w2.cell? ⟨cb, 5, none⟩ = some (.int .i64 c.backs) ∧ w2.cell? ⟨cb, 6, none⟩ = some (.int .i64 c.nest) ∧ w2.cell? ⟨cb, 7, none⟩ = some (.int .i64 c.tries)) := ⟨(HS2.out.box 1 rfl).cell 0, (HS2.out.box 1 rfl).cell 1, (HS2.out.box 1 rfl).cell 2, (HS2.out.box 1 rfl).cell 3, (HS2.out.box 1 rfl).cell 4, (HS2.out.box 1 rfl).cell 5, (HS2.out.box 1 rfl).cell 6, (HS2.out.box 1 rfl).cell 7⟩
      go_wp2_with fail
      refine (HNW.out _ _ _ HS2.out).mono ?_
      rintro e w3 ⟨hb, rfl, hs⟩
      have HS3 := Lib.hid hs
      clear hs k0 k1 k2 k3 k4 k5 k6 k7
      have hs4 := GM.mapNew hadT HS3.out
      obtain ⟨hd, hhd⟩ : ∃ x, w3.heap.size = x := ⟨_, rfl⟩
      obtain ⟨V4, hV4⟩ : ∃ X, w3.alloc (.map #[] 0) = X := ⟨_, rfl⟩
      rw [hhd, hV4] at hs4
      obtain ⟨V5, hrun, hs5, -⟩ := GM.mapPut hs4 0 rfl (by unfold maxLen; omega) zb_ok (.bool true)
      have hrun2 : (Instr.mapUpdate 65 (.map (some hd)) ZB (.bool true)).run Tryd.prog V4 = .ok () V5 := hrun
      have e8 : (fun _ => none : List Int → Option Value) = hadF [] := by funext zs; unfold hadF; simp
      rw [e8, put_had] at hs5
      have HS5 : Hid (Sep NoF w V5 [GM.mapO hadT hd 1 (hadF [words TBlk.Z]), homeO hb mb (Hs.new c (fun _ => TBlk.Z)), boxO cb (CC c) CT]) := Lib.hid hs5
      have hmm := @run_makeMap Tryd.prog
      clear hs4 hs5 e8 hrun
      go_upto_region 8 with fail
      clear hrun2 hmm hhd hV4
      go_wp2_with fail
      go_loopw [52] (fun i wr => ∃ (k : Nat) (S : Hs) (l : List (List Int)) (M : Nat), k ≤ len1 ∧ i = .int .i64 k ∧ Hid (S.c = c ∧ (∀ zs ∈ l, hadT.ok zs) ∧ Had (fun D => words D ∈ l) S ∧ M ≤ k + 1 ∧ Sep NoF w wr [GM.mapO hadT hd M (hadF l), homeO hb mb S, boxO cb (CC c) CT])) (fun i _ => len1 - (intOf i).toNat)
      case atStart => exact ⟨0, _, _, _, Nat.zero_le _, rfl, rfl, (fun zs hz => by simp at hz; subst hz; exact zb_ok), ⟨fun i => List.mem_singleton.2 rfl, fun m hm => by cases hm⟩, by omega, HS5.out⟩
      case round =>
        obtain ⟨k, S, l, M, hk, rfl, HI⟩ := hrel
        by_cases hlt : k < len1
        · obtain ⟨hok, x, g, q, rfl, hxa, hgl, hrg⟩ := HC1.out k hlt
          have HOK := Lib.hid hok
          have hwf := HWF.out k hlt
          have hrw : wr.rangeAt g q (N k).cells.toList := fun j v hv => HI.out.2.2.2.2.old (hrg j v hv)
          have hrw2 : (wr.alloc (.cells TNot.Z 47)).rangeAt g q (N k).cells.toList := World.rangeAt_alloc hrw _
          generalize N k = n at *
          have HW := Lib.hid hwf
          have l1 := TNot.ld_at (Nt.Ok.isN HOK.out.isU) hrw
          have l2 := TNot.ld_at (Nt.Ok.isN HOK.out.isU) hrw2
          have s1 := TNot.st_new (Nt.Ok.isN HOK.out.isU) wr
          obtain ⟨hSc, hlo, hha, hM, hsp⟩ := HI.out
          obtain ⟨V, hV⟩ : ∃ W, wr.alloc (.cells n.cells NT) = W := ⟨_, rfl⟩
          have hs5 := hsp.alloc n.cells NT
          rw [hV] at hs5
          obtain ⟨nb, hnb⟩ : ∃ b, wr.heap.size = b := ⟨_, rfl⟩
          rw [hnb] at hs5
          have HSC := Lib.hid hSc
          have HLO0 := Lib.hid hlo; have HHA0 := Lib.hid hha; have HM0 := Lib.hid hM
          have HV := Lib.hid (And.intro hV hnb)
          have HS5 := Lib.hid hs5
          clear hV hs5 HI hok hrw hrw2 hrg hSc hlo hha hM hsp hnb hwf
          go_upto_region 11 with fail
          rw [HV.out.1, HV.out.2]
          clear l1 l2 s1
          have z6 : V.cell? ⟨nb, 6, none⟩ = some (.bool n.has) := ((HS5.out.box 0 rfl).cell 6).trans n.get6
          by_cases hh : n.has = true
          · rw [hh] at z6
            have ldd : (TBlk.ld (.pointer (some ⟨nb, 8, none⟩))).run Tryd.prog V = .ok (.agg n.D) V := TBlk.ld_at HOK.out.isU.isN ((HS5.out.box 0 rfl).range 8 n.D.toList (fun j v hv => by rw [n.getD]; simpa using hv))
            have hok1 : hadT.ok (words n.D) := ⟨words_len HOK.out.isU, HW.out⟩
            obtain ⟨V6, hrun, hs6, -⟩ := GM.mapPut HS5.out 1 rfl (by have := HM0.out; unfold maxLen; omega) hok1 (.bool true)
            rw [put_had] at hs6
            have hrun2 : (Instr.mapUpdate 65 (.map (some hd)) (.agg n.D) (.bool true)).run Tryd.prog V = .ok () V6 := by
              have e9 : hadT.enc (words n.D) = .agg n.D := by show Value.agg (GM.numsA .u32 (words n.D)) = _; rw [words_nums HOK.out.isU]
              rw [e9] at hrun
              exact hrun
            obtain ⟨M1, hM1⟩ : ∃ x, GM.putN (hadF l) M (words n.D) = x := ⟨_, rfl⟩
            have hMM : M1 ≤ k + 1 + 1 := by have := HM0.out; rw [← hM1]; unfold GM.putN; split <;> omega
            rw [hM1] at hs6
            obtain ⟨l1, hl1⟩ : ∃ x, words n.D :: l = x := ⟨_, rfl⟩
            rw [hl1] at hs6
            have HLO : Hid (∀ zs ∈ l1, hadT.ok zs) := Lib.hid (fun zs hz => by rw [← hl1] at hz; exact (List.mem_cons.1 hz).elim (fun e => e ▸ hok1) (HLO0.out zs))
            have HHA : Hid (Had (fun D => words D ∈ l1) S) := Lib.hid ⟨fun i => by rw [← hl1]; exact List.mem_cons_of_mem _ (HHA0.out.mem i), fun m hm h3 => by rw [← hl1]; exact List.mem_cons_of_mem _ (HHA0.out.que m hm h3)⟩
            have HHN : Hid (n.has = true → words n.D ∈ l1) := Lib.hid (fun _ => by rw [← hl1]; exact List.mem_cons_self ..)
            have HM1 := Lib.hid hMM
            have HS6 : Hid (Sep NoF w V6 [boxO nb n.cells NT, GM.mapO hadT hd M1 (hadF l1), homeO hb mb S, boxO cb (CC c) CT]) := Lib.hid hs6
            clear hs6 hMM hl1 hM1 hok1 hrun hh
            go_upto_region 13 with fail
            clear hrun2 ldd z6
            have hld := TNot.ld_at (Nt.Ok.isN HOK.out.isU) (HS6.out.box 0 rfl).whole
            obtain ⟨F0, hF0⟩ := HS6.out.has 2 rfl
            have hcp := ME.copy_is (home_mem hF0) (by rw [HSC.out, HDD.out.2]; exact hBB.2) (by rw [HSC.out, HDD.out.2]; exact hBB.1)
            rw [HSC.out, HDD.out.2, Int.toNat_natCast] at hcp
            have HGD := Lib.hid (home_good hF0)
            have HCP := Lib.hid hcp
            clear hcp hF0 hld
            go_wp2_with fail
            refine HCP.out.mono ?_
            rintro e w7 ⟨m2, rfl, hu, hmo⟩
            have HS7 := Lib.hid (HS6.out.push hu hmo)
            clear hu hmo
            have l9 := TNot.ld_at (Nt.Ok.isN HOK.out.isU) (HS7.out.box 1 rfl).whole
            have htk := take_is (Sep.pick HS7.out 3 rfl) HTB.out n HOK.out
            rw [take_code] at htk
            have hch := fun i => take_B S n i
            have hcc := take_c S n
            have hhd := had_take HHA.out HHN.out
            obtain ⟨er, her⟩ : ∃ x, readyP S n = x := ⟨_, rfl⟩
            rw [her] at htk hch
            obtain ⟨S1, hS1⟩ : ∃ x, (takeP S n).1 = x := ⟨_, rfl⟩
            obtain ⟨ns, hns⟩ : ∃ x, (takeP S n).2.1 = x := ⟨_, rfl⟩
            rw [hS1] at htk hcc hhd hch
            rw [hns] at htk
            have HTK := Lib.hid htk; have HCH := Lib.hid hch; have HHD := Lib.hid hhd; have HCC := Lib.hid (hcc.trans HSC.out)
            clear htk hch hcc hhd hS1 hns her
            go_wp2_with fail
            refine HTK.out.mono ?_
            rintro e w9 ⟨v, rfl, hs⟩
            have HS9 : Hid (Sep NoF w w9 [outO v ns, homeO hb mb S1, memO m2 B S.B, boxO nb n.cells NT, GM.mapO hadT hd M1 (hadF l1), boxO cb (CC c) CT]) := Lib.hid hs
            clear hs l9
            have k3 : w9.cell? ⟨cb, 3, none⟩ = some (.int .i64 B) := ((HS9.out.box 5 rfl).cell 3).trans (by rw [← HDD.out.2]; rfl)
            obtain ⟨F1, hF1⟩ := HS9.out.has 1 rfl
            have HG1 := Lib.hid (home_good hF1)
            clear hF1
            go_wp2_with fail
            clear k3
            obtain ⟨wq, rfl⟩ : ∃ x, x = wr := ⟨_, rfl⟩
            go_loopw [71] (fun i wr => ∃ (j : Nat), j ≤ B ∧ i = .int .i64 j ∧ Hid (Sep NoF w wr [outO v ns, homeO hb mb S1, memO m2 B S.B, boxO nb n.cells NT, GM.mapO hadT hd M1 (hadF l1), boxO cb (CC c) CT])) (fun i _ => B - (intOf i).toNat)
            case atStart => exact ⟨0, Nat.zero_le _, rfl, HS9.out⟩
            case round =>
              obtain ⟨j, hj, rfl, HI⟩ := hrel
              by_cases hjl : j < B
              · have HB1 := Lib.hid (block_at HI.out 2 rfl hBB.2 j hjl)
                obtain ⟨x, hx⟩ : ∃ x, S.B j = x := ⟨_, rfl⟩
                obtain ⟨y, hy⟩ : ∃ x, S1.B j = x := ⟨_, rfl⟩
                have HXU : Hid (IsU x) := Lib.hid (hx ▸ HGD.out.isU j)
                have HYU : Hid (IsU y) := Lib.hid (hy ▸ HG1.out.isU j)
                have hch := HCH.out j
                have hym := HHD.out.mem j
                rw [hx, hy] at hch
                rw [hy] at hym
                rw [hx] at HB1
                have HCJ := Lib.hid hch; have HYM := Lib.hid hym; have HYE := Lib.hid hy
                clear hch hym hx hy
                go_wp2_with fail
                refine HB1.out.mono ?_
                rintro e w11 ⟨rfl, hu⟩
                have s1 := TBlk.st_new HXU.out.isN w11
                have HS11 := Lib.hid ((HI.out.upd0 hu).alloc x ME.BT)
                obtain ⟨V11, hV11⟩ : ∃ V, w11.alloc (.cells x ME.BT) = V := ⟨_, rfl⟩
                obtain ⟨xb, hxb⟩ : ∃ b, w11.heap.size = b := ⟨_, rfl⟩
                rw [hV11, hxb] at HS11
                have HVE := Lib.hid (And.intro hV11 hxb)
                clear hu hV11 hxb HI
                go_upto_region 19 with fail
                rw [HVE.out.1, HVE.out.2]
                clear s1
                have HB2 := hblock_at HS11.out 2 rfl j (by rw [HCC.out, HDD.out.2]; exact hjl) (by rw [HCC.out, HDD.out.2]; exact hBB.2)
                rw [HYE.out] at HB2
                have HB3 := Lib.hid HB2
                clear HB2
                go_wp2_with fail
                refine HB3.out.mono ?_
                rintro e w12 ⟨rfl, hu⟩
                have s1 := TBlk.st_new HYU.out.isN w12
                have HS12 := Lib.hid ((HS11.out.upd0 hu).alloc y ME.BT)
                obtain ⟨V12, hV12⟩ : ∃ V, w12.alloc (.cells y ME.BT) = V := ⟨_, rfl⟩
                obtain ⟨yb, hyb⟩ : ∃ b, w12.heap.size = b := ⟨_, rfl⟩
                rw [hV12, hyb] at HS12
                have HVF := Lib.hid (And.intro hV12 hyb)
                clear hu hV12 hyb
                go_upto_region 20 with fail
                rw [HVF.out.1, HVF.out.2]
                clear s1
                have lx := TBlk.ld_at HXU.out.isN (HS12.out.box 1 rfl).whole
                have ly := TBlk.ld_at HYU.out.isN (HS12.out.box 0 rfl).whole
                have hne := neB_run HXU.out HYU.out V12
                by_cases hxy : x = y
                · subst hxy
                  have e0 : (!(words x == words x)) = false := by simp
                  rw [e0] at hne
                  clear e0
                  go_wp2_with fail
                  exact ⟨⟨j + 1, by omega, by go_num, (HS12.out.drop 0 (by simp)).drop 0 (by simp)⟩, by simp [intOf]; omega⟩
                · have e0 : (!(words x == words y)) = true := by
                    have : ¬ words x = words y := fun e => hxy ((BU.words_inj HXU.out HYU.out).1 e)
                    simp [this]
                  rw [e0] at hne
                  obtain ⟨her, hb0, hjb, hkk⟩ := HCJ.out (fun e => hxy e.symm)
                  have hjn : n.blk = (j : Int) := by omega
                  have hlk := (GM.mapIs HS12.out 6 rfl).look (a := words y) (HLO.out _ HYM.out)
                  rw [at_had HYM.out] at hlk
                  have hlk2 : (Instr.lookup 65 (.map (some hd)) (.agg y) false).run Tryd.prog V12 = .ok (.bool true) V12 := by
                    have e9 : hadT.enc (words y) = .agg y := by show Value.agg (GM.numsA .u32 (words y)) = _; rw [words_nums HYU.out]
                    rw [e9] at hlk
                    exact hlk
                  have z3 : V12.cell? ⟨nb, 3, none⟩ = some (.int .i64 j) := ((HS12.out.box 5 rfl).cell 3).trans (by rw [n.get3, hjn])
                  have z0 : V12.cell? ⟨nb, 0, none⟩ = some (.int .u8 n.kind) := ((HS12.out.box 5 rfl).cell 0).trans n.get0
                  have hjj : ((j : Int) != (j : Int)) = false := by simp
                  have hee : (er != 0) = false := by rw [her]; rfl
                  clear e0 hxy her hb0 hjb hjn hlk
                  rcases hkk with hk | hk | hk | hk
                  · rw [hk] at z0
                    clear hk
                    go_wp2_with fail
                    exact ⟨⟨j + 1, by omega, by go_num, (HS12.out.drop 0 (by simp)).drop 0 (by simp)⟩, by simp [intOf]; omega⟩
                  · rw [hk] at z0
                    clear hk
                    go_wp2_with fail
                    exact ⟨⟨j + 1, by omega, by go_num, (HS12.out.drop 0 (by simp)).drop 0 (by simp)⟩, by simp [intOf]; omega⟩
                  · rw [hk] at z0
                    clear hk
                    go_wp2_with fail
                    exact ⟨⟨j + 1, by omega, by go_num, (HS12.out.drop 0 (by simp)).drop 0 (by simp)⟩, by simp [intOf]; omega⟩
                  · rw [hk] at z0
                    clear hk
                    go_wp2_with fail
                    exact ⟨⟨j + 1, by omega, by go_num, (HS12.out.drop 0 (by simp)).drop 0 (by simp)⟩, by simp [intOf]; omega⟩
              · obtain rfl : B = j := by omega
                have HS12 := Lib.hid HI.out
                clear HI
                go_wp2_with fail
                exact ⟨⟨k + 1, S1, l1, M1, by omega, by go_num, HCC.out, HLO.out, HHD.out, HM1.out, ((HS12.out.drop 0 (by simp)).drop 1 (by simp)).drop 1 (by simp) |>.swap⟩, by simp [intOf]; omega⟩
          · have hh2 : n.has = false := by simpa using hh
            rw [hh2] at z6
            obtain ⟨M1, hM1⟩ : ∃ x, M = x := ⟨_, rfl⟩
            obtain ⟨l1, hl1⟩ : ∃ x, l = x := ⟨_, rfl⟩
            rw [hM1, hl1] at HS5
            rw [hM1] at HM0
            rw [hl1] at HLO0 HHA0
            have HLO := HLO0
            have HHA := HHA0
            have HHN : Hid (n.has = true → words n.D ∈ l1) := Lib.hid (fun e => (hh e).elim)
            have HM1 : Hid (M1 ≤ k + 1 + 1) := Lib.hid (by have := HM0.out; omega)
            have HS6 := HS5
            clear hM1 hl1 hh hh2
            go_upto_region 13 with fail
            clear z6
            have hld := TNot.ld_at (Nt.Ok.isN HOK.out.isU) (HS6.out.box 0 rfl).whole
            obtain ⟨F0, hF0⟩ := HS6.out.has 2 rfl
            have hcp := ME.copy_is (home_mem hF0) (by rw [HSC.out, HDD.out.2]; exact hBB.2) (by rw [HSC.out, HDD.out.2]; exact hBB.1)
            rw [HSC.out, HDD.out.2, Int.toNat_natCast] at hcp
            have HGD := Lib.hid (home_good hF0)
            have HCP := Lib.hid hcp
            clear hcp hF0 hld
            go_wp2_with fail
            refine HCP.out.mono ?_
            rintro e w7 ⟨m2, rfl, hu, hmo⟩
            have HS7 := Lib.hid (HS6.out.push hu hmo)
            clear hu hmo
            have l9 := TNot.ld_at (Nt.Ok.isN HOK.out.isU) (HS7.out.box 1 rfl).whole
            have htk := take_is (Sep.pick HS7.out 3 rfl) HTB.out n HOK.out
            rw [take_code] at htk
            have hch := fun i => take_B S n i
            have hcc := take_c S n
            have hhd := had_take HHA.out HHN.out
            obtain ⟨er, her⟩ : ∃ x, readyP S n = x := ⟨_, rfl⟩
            rw [her] at htk hch
            obtain ⟨S1, hS1⟩ : ∃ x, (takeP S n).1 = x := ⟨_, rfl⟩
            obtain ⟨ns, hns⟩ : ∃ x, (takeP S n).2.1 = x := ⟨_, rfl⟩
            rw [hS1] at htk hcc hhd hch
            rw [hns] at htk
            have HTK := Lib.hid htk; have HCH := Lib.hid hch; have HHD := Lib.hid hhd; have HCC := Lib.hid (hcc.trans HSC.out)
            clear htk hch hcc hhd hS1 hns her
            go_wp2_with fail
            refine HTK.out.mono ?_
            rintro e w9 ⟨v, rfl, hs⟩
            have HS9 : Hid (Sep NoF w w9 [outO v ns, homeO hb mb S1, memO m2 B S.B, boxO nb n.cells NT, GM.mapO hadT hd M1 (hadF l1), boxO cb (CC c) CT]) := Lib.hid hs
            clear hs l9
            have k3 : w9.cell? ⟨cb, 3, none⟩ = some (.int .i64 B) := ((HS9.out.box 5 rfl).cell 3).trans (by rw [← HDD.out.2]; rfl)
            obtain ⟨F1, hF1⟩ := HS9.out.has 1 rfl
            have HG1 := Lib.hid (home_good hF1)
            clear hF1
            go_wp2_with fail
            clear k3
            obtain ⟨wq, rfl⟩ : ∃ x, x = wr := ⟨_, rfl⟩
            go_loopw [71] (fun i wr => ∃ (j : Nat), j ≤ B ∧ i = .int .i64 j ∧ Hid (Sep NoF w wr [outO v ns, homeO hb mb S1, memO m2 B S.B, boxO nb n.cells NT, GM.mapO hadT hd M1 (hadF l1), boxO cb (CC c) CT])) (fun i _ => B - (intOf i).toNat)
            case atStart => exact ⟨0, Nat.zero_le _, rfl, HS9.out⟩
            case round =>
              obtain ⟨j, hj, rfl, HI⟩ := hrel
              by_cases hjl : j < B
              · have HB1 := Lib.hid (block_at HI.out 2 rfl hBB.2 j hjl)
                obtain ⟨x, hx⟩ : ∃ x, S.B j = x := ⟨_, rfl⟩
                obtain ⟨y, hy⟩ : ∃ x, S1.B j = x := ⟨_, rfl⟩
                have HXU : Hid (IsU x) := Lib.hid (hx ▸ HGD.out.isU j)
                have HYU : Hid (IsU y) := Lib.hid (hy ▸ HG1.out.isU j)
                have hch := HCH.out j
                have hym := HHD.out.mem j
                rw [hx, hy] at hch
                rw [hy] at hym
                rw [hx] at HB1
                have HCJ := Lib.hid hch; have HYM := Lib.hid hym; have HYE := Lib.hid hy
                clear hch hym hx hy
                go_wp2_with fail
                refine HB1.out.mono ?_
                rintro e w11 ⟨rfl, hu⟩
                have s1 := TBlk.st_new HXU.out.isN w11
                have HS11 := Lib.hid ((HI.out.upd0 hu).alloc x ME.BT)
                obtain ⟨V11, hV11⟩ : ∃ V, w11.alloc (.cells x ME.BT) = V := ⟨_, rfl⟩
                obtain ⟨xb, hxb⟩ : ∃ b, w11.heap.size = b := ⟨_, rfl⟩
                rw [hV11, hxb] at HS11
                have HVE := Lib.hid (And.intro hV11 hxb)
                clear hu hV11 hxb HI
                go_upto_region 19 with fail
                rw [HVE.out.1, HVE.out.2]
                clear s1
                have HB2 := hblock_at HS11.out 2 rfl j (by rw [HCC.out, HDD.out.2]; exact hjl) (by rw [HCC.out, HDD.out.2]; exact hBB.2)
                rw [HYE.out] at HB2
                have HB3 := Lib.hid HB2
                clear HB2
                go_wp2_with fail
                refine HB3.out.mono ?_
                rintro e w12 ⟨rfl, hu⟩
                have s1 := TBlk.st_new HYU.out.isN w12
                have HS12 := Lib.hid ((HS11.out.upd0 hu).alloc y ME.BT)
                obtain ⟨V12, hV12⟩ : ∃ V, w12.alloc (.cells y ME.BT) = V := ⟨_, rfl⟩
                obtain ⟨yb, hyb⟩ : ∃ b, w12.heap.size = b := ⟨_, rfl⟩
                rw [hV12, hyb] at HS12
                have HVF := Lib.hid (And.intro hV12 hyb)
                clear hu hV12 hyb
                go_upto_region 20 with fail
                rw [HVF.out.1, HVF.out.2]
                clear s1
                have lx := TBlk.ld_at HXU.out.isN (HS12.out.box 1 rfl).whole
                have ly := TBlk.ld_at HYU.out.isN (HS12.out.box 0 rfl).whole
                have hne := neB_run HXU.out HYU.out V12
                by_cases hxy : x = y
                · subst hxy
                  have e0 : (!(words x == words x)) = false := by simp
                  rw [e0] at hne
                  clear e0
                  go_wp2_with fail
                  exact ⟨⟨j + 1, by omega, by go_num, (HS12.out.drop 0 (by simp)).drop 0 (by simp)⟩, by simp [intOf]; omega⟩
                · have e0 : (!(words x == words y)) = true := by
                    have : ¬ words x = words y := fun e => hxy ((BU.words_inj HXU.out HYU.out).1 e)
                    simp [this]
                  rw [e0] at hne
                  obtain ⟨her, hb0, hjb, hkk⟩ := HCJ.out (fun e => hxy e.symm)
                  have hjn : n.blk = (j : Int) := by omega
                  have hlk := (GM.mapIs HS12.out 6 rfl).look (a := words y) (HLO.out _ HYM.out)
                  rw [at_had HYM.out] at hlk
                  have hlk2 : (Instr.lookup 65 (.map (some hd)) (.agg y) false).run Tryd.prog V12 = .ok (.bool true) V12 := by
                    have e9 : hadT.enc (words y) = .agg y := by show Value.agg (GM.numsA .u32 (words y)) = _; rw [words_nums HYU.out]
                    rw [e9] at hlk
                    exact hlk
                  have z3 : V12.cell? ⟨nb, 3, none⟩ = some (.int .i64 j) := ((HS12.out.box 5 rfl).cell 3).trans (by rw [n.get3, hjn])
                  have z0 : V12.cell? ⟨nb, 0, none⟩ = some (.int .u8 n.kind) := ((HS12.out.box 5 rfl).cell 0).trans n.get0
                  have hjj : ((j : Int) != (j : Int)) = false := by simp
                  have hee : (er != 0) = false := by rw [her]; rfl
                  clear e0 hxy her hb0 hjb hjn hlk
                  rcases hkk with hk | hk | hk | hk
                  · rw [hk] at z0
                    clear hk
                    go_wp2_with fail
                    exact ⟨⟨j + 1, by omega, by go_num, (HS12.out.drop 0 (by simp)).drop 0 (by simp)⟩, by simp [intOf]; omega⟩
                  · rw [hk] at z0
                    clear hk
                    go_wp2_with fail
                    exact ⟨⟨j + 1, by omega, by go_num, (HS12.out.drop 0 (by simp)).drop 0 (by simp)⟩, by simp [intOf]; omega⟩
                  · rw [hk] at z0
                    clear hk
                    go_wp2_with fail
                    exact ⟨⟨j + 1, by omega, by go_num, (HS12.out.drop 0 (by simp)).drop 0 (by simp)⟩, by simp [intOf]; omega⟩
                  · rw [hk] at z0
                    clear hk
                    go_wp2_with fail
                    exact ⟨⟨j + 1, by omega, by go_num, (HS12.out.drop 0 (by simp)).drop 0 (by simp)⟩, by simp [intOf]; omega⟩
              · obtain rfl : B = j := by omega
                have HS12 := Lib.hid HI.out
                clear HI
                go_wp2_with fail
                exact ⟨⟨k + 1, S1, l1, M1, by omega, by go_num, HCC.out, HLO.out, HHD.out, HM1.out, ((HS12.out.drop 0 (by simp)).drop 1 (by simp)).drop 1 (by simp) |>.swap⟩, by simp [intOf]; omega⟩
        · obtain rfl : len1 = k := by omega
          have HS := Lib.hid HI.out.2.2.2.2
          clear HI
          go_wp2_with fail
          refine (works_is HS.out HTB.out).mono ?_
          rintro e w9 ⟨rfl, hs⟩
          have HS9 := Lib.hid hs
          clear hs
          go_wp2
          go_ret
          exact ⟨rfl, HS9.out.below⟩
    · have HMN := Lib.hid (fun W => PL.pMay_no c hm W)
      clear hm
      go_enter Tryd.func5, Tryd.ntmps5
      go_wp2_with fail
      rw [HW0.out]
      refine (HMN.out W0).mono ?_
      rintro e w1 ⟨rfl, hu⟩
      have HS1 := Lib.hid (HS0.out.upd0 hu)
      clear hu
      go_wp2_with fail
      refine (works_is HS1.out HTB.out).mono ?_
      rintro e w9 ⟨rfl, hs⟩
      have HS9 := Lib.hid hs
      clear hs
      go_wp2
      go_ret
      exact ⟨rfl, HS9.out.below⟩
end
end Go.Proofs.YtlhbnndnkcpomaaDoor.HO
