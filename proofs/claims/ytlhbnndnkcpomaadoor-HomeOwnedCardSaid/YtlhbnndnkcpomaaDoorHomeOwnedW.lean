/- HomeOwned: what the Go function does. -/
import Derived.Test.YtlhbnndnkcpomaaDoorHomeWorks
set_option linter.unusedSimpArgs false
set_option linter.unusedVariables false
namespace Go.Proofs.YtlhbnndnkcpomaaDoor.HO
open Go.RowKit
open BU (IsU words)
open PL (Cfg CC CV May)
open ME (memO sl)
open ET (run_neq_entry)
attribute [local go_sem] Oper.semAt_some
attribute [local go_sem ↓] TNot.ld_eq TNot.st_eq TNot.al_eq TNot.bx_eq
attribute [local go_sem] TNot.al_run TNot.bx_run ET.run_neq_entry
section
variable {w0 W W' : World} {hb mb : Nat} {S : Hs} {L : List Obj}
theorem entry_at (h : Sep NoF w0 W L) (i : Nat) (hi : L[i]? = some (homeO hb mb S)) (q : Nat) (hq : q < S.n) :
    Calls Tryd.prog 20 #[ptr hb, .int .i64 q] W fun e w' => e = .returned (.tuple #[.agg #[.int .i64 (S.E q).own, VM (S.E q).shr], .int .i64 0]) ∧ Upd NoF W w' := by
  obtain ⟨F, hF⟩ := h.has i hi
  have := entry_is hF (q : Int)
  have e1 : entP S q = S.E q := by unfold entP; rw [if_pos (by omega)]; rfl
  have e2 : ME.errP S.n q = 0 := by unfold ME.errP; rw [if_pos (by omega)]
  rw [e1, e2] at this
  exact this
theorem clamp_nat {D : Nat} (hD : 1 ≤ D) (b : Int) : ∃ (m : Int) (q : Nat), (if (D : Int) - 1 < b then (D : Int) - 1 else b) = m ∧ (if m < 0 then 0 else m) = (q : Int) ∧ q < D ∧ (0 ≤ b → b < D → q = b.toNat) := by
  by_cases h1 : (D : Int) - 1 < b
  · rw [if_pos h1]; exact ⟨_, D - 1, rfl, by rw [if_neg (by omega)]; omega, by omega, by omega⟩
  · rw [if_neg h1]
    by_cases h2 : b < 0
    · exact ⟨_, 0, rfl, by rw [if_pos h2]; rfl, by omega, by omega⟩
    · exact ⟨_, b.toNat, rfl, by rw [if_neg h2]; omega, by omega, fun _ _ => rfl⟩
set_option maxRecDepth 100000 in
set_option maxHeartbeats 2000000 in
theorem owned_any (c : Cfg) (a1 : Option Addr) (len1 cap1 : Nat) (N : Nat → Nt) (w : World) (hT : Tab w) (h1 : IsRowN w a1 len1 cap1 N) :
    Calls Tryd.prog 4 #[CV c, .slice a1 len1 cap1] w fun e w' => e = .returned (.bool true) ∧ Below w.heap.size w w' := by
  have HC1 := Lib.hid (fun i (hi : i < len1) => h1.at hi)
  have HTB := Lib.hid hT
  obtain ⟨lc1, m1, _⟩ := h1
  unfold maxLen at m1
  obtain ⟨W0, hW0⟩ : ∃ W0, w.alloc (.cells (CC c) CT) = W0 := ⟨_, rfl⟩
  have HS0 : Hid (Sep NoF w W0 [boxO w.heap.size (CC c) CT]) := Lib.hid (by rw [← hW0]; exact (Sep.zero NoF w).alloc _ _)
  have HW0 := Lib.hid hW0
  clear hW0 hT
  by_cases g1 : 300 < len1
  · have hb1 : decide ((300 : Int) < (len1 : Int)) = true := by simp; omega
    go_enter Tryd.func4, Tryd.ntmps4
    go_wp2_with fail
    rw [HW0.out]
    refine (works_is HS0.out HTB.out).mono ?_
    rintro e w9 ⟨rfl, hs⟩
    have HS9 := Lib.hid hs
    clear hs
    go_wp2
    go_ret
    exact ⟨rfl, HS9.out.below⟩
  · have hb1 : decide ((300 : Int) < (len1 : Int)) = false := by simp; omega
    by_cases hm : May c
    · have hmd := mul_data hm
      have HMY := Lib.hid (fun W => PL.pMay_yes c hm W)
      obtain ⟨B, hB⟩ : ∃ B : Nat, c.blocks = B := ⟨c.blocks.toNat, by omega⟩
      obtain ⟨D, hD⟩ : ∃ D : Nat, c.blocks - c.cores * c.logs = D := ⟨(c.blocks - c.cores * c.logs).toNat, by omega⟩
      have hdat := fun W => PL.pData_yes c hm W
      rw [hD] at hdat
      have HDAT := Lib.hid hdat
      have HME := Lib.hid (fun W => ME.new_ok B (by omega) (by omega) W)
      have HNW := Lib.hid (fun (mb' : Nat) (W : World) (L : List Obj) (h : Sep NoF w W (memO mb' B (fun _ => TBlk.Z) :: L)) => new_yes h c hm hB (fun _ => BU.isU_Z))
      have hDD : 1 ≤ D ∧ D ≤ 255 := by omega
      have HMM := Lib.hid hm
      have HDD := Lib.hid (And.intro hD hB)
      clear hdat hmd hm hD hB
      go_enter Tryd.func4, Tryd.ntmps4
      go_wp2_with fail
      rw [HW0.out]
      refine (HMY.out W0).mono ?_
      rintro e w1 ⟨rfl, hu⟩
      have HS1 := Lib.hid (HS0.out.upd0 hu)
      clear hu
      obtain ⟨cb, hcb⟩ : ∃ x, w.heap.size = x := ⟨_, rfl⟩
      rw [hcb] at HS1 ⊢
      obtain ⟨k0, k1, k2, k3, k4, k5, k6, k7⟩ : (w1.cell? ⟨cb, 0, none⟩ = some (.int .i64 c.cores) ∧ w1.cell? ⟨cb, 1, none⟩ = some (.int .i64 c.sets) ∧ w1.cell? ⟨cb, 2, none⟩ = some (.int .i64 c.ways) ∧ w1.cell? ⟨cb, 3, none⟩ = some (.int .i64 c.blocks) ∧ w1.cell? ⟨cb, 4, none⟩ = some (.int .i64 c.logs) ∧ w1.cell? ⟨cb, 5, none⟩ = some (.int .i64 c.backs) ∧ w1.cell? ⟨cb, 6, none⟩ = some (.int .i64 c.nest) ∧ w1.cell? ⟨cb, 7, none⟩ = some (.int .i64 c.tries)) := ⟨(HS1.out.box 0 rfl).cell 0, (HS1.out.box 0 rfl).cell 1, (HS1.out.box 0 rfl).cell 2, (HS1.out.box 0 rfl).cell 3, (HS1.out.box 0 rfl).cell 4, (HS1.out.box 0 rfl).cell 5, (HS1.out.box 0 rfl).cell 6, (HS1.out.box 0 rfl).cell 7⟩
      rw [HDD.out.2] at k3
      go_wp2_with fail
      refine (HME.out _).mono ?_
      rintro e w2 ⟨mb, rfl, hu, hmo⟩
      have HS2 := Lib.hid (HS1.out.push hu hmo)
      clear hu hmo k0 k1 k2 k3 k4 k5 k6 k7
      obtain ⟨k0, k1, k2, k3, k4, k5, k6, k7⟩ : (w2.cell? ⟨cb, 0, none⟩ = some (.int .i64 c.cores) ∧ w2.cell? ⟨cb, 1, none⟩ = some (.int .i64 c.sets) ∧ w2.cell? ⟨cb, 2, none⟩ = some (.int .i64 c.ways) ∧ w2.cell? ⟨cb, 3, none⟩ = some (.int .i64 c.blocks) ∧ w2.cell? ⟨cb, 4, none⟩ = some (.int .i64 c.logs) ∧ w2.cell? ⟨cb, 5, none⟩ = some (.int .i64 c.backs) ∧ w2.cell? ⟨cb, 6, none⟩ = some (.int .i64 c.nest) ∧ w2.cell? ⟨cb, 7, none⟩ = some (.int .i64 c.tries)) := ⟨(HS2.out.box 1 rfl).cell 0, (HS2.out.box 1 rfl).cell 1, (HS2.out.box 1 rfl).cell 2, (HS2.out.box 1 rfl).cell 3, (HS2.out.box 1 rfl).cell 4, (HS2.out.box 1 rfl).cell 5, (HS2.out.box 1 rfl).cell 6, (HS2.out.box 1 rfl).cell 7⟩
      go_wp2_with fail
      refine (HNW.out _ _ _ HS2.out).mono ?_
      rintro e w3 ⟨hb, rfl, hs⟩
      have HS3 := Lib.hid hs
      clear hs k0 k1 k2 k3 k4 k5 k6 k7
      go_wp2_with fail
      go_loopw [49] (fun i wr => ∃ (k : Nat) (S : Hs), k ≤ len1 ∧ i = .int .i64 k ∧ Hid (S.c = c ∧ Inv S ∧ Sep NoF w wr [homeO hb mb S, boxO cb (CC c) CT])) (fun i _ => len1 - (intOf i).toNat)
      case atStart => exact ⟨0, _, Nat.zero_le _, rfl, rfl, inv_new _ _, HS3.out⟩
      case round =>
        obtain ⟨k, S, hk, rfl, HI⟩ := hrel
        by_cases hlt : k < len1
        · obtain ⟨hok, x, g, q, rfl, hxa, hgl, hrg⟩ := HC1.out k hlt
          have HOK := Lib.hid hok
          have hrw : wr.rangeAt g q (N k).cells.toList := fun j v hv => HI.out.2.2.old (hrg j v hv)
          have hrw2 : (wr.alloc (.cells TNot.Z 47)).rangeAt g q (N k).cells.toList := World.rangeAt_alloc hrw _
          generalize N k = n at *
          have l1 := TNot.ld_at (Nt.Ok.isN HOK.out.isU) hrw
          have l2 := TNot.ld_at (Nt.Ok.isN HOK.out.isU) hrw2
          have s1 := TNot.st_new (Nt.Ok.isN HOK.out.isU) wr
          obtain ⟨V, hV⟩ : ∃ W, (wr.alloc (.cells n.cells NT)).alloc (.cells #[.int .i64 0, .int .u32 0] ET') = W := ⟨_, rfl⟩
          have hs5 := (HI.out.2.2.alloc n.cells NT).alloc #[.int .i64 0, .int .u32 0] ET'
          rw [World.size_alloc, hV] at hs5
          obtain ⟨hSc, hSi, -⟩ := HI.out
          have hSn : S.n = D := by unfold Hs.n Hs.data; rw [hSc, HDD.out.1]; rfl
          have hSd : S.data = D := by unfold Hs.data; rw [hSc]; exact HDD.out.1
          have HSC := Lib.hid hSc; have HSI := Lib.hid hSi; have HSN := Lib.hid hSn; have HSD := Lib.hid hSd
          have HV := Lib.hid hV
          have HS5 := Lib.hid hs5
          clear hV hs5 HI hok hrw hrw2 hrg hSc hSi hSn hSd
          go_upto_region 11 with fail
          rw [HV.out]
          clear HV l1 l2 s1
          obtain ⟨nb, hnb⟩ : ∃ b, wr.heap.size = b := ⟨_, rfl⟩
          obtain ⟨eb, heb⟩ : ∃ b, nb + 1 = b := ⟨_, rfl⟩
          rw [hnb, heb] at HS5 ⊢
          clear hnb heb
          have HF := Lib.hid (fun X (hX : Upd NoF V X) => (show X.cell? ⟨nb, 3, none⟩ = some (.int .i64 n.blk) ∧ X.cell? ⟨cb, 0, none⟩ = some (.int .i64 c.cores) ∧ X.cell? ⟨cb, 1, none⟩ = some (.int .i64 c.sets) ∧ X.cell? ⟨cb, 2, none⟩ = some (.int .i64 c.ways) ∧ X.cell? ⟨cb, 3, none⟩ = some (.int .i64 c.blocks) ∧ X.cell? ⟨cb, 4, none⟩ = some (.int .i64 c.logs) ∧ X.cell? ⟨cb, 5, none⟩ = some (.int .i64 c.backs) ∧ X.cell? ⟨cb, 6, none⟩ = some (.int .i64 c.nest) ∧ X.cell? ⟨cb, 7, none⟩ = some (.int .i64 c.tries) from
            ⟨(((HS5.out.box 1 rfl).upd hX (fun h => h)).cell 3).trans n.get3, ((HS5.out.box 3 rfl).upd hX (fun h => h)).cell 0, ((HS5.out.box 3 rfl).upd hX (fun h => h)).cell 1, ((HS5.out.box 3 rfl).upd hX (fun h => h)).cell 2, ((HS5.out.box 3 rfl).upd hX (fun h => h)).cell 3, ((HS5.out.box 3 rfl).upd hX (fun h => h)).cell 4, ((HS5.out.box 3 rfl).upd hX (fun h => h)).cell 5, ((HS5.out.box 3 rfl).upd hX (fun h => h)).cell 6, ((HS5.out.box 3 rfl).upd hX (fun h => h)).cell 7⟩))
          have HD0 := Lib.hid (Upd.drew NoF V)
          have hwd : IntKind.i64.wrap ((D : Int) - 1) = (D : Int) - 1 := IntWalk.i64_in _ (by omega)
          refine wp_region_held_drew (S := (fun X => Upd NoF V X)) (by kernel_rfl) (HD0.out) (fun hHeld => ?_)
          refine reg_on (i := 0) (v := ?vr1_0) rfl (by kernel_rfl) (by kernel_rfl) (by kernel_rfl) (fun _ _ _ h => h) (by kernel_rfl) hHeld ?yr1_0 ?_
          case yr1_0 => (intro w hSw; (try dsimp only at hSw); obtain ⟨m3, k0, k1, k2, k3, k4, k5, k6, k7⟩ := HF.out _ hSw; go_simp; first | done | with_reducible rfl)
          simp only [Act.put, List.setIfInBounds_toArray, List.set_cons_zero, List.set_cons_succ, List.getElem_toArray, List.getElem_cons_succ, List.getElem_cons_zero]
          refine reg_on (i := 1) (v := ?vr1_1) rfl (by kernel_rfl) (by kernel_rfl) (by kernel_rfl) (fun _ _ _ h => h) (by kernel_rfl) hHeld ?yr1_1 ?_
          case yr1_1 => (intro w hSw; (try dsimp only at hSw); obtain ⟨m3, k0, k1, k2, k3, k4, k5, k6, k7⟩ := HF.out _ hSw; go_simp; first | done | with_reducible rfl)
          simp only [Act.put, List.setIfInBounds_toArray, List.set_cons_zero, List.set_cons_succ, List.getElem_toArray, List.getElem_cons_succ, List.getElem_cons_zero]
          refine reg_on (i := 2) (v := ?vr1_2) rfl (by kernel_rfl) (by kernel_rfl) (by kernel_rfl) (fun _ _ _ h => h) (by kernel_rfl) hHeld ?yr1_2 ?_
          case yr1_2 => (intro w hSw; (try dsimp only at hSw); obtain ⟨m3, k0, k1, k2, k3, k4, k5, k6, k7⟩ := HF.out _ hSw; go_simp; first | done | with_reducible rfl)
          simp only [Act.put, List.setIfInBounds_toArray, List.set_cons_zero, List.set_cons_succ, List.getElem_toArray, List.getElem_cons_succ, List.getElem_cons_zero]
          refine reg_step (i := 3) (by kernel_rfl) rfl (by kernel_rfl) (fun K hK => ?_)
          go_simp
          refine (HDAT.out _).mono ?_
          rintro e w6 ⟨rfl, hu⟩
          have HS : (fun X => Upd NoF V X) w6 := hHeld.trans hu (fun _ _ h => h)
          clear hu
          go_wp2_with fail
          refine hK.out _ _ HS (fun hHeld2 => ?_)
          clear hK hHeld2 hHeld
          have hHeld := HS
          clear HS
          try simp only [Act.put, List.setIfInBounds_toArray, List.set_cons_zero, List.set_cons_succ, List.getElem_toArray, List.getElem_cons_succ, List.getElem_cons_zero]
          refine reg_on (i := 4) (v := ?vr1_4) rfl (by kernel_rfl) (by kernel_rfl) (by kernel_rfl) (fun _ _ _ h => h) (by kernel_rfl) hHeld ?yr1_4 ?_
          case yr1_4 => (intro w hSw; (try dsimp only at hSw); obtain ⟨m3, k0, k1, k2, k3, k4, k5, k6, k7⟩ := HF.out _ hSw; go_simp; first | done | with_reducible rfl)
          simp only [Act.put, List.setIfInBounds_toArray, List.set_cons_zero, List.set_cons_succ, List.getElem_toArray, List.getElem_cons_succ, List.getElem_cons_zero]
          refine reg_on (i := 5) (v := ?vr1_5) rfl (by kernel_rfl) (by kernel_rfl) (by kernel_rfl) (fun _ _ _ h => h) (by kernel_rfl) hHeld ?yr1_5 ?_
          case yr1_5 => (intro w hSw; (try dsimp only at hSw); obtain ⟨m3, k0, k1, k2, k3, k4, k5, k6, k7⟩ := HF.out _ hSw; go_simp; first | done | with_reducible rfl)
          simp only [Act.put, List.setIfInBounds_toArray, List.set_cons_zero, List.set_cons_succ, List.getElem_toArray, List.getElem_cons_succ, List.getElem_cons_zero]
          refine reg_on (i := 6) (v := ?vr1_6) rfl (by kernel_rfl) (by kernel_rfl) (by kernel_rfl) (fun _ _ _ h => h) (by kernel_rfl) hHeld ?yr1_6 ?_
          case yr1_6 => (intro w hSw; (try dsimp only at hSw); obtain ⟨m3, k0, k1, k2, k3, k4, k5, k6, k7⟩ := HF.out _ hSw; go_simp; first | done | with_reducible rfl)
          simp only [Act.put, List.setIfInBounds_toArray, List.set_cons_zero, List.set_cons_succ, List.getElem_toArray, List.getElem_cons_succ, List.getElem_cons_zero]
          refine reg_on (i := 7) (v := ?vr1_7) rfl (by kernel_rfl) (by kernel_rfl) (by kernel_rfl) (fun _ _ _ h => h) (by kernel_rfl) hHeld ?yr1_7 ?_
          case yr1_7 => (intro w hSw; (try dsimp only at hSw); obtain ⟨m3, k0, k1, k2, k3, k4, k5, k6, k7⟩ := HF.out _ hSw; go_simp; first | done | with_reducible rfl)
          simp only [Act.put, List.setIfInBounds_toArray, List.set_cons_zero, List.set_cons_succ, List.getElem_toArray, List.getElem_cons_succ, List.getElem_cons_zero]
          refine wpAnyH_done (by kernel_rfl) ?_ _
          have HS6 := Lib.hid (HS5.out.upd0 hHeld)
          obtain ⟨mn, q, hmn, hq, hqD, hqe⟩ := clamp_nat hDD.1 n.blk
          rw [hmn, hq]
          obtain ⟨x0, hx0⟩ : ∃ x, S.E q = x := ⟨_, rfl⟩
          have hen := entry_at HS6.out 2 rfl q (by rw [HSN.out]; exact hqD)
          rw [hx0] at hen
          have HEN := Lib.hid hen; have HQ := Lib.hid (And.intro hqD hqe); have HX0 := Lib.hid hx0
          clear hen hHeld hq hqe hx0 hmn
          go_wp2_with fail
          refine HEN.out.mono ?_
          rintro e w7 ⟨rfl, hu⟩
          have HS7 := Lib.hid (HS6.out.upd0 hu)
          have d0 : w7.cell? ⟨eb, 0, none⟩ = some (.int .i64 0) := (HS7.out.box 0 rfl).cell 0
          have d1 : w7.cell? ⟨eb, 1, none⟩ = some (.int .u32 0) := (HS7.out.box 0 rfl).cell 1
          have f0 := (HS7.out.box 0 rfl).frozen 0
          have f1 := (HS7.out.box 0 rfl).frozen 1
          have hs8 := (HS7.out.set 0 rfl 0 (.int .i64 x0.own)).set 0 rfl 1 (VM x0.shr)
          obtain ⟨V8, hV8⟩ : ∃ V, (w7.setCell ⟨eb, 0, none⟩ (.int .i64 x0.own)).setCell ⟨eb, 1, none⟩ (VM x0.shr) = V := ⟨_, rfl⟩
          rw [hV8] at hs8
          have HS8 : Hid (Sep NoF w V8 [boxO eb #[.int .i64 x0.own, VM x0.shr] ET', boxO nb n.cells NT, homeO hb mb S, boxO cb (CC c) CT]) := Lib.hid hs8
          have HV8 := Lib.hid hV8
          clear hs8 hV8 hu
          go_upto_region 13 with fail
          rw [HV8.out]
          clear d0 d1 f0 f1 HV8
          have l9 := TNot.ld_at (Nt.Ok.isN HOK.out.isU) (HS8.out.box 1 rfl).whole
          have htk := take_is (Sep.pick HS8.out 2 rfl) HTB.out n HOK.out
          by_cases hr : readyP S n = 0
          · obtain ⟨F0, hF0⟩ := HS8.out.has 2 rfl
            have hgd := home_good hF0
            have how := take_owned HSI.out (fun b j hj => (hgd.key b j hj).2.2.1) hr
            have hcd := take_code S n
            have hcc := take_c S n
            have hnu := take_isU hgd HOK.out
            have hiv := inv_take HSI.out n
            obtain ⟨hmay, -, hb0, hbl, -, -, -⟩ := ready_zero hr
            have hqb := HQ.out.2 hb0 (by have := HSD.out; omega)
            obtain ⟨o1, o2, o3, o4⟩ := how
            rw [hr] at hcd
            rw [hcd] at htk
            rw [← hqb] at o2 o3 o4
            rw [HX0.out] at o2 o3
            obtain ⟨S1, hS1⟩ : ∃ x, (takeP S n).1 = x := ⟨_, rfl⟩
            obtain ⟨ns, hns⟩ : ∃ x, (takeP S n).2.1 = x := ⟨_, rfl⟩
            rw [hS1] at htk hcc hiv o2 o4
            rw [hns] at htk hnu o1 o2 o3 o4
            obtain ⟨x1, hx1⟩ : ∃ x, S1.E q = x := ⟨_, rfl⟩
            rw [hx1] at o2 o4
            have HTK := Lib.hid htk; have HNU := Lib.hid hnu; have HO1 := Lib.hid o1; have HO2 := Lib.hid o2; have HO3 := Lib.hid o3; have HO4 := Lib.hid o4; have HIV := Lib.hid hiv; have HX1 := Lib.hid hx1
            have HCC := Lib.hid (hcc.trans HSC.out)
            have HSN1 : Hid (S1.n = D) := Lib.hid (by unfold Hs.n Hs.data; rw [HCC.out, HDD.out.1]; rfl)
            clear htk hnu o1 o2 o3 o4 hiv hx1 hcc hcd hS1 hns hF0 hgd hr hmay hb0 hbl hqb
            go_wp2_with fail
            refine HTK.out.mono ?_
            rintro e w9 ⟨v, rfl, hs⟩
            obtain ⟨a, cap, rfl, hnc, hcm, hcell⟩ := NQ.s_row (hs.row 0 rfl) HNU.out
            unfold maxLen at hcm
            have HS9 := Lib.hid hs
            have hen := entry_at HS9.out 1 rfl q (by rw [HSN1.out]; exact HQ.out.1)
            rw [HX1.out] at hen
            have HEN2 := Lib.hid hen
            clear hs hen hcell l9
            go_wp2_with fail
            refine HEN2.out.mono ?_
            rintro e w10 ⟨rfl, hu⟩
            have hs11 := (HS9.out.upd0 hu).alloc #[.int .i64 x1.own, VM x1.shr] ET'
            obtain ⟨V11, hV11⟩ : ∃ V, w10.alloc (.cells #[.int .i64 x1.own, VM x1.shr] ET') = V := ⟨_, rfl⟩
            obtain ⟨e2, he2⟩ : ∃ x, w10.heap.size = x := ⟨_, rfl⟩
            rw [hV11, he2] at hs11
            have HS11 : Hid (Sep NoF w V11 [boxO e2 #[.int .i64 x1.own, VM x1.shr] ET', outO (.slice a ns.length cap) ns, homeO hb mb S1, boxO eb #[.int .i64 x0.own, VM x0.shr] ET', boxO nb n.cells NT, boxO cb (CC c) CT]) := Lib.hid hs11
            have HVE := Lib.hid (And.intro hV11 he2)
            clear hs11 hV11 he2 hu
            go_upto_region 17 with fail
            rw [HVE.out.1, HVE.out.2]
            clear HVE
            go_wp2_with fail
            obtain ⟨wq, rfl⟩ : ∃ x, x = wr := ⟨_, rfl⟩
            go_loopw [92] (fun i wr => ∃ (j : Nat), j ≤ ns.length ∧ i = .int .i64 j ∧ Hid (Sep NoF w wr [boxO e2 #[.int .i64 x1.own, VM x1.shr] ET', outO (.slice a ns.length cap) ns, homeO hb mb S1, boxO eb #[.int .i64 x0.own, VM x0.shr] ET', boxO nb n.cells NT, boxO cb (CC c) CT])) (fun i _ => ns.length - (intOf i).toNat)
            case atStart => exact ⟨0, Nat.zero_le _, rfl, HS11.out⟩
            case round =>
              obtain ⟨j, hj, rfl, HI⟩ := hrel
              by_cases hjl : j < ns.length
              · obtain ⟨y, hy⟩ : ∃ n, ns[j]? = some n := ⟨_, List.getElem?_eq_getElem hjl⟩
                have hym := List.mem_of_getElem? hy
                obtain ⟨hyf, hyb⟩ := HO1.out y hym
                obtain ⟨a2, cap2, hae, _, _, hcell⟩ := NQ.s_row (HI.out.row 1 rfl) HNU.out
                cases hae
                obtain ⟨g2, rfl, hrg⟩ := hcell j y hy
                have l1 := TNot.ld_at (Nt.Ok.isN (HNU.out y hym)) hrg
                have l2 := TNot.ld_at (Nt.Ok.isN (HNU.out y hym)) (World.rangeAt_alloc hrg (.cells TNot.Z NT))
                have s1 := TNot.st_new (Nt.Ok.isN (HNU.out y hym)) wr
                have hs12 := HI.out.alloc y.cells NT
                obtain ⟨V12, hV12⟩ : ∃ W, wr.alloc (.cells y.cells NT) = W := ⟨_, rfl⟩
                obtain ⟨yb, hyb'⟩ : ∃ x, wr.heap.size = x := ⟨_, rfl⟩
                rw [hV12, hyb'] at hs12
                have HS12 := Lib.hid hs12
                have HVE := Lib.hid (And.intro hV12 hyb')
                have HY := Lib.hid (And.intro hyf hyb)
                clear hs12 hV12 hyb' hcell hrg hy hym HI hyf hyb
                go_upto_region 23 with fail
                rw [HVE.out.1, HVE.out.2]
                clear HVE l1 l2 s1
                have y0 : V12.cell? ⟨yb, 0, none⟩ = some (.int .u8 y.kind) := ((HS12.out.box 0 rfl).cell 0).trans y.get0
                have y1 : V12.cell? ⟨yb, 1, none⟩ = some (.int .i64 (-1)) := ((HS12.out.box 0 rfl).cell 1).trans (by rw [y.get1, HY.out.1])
                have y3 : V12.cell? ⟨yb, 3, none⟩ = some (.int .i64 n.blk) := ((HS12.out.box 0 rfl).cell 3).trans (by rw [y.get3, HY.out.2])
                have z0 : V12.cell? ⟨nb, 0, none⟩ = some (.int .u8 n.kind) := ((HS12.out.box 5 rfl).cell 0).trans n.get0
                have z3 : V12.cell? ⟨nb, 3, none⟩ = some (.int .i64 n.blk) := ((HS12.out.box 5 rfl).cell 3).trans n.get3
                have p0 : V12.cell? ⟨e2, 0, none⟩ = some (.int .i64 x1.own) := (HS12.out.box 1 rfl).cell 0
                have p1 : V12.cell? ⟨e2, 1, none⟩ = some (VM x1.shr) := (HS12.out.box 1 rfl).cell 1
                have p2 : V12.cell? ⟨eb, 0, none⟩ = some (.int .i64 x0.own) := (HS12.out.box 4 rfl).cell 0
                have p3 : V12.cell? ⟨eb, 1, none⟩ = some (VM x0.shr) := (HS12.out.box 4 rfl).cell 1
                have hnb : (n.blk != n.blk) = false := by simp
                have HO2' := HO2.out
                by_cases c1 : y.kind = 7
                · have b1 : (y.kind == 7) = true := by simpa using c1
                  by_cases c2 : n.kind = 10
                  · have b2 : (n.kind == 10) = true := by simpa using c2
                    by_cases c3 : ns.length = 1
                    · have b3 : ((ns.length : Int) == 1) = true := by simp [c3]
                      obtain rfl : x1 = x0 := HO2' c2 c3
                      clear c1 c2 c3 HO2'
                      go_wp2_with fail
                      exact ⟨⟨j + 1, by omega, by go_num, HS12.out.drop 0 (by simp)⟩, by simp [intOf]; omega⟩
                    · have b3 : ((ns.length : Int) == 1) = false := by simp; omega
                      clear c1 c2 c3 HO2'
                      go_wp2_with fail
                      exact ⟨⟨j + 1, by omega, by go_num, HS12.out.drop 0 (by simp)⟩, by simp [intOf]; omega⟩
                  · have b2 : (n.kind == 10) = false := by simpa using c2
                    clear c1 c2 HO2'
                    go_wp2_with fail
                    exact ⟨⟨j + 1, by omega, by go_num, HS12.out.drop 0 (by simp)⟩, by simp [intOf]; omega⟩
                · have b1 : (y.kind == 7) = false := by simpa using c1
                  clear c1 HO2'
                  go_wp2_with fail
                  exact ⟨⟨j + 1, by omega, by go_num, HS12.out.drop 0 (by simp)⟩, by simp [intOf]; omega⟩
              · obtain rfl : ns.length = j := by omega
                have HS12 := Lib.hid HI.out
                clear HI hj hjl
                have z0 : wr.cell? ⟨nb, 0, none⟩ = some (.int .u8 n.kind) := ((HS12.out.box 4 rfl).cell 0).trans n.get0
                have p0 : wr.cell? ⟨e2, 0, none⟩ = some (.int .i64 x1.own) := (HS12.out.box 0 rfl).cell 0
                have p1 : wr.cell? ⟨e2, 1, none⟩ = some (VM x1.shr) := (HS12.out.box 0 rfl).cell 1
                have p2 : wr.cell? ⟨eb, 0, none⟩ = some (.int .i64 x0.own) := (HS12.out.box 3 rfl).cell 0
                have HCT := Lib.hid (fun W => (show Calls Tryd.prog 21 #[VM 0#32] W (fun e w' => e = .returned (.int .i64 0) ∧ Upd NoF W w') from by have := ML.count_any 0#32 W; rw [bitsL_zero] at this; exact this))
                by_cases h0 : ns.length = 0
                · have hz : decide ((0 : Int) < (ns.length : Int)) = false := decide_eq_false (by omega)
                  have HF2 := Lib.hid (fun X (hX : Upd NoF wr X) => (show X.cell? ⟨nb, 0, none⟩ = some (.int .u8 n.kind) ∧ X.cell? ⟨eb, 0, none⟩ = some (.int .i64 x0.own) ∧ X.cell? ⟨e2, 0, none⟩ = some (.int .i64 x1.own) ∧ X.cell? ⟨e2, 1, none⟩ = some (VM x1.shr) ∧ True ∧ True from ⟨hX.cell z0 (fun h => h), hX.cell p2 (fun h => h), hX.cell p0 (fun h => h), hX.cell p1 (fun h => h), trivial, trivial⟩))
                  clear z0 p0 p1 p2
                  go_upto_region 29 with fail
                  have HD1 := Lib.hid (Upd.drew NoF wr)
                  refine wp_region_held_drew (S := (fun X => Upd NoF wr X)) (by kernel_rfl) (HD1.out) (fun hHeld => ?_)
                  refine reg_on (i := 0) (v := .bool false) rfl (by kernel_rfl) (by kernel_rfl) (by kernel_rfl) (fun _ _ _ h => h) (by kernel_rfl) hHeld ?yr2_0 ?_
                  case yr2_0 => (intro w hSw; (try dsimp only at hSw); obtain ⟨z0, p2, p0, p1, y2, y5⟩ := HF2.out _ hSw; go_simp; first | done | with_reducible rfl)
                  simp only [Act.put, List.setIfInBounds_toArray, List.set_cons_zero, List.set_cons_succ, List.getElem_toArray, List.getElem_cons_succ, List.getElem_cons_zero]
                  refine reg_on (i := 1) (v := .bool false) rfl (by kernel_rfl) (by kernel_rfl) (by kernel_rfl) (fun _ _ _ h => h) (by kernel_rfl) hHeld ?yr2_1 ?_
                  case yr2_1 => (intro w hSw; (try dsimp only at hSw); obtain ⟨z0, p2, p0, p1, y2, y5⟩ := HF2.out _ hSw; go_simp; first | done | with_reducible rfl)
                  simp only [Act.put, List.setIfInBounds_toArray, List.set_cons_zero, List.set_cons_succ, List.getElem_toArray, List.getElem_cons_succ, List.getElem_cons_zero]
                  refine reg_off (i := 2) rfl (by kernel_rfl) (by kernel_rfl) (by kernel_rfl) (fun _ _ _ h => h) (by kernel_rfl) hHeld ?_
                  simp only [Act.put, List.setIfInBounds_toArray, List.set_cons_zero, List.set_cons_succ, List.getElem_toArray, List.getElem_cons_succ, List.getElem_cons_zero]
                  refine reg_off (i := 3) rfl (by kernel_rfl) (by kernel_rfl) (by kernel_rfl) (fun _ _ _ h => h) (by kernel_rfl) hHeld ?_
                  simp only [Act.put, List.setIfInBounds_toArray, List.set_cons_zero, List.set_cons_succ, List.getElem_toArray, List.getElem_cons_succ, List.getElem_cons_zero]
                  refine reg_off (i := 4) rfl (by kernel_rfl) (by kernel_rfl) (by kernel_rfl) (fun _ _ _ h => h) (by kernel_rfl) hHeld ?_
                  simp only [Act.put, List.setIfInBounds_toArray, List.set_cons_zero, List.set_cons_succ, List.getElem_toArray, List.getElem_cons_succ, List.getElem_cons_zero]
                  refine reg_off (i := 5) rfl (by kernel_rfl) (by kernel_rfl) (by kernel_rfl) (fun _ _ _ h => h) (by kernel_rfl) hHeld ?_
                  simp only [Act.put, List.setIfInBounds_toArray, List.set_cons_zero, List.set_cons_succ, List.getElem_toArray, List.getElem_cons_succ, List.getElem_cons_zero]
                  refine reg_on (i := 6) (v := .bool false) rfl (by kernel_rfl) (by kernel_rfl) (by kernel_rfl) (fun _ _ _ h => h) (by kernel_rfl) hHeld ?yr2_6 ?_
                  case yr2_6 => (intro w hSw; (try dsimp only at hSw); obtain ⟨z0, p2, p0, p1, y2, y5⟩ := HF2.out _ hSw; go_simp; first | done | with_reducible rfl)
                  simp only [Act.put, List.setIfInBounds_toArray, List.set_cons_zero, List.set_cons_succ, List.getElem_toArray, List.getElem_cons_succ, List.getElem_cons_zero]
                  refine reg_on (i := 7) (v := .bool false) rfl (by kernel_rfl) (by kernel_rfl) (by kernel_rfl) (fun _ _ _ h => h) (by kernel_rfl) hHeld ?yr2_7 ?_
                  case yr2_7 => (intro w hSw; (try dsimp only at hSw); obtain ⟨z0, p2, p0, p1, y2, y5⟩ := HF2.out _ hSw; go_simp; first | done | with_reducible rfl)
                  simp only [Act.put, List.setIfInBounds_toArray, List.set_cons_zero, List.set_cons_succ, List.getElem_toArray, List.getElem_cons_succ, List.getElem_cons_zero]
                  refine reg_off (i := 8) rfl (by kernel_rfl) (by kernel_rfl) (by kernel_rfl) (fun _ _ _ h => h) (by kernel_rfl) hHeld ?_
                  simp only [Act.put, List.setIfInBounds_toArray, List.set_cons_zero, List.set_cons_succ, List.getElem_toArray, List.getElem_cons_succ, List.getElem_cons_zero]
                  refine reg_off (i := 9) rfl (by kernel_rfl) (by kernel_rfl) (by kernel_rfl) (fun _ _ _ h => h) (by kernel_rfl) hHeld ?_
                  simp only [Act.put, List.setIfInBounds_toArray, List.set_cons_zero, List.set_cons_succ, List.getElem_toArray, List.getElem_cons_succ, List.getElem_cons_zero]
                  refine reg_off (i := 10) rfl (by kernel_rfl) (by kernel_rfl) (by kernel_rfl) (fun _ _ _ h => h) (by kernel_rfl) hHeld ?_
                  simp only [Act.put, List.setIfInBounds_toArray, List.set_cons_zero, List.set_cons_succ, List.getElem_toArray, List.getElem_cons_succ, List.getElem_cons_zero]
                  refine reg_on (i := 11) (v := .bool false) rfl (by kernel_rfl) (by kernel_rfl) (by kernel_rfl) (fun _ _ _ h => h) (by kernel_rfl) hHeld ?yr2_11 ?_
                  case yr2_11 => (intro w hSw; (try dsimp only at hSw); obtain ⟨z0, p2, p0, p1, y2, y5⟩ := HF2.out _ hSw; go_simp; first | done | with_reducible rfl)
                  simp only [Act.put, List.setIfInBounds_toArray, List.set_cons_zero, List.set_cons_succ, List.getElem_toArray, List.getElem_cons_succ, List.getElem_cons_zero]
                  refine reg_on (i := 12) (v := .bool false) rfl (by kernel_rfl) (by kernel_rfl) (by kernel_rfl) (fun _ _ _ h => h) (by kernel_rfl) hHeld ?yr2_12 ?_
                  case yr2_12 => (intro w hSw; (try dsimp only at hSw); obtain ⟨z0, p2, p0, p1, y2, y5⟩ := HF2.out _ hSw; go_simp; first | done | with_reducible rfl)
                  simp only [Act.put, List.setIfInBounds_toArray, List.set_cons_zero, List.set_cons_succ, List.getElem_toArray, List.getElem_cons_succ, List.getElem_cons_zero]
                  refine reg_off (i := 13) rfl (by kernel_rfl) (by kernel_rfl) (by kernel_rfl) (fun _ _ _ h => h) (by kernel_rfl) hHeld ?_
                  simp only [Act.put, List.setIfInBounds_toArray, List.set_cons_zero, List.set_cons_succ, List.getElem_toArray, List.getElem_cons_succ, List.getElem_cons_zero]
                  refine reg_off (i := 14) rfl (by kernel_rfl) (by kernel_rfl) (by kernel_rfl) (fun _ _ _ h => h) (by kernel_rfl) hHeld ?_
                  simp only [Act.put, List.setIfInBounds_toArray, List.set_cons_zero, List.set_cons_succ, List.getElem_toArray, List.getElem_cons_succ, List.getElem_cons_zero]
                  refine reg_off (i := 15) rfl (by kernel_rfl) (by kernel_rfl) (by kernel_rfl) (fun _ _ _ h => h) (by kernel_rfl) hHeld ?_
                  simp only [Act.put, List.setIfInBounds_toArray, List.set_cons_zero, List.set_cons_succ, List.getElem_toArray, List.getElem_cons_succ, List.getElem_cons_zero]
                  refine reg_off (i := 16) rfl (by kernel_rfl) (by kernel_rfl) (by kernel_rfl) (fun _ _ _ h => h) (by kernel_rfl) hHeld ?_
                  simp only [Act.put, List.setIfInBounds_toArray, List.set_cons_zero, List.set_cons_succ, List.getElem_toArray, List.getElem_cons_succ, List.getElem_cons_zero]
                  refine reg_off (i := 17) rfl (by kernel_rfl) (by kernel_rfl) (by kernel_rfl) (fun _ _ _ h => h) (by kernel_rfl) hHeld ?_
                  simp only [Act.put, List.setIfInBounds_toArray, List.set_cons_zero, List.set_cons_succ, List.getElem_toArray, List.getElem_cons_succ, List.getElem_cons_zero]
                  refine reg_off (i := 18) rfl (by kernel_rfl) (by kernel_rfl) (by kernel_rfl) (fun _ _ _ h => h) (by kernel_rfl) hHeld ?_
                  simp only [Act.put, List.setIfInBounds_toArray, List.set_cons_zero, List.set_cons_succ, List.getElem_toArray, List.getElem_cons_succ, List.getElem_cons_zero]
                  refine reg_off (i := 19) rfl (by kernel_rfl) (by kernel_rfl) (by kernel_rfl) (fun _ _ _ h => h) (by kernel_rfl) hHeld ?_
                  simp only [Act.put, List.setIfInBounds_toArray, List.set_cons_zero, List.set_cons_succ, List.getElem_toArray, List.getElem_cons_succ, List.getElem_cons_zero]
                  refine reg_on (i := 20) (v := .bool false) rfl (by kernel_rfl) (by kernel_rfl) (by kernel_rfl) (fun _ _ _ h => h) (by kernel_rfl) hHeld ?yr2_20 ?_
                  case yr2_20 => (intro w hSw; (try dsimp only at hSw); obtain ⟨z0, p2, p0, p1, y2, y5⟩ := HF2.out _ hSw; go_simp; first | done | with_reducible rfl)
                  simp only [Act.put, List.setIfInBounds_toArray, List.set_cons_zero, List.set_cons_succ, List.getElem_toArray, List.getElem_cons_succ, List.getElem_cons_zero]
                  refine wpAnyH_done (by kernel_rfl) ?_ _
                  have HU1 := Lib.hid hHeld
                  obtain ⟨X1, hX1⟩ : ∃ X, wr.drew = X := ⟨_, rfl⟩
                  rw [hX1] at HU1 ⊢
                  clear hX1 hHeld
                  go_upto_region 31 with fail
                  have HD2 := Lib.hid (HU1.out.trans (Upd.drew NoF X1) (fun _ _ h => h))
                  refine wp_region_held_drew (S := (fun X => Upd NoF wr X)) (by kernel_rfl) (HD2.out) (fun hHeld => ?_)
                  refine reg_on (i := 0) (v := .bool false) rfl (by kernel_rfl) (by kernel_rfl) (by kernel_rfl) (fun _ _ _ h => h) (by kernel_rfl) hHeld ?yr3_0 ?_
                  case yr3_0 => (intro w hSw; (try dsimp only at hSw); obtain ⟨z0, p2, p0, p1, y2, y5⟩ := HF2.out _ hSw; go_simp; first | done | with_reducible rfl)
                  simp only [Act.put, List.setIfInBounds_toArray, List.set_cons_zero, List.set_cons_succ, List.getElem_toArray, List.getElem_cons_succ, List.getElem_cons_zero]
                  refine reg_on (i := 1) (v := .bool false) rfl (by kernel_rfl) (by kernel_rfl) (by kernel_rfl) (fun _ _ _ h => h) (by kernel_rfl) hHeld ?yr3_1 ?_
                  case yr3_1 => (intro w hSw; (try dsimp only at hSw); obtain ⟨z0, p2, p0, p1, y2, y5⟩ := HF2.out _ hSw; go_simp; first | done | with_reducible rfl)
                  simp only [Act.put, List.setIfInBounds_toArray, List.set_cons_zero, List.set_cons_succ, List.getElem_toArray, List.getElem_cons_succ, List.getElem_cons_zero]
                  refine reg_off (i := 2) rfl (by kernel_rfl) (by kernel_rfl) (by kernel_rfl) (fun _ _ _ h => h) (by kernel_rfl) hHeld ?_
                  simp only [Act.put, List.setIfInBounds_toArray, List.set_cons_zero, List.set_cons_succ, List.getElem_toArray, List.getElem_cons_succ, List.getElem_cons_zero]
                  refine reg_off (i := 3) rfl (by kernel_rfl) (by kernel_rfl) (by kernel_rfl) (fun _ _ _ h => h) (by kernel_rfl) hHeld ?_
                  simp only [Act.put, List.setIfInBounds_toArray, List.set_cons_zero, List.set_cons_succ, List.getElem_toArray, List.getElem_cons_succ, List.getElem_cons_zero]
                  refine reg_off (i := 4) rfl (by kernel_rfl) (by kernel_rfl) (by kernel_rfl) (fun _ _ _ h => h) (by kernel_rfl) hHeld ?_
                  simp only [Act.put, List.setIfInBounds_toArray, List.set_cons_zero, List.set_cons_succ, List.getElem_toArray, List.getElem_cons_succ, List.getElem_cons_zero]
                  refine reg_off (i := 5) rfl (by kernel_rfl) (by kernel_rfl) (by kernel_rfl) (fun _ _ _ h => h) (by kernel_rfl) hHeld ?_
                  simp only [Act.put, List.setIfInBounds_toArray, List.set_cons_zero, List.set_cons_succ, List.getElem_toArray, List.getElem_cons_succ, List.getElem_cons_zero]
                  refine reg_off (i := 6) rfl (by kernel_rfl) (by kernel_rfl) (by kernel_rfl) (fun _ _ _ h => h) (by kernel_rfl) hHeld ?_
                  simp only [Act.put, List.setIfInBounds_toArray, List.set_cons_zero, List.set_cons_succ, List.getElem_toArray, List.getElem_cons_succ, List.getElem_cons_zero]
                  refine reg_on (i := 7) (v := .bool false) rfl (by kernel_rfl) (by kernel_rfl) (by kernel_rfl) (fun _ _ _ h => h) (by kernel_rfl) hHeld ?yr3_7 ?_
                  case yr3_7 => (intro w hSw; (try dsimp only at hSw); obtain ⟨z0, p2, p0, p1, y2, y5⟩ := HF2.out _ hSw; go_simp; first | done | with_reducible rfl)
                  simp only [Act.put, List.setIfInBounds_toArray, List.set_cons_zero, List.set_cons_succ, List.getElem_toArray, List.getElem_cons_succ, List.getElem_cons_zero]
                  refine reg_on (i := 8) (v := .bool false) rfl (by kernel_rfl) (by kernel_rfl) (by kernel_rfl) (fun _ _ _ h => h) (by kernel_rfl) hHeld ?yr3_8 ?_
                  case yr3_8 => (intro w hSw; (try dsimp only at hSw); obtain ⟨z0, p2, p0, p1, y2, y5⟩ := HF2.out _ hSw; go_simp; first | done | with_reducible rfl)
                  simp only [Act.put, List.setIfInBounds_toArray, List.set_cons_zero, List.set_cons_succ, List.getElem_toArray, List.getElem_cons_succ, List.getElem_cons_zero]
                  refine reg_off (i := 9) rfl (by kernel_rfl) (by kernel_rfl) (by kernel_rfl) (fun _ _ _ h => h) (by kernel_rfl) hHeld ?_
                  simp only [Act.put, List.setIfInBounds_toArray, List.set_cons_zero, List.set_cons_succ, List.getElem_toArray, List.getElem_cons_succ, List.getElem_cons_zero]
                  refine reg_off (i := 10) rfl (by kernel_rfl) (by kernel_rfl) (by kernel_rfl) (fun _ _ _ h => h) (by kernel_rfl) hHeld ?_
                  simp only [Act.put, List.setIfInBounds_toArray, List.set_cons_zero, List.set_cons_succ, List.getElem_toArray, List.getElem_cons_succ, List.getElem_cons_zero]
                  refine reg_off (i := 11) rfl (by kernel_rfl) (by kernel_rfl) (by kernel_rfl) (fun _ _ _ h => h) (by kernel_rfl) hHeld ?_
                  simp only [Act.put, List.setIfInBounds_toArray, List.set_cons_zero, List.set_cons_succ, List.getElem_toArray, List.getElem_cons_succ, List.getElem_cons_zero]
                  refine reg_off (i := 12) rfl (by kernel_rfl) (by kernel_rfl) (by kernel_rfl) (fun _ _ _ h => h) (by kernel_rfl) hHeld ?_
                  simp only [Act.put, List.setIfInBounds_toArray, List.set_cons_zero, List.set_cons_succ, List.getElem_toArray, List.getElem_cons_succ, List.getElem_cons_zero]
                  refine reg_off (i := 13) rfl (by kernel_rfl) (by kernel_rfl) (by kernel_rfl) (fun _ _ _ h => h) (by kernel_rfl) hHeld ?_
                  simp only [Act.put, List.setIfInBounds_toArray, List.set_cons_zero, List.set_cons_succ, List.getElem_toArray, List.getElem_cons_succ, List.getElem_cons_zero]
                  refine reg_off (i := 14) rfl (by kernel_rfl) (by kernel_rfl) (by kernel_rfl) (fun _ _ _ h => h) (by kernel_rfl) hHeld ?_
                  simp only [Act.put, List.setIfInBounds_toArray, List.set_cons_zero, List.set_cons_succ, List.getElem_toArray, List.getElem_cons_succ, List.getElem_cons_zero]
                  refine reg_off (i := 15) rfl (by kernel_rfl) (by kernel_rfl) (by kernel_rfl) (fun _ _ _ h => h) (by kernel_rfl) hHeld ?_
                  simp only [Act.put, List.setIfInBounds_toArray, List.set_cons_zero, List.set_cons_succ, List.getElem_toArray, List.getElem_cons_succ, List.getElem_cons_zero]
                  refine reg_off (i := 16) rfl (by kernel_rfl) (by kernel_rfl) (by kernel_rfl) (fun _ _ _ h => h) (by kernel_rfl) hHeld ?_
                  simp only [Act.put, List.setIfInBounds_toArray, List.set_cons_zero, List.set_cons_succ, List.getElem_toArray, List.getElem_cons_succ, List.getElem_cons_zero]
                  refine reg_off (i := 17) rfl (by kernel_rfl) (by kernel_rfl) (by kernel_rfl) (fun _ _ _ h => h) (by kernel_rfl) hHeld ?_
                  simp only [Act.put, List.setIfInBounds_toArray, List.set_cons_zero, List.set_cons_succ, List.getElem_toArray, List.getElem_cons_succ, List.getElem_cons_zero]
                  refine reg_off (i := 18) rfl (by kernel_rfl) (by kernel_rfl) (by kernel_rfl) (fun _ _ _ h => h) (by kernel_rfl) hHeld ?_
                  simp only [Act.put, List.setIfInBounds_toArray, List.set_cons_zero, List.set_cons_succ, List.getElem_toArray, List.getElem_cons_succ, List.getElem_cons_zero]
                  refine reg_off (i := 19) rfl (by kernel_rfl) (by kernel_rfl) (by kernel_rfl) (fun _ _ _ h => h) (by kernel_rfl) hHeld ?_
                  simp only [Act.put, List.setIfInBounds_toArray, List.set_cons_zero, List.set_cons_succ, List.getElem_toArray, List.getElem_cons_succ, List.getElem_cons_zero]
                  refine reg_off (i := 20) rfl (by kernel_rfl) (by kernel_rfl) (by kernel_rfl) (fun _ _ _ h => h) (by kernel_rfl) hHeld ?_
                  simp only [Act.put, List.setIfInBounds_toArray, List.set_cons_zero, List.set_cons_succ, List.getElem_toArray, List.getElem_cons_succ, List.getElem_cons_zero]
                  refine reg_off (i := 21) rfl (by kernel_rfl) (by kernel_rfl) (by kernel_rfl) (fun _ _ _ h => h) (by kernel_rfl) hHeld ?_
                  simp only [Act.put, List.setIfInBounds_toArray, List.set_cons_zero, List.set_cons_succ, List.getElem_toArray, List.getElem_cons_succ, List.getElem_cons_zero]
                  refine reg_on (i := 22) (v := .bool false) rfl (by kernel_rfl) (by kernel_rfl) (by kernel_rfl) (fun _ _ _ h => h) (by kernel_rfl) hHeld ?yr3_22 ?_
                  case yr3_22 => (intro w hSw; (try dsimp only at hSw); obtain ⟨z0, p2, p0, p1, y2, y5⟩ := HF2.out _ hSw; go_simp; first | done | with_reducible rfl)
                  simp only [Act.put, List.setIfInBounds_toArray, List.set_cons_zero, List.set_cons_succ, List.getElem_toArray, List.getElem_cons_succ, List.getElem_cons_zero]
                  refine wpAnyH_done (by kernel_rfl) ?_ _
                  have HU2 := Lib.hid hHeld
                  clear hHeld
                  go_wp2_with fail
                  exact ⟨⟨k + 1, S1, by omega, by go_num, HCC.out, HIV.out, ((((HS12.out.upd0 HU2.out).drop 0 (by simp)).drop 0 (by simp)).drop 1 (by simp)).drop 1 (by simp)⟩, by simp [intOf]; omega⟩
                · have hz : decide ((0 : Int) < (ns.length : Int)) = true := decide_eq_true (by omega)
                  have hpos : 0 < ns.length := by omega
                  obtain ⟨y, hy⟩ : ∃ n, ns[0]? = some n := ⟨_, List.getElem?_eq_getElem hpos⟩
                  obtain ⟨a2, cap2, hae, _, _, hcell⟩ := NQ.s_row (HS12.out.row 1 rfl) HNU.out
                  cases hae
                  obtain ⟨g2, rfl, hrg⟩ := hcell 0 y hy
                  have HY0 := Lib.hid hy
                  have y0 : wr.cell? ⟨g2, 0, none⟩ = some (.int .u8 y.kind) := by have := hrg 0 _ (by rw [Array.getElem?_toList]; exact y.get0); simpa using this
                  have y2 : wr.cell? ⟨g2, 2, none⟩ = some (.int .i64 y.too) := by have := hrg 2 _ (by rw [Array.getElem?_toList]; exact y.get2); simpa using this
                  have y5 : wr.cell? ⟨g2, 5, none⟩ = some (.int .u8 y.state) := by have := hrg 5 _ (by rw [Array.getElem?_toList]; exact y.get5); simpa using this
                  clear hcell hrg hy
                  by_cases c6 : y.kind = 6
                  · have b6 : (y.kind == 6) = true := by simpa using c6
                    by_cases ha : isAsk n = true
                    · have bn : (netN n.kind == 0) = true := ha
                      by_cases ho : 0 ≤ x0.own
                      · have hown := HO3.out y HY0.out c6 ha ho
                        have bo : decide (0 ≤ y.too) = true := by rw [← hown]; simpa using ho
                        rw [hown] at p2
                        have hne0 : (y.too != y.too) = false := by simp
                        clear ha ho hown
                        have HF2 := Lib.hid (fun X (hX : Upd NoF wr X) => (show X.cell? ⟨nb, 0, none⟩ = some (.int .u8 n.kind) ∧ X.cell? ⟨eb, 0, none⟩ = some (.int .i64 y.too) ∧ X.cell? ⟨e2, 0, none⟩ = some (.int .i64 x1.own) ∧ X.cell? ⟨e2, 1, none⟩ = some (VM x1.shr) ∧ X.cell? ⟨g2, 2, none⟩ = some (.int .i64 y.too) ∧ X.cell? ⟨g2, 5, none⟩ = some (.int .u8 y.state) from ⟨hX.cell z0 (fun h => h), hX.cell p2 (fun h => h), hX.cell p0 (fun h => h), hX.cell p1 (fun h => h), hX.cell y2 (fun h => h), hX.cell y5 (fun h => h)⟩))
                        clear z0 p0 p1 p2 y2 y5
                        by_cases hst : y.state = 1
                        · have bs : (y.state != 1) = false := by simp [hst]
                          clear hst
                          go_upto_region 29 with fail
                          have HD1 := Lib.hid (Upd.drew NoF wr)
                          refine wp_region_held_drew (S := (fun X => Upd NoF wr X)) (by kernel_rfl) (HD1.out) (fun hHeld => ?_)
                          refine reg_on (i := 0) (v := .bool true) rfl (by kernel_rfl) (by kernel_rfl) (by kernel_rfl) (fun _ _ _ h => h) (by kernel_rfl) hHeld ?yr4_0 ?_
                          case yr4_0 => (intro w hSw; (try dsimp only at hSw); obtain ⟨z0, p2, p0, p1, y2, y5⟩ := HF2.out _ hSw; go_simp; first | done | with_reducible rfl)
                          simp only [Act.put, List.setIfInBounds_toArray, List.set_cons_zero, List.set_cons_succ, List.getElem_toArray, List.getElem_cons_succ, List.getElem_cons_zero]
                          refine reg_on (i := 1) (v := .bool true) rfl (by kernel_rfl) (by kernel_rfl) (by kernel_rfl) (fun _ _ _ h => h) (by kernel_rfl) hHeld ?yr4_1 ?_
                          case yr4_1 => (intro w hSw; (try dsimp only at hSw); obtain ⟨z0, p2, p0, p1, y2, y5⟩ := HF2.out _ hSw; go_simp; first | done | with_reducible rfl)
                          simp only [Act.put, List.setIfInBounds_toArray, List.set_cons_zero, List.set_cons_succ, List.getElem_toArray, List.getElem_cons_succ, List.getElem_cons_zero]
                          refine reg_on (i := 2) (v := ?vr4_2) rfl (by kernel_rfl) (by kernel_rfl) (by kernel_rfl) (fun _ _ _ h => h) (by kernel_rfl) hHeld ?yr4_2 ?_
                          case yr4_2 => (intro w hSw; (try dsimp only at hSw); obtain ⟨z0, p2, p0, p1, y2, y5⟩ := HF2.out _ hSw; go_simp; first | done | with_reducible rfl)
                          simp only [Act.put, List.setIfInBounds_toArray, List.set_cons_zero, List.set_cons_succ, List.getElem_toArray, List.getElem_cons_succ, List.getElem_cons_zero]
                          refine reg_on (i := 3) (v := ?vr4_3) rfl (by kernel_rfl) (by kernel_rfl) (by kernel_rfl) (fun _ _ _ h => h) (by kernel_rfl) hHeld ?yr4_3 ?_
                          case yr4_3 => (intro w hSw; (try dsimp only at hSw); obtain ⟨z0, p2, p0, p1, y2, y5⟩ := HF2.out _ hSw; go_simp; first | done | with_reducible rfl)
                          simp only [Act.put, List.setIfInBounds_toArray, List.set_cons_zero, List.set_cons_succ, List.getElem_toArray, List.getElem_cons_succ, List.getElem_cons_zero]
                          refine reg_step (i := 4) (by kernel_rfl) rfl (by kernel_rfl) (fun K hK => ?_)
                          go_simp
                          refine (NC.net_any n.kind _).mono ?_
                          rintro e wz ⟨rfl, rfl⟩
                          have HS := hHeld
                          go_wp2_with fail
                          refine hK.out _ _ HS (fun hHeld2 => ?_)
                          clear hK hHeld2 hHeld
                          have hHeld := HS
                          clear HS
                          try simp only [Act.put, List.setIfInBounds_toArray, List.set_cons_zero, List.set_cons_succ, List.getElem_toArray, List.getElem_cons_succ, List.getElem_cons_zero]
                          refine reg_on (i := 5) (v := .bool true) rfl (by kernel_rfl) (by kernel_rfl) (by kernel_rfl) (fun _ _ _ h => h) (by kernel_rfl) hHeld ?yr4_5 ?_
                          case yr4_5 => (intro w hSw; (try dsimp only at hSw); obtain ⟨z0, p2, p0, p1, y2, y5⟩ := HF2.out _ hSw; go_simp; first | done | with_reducible rfl)
                          simp only [Act.put, List.setIfInBounds_toArray, List.set_cons_zero, List.set_cons_succ, List.getElem_toArray, List.getElem_cons_succ, List.getElem_cons_zero]
                          refine reg_on (i := 6) (v := .bool true) rfl (by kernel_rfl) (by kernel_rfl) (by kernel_rfl) (fun _ _ _ h => h) (by kernel_rfl) hHeld ?yr4_6 ?_
                          case yr4_6 => (intro w hSw; (try dsimp only at hSw); obtain ⟨z0, p2, p0, p1, y2, y5⟩ := HF2.out _ hSw; go_simp; first | done | with_reducible rfl)
                          simp only [Act.put, List.setIfInBounds_toArray, List.set_cons_zero, List.set_cons_succ, List.getElem_toArray, List.getElem_cons_succ, List.getElem_cons_zero]
                          refine reg_on (i := 7) (v := .bool true) rfl (by kernel_rfl) (by kernel_rfl) (by kernel_rfl) (fun _ _ _ h => h) (by kernel_rfl) hHeld ?yr4_7 ?_
                          case yr4_7 => (intro w hSw; (try dsimp only at hSw); obtain ⟨z0, p2, p0, p1, y2, y5⟩ := HF2.out _ hSw; go_simp; first | done | with_reducible rfl)
                          simp only [Act.put, List.setIfInBounds_toArray, List.set_cons_zero, List.set_cons_succ, List.getElem_toArray, List.getElem_cons_succ, List.getElem_cons_zero]
                          refine reg_on (i := 8) (v := ?vr4_8) rfl (by kernel_rfl) (by kernel_rfl) (by kernel_rfl) (fun _ _ _ h => h) (by kernel_rfl) hHeld ?yr4_8 ?_
                          case yr4_8 => (intro w hSw; (try dsimp only at hSw); obtain ⟨z0, p2, p0, p1, y2, y5⟩ := HF2.out _ hSw; go_simp; first | done | with_reducible rfl)
                          simp only [Act.put, List.setIfInBounds_toArray, List.set_cons_zero, List.set_cons_succ, List.getElem_toArray, List.getElem_cons_succ, List.getElem_cons_zero]
                          refine reg_on (i := 9) (v := ?vr4_9) rfl (by kernel_rfl) (by kernel_rfl) (by kernel_rfl) (fun _ _ _ h => h) (by kernel_rfl) hHeld ?yr4_9 ?_
                          case yr4_9 => (intro w hSw; (try dsimp only at hSw); obtain ⟨z0, p2, p0, p1, y2, y5⟩ := HF2.out _ hSw; go_simp; first | done | with_reducible rfl)
                          simp only [Act.put, List.setIfInBounds_toArray, List.set_cons_zero, List.set_cons_succ, List.getElem_toArray, List.getElem_cons_succ, List.getElem_cons_zero]
                          refine reg_on (i := 10) (v := .bool true) rfl (by kernel_rfl) (by kernel_rfl) (by kernel_rfl) (fun _ _ _ h => h) (by kernel_rfl) hHeld ?yr4_10 ?_
                          case yr4_10 => (intro w hSw; (try dsimp only at hSw); obtain ⟨z0, p2, p0, p1, y2, y5⟩ := HF2.out _ hSw; go_simp; first | done | with_reducible rfl)
                          simp only [Act.put, List.setIfInBounds_toArray, List.set_cons_zero, List.set_cons_succ, List.getElem_toArray, List.getElem_cons_succ, List.getElem_cons_zero]
                          refine reg_on (i := 11) (v := .bool true) rfl (by kernel_rfl) (by kernel_rfl) (by kernel_rfl) (fun _ _ _ h => h) (by kernel_rfl) hHeld ?yr4_11 ?_
                          case yr4_11 => (intro w hSw; (try dsimp only at hSw); obtain ⟨z0, p2, p0, p1, y2, y5⟩ := HF2.out _ hSw; go_simp; first | done | with_reducible rfl)
                          simp only [Act.put, List.setIfInBounds_toArray, List.set_cons_zero, List.set_cons_succ, List.getElem_toArray, List.getElem_cons_succ, List.getElem_cons_zero]
                          refine reg_on (i := 12) (v := .bool true) rfl (by kernel_rfl) (by kernel_rfl) (by kernel_rfl) (fun _ _ _ h => h) (by kernel_rfl) hHeld ?yr4_12 ?_
                          case yr4_12 => (intro w hSw; (try dsimp only at hSw); obtain ⟨z0, p2, p0, p1, y2, y5⟩ := HF2.out _ hSw; go_simp; first | done | with_reducible rfl)
                          simp only [Act.put, List.setIfInBounds_toArray, List.set_cons_zero, List.set_cons_succ, List.getElem_toArray, List.getElem_cons_succ, List.getElem_cons_zero]
                          refine reg_on (i := 13) (v := ?vr4_13) rfl (by kernel_rfl) (by kernel_rfl) (by kernel_rfl) (fun _ _ _ h => h) (by kernel_rfl) hHeld ?yr4_13 ?_
                          case yr4_13 => (intro w hSw; (try dsimp only at hSw); obtain ⟨z0, p2, p0, p1, y2, y5⟩ := HF2.out _ hSw; go_simp; first | done | with_reducible rfl)
                          simp only [Act.put, List.setIfInBounds_toArray, List.set_cons_zero, List.set_cons_succ, List.getElem_toArray, List.getElem_cons_succ, List.getElem_cons_zero]
                          refine reg_on (i := 14) (v := ?vr4_14) rfl (by kernel_rfl) (by kernel_rfl) (by kernel_rfl) (fun _ _ _ h => h) (by kernel_rfl) hHeld ?yr4_14 ?_
                          case yr4_14 => (intro w hSw; (try dsimp only at hSw); obtain ⟨z0, p2, p0, p1, y2, y5⟩ := HF2.out _ hSw; go_simp; first | done | with_reducible rfl)
                          simp only [Act.put, List.setIfInBounds_toArray, List.set_cons_zero, List.set_cons_succ, List.getElem_toArray, List.getElem_cons_succ, List.getElem_cons_zero]
                          refine reg_on (i := 15) (v := ?vr4_15) rfl (by kernel_rfl) (by kernel_rfl) (by kernel_rfl) (fun _ _ _ h => h) (by kernel_rfl) hHeld ?yr4_15 ?_
                          case yr4_15 => (intro w hSw; (try dsimp only at hSw); obtain ⟨z0, p2, p0, p1, y2, y5⟩ := HF2.out _ hSw; go_simp; first | done | with_reducible rfl)
                          simp only [Act.put, List.setIfInBounds_toArray, List.set_cons_zero, List.set_cons_succ, List.getElem_toArray, List.getElem_cons_succ, List.getElem_cons_zero]
                          refine reg_on (i := 16) (v := ?vr4_16) rfl (by kernel_rfl) (by kernel_rfl) (by kernel_rfl) (fun _ _ _ h => h) (by kernel_rfl) hHeld ?yr4_16 ?_
                          case yr4_16 => (intro w hSw; (try dsimp only at hSw); obtain ⟨z0, p2, p0, p1, y2, y5⟩ := HF2.out _ hSw; go_simp; first | done | with_reducible rfl)
                          simp only [Act.put, List.setIfInBounds_toArray, List.set_cons_zero, List.set_cons_succ, List.getElem_toArray, List.getElem_cons_succ, List.getElem_cons_zero]
                          refine reg_on (i := 17) (v := ?vr4_17) rfl (by kernel_rfl) (by kernel_rfl) (by kernel_rfl) (fun _ _ _ h => h) (by kernel_rfl) hHeld ?yr4_17 ?_
                          case yr4_17 => (intro w hSw; (try dsimp only at hSw); obtain ⟨z0, p2, p0, p1, y2, y5⟩ := HF2.out _ hSw; go_simp; first | done | with_reducible rfl)
                          simp only [Act.put, List.setIfInBounds_toArray, List.set_cons_zero, List.set_cons_succ, List.getElem_toArray, List.getElem_cons_succ, List.getElem_cons_zero]
                          refine reg_on (i := 18) (v := ?vr4_18) rfl (by kernel_rfl) (by kernel_rfl) (by kernel_rfl) (fun _ _ _ h => h) (by kernel_rfl) hHeld ?yr4_18 ?_
                          case yr4_18 => (intro w hSw; (try dsimp only at hSw); obtain ⟨z0, p2, p0, p1, y2, y5⟩ := HF2.out _ hSw; go_simp; first | done | with_reducible rfl)
                          simp only [Act.put, List.setIfInBounds_toArray, List.set_cons_zero, List.set_cons_succ, List.getElem_toArray, List.getElem_cons_succ, List.getElem_cons_zero]
                          refine reg_on (i := 19) (v := .bool false) rfl (by kernel_rfl) (by kernel_rfl) (by kernel_rfl) (fun _ _ _ h => h) (by kernel_rfl) hHeld ?yr4_19 ?_
                          case yr4_19 => (intro w hSw; (try dsimp only at hSw); obtain ⟨z0, p2, p0, p1, y2, y5⟩ := HF2.out _ hSw; go_simp; first | done | with_reducible rfl)
                          simp only [Act.put, List.setIfInBounds_toArray, List.set_cons_zero, List.set_cons_succ, List.getElem_toArray, List.getElem_cons_succ, List.getElem_cons_zero]
                          refine reg_on (i := 20) (v := .bool false) rfl (by kernel_rfl) (by kernel_rfl) (by kernel_rfl) (fun _ _ _ h => h) (by kernel_rfl) hHeld ?yr4_20 ?_
                          case yr4_20 => (intro w hSw; (try dsimp only at hSw); obtain ⟨z0, p2, p0, p1, y2, y5⟩ := HF2.out _ hSw; go_simp; first | done | with_reducible rfl)
                          simp only [Act.put, List.setIfInBounds_toArray, List.set_cons_zero, List.set_cons_succ, List.getElem_toArray, List.getElem_cons_succ, List.getElem_cons_zero]
                          refine wpAnyH_done (by kernel_rfl) ?_ _
                          have HU1 := Lib.hid hHeld
                          obtain ⟨X1, hX1⟩ : ∃ X, wr.drew = X := ⟨_, rfl⟩
                          rw [hX1] at HU1 ⊢
                          clear hX1 hHeld
                          go_upto_region 31 with fail
                          have HD2 := Lib.hid (HU1.out.trans (Upd.drew NoF X1) (fun _ _ h => h))
                          refine wp_region_held_drew (S := (fun X => Upd NoF wr X)) (by kernel_rfl) (HD2.out) (fun hHeld => ?_)
                          refine reg_on (i := 0) (v := .bool true) rfl (by kernel_rfl) (by kernel_rfl) (by kernel_rfl) (fun _ _ _ h => h) (by kernel_rfl) hHeld ?yr5_0 ?_
                          case yr5_0 => (intro w hSw; (try dsimp only at hSw); obtain ⟨z0, p2, p0, p1, y2, y5⟩ := HF2.out _ hSw; go_simp; first | done | with_reducible rfl)
                          simp only [Act.put, List.setIfInBounds_toArray, List.set_cons_zero, List.set_cons_succ, List.getElem_toArray, List.getElem_cons_succ, List.getElem_cons_zero]
                          refine reg_on (i := 1) (v := .bool true) rfl (by kernel_rfl) (by kernel_rfl) (by kernel_rfl) (fun _ _ _ h => h) (by kernel_rfl) hHeld ?yr5_1 ?_
                          case yr5_1 => (intro w hSw; (try dsimp only at hSw); obtain ⟨z0, p2, p0, p1, y2, y5⟩ := HF2.out _ hSw; go_simp; first | done | with_reducible rfl)
                          simp only [Act.put, List.setIfInBounds_toArray, List.set_cons_zero, List.set_cons_succ, List.getElem_toArray, List.getElem_cons_succ, List.getElem_cons_zero]
                          refine reg_on (i := 2) (v := ?vr5_2) rfl (by kernel_rfl) (by kernel_rfl) (by kernel_rfl) (fun _ _ _ h => h) (by kernel_rfl) hHeld ?yr5_2 ?_
                          case yr5_2 => (intro w hSw; (try dsimp only at hSw); obtain ⟨z0, p2, p0, p1, y2, y5⟩ := HF2.out _ hSw; go_simp; first | done | with_reducible rfl)
                          simp only [Act.put, List.setIfInBounds_toArray, List.set_cons_zero, List.set_cons_succ, List.getElem_toArray, List.getElem_cons_succ, List.getElem_cons_zero]
                          refine reg_on (i := 3) (v := ?vr5_3) rfl (by kernel_rfl) (by kernel_rfl) (by kernel_rfl) (fun _ _ _ h => h) (by kernel_rfl) hHeld ?yr5_3 ?_
                          case yr5_3 => (intro w hSw; (try dsimp only at hSw); obtain ⟨z0, p2, p0, p1, y2, y5⟩ := HF2.out _ hSw; go_simp; first | done | with_reducible rfl)
                          simp only [Act.put, List.setIfInBounds_toArray, List.set_cons_zero, List.set_cons_succ, List.getElem_toArray, List.getElem_cons_succ, List.getElem_cons_zero]
                          refine reg_on (i := 4) (v := ?vr5_4) rfl (by kernel_rfl) (by kernel_rfl) (by kernel_rfl) (fun _ _ _ h => h) (by kernel_rfl) hHeld ?yr5_4 ?_
                          case yr5_4 => (intro w hSw; (try dsimp only at hSw); obtain ⟨z0, p2, p0, p1, y2, y5⟩ := HF2.out _ hSw; go_simp; first | done | with_reducible rfl)
                          simp only [Act.put, List.setIfInBounds_toArray, List.set_cons_zero, List.set_cons_succ, List.getElem_toArray, List.getElem_cons_succ, List.getElem_cons_zero]
                          refine reg_on (i := 5) (v := ?vr5_5) rfl (by kernel_rfl) (by kernel_rfl) (by kernel_rfl) (fun _ _ _ h => h) (by kernel_rfl) hHeld ?yr5_5 ?_
                          case yr5_5 => (intro w hSw; (try dsimp only at hSw); obtain ⟨z0, p2, p0, p1, y2, y5⟩ := HF2.out _ hSw; go_simp; first | done | with_reducible rfl)
                          simp only [Act.put, List.setIfInBounds_toArray, List.set_cons_zero, List.set_cons_succ, List.getElem_toArray, List.getElem_cons_succ, List.getElem_cons_zero]
                          refine reg_on (i := 6) (v := .bool false) rfl (by kernel_rfl) (by kernel_rfl) (by kernel_rfl) (fun _ _ _ h => h) (by kernel_rfl) hHeld ?yr5_6 ?_
                          case yr5_6 => (intro w hSw; (try dsimp only at hSw); obtain ⟨z0, p2, p0, p1, y2, y5⟩ := HF2.out _ hSw; go_simp; first | done | with_reducible rfl)
                          simp only [Act.put, List.setIfInBounds_toArray, List.set_cons_zero, List.set_cons_succ, List.getElem_toArray, List.getElem_cons_succ, List.getElem_cons_zero]
                          refine reg_on (i := 7) (v := .bool false) rfl (by kernel_rfl) (by kernel_rfl) (by kernel_rfl) (fun _ _ _ h => h) (by kernel_rfl) hHeld ?yr5_7 ?_
                          case yr5_7 => (intro w hSw; (try dsimp only at hSw); obtain ⟨z0, p2, p0, p1, y2, y5⟩ := HF2.out _ hSw; go_simp; first | done | with_reducible rfl)
                          simp only [Act.put, List.setIfInBounds_toArray, List.set_cons_zero, List.set_cons_succ, List.getElem_toArray, List.getElem_cons_succ, List.getElem_cons_zero]
                          refine reg_on (i := 8) (v := .bool false) rfl (by kernel_rfl) (by kernel_rfl) (by kernel_rfl) (fun _ _ _ h => h) (by kernel_rfl) hHeld ?yr5_8 ?_
                          case yr5_8 => (intro w hSw; (try dsimp only at hSw); obtain ⟨z0, p2, p0, p1, y2, y5⟩ := HF2.out _ hSw; go_simp; first | done | with_reducible rfl)
                          simp only [Act.put, List.setIfInBounds_toArray, List.set_cons_zero, List.set_cons_succ, List.getElem_toArray, List.getElem_cons_succ, List.getElem_cons_zero]
                          refine reg_off (i := 9) rfl (by kernel_rfl) (by kernel_rfl) (by kernel_rfl) (fun _ _ _ h => h) (by kernel_rfl) hHeld ?_
                          simp only [Act.put, List.setIfInBounds_toArray, List.set_cons_zero, List.set_cons_succ, List.getElem_toArray, List.getElem_cons_succ, List.getElem_cons_zero]
                          refine reg_off (i := 10) rfl (by kernel_rfl) (by kernel_rfl) (by kernel_rfl) (fun _ _ _ h => h) (by kernel_rfl) hHeld ?_
                          simp only [Act.put, List.setIfInBounds_toArray, List.set_cons_zero, List.set_cons_succ, List.getElem_toArray, List.getElem_cons_succ, List.getElem_cons_zero]
                          refine reg_off (i := 11) rfl (by kernel_rfl) (by kernel_rfl) (by kernel_rfl) (fun _ _ _ h => h) (by kernel_rfl) hHeld ?_
                          simp only [Act.put, List.setIfInBounds_toArray, List.set_cons_zero, List.set_cons_succ, List.getElem_toArray, List.getElem_cons_succ, List.getElem_cons_zero]
                          refine reg_off (i := 12) rfl (by kernel_rfl) (by kernel_rfl) (by kernel_rfl) (fun _ _ _ h => h) (by kernel_rfl) hHeld ?_
                          simp only [Act.put, List.setIfInBounds_toArray, List.set_cons_zero, List.set_cons_succ, List.getElem_toArray, List.getElem_cons_succ, List.getElem_cons_zero]
                          refine reg_off (i := 13) rfl (by kernel_rfl) (by kernel_rfl) (by kernel_rfl) (fun _ _ _ h => h) (by kernel_rfl) hHeld ?_
                          simp only [Act.put, List.setIfInBounds_toArray, List.set_cons_zero, List.set_cons_succ, List.getElem_toArray, List.getElem_cons_succ, List.getElem_cons_zero]
                          refine reg_off (i := 14) rfl (by kernel_rfl) (by kernel_rfl) (by kernel_rfl) (fun _ _ _ h => h) (by kernel_rfl) hHeld ?_
                          simp only [Act.put, List.setIfInBounds_toArray, List.set_cons_zero, List.set_cons_succ, List.getElem_toArray, List.getElem_cons_succ, List.getElem_cons_zero]
                          refine reg_off (i := 15) rfl (by kernel_rfl) (by kernel_rfl) (by kernel_rfl) (fun _ _ _ h => h) (by kernel_rfl) hHeld ?_
                          simp only [Act.put, List.setIfInBounds_toArray, List.set_cons_zero, List.set_cons_succ, List.getElem_toArray, List.getElem_cons_succ, List.getElem_cons_zero]
                          refine reg_off (i := 16) rfl (by kernel_rfl) (by kernel_rfl) (by kernel_rfl) (fun _ _ _ h => h) (by kernel_rfl) hHeld ?_
                          simp only [Act.put, List.setIfInBounds_toArray, List.set_cons_zero, List.set_cons_succ, List.getElem_toArray, List.getElem_cons_succ, List.getElem_cons_zero]
                          refine reg_off (i := 17) rfl (by kernel_rfl) (by kernel_rfl) (by kernel_rfl) (fun _ _ _ h => h) (by kernel_rfl) hHeld ?_
                          simp only [Act.put, List.setIfInBounds_toArray, List.set_cons_zero, List.set_cons_succ, List.getElem_toArray, List.getElem_cons_succ, List.getElem_cons_zero]
                          refine reg_off (i := 18) rfl (by kernel_rfl) (by kernel_rfl) (by kernel_rfl) (fun _ _ _ h => h) (by kernel_rfl) hHeld ?_
                          simp only [Act.put, List.setIfInBounds_toArray, List.set_cons_zero, List.set_cons_succ, List.getElem_toArray, List.getElem_cons_succ, List.getElem_cons_zero]
                          refine reg_off (i := 19) rfl (by kernel_rfl) (by kernel_rfl) (by kernel_rfl) (fun _ _ _ h => h) (by kernel_rfl) hHeld ?_
                          simp only [Act.put, List.setIfInBounds_toArray, List.set_cons_zero, List.set_cons_succ, List.getElem_toArray, List.getElem_cons_succ, List.getElem_cons_zero]
                          refine reg_off (i := 20) rfl (by kernel_rfl) (by kernel_rfl) (by kernel_rfl) (fun _ _ _ h => h) (by kernel_rfl) hHeld ?_
                          simp only [Act.put, List.setIfInBounds_toArray, List.set_cons_zero, List.set_cons_succ, List.getElem_toArray, List.getElem_cons_succ, List.getElem_cons_zero]
                          refine reg_off (i := 21) rfl (by kernel_rfl) (by kernel_rfl) (by kernel_rfl) (fun _ _ _ h => h) (by kernel_rfl) hHeld ?_
                          simp only [Act.put, List.setIfInBounds_toArray, List.set_cons_zero, List.set_cons_succ, List.getElem_toArray, List.getElem_cons_succ, List.getElem_cons_zero]
                          refine reg_on (i := 22) (v := .bool false) rfl (by kernel_rfl) (by kernel_rfl) (by kernel_rfl) (fun _ _ _ h => h) (by kernel_rfl) hHeld ?yr5_22 ?_
                          case yr5_22 => (intro w hSw; (try dsimp only at hSw); obtain ⟨z0, p2, p0, p1, y2, y5⟩ := HF2.out _ hSw; go_simp; first | done | with_reducible rfl)
                          simp only [Act.put, List.setIfInBounds_toArray, List.set_cons_zero, List.set_cons_succ, List.getElem_toArray, List.getElem_cons_succ, List.getElem_cons_zero]
                          refine wpAnyH_done (by kernel_rfl) ?_ _
                          have HU2 := Lib.hid hHeld
                          clear hHeld
                          go_wp2_with fail
                          exact ⟨⟨k + 1, S1, by omega, by go_num, HCC.out, HIV.out, ((((HS12.out.upd0 HU2.out).drop 0 (by simp)).drop 0 (by simp)).drop 1 (by simp)).drop 1 (by simp)⟩, by simp [intOf]; omega⟩
                        · have bs : (y.state != 1) = true := by simpa using hst
                          have hx := HO4.out y HY0.out c6 hst
                          subst hx
                          have hne : (y.too != y.too) = false := by simp
                          clear hst c6
                          go_upto_region 29 with fail
                          have HD1 := Lib.hid (Upd.drew NoF wr)
                          refine wp_region_held_drew (S := (fun X => Upd NoF wr X)) (by kernel_rfl) (HD1.out) (fun hHeld => ?_)
                          refine reg_on (i := 0) (v := .bool true) rfl (by kernel_rfl) (by kernel_rfl) (by kernel_rfl) (fun _ _ _ h => h) (by kernel_rfl) hHeld ?yr6_0 ?_
                          case yr6_0 => (intro w hSw; (try dsimp only at hSw); obtain ⟨z0, p2, p0, p1, y2, y5⟩ := HF2.out _ hSw; go_simp; first | done | with_reducible rfl)
                          simp only [Act.put, List.setIfInBounds_toArray, List.set_cons_zero, List.set_cons_succ, List.getElem_toArray, List.getElem_cons_succ, List.getElem_cons_zero]
                          refine reg_on (i := 1) (v := .bool true) rfl (by kernel_rfl) (by kernel_rfl) (by kernel_rfl) (fun _ _ _ h => h) (by kernel_rfl) hHeld ?yr6_1 ?_
                          case yr6_1 => (intro w hSw; (try dsimp only at hSw); obtain ⟨z0, p2, p0, p1, y2, y5⟩ := HF2.out _ hSw; go_simp; first | done | with_reducible rfl)
                          simp only [Act.put, List.setIfInBounds_toArray, List.set_cons_zero, List.set_cons_succ, List.getElem_toArray, List.getElem_cons_succ, List.getElem_cons_zero]
                          refine reg_on (i := 2) (v := ?vr6_2) rfl (by kernel_rfl) (by kernel_rfl) (by kernel_rfl) (fun _ _ _ h => h) (by kernel_rfl) hHeld ?yr6_2 ?_
                          case yr6_2 => (intro w hSw; (try dsimp only at hSw); obtain ⟨z0, p2, p0, p1, y2, y5⟩ := HF2.out _ hSw; go_simp; first | done | with_reducible rfl)
                          simp only [Act.put, List.setIfInBounds_toArray, List.set_cons_zero, List.set_cons_succ, List.getElem_toArray, List.getElem_cons_succ, List.getElem_cons_zero]
                          refine reg_on (i := 3) (v := ?vr6_3) rfl (by kernel_rfl) (by kernel_rfl) (by kernel_rfl) (fun _ _ _ h => h) (by kernel_rfl) hHeld ?yr6_3 ?_
                          case yr6_3 => (intro w hSw; (try dsimp only at hSw); obtain ⟨z0, p2, p0, p1, y2, y5⟩ := HF2.out _ hSw; go_simp; first | done | with_reducible rfl)
                          simp only [Act.put, List.setIfInBounds_toArray, List.set_cons_zero, List.set_cons_succ, List.getElem_toArray, List.getElem_cons_succ, List.getElem_cons_zero]
                          refine reg_step (i := 4) (by kernel_rfl) rfl (by kernel_rfl) (fun K hK => ?_)
                          go_simp
                          refine (NC.net_any n.kind _).mono ?_
                          rintro e wz ⟨rfl, rfl⟩
                          have HS := hHeld
                          go_wp2_with fail
                          refine hK.out _ _ HS (fun hHeld2 => ?_)
                          clear hK hHeld2 hHeld
                          have hHeld := HS
                          clear HS
                          try simp only [Act.put, List.setIfInBounds_toArray, List.set_cons_zero, List.set_cons_succ, List.getElem_toArray, List.getElem_cons_succ, List.getElem_cons_zero]
                          refine reg_on (i := 5) (v := .bool true) rfl (by kernel_rfl) (by kernel_rfl) (by kernel_rfl) (fun _ _ _ h => h) (by kernel_rfl) hHeld ?yr6_5 ?_
                          case yr6_5 => (intro w hSw; (try dsimp only at hSw); obtain ⟨z0, p2, p0, p1, y2, y5⟩ := HF2.out _ hSw; go_simp; first | done | with_reducible rfl)
                          simp only [Act.put, List.setIfInBounds_toArray, List.set_cons_zero, List.set_cons_succ, List.getElem_toArray, List.getElem_cons_succ, List.getElem_cons_zero]
                          refine reg_on (i := 6) (v := .bool true) rfl (by kernel_rfl) (by kernel_rfl) (by kernel_rfl) (fun _ _ _ h => h) (by kernel_rfl) hHeld ?yr6_6 ?_
                          case yr6_6 => (intro w hSw; (try dsimp only at hSw); obtain ⟨z0, p2, p0, p1, y2, y5⟩ := HF2.out _ hSw; go_simp; first | done | with_reducible rfl)
                          simp only [Act.put, List.setIfInBounds_toArray, List.set_cons_zero, List.set_cons_succ, List.getElem_toArray, List.getElem_cons_succ, List.getElem_cons_zero]
                          refine reg_on (i := 7) (v := .bool true) rfl (by kernel_rfl) (by kernel_rfl) (by kernel_rfl) (fun _ _ _ h => h) (by kernel_rfl) hHeld ?yr6_7 ?_
                          case yr6_7 => (intro w hSw; (try dsimp only at hSw); obtain ⟨z0, p2, p0, p1, y2, y5⟩ := HF2.out _ hSw; go_simp; first | done | with_reducible rfl)
                          simp only [Act.put, List.setIfInBounds_toArray, List.set_cons_zero, List.set_cons_succ, List.getElem_toArray, List.getElem_cons_succ, List.getElem_cons_zero]
                          refine reg_on (i := 8) (v := ?vr6_8) rfl (by kernel_rfl) (by kernel_rfl) (by kernel_rfl) (fun _ _ _ h => h) (by kernel_rfl) hHeld ?yr6_8 ?_
                          case yr6_8 => (intro w hSw; (try dsimp only at hSw); obtain ⟨z0, p2, p0, p1, y2, y5⟩ := HF2.out _ hSw; go_simp; first | done | with_reducible rfl)
                          simp only [Act.put, List.setIfInBounds_toArray, List.set_cons_zero, List.set_cons_succ, List.getElem_toArray, List.getElem_cons_succ, List.getElem_cons_zero]
                          refine reg_on (i := 9) (v := ?vr6_9) rfl (by kernel_rfl) (by kernel_rfl) (by kernel_rfl) (fun _ _ _ h => h) (by kernel_rfl) hHeld ?yr6_9 ?_
                          case yr6_9 => (intro w hSw; (try dsimp only at hSw); obtain ⟨z0, p2, p0, p1, y2, y5⟩ := HF2.out _ hSw; go_simp; first | done | with_reducible rfl)
                          simp only [Act.put, List.setIfInBounds_toArray, List.set_cons_zero, List.set_cons_succ, List.getElem_toArray, List.getElem_cons_succ, List.getElem_cons_zero]
                          refine reg_on (i := 10) (v := .bool true) rfl (by kernel_rfl) (by kernel_rfl) (by kernel_rfl) (fun _ _ _ h => h) (by kernel_rfl) hHeld ?yr6_10 ?_
                          case yr6_10 => (intro w hSw; (try dsimp only at hSw); obtain ⟨z0, p2, p0, p1, y2, y5⟩ := HF2.out _ hSw; go_simp; first | done | with_reducible rfl)
                          simp only [Act.put, List.setIfInBounds_toArray, List.set_cons_zero, List.set_cons_succ, List.getElem_toArray, List.getElem_cons_succ, List.getElem_cons_zero]
                          refine reg_on (i := 11) (v := .bool true) rfl (by kernel_rfl) (by kernel_rfl) (by kernel_rfl) (fun _ _ _ h => h) (by kernel_rfl) hHeld ?yr6_11 ?_
                          case yr6_11 => (intro w hSw; (try dsimp only at hSw); obtain ⟨z0, p2, p0, p1, y2, y5⟩ := HF2.out _ hSw; go_simp; first | done | with_reducible rfl)
                          simp only [Act.put, List.setIfInBounds_toArray, List.set_cons_zero, List.set_cons_succ, List.getElem_toArray, List.getElem_cons_succ, List.getElem_cons_zero]
                          refine reg_on (i := 12) (v := .bool true) rfl (by kernel_rfl) (by kernel_rfl) (by kernel_rfl) (fun _ _ _ h => h) (by kernel_rfl) hHeld ?yr6_12 ?_
                          case yr6_12 => (intro w hSw; (try dsimp only at hSw); obtain ⟨z0, p2, p0, p1, y2, y5⟩ := HF2.out _ hSw; go_simp; first | done | with_reducible rfl)
                          simp only [Act.put, List.setIfInBounds_toArray, List.set_cons_zero, List.set_cons_succ, List.getElem_toArray, List.getElem_cons_succ, List.getElem_cons_zero]
                          refine reg_on (i := 13) (v := ?vr6_13) rfl (by kernel_rfl) (by kernel_rfl) (by kernel_rfl) (fun _ _ _ h => h) (by kernel_rfl) hHeld ?yr6_13 ?_
                          case yr6_13 => (intro w hSw; (try dsimp only at hSw); obtain ⟨z0, p2, p0, p1, y2, y5⟩ := HF2.out _ hSw; go_simp; first | done | with_reducible rfl)
                          simp only [Act.put, List.setIfInBounds_toArray, List.set_cons_zero, List.set_cons_succ, List.getElem_toArray, List.getElem_cons_succ, List.getElem_cons_zero]
                          refine reg_on (i := 14) (v := ?vr6_14) rfl (by kernel_rfl) (by kernel_rfl) (by kernel_rfl) (fun _ _ _ h => h) (by kernel_rfl) hHeld ?yr6_14 ?_
                          case yr6_14 => (intro w hSw; (try dsimp only at hSw); obtain ⟨z0, p2, p0, p1, y2, y5⟩ := HF2.out _ hSw; go_simp; first | done | with_reducible rfl)
                          simp only [Act.put, List.setIfInBounds_toArray, List.set_cons_zero, List.set_cons_succ, List.getElem_toArray, List.getElem_cons_succ, List.getElem_cons_zero]
                          refine reg_on (i := 15) (v := ?vr6_15) rfl (by kernel_rfl) (by kernel_rfl) (by kernel_rfl) (fun _ _ _ h => h) (by kernel_rfl) hHeld ?yr6_15 ?_
                          case yr6_15 => (intro w hSw; (try dsimp only at hSw); obtain ⟨z0, p2, p0, p1, y2, y5⟩ := HF2.out _ hSw; go_simp; first | done | with_reducible rfl)
                          simp only [Act.put, List.setIfInBounds_toArray, List.set_cons_zero, List.set_cons_succ, List.getElem_toArray, List.getElem_cons_succ, List.getElem_cons_zero]
                          refine reg_on (i := 16) (v := ?vr6_16) rfl (by kernel_rfl) (by kernel_rfl) (by kernel_rfl) (fun _ _ _ h => h) (by kernel_rfl) hHeld ?yr6_16 ?_
                          case yr6_16 => (intro w hSw; (try dsimp only at hSw); obtain ⟨z0, p2, p0, p1, y2, y5⟩ := HF2.out _ hSw; go_simp; first | done | with_reducible rfl)
                          simp only [Act.put, List.setIfInBounds_toArray, List.set_cons_zero, List.set_cons_succ, List.getElem_toArray, List.getElem_cons_succ, List.getElem_cons_zero]
                          refine reg_on (i := 17) (v := ?vr6_17) rfl (by kernel_rfl) (by kernel_rfl) (by kernel_rfl) (fun _ _ _ h => h) (by kernel_rfl) hHeld ?yr6_17 ?_
                          case yr6_17 => (intro w hSw; (try dsimp only at hSw); obtain ⟨z0, p2, p0, p1, y2, y5⟩ := HF2.out _ hSw; go_simp; first | done | with_reducible rfl)
                          simp only [Act.put, List.setIfInBounds_toArray, List.set_cons_zero, List.set_cons_succ, List.getElem_toArray, List.getElem_cons_succ, List.getElem_cons_zero]
                          refine reg_on (i := 18) (v := ?vr6_18) rfl (by kernel_rfl) (by kernel_rfl) (by kernel_rfl) (fun _ _ _ h => h) (by kernel_rfl) hHeld ?yr6_18 ?_
                          case yr6_18 => (intro w hSw; (try dsimp only at hSw); obtain ⟨z0, p2, p0, p1, y2, y5⟩ := HF2.out _ hSw; go_simp; first | done | with_reducible rfl)
                          simp only [Act.put, List.setIfInBounds_toArray, List.set_cons_zero, List.set_cons_succ, List.getElem_toArray, List.getElem_cons_succ, List.getElem_cons_zero]
                          refine reg_on (i := 19) (v := .bool false) rfl (by kernel_rfl) (by kernel_rfl) (by kernel_rfl) (fun _ _ _ h => h) (by kernel_rfl) hHeld ?yr6_19 ?_
                          case yr6_19 => (intro w hSw; (try dsimp only at hSw); obtain ⟨z0, p2, p0, p1, y2, y5⟩ := HF2.out _ hSw; go_simp; first | done | with_reducible rfl)
                          simp only [Act.put, List.setIfInBounds_toArray, List.set_cons_zero, List.set_cons_succ, List.getElem_toArray, List.getElem_cons_succ, List.getElem_cons_zero]
                          refine reg_on (i := 20) (v := .bool false) rfl (by kernel_rfl) (by kernel_rfl) (by kernel_rfl) (fun _ _ _ h => h) (by kernel_rfl) hHeld ?yr6_20 ?_
                          case yr6_20 => (intro w hSw; (try dsimp only at hSw); obtain ⟨z0, p2, p0, p1, y2, y5⟩ := HF2.out _ hSw; go_simp; first | done | with_reducible rfl)
                          simp only [Act.put, List.setIfInBounds_toArray, List.set_cons_zero, List.set_cons_succ, List.getElem_toArray, List.getElem_cons_succ, List.getElem_cons_zero]
                          refine wpAnyH_done (by kernel_rfl) ?_ _
                          have HU1 := Lib.hid hHeld
                          obtain ⟨X1, hX1⟩ : ∃ X, wr.drew = X := ⟨_, rfl⟩
                          rw [hX1] at HU1 ⊢
                          clear hX1 hHeld
                          go_upto_region 31 with fail
                          have HD2 := Lib.hid (HU1.out.trans (Upd.drew NoF X1) (fun _ _ h => h))
                          refine wp_region_held_drew (S := (fun X => Upd NoF wr X)) (by kernel_rfl) (HD2.out) (fun hHeld => ?_)
                          refine reg_on (i := 0) (v := .bool true) rfl (by kernel_rfl) (by kernel_rfl) (by kernel_rfl) (fun _ _ _ h => h) (by kernel_rfl) hHeld ?yr7_0 ?_
                          case yr7_0 => (intro w hSw; (try dsimp only at hSw); obtain ⟨z0, p2, p0, p1, y2, y5⟩ := HF2.out _ hSw; go_simp; first | done | with_reducible rfl)
                          simp only [Act.put, List.setIfInBounds_toArray, List.set_cons_zero, List.set_cons_succ, List.getElem_toArray, List.getElem_cons_succ, List.getElem_cons_zero]
                          refine reg_on (i := 1) (v := .bool true) rfl (by kernel_rfl) (by kernel_rfl) (by kernel_rfl) (fun _ _ _ h => h) (by kernel_rfl) hHeld ?yr7_1 ?_
                          case yr7_1 => (intro w hSw; (try dsimp only at hSw); obtain ⟨z0, p2, p0, p1, y2, y5⟩ := HF2.out _ hSw; go_simp; first | done | with_reducible rfl)
                          simp only [Act.put, List.setIfInBounds_toArray, List.set_cons_zero, List.set_cons_succ, List.getElem_toArray, List.getElem_cons_succ, List.getElem_cons_zero]
                          refine reg_on (i := 2) (v := ?vr7_2) rfl (by kernel_rfl) (by kernel_rfl) (by kernel_rfl) (fun _ _ _ h => h) (by kernel_rfl) hHeld ?yr7_2 ?_
                          case yr7_2 => (intro w hSw; (try dsimp only at hSw); obtain ⟨z0, p2, p0, p1, y2, y5⟩ := HF2.out _ hSw; go_simp; first | done | with_reducible rfl)
                          simp only [Act.put, List.setIfInBounds_toArray, List.set_cons_zero, List.set_cons_succ, List.getElem_toArray, List.getElem_cons_succ, List.getElem_cons_zero]
                          refine reg_on (i := 3) (v := ?vr7_3) rfl (by kernel_rfl) (by kernel_rfl) (by kernel_rfl) (fun _ _ _ h => h) (by kernel_rfl) hHeld ?yr7_3 ?_
                          case yr7_3 => (intro w hSw; (try dsimp only at hSw); obtain ⟨z0, p2, p0, p1, y2, y5⟩ := HF2.out _ hSw; go_simp; first | done | with_reducible rfl)
                          simp only [Act.put, List.setIfInBounds_toArray, List.set_cons_zero, List.set_cons_succ, List.getElem_toArray, List.getElem_cons_succ, List.getElem_cons_zero]
                          refine reg_on (i := 4) (v := ?vr7_4) rfl (by kernel_rfl) (by kernel_rfl) (by kernel_rfl) (fun _ _ _ h => h) (by kernel_rfl) hHeld ?yr7_4 ?_
                          case yr7_4 => (intro w hSw; (try dsimp only at hSw); obtain ⟨z0, p2, p0, p1, y2, y5⟩ := HF2.out _ hSw; go_simp; first | done | with_reducible rfl)
                          simp only [Act.put, List.setIfInBounds_toArray, List.set_cons_zero, List.set_cons_succ, List.getElem_toArray, List.getElem_cons_succ, List.getElem_cons_zero]
                          refine reg_on (i := 5) (v := ?vr7_5) rfl (by kernel_rfl) (by kernel_rfl) (by kernel_rfl) (fun _ _ _ h => h) (by kernel_rfl) hHeld ?yr7_5 ?_
                          case yr7_5 => (intro w hSw; (try dsimp only at hSw); obtain ⟨z0, p2, p0, p1, y2, y5⟩ := HF2.out _ hSw; go_simp; first | done | with_reducible rfl)
                          simp only [Act.put, List.setIfInBounds_toArray, List.set_cons_zero, List.set_cons_succ, List.getElem_toArray, List.getElem_cons_succ, List.getElem_cons_zero]
                          refine reg_on (i := 6) (v := .bool true) rfl (by kernel_rfl) (by kernel_rfl) (by kernel_rfl) (fun _ _ _ h => h) (by kernel_rfl) hHeld ?yr7_6 ?_
                          case yr7_6 => (intro w hSw; (try dsimp only at hSw); obtain ⟨z0, p2, p0, p1, y2, y5⟩ := HF2.out _ hSw; go_simp; first | done | with_reducible rfl)
                          simp only [Act.put, List.setIfInBounds_toArray, List.set_cons_zero, List.set_cons_succ, List.getElem_toArray, List.getElem_cons_succ, List.getElem_cons_zero]
                          refine reg_on (i := 7) (v := .bool true) rfl (by kernel_rfl) (by kernel_rfl) (by kernel_rfl) (fun _ _ _ h => h) (by kernel_rfl) hHeld ?yr7_7 ?_
                          case yr7_7 => (intro w hSw; (try dsimp only at hSw); obtain ⟨z0, p2, p0, p1, y2, y5⟩ := HF2.out _ hSw; go_simp; first | done | with_reducible rfl)
                          simp only [Act.put, List.setIfInBounds_toArray, List.set_cons_zero, List.set_cons_succ, List.getElem_toArray, List.getElem_cons_succ, List.getElem_cons_zero]
                          refine reg_on (i := 8) (v := .bool true) rfl (by kernel_rfl) (by kernel_rfl) (by kernel_rfl) (fun _ _ _ h => h) (by kernel_rfl) hHeld ?yr7_8 ?_
                          case yr7_8 => (intro w hSw; (try dsimp only at hSw); obtain ⟨z0, p2, p0, p1, y2, y5⟩ := HF2.out _ hSw; go_simp; first | done | with_reducible rfl)
                          simp only [Act.put, List.setIfInBounds_toArray, List.set_cons_zero, List.set_cons_succ, List.getElem_toArray, List.getElem_cons_succ, List.getElem_cons_zero]
                          refine reg_on (i := 9) (v := ?vr7_9) rfl (by kernel_rfl) (by kernel_rfl) (by kernel_rfl) (fun _ _ _ h => h) (by kernel_rfl) hHeld ?yr7_9 ?_
                          case yr7_9 => (intro w hSw; (try dsimp only at hSw); obtain ⟨z0, p2, p0, p1, y2, y5⟩ := HF2.out _ hSw; go_simp; first | done | with_reducible rfl)
                          simp only [Act.put, List.setIfInBounds_toArray, List.set_cons_zero, List.set_cons_succ, List.getElem_toArray, List.getElem_cons_succ, List.getElem_cons_zero]
                          refine reg_on (i := 10) (v := ?vr7_10) rfl (by kernel_rfl) (by kernel_rfl) (by kernel_rfl) (fun _ _ _ h => h) (by kernel_rfl) hHeld ?yr7_10 ?_
                          case yr7_10 => (intro w hSw; (try dsimp only at hSw); obtain ⟨z0, p2, p0, p1, y2, y5⟩ := HF2.out _ hSw; go_simp; first | done | with_reducible rfl)
                          simp only [Act.put, List.setIfInBounds_toArray, List.set_cons_zero, List.set_cons_succ, List.getElem_toArray, List.getElem_cons_succ, List.getElem_cons_zero]
                          refine reg_on (i := 11) (v := ?vr7_11) rfl (by kernel_rfl) (by kernel_rfl) (by kernel_rfl) (fun _ _ _ h => h) (by kernel_rfl) hHeld ?yr7_11 ?_
                          case yr7_11 => (intro w hSw; (try dsimp only at hSw); obtain ⟨z0, p2, p0, p1, y2, y5⟩ := HF2.out _ hSw; go_simp; first | done | with_reducible rfl)
                          simp only [Act.put, List.setIfInBounds_toArray, List.set_cons_zero, List.set_cons_succ, List.getElem_toArray, List.getElem_cons_succ, List.getElem_cons_zero]
                          refine reg_on (i := 12) (v := ?vr7_12) rfl (by kernel_rfl) (by kernel_rfl) (by kernel_rfl) (fun _ _ _ h => h) (by kernel_rfl) hHeld ?yr7_12 ?_
                          case yr7_12 => (intro w hSw; (try dsimp only at hSw); obtain ⟨z0, p2, p0, p1, y2, y5⟩ := HF2.out _ hSw; go_simp; first | done | with_reducible rfl)
                          simp only [Act.put, List.setIfInBounds_toArray, List.set_cons_zero, List.set_cons_succ, List.getElem_toArray, List.getElem_cons_succ, List.getElem_cons_zero]
                          refine reg_on (i := 13) (v := ?vr7_13) rfl (by kernel_rfl) (by kernel_rfl) (by kernel_rfl) (fun _ _ _ h => h) (by kernel_rfl) hHeld ?yr7_13 ?_
                          case yr7_13 => (intro w hSw; (try dsimp only at hSw); obtain ⟨z0, p2, p0, p1, y2, y5⟩ := HF2.out _ hSw; go_simp; first | done | with_reducible rfl)
                          simp only [Act.put, List.setIfInBounds_toArray, List.set_cons_zero, List.set_cons_succ, List.getElem_toArray, List.getElem_cons_succ, List.getElem_cons_zero]
                          refine reg_on (i := 14) (v := ?vr7_14) rfl (by kernel_rfl) (by kernel_rfl) (by kernel_rfl) (fun _ _ _ h => h) (by kernel_rfl) hHeld ?yr7_14 ?_
                          case yr7_14 => (intro w hSw; (try dsimp only at hSw); obtain ⟨z0, p2, p0, p1, y2, y5⟩ := HF2.out _ hSw; go_simp; first | done | with_reducible rfl)
                          simp only [Act.put, List.setIfInBounds_toArray, List.set_cons_zero, List.set_cons_succ, List.getElem_toArray, List.getElem_cons_succ, List.getElem_cons_zero]
                          refine reg_on (i := 15) (v := .bool false) rfl (by kernel_rfl) (by kernel_rfl) (by kernel_rfl) (fun _ _ _ h => h) (by kernel_rfl) hHeld ?yr7_15 ?_
                          case yr7_15 => (intro w hSw; (try dsimp only at hSw); obtain ⟨z0, p2, p0, p1, y2, y5⟩ := HF2.out _ hSw; go_simp; first | done | with_reducible rfl)
                          simp only [Act.put, List.setIfInBounds_toArray, List.set_cons_zero, List.set_cons_succ, List.getElem_toArray, List.getElem_cons_succ, List.getElem_cons_zero]
                          refine reg_on (i := 16) (v := .bool false) rfl (by kernel_rfl) (by kernel_rfl) (by kernel_rfl) (fun _ _ _ h => h) (by kernel_rfl) hHeld ?yr7_16 ?_
                          case yr7_16 => (intro w hSw; (try dsimp only at hSw); obtain ⟨z0, p2, p0, p1, y2, y5⟩ := HF2.out _ hSw; go_simp; first | done | with_reducible rfl)
                          simp only [Act.put, List.setIfInBounds_toArray, List.set_cons_zero, List.set_cons_succ, List.getElem_toArray, List.getElem_cons_succ, List.getElem_cons_zero]
                          refine reg_on (i := 17) (v := ?vr7_17) rfl (by kernel_rfl) (by kernel_rfl) (by kernel_rfl) (fun _ _ _ h => h) (by kernel_rfl) hHeld ?yr7_17 ?_
                          case yr7_17 => (intro w hSw; (try dsimp only at hSw); obtain ⟨z0, p2, p0, p1, y2, y5⟩ := HF2.out _ hSw; go_simp; first | done | with_reducible rfl)
                          simp only [Act.put, List.setIfInBounds_toArray, List.set_cons_zero, List.set_cons_succ, List.getElem_toArray, List.getElem_cons_succ, List.getElem_cons_zero]
                          refine reg_on (i := 18) (v := ?vr7_18) rfl (by kernel_rfl) (by kernel_rfl) (by kernel_rfl) (fun _ _ _ h => h) (by kernel_rfl) hHeld ?yr7_18 ?_
                          case yr7_18 => (intro w hSw; (try dsimp only at hSw); obtain ⟨z0, p2, p0, p1, y2, y5⟩ := HF2.out _ hSw; go_simp; first | done | with_reducible rfl)
                          simp only [Act.put, List.setIfInBounds_toArray, List.set_cons_zero, List.set_cons_succ, List.getElem_toArray, List.getElem_cons_succ, List.getElem_cons_zero]
                          refine reg_step (i := 19) (by kernel_rfl) rfl (by kernel_rfl) (fun K hK => ?_)
                          go_simp
                          refine (HCT.out _).mono ?_
                          rintro e wz ⟨rfl, hu⟩
                          have HS : (fun X => Upd NoF wr X) wz := hHeld.trans hu (fun _ _ h => h)
                          clear hu
                          go_wp2_with fail
                          refine hK.out _ _ HS (fun hHeld2 => ?_)
                          clear hK hHeld2 hHeld
                          have hHeld := HS
                          clear HS
                          try simp only [Act.put, List.setIfInBounds_toArray, List.set_cons_zero, List.set_cons_succ, List.getElem_toArray, List.getElem_cons_succ, List.getElem_cons_zero]
                          refine reg_on (i := 20) (v := .bool false) rfl (by kernel_rfl) (by kernel_rfl) (by kernel_rfl) (fun _ _ _ h => h) (by kernel_rfl) hHeld ?yr7_20 ?_
                          case yr7_20 => (intro w hSw; (try dsimp only at hSw); obtain ⟨z0, p2, p0, p1, y2, y5⟩ := HF2.out _ hSw; go_simp; first | done | with_reducible rfl)
                          simp only [Act.put, List.setIfInBounds_toArray, List.set_cons_zero, List.set_cons_succ, List.getElem_toArray, List.getElem_cons_succ, List.getElem_cons_zero]
                          refine reg_on (i := 21) (v := .bool false) rfl (by kernel_rfl) (by kernel_rfl) (by kernel_rfl) (fun _ _ _ h => h) (by kernel_rfl) hHeld ?yr7_21 ?_
                          case yr7_21 => (intro w hSw; (try dsimp only at hSw); obtain ⟨z0, p2, p0, p1, y2, y5⟩ := HF2.out _ hSw; go_simp; first | done | with_reducible rfl)
                          simp only [Act.put, List.setIfInBounds_toArray, List.set_cons_zero, List.set_cons_succ, List.getElem_toArray, List.getElem_cons_succ, List.getElem_cons_zero]
                          refine reg_on (i := 22) (v := .bool false) rfl (by kernel_rfl) (by kernel_rfl) (by kernel_rfl) (fun _ _ _ h => h) (by kernel_rfl) hHeld ?yr7_22 ?_
                          case yr7_22 => (intro w hSw; (try dsimp only at hSw); obtain ⟨z0, p2, p0, p1, y2, y5⟩ := HF2.out _ hSw; go_simp; first | done | with_reducible rfl)
                          simp only [Act.put, List.setIfInBounds_toArray, List.set_cons_zero, List.set_cons_succ, List.getElem_toArray, List.getElem_cons_succ, List.getElem_cons_zero]
                          refine wpAnyH_done (by kernel_rfl) ?_ _
                          have HU2 := Lib.hid hHeld
                          clear hHeld
                          go_wp2_with fail
                          exact ⟨⟨k + 1, S1, by omega, by go_num, HCC.out, HIV.out, ((((HS12.out.upd0 HU2.out).drop 0 (by simp)).drop 0 (by simp)).drop 1 (by simp)).drop 1 (by simp)⟩, by simp [intOf]; omega⟩
                      · have bo : decide (0 ≤ x0.own) = false := by simpa using ho
                        clear ha ho
                        have HF2 := Lib.hid (fun X (hX : Upd NoF wr X) => (show X.cell? ⟨nb, 0, none⟩ = some (.int .u8 n.kind) ∧ X.cell? ⟨eb, 0, none⟩ = some (.int .i64 x0.own) ∧ X.cell? ⟨e2, 0, none⟩ = some (.int .i64 x1.own) ∧ X.cell? ⟨e2, 1, none⟩ = some (VM x1.shr) ∧ X.cell? ⟨g2, 2, none⟩ = some (.int .i64 y.too) ∧ X.cell? ⟨g2, 5, none⟩ = some (.int .u8 y.state) from ⟨hX.cell z0 (fun h => h), hX.cell p2 (fun h => h), hX.cell p0 (fun h => h), hX.cell p1 (fun h => h), hX.cell y2 (fun h => h), hX.cell y5 (fun h => h)⟩))
                        clear z0 p0 p1 p2 y2 y5
                        by_cases hst : y.state = 1
                        · have bs : (y.state != 1) = false := by simp [hst]
                          clear hst
                          go_upto_region 29 with fail
                          have HD1 := Lib.hid (Upd.drew NoF wr)
                          refine wp_region_held_drew (S := (fun X => Upd NoF wr X)) (by kernel_rfl) (HD1.out) (fun hHeld => ?_)
                          refine reg_on (i := 0) (v := .bool true) rfl (by kernel_rfl) (by kernel_rfl) (by kernel_rfl) (fun _ _ _ h => h) (by kernel_rfl) hHeld ?yr8_0 ?_
                          case yr8_0 => (intro w hSw; (try dsimp only at hSw); obtain ⟨z0, p2, p0, p1, y2, y5⟩ := HF2.out _ hSw; go_simp; first | done | with_reducible rfl)
                          simp only [Act.put, List.setIfInBounds_toArray, List.set_cons_zero, List.set_cons_succ, List.getElem_toArray, List.getElem_cons_succ, List.getElem_cons_zero]
                          refine reg_on (i := 1) (v := .bool true) rfl (by kernel_rfl) (by kernel_rfl) (by kernel_rfl) (fun _ _ _ h => h) (by kernel_rfl) hHeld ?yr8_1 ?_
                          case yr8_1 => (intro w hSw; (try dsimp only at hSw); obtain ⟨z0, p2, p0, p1, y2, y5⟩ := HF2.out _ hSw; go_simp; first | done | with_reducible rfl)
                          simp only [Act.put, List.setIfInBounds_toArray, List.set_cons_zero, List.set_cons_succ, List.getElem_toArray, List.getElem_cons_succ, List.getElem_cons_zero]
                          refine reg_on (i := 2) (v := ?vr8_2) rfl (by kernel_rfl) (by kernel_rfl) (by kernel_rfl) (fun _ _ _ h => h) (by kernel_rfl) hHeld ?yr8_2 ?_
                          case yr8_2 => (intro w hSw; (try dsimp only at hSw); obtain ⟨z0, p2, p0, p1, y2, y5⟩ := HF2.out _ hSw; go_simp; first | done | with_reducible rfl)
                          simp only [Act.put, List.setIfInBounds_toArray, List.set_cons_zero, List.set_cons_succ, List.getElem_toArray, List.getElem_cons_succ, List.getElem_cons_zero]
                          refine reg_on (i := 3) (v := ?vr8_3) rfl (by kernel_rfl) (by kernel_rfl) (by kernel_rfl) (fun _ _ _ h => h) (by kernel_rfl) hHeld ?yr8_3 ?_
                          case yr8_3 => (intro w hSw; (try dsimp only at hSw); obtain ⟨z0, p2, p0, p1, y2, y5⟩ := HF2.out _ hSw; go_simp; first | done | with_reducible rfl)
                          simp only [Act.put, List.setIfInBounds_toArray, List.set_cons_zero, List.set_cons_succ, List.getElem_toArray, List.getElem_cons_succ, List.getElem_cons_zero]
                          refine reg_step (i := 4) (by kernel_rfl) rfl (by kernel_rfl) (fun K hK => ?_)
                          go_simp
                          refine (NC.net_any n.kind _).mono ?_
                          rintro e wz ⟨rfl, rfl⟩
                          have HS := hHeld
                          go_wp2_with fail
                          refine hK.out _ _ HS (fun hHeld2 => ?_)
                          clear hK hHeld2 hHeld
                          have hHeld := HS
                          clear HS
                          try simp only [Act.put, List.setIfInBounds_toArray, List.set_cons_zero, List.set_cons_succ, List.getElem_toArray, List.getElem_cons_succ, List.getElem_cons_zero]
                          refine reg_on (i := 5) (v := .bool true) rfl (by kernel_rfl) (by kernel_rfl) (by kernel_rfl) (fun _ _ _ h => h) (by kernel_rfl) hHeld ?yr8_5 ?_
                          case yr8_5 => (intro w hSw; (try dsimp only at hSw); obtain ⟨z0, p2, p0, p1, y2, y5⟩ := HF2.out _ hSw; go_simp; first | done | with_reducible rfl)
                          simp only [Act.put, List.setIfInBounds_toArray, List.set_cons_zero, List.set_cons_succ, List.getElem_toArray, List.getElem_cons_succ, List.getElem_cons_zero]
                          refine reg_on (i := 6) (v := .bool true) rfl (by kernel_rfl) (by kernel_rfl) (by kernel_rfl) (fun _ _ _ h => h) (by kernel_rfl) hHeld ?yr8_6 ?_
                          case yr8_6 => (intro w hSw; (try dsimp only at hSw); obtain ⟨z0, p2, p0, p1, y2, y5⟩ := HF2.out _ hSw; go_simp; first | done | with_reducible rfl)
                          simp only [Act.put, List.setIfInBounds_toArray, List.set_cons_zero, List.set_cons_succ, List.getElem_toArray, List.getElem_cons_succ, List.getElem_cons_zero]
                          refine reg_on (i := 7) (v := .bool true) rfl (by kernel_rfl) (by kernel_rfl) (by kernel_rfl) (fun _ _ _ h => h) (by kernel_rfl) hHeld ?yr8_7 ?_
                          case yr8_7 => (intro w hSw; (try dsimp only at hSw); obtain ⟨z0, p2, p0, p1, y2, y5⟩ := HF2.out _ hSw; go_simp; first | done | with_reducible rfl)
                          simp only [Act.put, List.setIfInBounds_toArray, List.set_cons_zero, List.set_cons_succ, List.getElem_toArray, List.getElem_cons_succ, List.getElem_cons_zero]
                          refine reg_on (i := 8) (v := ?vr8_8) rfl (by kernel_rfl) (by kernel_rfl) (by kernel_rfl) (fun _ _ _ h => h) (by kernel_rfl) hHeld ?yr8_8 ?_
                          case yr8_8 => (intro w hSw; (try dsimp only at hSw); obtain ⟨z0, p2, p0, p1, y2, y5⟩ := HF2.out _ hSw; go_simp; first | done | with_reducible rfl)
                          simp only [Act.put, List.setIfInBounds_toArray, List.set_cons_zero, List.set_cons_succ, List.getElem_toArray, List.getElem_cons_succ, List.getElem_cons_zero]
                          refine reg_on (i := 9) (v := ?vr8_9) rfl (by kernel_rfl) (by kernel_rfl) (by kernel_rfl) (fun _ _ _ h => h) (by kernel_rfl) hHeld ?yr8_9 ?_
                          case yr8_9 => (intro w hSw; (try dsimp only at hSw); obtain ⟨z0, p2, p0, p1, y2, y5⟩ := HF2.out _ hSw; go_simp; first | done | with_reducible rfl)
                          simp only [Act.put, List.setIfInBounds_toArray, List.set_cons_zero, List.set_cons_succ, List.getElem_toArray, List.getElem_cons_succ, List.getElem_cons_zero]
                          refine reg_on (i := 10) (v := .bool false) rfl (by kernel_rfl) (by kernel_rfl) (by kernel_rfl) (fun _ _ _ h => h) (by kernel_rfl) hHeld ?yr8_10 ?_
                          case yr8_10 => (intro w hSw; (try dsimp only at hSw); obtain ⟨z0, p2, p0, p1, y2, y5⟩ := HF2.out _ hSw; go_simp; first | done | with_reducible rfl)
                          simp only [Act.put, List.setIfInBounds_toArray, List.set_cons_zero, List.set_cons_succ, List.getElem_toArray, List.getElem_cons_succ, List.getElem_cons_zero]
                          refine reg_on (i := 11) (v := .bool false) rfl (by kernel_rfl) (by kernel_rfl) (by kernel_rfl) (fun _ _ _ h => h) (by kernel_rfl) hHeld ?yr8_11 ?_
                          case yr8_11 => (intro w hSw; (try dsimp only at hSw); obtain ⟨z0, p2, p0, p1, y2, y5⟩ := HF2.out _ hSw; go_simp; first | done | with_reducible rfl)
                          simp only [Act.put, List.setIfInBounds_toArray, List.set_cons_zero, List.set_cons_succ, List.getElem_toArray, List.getElem_cons_succ, List.getElem_cons_zero]
                          refine reg_on (i := 12) (v := .bool false) rfl (by kernel_rfl) (by kernel_rfl) (by kernel_rfl) (fun _ _ _ h => h) (by kernel_rfl) hHeld ?yr8_12 ?_
                          case yr8_12 => (intro w hSw; (try dsimp only at hSw); obtain ⟨z0, p2, p0, p1, y2, y5⟩ := HF2.out _ hSw; go_simp; first | done | with_reducible rfl)
                          simp only [Act.put, List.setIfInBounds_toArray, List.set_cons_zero, List.set_cons_succ, List.getElem_toArray, List.getElem_cons_succ, List.getElem_cons_zero]
                          refine reg_off (i := 13) rfl (by kernel_rfl) (by kernel_rfl) (by kernel_rfl) (fun _ _ _ h => h) (by kernel_rfl) hHeld ?_
                          simp only [Act.put, List.setIfInBounds_toArray, List.set_cons_zero, List.set_cons_succ, List.getElem_toArray, List.getElem_cons_succ, List.getElem_cons_zero]
                          refine reg_off (i := 14) rfl (by kernel_rfl) (by kernel_rfl) (by kernel_rfl) (fun _ _ _ h => h) (by kernel_rfl) hHeld ?_
                          simp only [Act.put, List.setIfInBounds_toArray, List.set_cons_zero, List.set_cons_succ, List.getElem_toArray, List.getElem_cons_succ, List.getElem_cons_zero]
                          refine reg_off (i := 15) rfl (by kernel_rfl) (by kernel_rfl) (by kernel_rfl) (fun _ _ _ h => h) (by kernel_rfl) hHeld ?_
                          simp only [Act.put, List.setIfInBounds_toArray, List.set_cons_zero, List.set_cons_succ, List.getElem_toArray, List.getElem_cons_succ, List.getElem_cons_zero]
                          refine reg_off (i := 16) rfl (by kernel_rfl) (by kernel_rfl) (by kernel_rfl) (fun _ _ _ h => h) (by kernel_rfl) hHeld ?_
                          simp only [Act.put, List.setIfInBounds_toArray, List.set_cons_zero, List.set_cons_succ, List.getElem_toArray, List.getElem_cons_succ, List.getElem_cons_zero]
                          refine reg_off (i := 17) rfl (by kernel_rfl) (by kernel_rfl) (by kernel_rfl) (fun _ _ _ h => h) (by kernel_rfl) hHeld ?_
                          simp only [Act.put, List.setIfInBounds_toArray, List.set_cons_zero, List.set_cons_succ, List.getElem_toArray, List.getElem_cons_succ, List.getElem_cons_zero]
                          refine reg_off (i := 18) rfl (by kernel_rfl) (by kernel_rfl) (by kernel_rfl) (fun _ _ _ h => h) (by kernel_rfl) hHeld ?_
                          simp only [Act.put, List.setIfInBounds_toArray, List.set_cons_zero, List.set_cons_succ, List.getElem_toArray, List.getElem_cons_succ, List.getElem_cons_zero]
                          refine reg_off (i := 19) rfl (by kernel_rfl) (by kernel_rfl) (by kernel_rfl) (fun _ _ _ h => h) (by kernel_rfl) hHeld ?_
                          simp only [Act.put, List.setIfInBounds_toArray, List.set_cons_zero, List.set_cons_succ, List.getElem_toArray, List.getElem_cons_succ, List.getElem_cons_zero]
                          refine reg_on (i := 20) (v := .bool false) rfl (by kernel_rfl) (by kernel_rfl) (by kernel_rfl) (fun _ _ _ h => h) (by kernel_rfl) hHeld ?yr8_20 ?_
                          case yr8_20 => (intro w hSw; (try dsimp only at hSw); obtain ⟨z0, p2, p0, p1, y2, y5⟩ := HF2.out _ hSw; go_simp; first | done | with_reducible rfl)
                          simp only [Act.put, List.setIfInBounds_toArray, List.set_cons_zero, List.set_cons_succ, List.getElem_toArray, List.getElem_cons_succ, List.getElem_cons_zero]
                          refine wpAnyH_done (by kernel_rfl) ?_ _
                          have HU1 := Lib.hid hHeld
                          obtain ⟨X1, hX1⟩ : ∃ X, wr.drew = X := ⟨_, rfl⟩
                          rw [hX1] at HU1 ⊢
                          clear hX1 hHeld
                          go_upto_region 31 with fail
                          have HD2 := Lib.hid (HU1.out.trans (Upd.drew NoF X1) (fun _ _ h => h))
                          refine wp_region_held_drew (S := (fun X => Upd NoF wr X)) (by kernel_rfl) (HD2.out) (fun hHeld => ?_)
                          refine reg_on (i := 0) (v := .bool true) rfl (by kernel_rfl) (by kernel_rfl) (by kernel_rfl) (fun _ _ _ h => h) (by kernel_rfl) hHeld ?yr9_0 ?_
                          case yr9_0 => (intro w hSw; (try dsimp only at hSw); obtain ⟨z0, p2, p0, p1, y2, y5⟩ := HF2.out _ hSw; go_simp; first | done | with_reducible rfl)
                          simp only [Act.put, List.setIfInBounds_toArray, List.set_cons_zero, List.set_cons_succ, List.getElem_toArray, List.getElem_cons_succ, List.getElem_cons_zero]
                          refine reg_on (i := 1) (v := .bool true) rfl (by kernel_rfl) (by kernel_rfl) (by kernel_rfl) (fun _ _ _ h => h) (by kernel_rfl) hHeld ?yr9_1 ?_
                          case yr9_1 => (intro w hSw; (try dsimp only at hSw); obtain ⟨z0, p2, p0, p1, y2, y5⟩ := HF2.out _ hSw; go_simp; first | done | with_reducible rfl)
                          simp only [Act.put, List.setIfInBounds_toArray, List.set_cons_zero, List.set_cons_succ, List.getElem_toArray, List.getElem_cons_succ, List.getElem_cons_zero]
                          refine reg_on (i := 2) (v := ?vr9_2) rfl (by kernel_rfl) (by kernel_rfl) (by kernel_rfl) (fun _ _ _ h => h) (by kernel_rfl) hHeld ?yr9_2 ?_
                          case yr9_2 => (intro w hSw; (try dsimp only at hSw); obtain ⟨z0, p2, p0, p1, y2, y5⟩ := HF2.out _ hSw; go_simp; first | done | with_reducible rfl)
                          simp only [Act.put, List.setIfInBounds_toArray, List.set_cons_zero, List.set_cons_succ, List.getElem_toArray, List.getElem_cons_succ, List.getElem_cons_zero]
                          refine reg_on (i := 3) (v := ?vr9_3) rfl (by kernel_rfl) (by kernel_rfl) (by kernel_rfl) (fun _ _ _ h => h) (by kernel_rfl) hHeld ?yr9_3 ?_
                          case yr9_3 => (intro w hSw; (try dsimp only at hSw); obtain ⟨z0, p2, p0, p1, y2, y5⟩ := HF2.out _ hSw; go_simp; first | done | with_reducible rfl)
                          simp only [Act.put, List.setIfInBounds_toArray, List.set_cons_zero, List.set_cons_succ, List.getElem_toArray, List.getElem_cons_succ, List.getElem_cons_zero]
                          refine reg_on (i := 4) (v := ?vr9_4) rfl (by kernel_rfl) (by kernel_rfl) (by kernel_rfl) (fun _ _ _ h => h) (by kernel_rfl) hHeld ?yr9_4 ?_
                          case yr9_4 => (intro w hSw; (try dsimp only at hSw); obtain ⟨z0, p2, p0, p1, y2, y5⟩ := HF2.out _ hSw; go_simp; first | done | with_reducible rfl)
                          simp only [Act.put, List.setIfInBounds_toArray, List.set_cons_zero, List.set_cons_succ, List.getElem_toArray, List.getElem_cons_succ, List.getElem_cons_zero]
                          refine reg_on (i := 5) (v := ?vr9_5) rfl (by kernel_rfl) (by kernel_rfl) (by kernel_rfl) (fun _ _ _ h => h) (by kernel_rfl) hHeld ?yr9_5 ?_
                          case yr9_5 => (intro w hSw; (try dsimp only at hSw); obtain ⟨z0, p2, p0, p1, y2, y5⟩ := HF2.out _ hSw; go_simp; first | done | with_reducible rfl)
                          simp only [Act.put, List.setIfInBounds_toArray, List.set_cons_zero, List.set_cons_succ, List.getElem_toArray, List.getElem_cons_succ, List.getElem_cons_zero]
                          refine reg_on (i := 6) (v := .bool false) rfl (by kernel_rfl) (by kernel_rfl) (by kernel_rfl) (fun _ _ _ h => h) (by kernel_rfl) hHeld ?yr9_6 ?_
                          case yr9_6 => (intro w hSw; (try dsimp only at hSw); obtain ⟨z0, p2, p0, p1, y2, y5⟩ := HF2.out _ hSw; go_simp; first | done | with_reducible rfl)
                          simp only [Act.put, List.setIfInBounds_toArray, List.set_cons_zero, List.set_cons_succ, List.getElem_toArray, List.getElem_cons_succ, List.getElem_cons_zero]
                          refine reg_on (i := 7) (v := .bool false) rfl (by kernel_rfl) (by kernel_rfl) (by kernel_rfl) (fun _ _ _ h => h) (by kernel_rfl) hHeld ?yr9_7 ?_
                          case yr9_7 => (intro w hSw; (try dsimp only at hSw); obtain ⟨z0, p2, p0, p1, y2, y5⟩ := HF2.out _ hSw; go_simp; first | done | with_reducible rfl)
                          simp only [Act.put, List.setIfInBounds_toArray, List.set_cons_zero, List.set_cons_succ, List.getElem_toArray, List.getElem_cons_succ, List.getElem_cons_zero]
                          refine reg_on (i := 8) (v := .bool false) rfl (by kernel_rfl) (by kernel_rfl) (by kernel_rfl) (fun _ _ _ h => h) (by kernel_rfl) hHeld ?yr9_8 ?_
                          case yr9_8 => (intro w hSw; (try dsimp only at hSw); obtain ⟨z0, p2, p0, p1, y2, y5⟩ := HF2.out _ hSw; go_simp; first | done | with_reducible rfl)
                          simp only [Act.put, List.setIfInBounds_toArray, List.set_cons_zero, List.set_cons_succ, List.getElem_toArray, List.getElem_cons_succ, List.getElem_cons_zero]
                          refine reg_off (i := 9) rfl (by kernel_rfl) (by kernel_rfl) (by kernel_rfl) (fun _ _ _ h => h) (by kernel_rfl) hHeld ?_
                          simp only [Act.put, List.setIfInBounds_toArray, List.set_cons_zero, List.set_cons_succ, List.getElem_toArray, List.getElem_cons_succ, List.getElem_cons_zero]
                          refine reg_off (i := 10) rfl (by kernel_rfl) (by kernel_rfl) (by kernel_rfl) (fun _ _ _ h => h) (by kernel_rfl) hHeld ?_
                          simp only [Act.put, List.setIfInBounds_toArray, List.set_cons_zero, List.set_cons_succ, List.getElem_toArray, List.getElem_cons_succ, List.getElem_cons_zero]
                          refine reg_off (i := 11) rfl (by kernel_rfl) (by kernel_rfl) (by kernel_rfl) (fun _ _ _ h => h) (by kernel_rfl) hHeld ?_
                          simp only [Act.put, List.setIfInBounds_toArray, List.set_cons_zero, List.set_cons_succ, List.getElem_toArray, List.getElem_cons_succ, List.getElem_cons_zero]
                          refine reg_off (i := 12) rfl (by kernel_rfl) (by kernel_rfl) (by kernel_rfl) (fun _ _ _ h => h) (by kernel_rfl) hHeld ?_
                          simp only [Act.put, List.setIfInBounds_toArray, List.set_cons_zero, List.set_cons_succ, List.getElem_toArray, List.getElem_cons_succ, List.getElem_cons_zero]
                          refine reg_off (i := 13) rfl (by kernel_rfl) (by kernel_rfl) (by kernel_rfl) (fun _ _ _ h => h) (by kernel_rfl) hHeld ?_
                          simp only [Act.put, List.setIfInBounds_toArray, List.set_cons_zero, List.set_cons_succ, List.getElem_toArray, List.getElem_cons_succ, List.getElem_cons_zero]
                          refine reg_off (i := 14) rfl (by kernel_rfl) (by kernel_rfl) (by kernel_rfl) (fun _ _ _ h => h) (by kernel_rfl) hHeld ?_
                          simp only [Act.put, List.setIfInBounds_toArray, List.set_cons_zero, List.set_cons_succ, List.getElem_toArray, List.getElem_cons_succ, List.getElem_cons_zero]
                          refine reg_off (i := 15) rfl (by kernel_rfl) (by kernel_rfl) (by kernel_rfl) (fun _ _ _ h => h) (by kernel_rfl) hHeld ?_
                          simp only [Act.put, List.setIfInBounds_toArray, List.set_cons_zero, List.set_cons_succ, List.getElem_toArray, List.getElem_cons_succ, List.getElem_cons_zero]
                          refine reg_off (i := 16) rfl (by kernel_rfl) (by kernel_rfl) (by kernel_rfl) (fun _ _ _ h => h) (by kernel_rfl) hHeld ?_
                          simp only [Act.put, List.setIfInBounds_toArray, List.set_cons_zero, List.set_cons_succ, List.getElem_toArray, List.getElem_cons_succ, List.getElem_cons_zero]
                          refine reg_off (i := 17) rfl (by kernel_rfl) (by kernel_rfl) (by kernel_rfl) (fun _ _ _ h => h) (by kernel_rfl) hHeld ?_
                          simp only [Act.put, List.setIfInBounds_toArray, List.set_cons_zero, List.set_cons_succ, List.getElem_toArray, List.getElem_cons_succ, List.getElem_cons_zero]
                          refine reg_off (i := 18) rfl (by kernel_rfl) (by kernel_rfl) (by kernel_rfl) (fun _ _ _ h => h) (by kernel_rfl) hHeld ?_
                          simp only [Act.put, List.setIfInBounds_toArray, List.set_cons_zero, List.set_cons_succ, List.getElem_toArray, List.getElem_cons_succ, List.getElem_cons_zero]
                          refine reg_off (i := 19) rfl (by kernel_rfl) (by kernel_rfl) (by kernel_rfl) (fun _ _ _ h => h) (by kernel_rfl) hHeld ?_
                          simp only [Act.put, List.setIfInBounds_toArray, List.set_cons_zero, List.set_cons_succ, List.getElem_toArray, List.getElem_cons_succ, List.getElem_cons_zero]
                          refine reg_off (i := 20) rfl (by kernel_rfl) (by kernel_rfl) (by kernel_rfl) (fun _ _ _ h => h) (by kernel_rfl) hHeld ?_
                          simp only [Act.put, List.setIfInBounds_toArray, List.set_cons_zero, List.set_cons_succ, List.getElem_toArray, List.getElem_cons_succ, List.getElem_cons_zero]
                          refine reg_off (i := 21) rfl (by kernel_rfl) (by kernel_rfl) (by kernel_rfl) (fun _ _ _ h => h) (by kernel_rfl) hHeld ?_
                          simp only [Act.put, List.setIfInBounds_toArray, List.set_cons_zero, List.set_cons_succ, List.getElem_toArray, List.getElem_cons_succ, List.getElem_cons_zero]
                          refine reg_on (i := 22) (v := .bool false) rfl (by kernel_rfl) (by kernel_rfl) (by kernel_rfl) (fun _ _ _ h => h) (by kernel_rfl) hHeld ?yr9_22 ?_
                          case yr9_22 => (intro w hSw; (try dsimp only at hSw); obtain ⟨z0, p2, p0, p1, y2, y5⟩ := HF2.out _ hSw; go_simp; first | done | with_reducible rfl)
                          simp only [Act.put, List.setIfInBounds_toArray, List.set_cons_zero, List.set_cons_succ, List.getElem_toArray, List.getElem_cons_succ, List.getElem_cons_zero]
                          refine wpAnyH_done (by kernel_rfl) ?_ _
                          have HU2 := Lib.hid hHeld
                          clear hHeld
                          go_wp2_with fail
                          exact ⟨⟨k + 1, S1, by omega, by go_num, HCC.out, HIV.out, ((((HS12.out.upd0 HU2.out).drop 0 (by simp)).drop 0 (by simp)).drop 1 (by simp)).drop 1 (by simp)⟩, by simp [intOf]; omega⟩
                        · have bs : (y.state != 1) = true := by simpa using hst
                          have hx := HO4.out y HY0.out c6 hst
                          subst hx
                          have hne : (y.too != y.too) = false := by simp
                          clear hst c6
                          go_upto_region 29 with fail
                          have HD1 := Lib.hid (Upd.drew NoF wr)
                          refine wp_region_held_drew (S := (fun X => Upd NoF wr X)) (by kernel_rfl) (HD1.out) (fun hHeld => ?_)
                          refine reg_on (i := 0) (v := .bool true) rfl (by kernel_rfl) (by kernel_rfl) (by kernel_rfl) (fun _ _ _ h => h) (by kernel_rfl) hHeld ?yr10_0 ?_
                          case yr10_0 => (intro w hSw; (try dsimp only at hSw); obtain ⟨z0, p2, p0, p1, y2, y5⟩ := HF2.out _ hSw; go_simp; first | done | with_reducible rfl)
                          simp only [Act.put, List.setIfInBounds_toArray, List.set_cons_zero, List.set_cons_succ, List.getElem_toArray, List.getElem_cons_succ, List.getElem_cons_zero]
                          refine reg_on (i := 1) (v := .bool true) rfl (by kernel_rfl) (by kernel_rfl) (by kernel_rfl) (fun _ _ _ h => h) (by kernel_rfl) hHeld ?yr10_1 ?_
                          case yr10_1 => (intro w hSw; (try dsimp only at hSw); obtain ⟨z0, p2, p0, p1, y2, y5⟩ := HF2.out _ hSw; go_simp; first | done | with_reducible rfl)
                          simp only [Act.put, List.setIfInBounds_toArray, List.set_cons_zero, List.set_cons_succ, List.getElem_toArray, List.getElem_cons_succ, List.getElem_cons_zero]
                          refine reg_on (i := 2) (v := ?vr10_2) rfl (by kernel_rfl) (by kernel_rfl) (by kernel_rfl) (fun _ _ _ h => h) (by kernel_rfl) hHeld ?yr10_2 ?_
                          case yr10_2 => (intro w hSw; (try dsimp only at hSw); obtain ⟨z0, p2, p0, p1, y2, y5⟩ := HF2.out _ hSw; go_simp; first | done | with_reducible rfl)
                          simp only [Act.put, List.setIfInBounds_toArray, List.set_cons_zero, List.set_cons_succ, List.getElem_toArray, List.getElem_cons_succ, List.getElem_cons_zero]
                          refine reg_on (i := 3) (v := ?vr10_3) rfl (by kernel_rfl) (by kernel_rfl) (by kernel_rfl) (fun _ _ _ h => h) (by kernel_rfl) hHeld ?yr10_3 ?_
                          case yr10_3 => (intro w hSw; (try dsimp only at hSw); obtain ⟨z0, p2, p0, p1, y2, y5⟩ := HF2.out _ hSw; go_simp; first | done | with_reducible rfl)
                          simp only [Act.put, List.setIfInBounds_toArray, List.set_cons_zero, List.set_cons_succ, List.getElem_toArray, List.getElem_cons_succ, List.getElem_cons_zero]
                          refine reg_step (i := 4) (by kernel_rfl) rfl (by kernel_rfl) (fun K hK => ?_)
                          go_simp
                          refine (NC.net_any n.kind _).mono ?_
                          rintro e wz ⟨rfl, rfl⟩
                          have HS := hHeld
                          go_wp2_with fail
                          refine hK.out _ _ HS (fun hHeld2 => ?_)
                          clear hK hHeld2 hHeld
                          have hHeld := HS
                          clear HS
                          try simp only [Act.put, List.setIfInBounds_toArray, List.set_cons_zero, List.set_cons_succ, List.getElem_toArray, List.getElem_cons_succ, List.getElem_cons_zero]
                          refine reg_on (i := 5) (v := .bool true) rfl (by kernel_rfl) (by kernel_rfl) (by kernel_rfl) (fun _ _ _ h => h) (by kernel_rfl) hHeld ?yr10_5 ?_
                          case yr10_5 => (intro w hSw; (try dsimp only at hSw); obtain ⟨z0, p2, p0, p1, y2, y5⟩ := HF2.out _ hSw; go_simp; first | done | with_reducible rfl)
                          simp only [Act.put, List.setIfInBounds_toArray, List.set_cons_zero, List.set_cons_succ, List.getElem_toArray, List.getElem_cons_succ, List.getElem_cons_zero]
                          refine reg_on (i := 6) (v := .bool true) rfl (by kernel_rfl) (by kernel_rfl) (by kernel_rfl) (fun _ _ _ h => h) (by kernel_rfl) hHeld ?yr10_6 ?_
                          case yr10_6 => (intro w hSw; (try dsimp only at hSw); obtain ⟨z0, p2, p0, p1, y2, y5⟩ := HF2.out _ hSw; go_simp; first | done | with_reducible rfl)
                          simp only [Act.put, List.setIfInBounds_toArray, List.set_cons_zero, List.set_cons_succ, List.getElem_toArray, List.getElem_cons_succ, List.getElem_cons_zero]
                          refine reg_on (i := 7) (v := .bool true) rfl (by kernel_rfl) (by kernel_rfl) (by kernel_rfl) (fun _ _ _ h => h) (by kernel_rfl) hHeld ?yr10_7 ?_
                          case yr10_7 => (intro w hSw; (try dsimp only at hSw); obtain ⟨z0, p2, p0, p1, y2, y5⟩ := HF2.out _ hSw; go_simp; first | done | with_reducible rfl)
                          simp only [Act.put, List.setIfInBounds_toArray, List.set_cons_zero, List.set_cons_succ, List.getElem_toArray, List.getElem_cons_succ, List.getElem_cons_zero]
                          refine reg_on (i := 8) (v := ?vr10_8) rfl (by kernel_rfl) (by kernel_rfl) (by kernel_rfl) (fun _ _ _ h => h) (by kernel_rfl) hHeld ?yr10_8 ?_
                          case yr10_8 => (intro w hSw; (try dsimp only at hSw); obtain ⟨z0, p2, p0, p1, y2, y5⟩ := HF2.out _ hSw; go_simp; first | done | with_reducible rfl)
                          simp only [Act.put, List.setIfInBounds_toArray, List.set_cons_zero, List.set_cons_succ, List.getElem_toArray, List.getElem_cons_succ, List.getElem_cons_zero]
                          refine reg_on (i := 9) (v := ?vr10_9) rfl (by kernel_rfl) (by kernel_rfl) (by kernel_rfl) (fun _ _ _ h => h) (by kernel_rfl) hHeld ?yr10_9 ?_
                          case yr10_9 => (intro w hSw; (try dsimp only at hSw); obtain ⟨z0, p2, p0, p1, y2, y5⟩ := HF2.out _ hSw; go_simp; first | done | with_reducible rfl)
                          simp only [Act.put, List.setIfInBounds_toArray, List.set_cons_zero, List.set_cons_succ, List.getElem_toArray, List.getElem_cons_succ, List.getElem_cons_zero]
                          refine reg_on (i := 10) (v := .bool false) rfl (by kernel_rfl) (by kernel_rfl) (by kernel_rfl) (fun _ _ _ h => h) (by kernel_rfl) hHeld ?yr10_10 ?_
                          case yr10_10 => (intro w hSw; (try dsimp only at hSw); obtain ⟨z0, p2, p0, p1, y2, y5⟩ := HF2.out _ hSw; go_simp; first | done | with_reducible rfl)
                          simp only [Act.put, List.setIfInBounds_toArray, List.set_cons_zero, List.set_cons_succ, List.getElem_toArray, List.getElem_cons_succ, List.getElem_cons_zero]
                          refine reg_on (i := 11) (v := .bool false) rfl (by kernel_rfl) (by kernel_rfl) (by kernel_rfl) (fun _ _ _ h => h) (by kernel_rfl) hHeld ?yr10_11 ?_
                          case yr10_11 => (intro w hSw; (try dsimp only at hSw); obtain ⟨z0, p2, p0, p1, y2, y5⟩ := HF2.out _ hSw; go_simp; first | done | with_reducible rfl)
                          simp only [Act.put, List.setIfInBounds_toArray, List.set_cons_zero, List.set_cons_succ, List.getElem_toArray, List.getElem_cons_succ, List.getElem_cons_zero]
                          refine reg_on (i := 12) (v := .bool false) rfl (by kernel_rfl) (by kernel_rfl) (by kernel_rfl) (fun _ _ _ h => h) (by kernel_rfl) hHeld ?yr10_12 ?_
                          case yr10_12 => (intro w hSw; (try dsimp only at hSw); obtain ⟨z0, p2, p0, p1, y2, y5⟩ := HF2.out _ hSw; go_simp; first | done | with_reducible rfl)
                          simp only [Act.put, List.setIfInBounds_toArray, List.set_cons_zero, List.set_cons_succ, List.getElem_toArray, List.getElem_cons_succ, List.getElem_cons_zero]
                          refine reg_off (i := 13) rfl (by kernel_rfl) (by kernel_rfl) (by kernel_rfl) (fun _ _ _ h => h) (by kernel_rfl) hHeld ?_
                          simp only [Act.put, List.setIfInBounds_toArray, List.set_cons_zero, List.set_cons_succ, List.getElem_toArray, List.getElem_cons_succ, List.getElem_cons_zero]
                          refine reg_off (i := 14) rfl (by kernel_rfl) (by kernel_rfl) (by kernel_rfl) (fun _ _ _ h => h) (by kernel_rfl) hHeld ?_
                          simp only [Act.put, List.setIfInBounds_toArray, List.set_cons_zero, List.set_cons_succ, List.getElem_toArray, List.getElem_cons_succ, List.getElem_cons_zero]
                          refine reg_off (i := 15) rfl (by kernel_rfl) (by kernel_rfl) (by kernel_rfl) (fun _ _ _ h => h) (by kernel_rfl) hHeld ?_
                          simp only [Act.put, List.setIfInBounds_toArray, List.set_cons_zero, List.set_cons_succ, List.getElem_toArray, List.getElem_cons_succ, List.getElem_cons_zero]
                          refine reg_off (i := 16) rfl (by kernel_rfl) (by kernel_rfl) (by kernel_rfl) (fun _ _ _ h => h) (by kernel_rfl) hHeld ?_
                          simp only [Act.put, List.setIfInBounds_toArray, List.set_cons_zero, List.set_cons_succ, List.getElem_toArray, List.getElem_cons_succ, List.getElem_cons_zero]
                          refine reg_off (i := 17) rfl (by kernel_rfl) (by kernel_rfl) (by kernel_rfl) (fun _ _ _ h => h) (by kernel_rfl) hHeld ?_
                          simp only [Act.put, List.setIfInBounds_toArray, List.set_cons_zero, List.set_cons_succ, List.getElem_toArray, List.getElem_cons_succ, List.getElem_cons_zero]
                          refine reg_off (i := 18) rfl (by kernel_rfl) (by kernel_rfl) (by kernel_rfl) (fun _ _ _ h => h) (by kernel_rfl) hHeld ?_
                          simp only [Act.put, List.setIfInBounds_toArray, List.set_cons_zero, List.set_cons_succ, List.getElem_toArray, List.getElem_cons_succ, List.getElem_cons_zero]
                          refine reg_off (i := 19) rfl (by kernel_rfl) (by kernel_rfl) (by kernel_rfl) (fun _ _ _ h => h) (by kernel_rfl) hHeld ?_
                          simp only [Act.put, List.setIfInBounds_toArray, List.set_cons_zero, List.set_cons_succ, List.getElem_toArray, List.getElem_cons_succ, List.getElem_cons_zero]
                          refine reg_on (i := 20) (v := .bool false) rfl (by kernel_rfl) (by kernel_rfl) (by kernel_rfl) (fun _ _ _ h => h) (by kernel_rfl) hHeld ?yr10_20 ?_
                          case yr10_20 => (intro w hSw; (try dsimp only at hSw); obtain ⟨z0, p2, p0, p1, y2, y5⟩ := HF2.out _ hSw; go_simp; first | done | with_reducible rfl)
                          simp only [Act.put, List.setIfInBounds_toArray, List.set_cons_zero, List.set_cons_succ, List.getElem_toArray, List.getElem_cons_succ, List.getElem_cons_zero]
                          refine wpAnyH_done (by kernel_rfl) ?_ _
                          have HU1 := Lib.hid hHeld
                          obtain ⟨X1, hX1⟩ : ∃ X, wr.drew = X := ⟨_, rfl⟩
                          rw [hX1] at HU1 ⊢
                          clear hX1 hHeld
                          go_upto_region 31 with fail
                          have HD2 := Lib.hid (HU1.out.trans (Upd.drew NoF X1) (fun _ _ h => h))
                          refine wp_region_held_drew (S := (fun X => Upd NoF wr X)) (by kernel_rfl) (HD2.out) (fun hHeld => ?_)
                          refine reg_on (i := 0) (v := .bool true) rfl (by kernel_rfl) (by kernel_rfl) (by kernel_rfl) (fun _ _ _ h => h) (by kernel_rfl) hHeld ?yr11_0 ?_
                          case yr11_0 => (intro w hSw; (try dsimp only at hSw); obtain ⟨z0, p2, p0, p1, y2, y5⟩ := HF2.out _ hSw; go_simp; first | done | with_reducible rfl)
                          simp only [Act.put, List.setIfInBounds_toArray, List.set_cons_zero, List.set_cons_succ, List.getElem_toArray, List.getElem_cons_succ, List.getElem_cons_zero]
                          refine reg_on (i := 1) (v := .bool true) rfl (by kernel_rfl) (by kernel_rfl) (by kernel_rfl) (fun _ _ _ h => h) (by kernel_rfl) hHeld ?yr11_1 ?_
                          case yr11_1 => (intro w hSw; (try dsimp only at hSw); obtain ⟨z0, p2, p0, p1, y2, y5⟩ := HF2.out _ hSw; go_simp; first | done | with_reducible rfl)
                          simp only [Act.put, List.setIfInBounds_toArray, List.set_cons_zero, List.set_cons_succ, List.getElem_toArray, List.getElem_cons_succ, List.getElem_cons_zero]
                          refine reg_on (i := 2) (v := ?vr11_2) rfl (by kernel_rfl) (by kernel_rfl) (by kernel_rfl) (fun _ _ _ h => h) (by kernel_rfl) hHeld ?yr11_2 ?_
                          case yr11_2 => (intro w hSw; (try dsimp only at hSw); obtain ⟨z0, p2, p0, p1, y2, y5⟩ := HF2.out _ hSw; go_simp; first | done | with_reducible rfl)
                          simp only [Act.put, List.setIfInBounds_toArray, List.set_cons_zero, List.set_cons_succ, List.getElem_toArray, List.getElem_cons_succ, List.getElem_cons_zero]
                          refine reg_on (i := 3) (v := ?vr11_3) rfl (by kernel_rfl) (by kernel_rfl) (by kernel_rfl) (fun _ _ _ h => h) (by kernel_rfl) hHeld ?yr11_3 ?_
                          case yr11_3 => (intro w hSw; (try dsimp only at hSw); obtain ⟨z0, p2, p0, p1, y2, y5⟩ := HF2.out _ hSw; go_simp; first | done | with_reducible rfl)
                          simp only [Act.put, List.setIfInBounds_toArray, List.set_cons_zero, List.set_cons_succ, List.getElem_toArray, List.getElem_cons_succ, List.getElem_cons_zero]
                          refine reg_on (i := 4) (v := ?vr11_4) rfl (by kernel_rfl) (by kernel_rfl) (by kernel_rfl) (fun _ _ _ h => h) (by kernel_rfl) hHeld ?yr11_4 ?_
                          case yr11_4 => (intro w hSw; (try dsimp only at hSw); obtain ⟨z0, p2, p0, p1, y2, y5⟩ := HF2.out _ hSw; go_simp; first | done | with_reducible rfl)
                          simp only [Act.put, List.setIfInBounds_toArray, List.set_cons_zero, List.set_cons_succ, List.getElem_toArray, List.getElem_cons_succ, List.getElem_cons_zero]
                          refine reg_on (i := 5) (v := ?vr11_5) rfl (by kernel_rfl) (by kernel_rfl) (by kernel_rfl) (fun _ _ _ h => h) (by kernel_rfl) hHeld ?yr11_5 ?_
                          case yr11_5 => (intro w hSw; (try dsimp only at hSw); obtain ⟨z0, p2, p0, p1, y2, y5⟩ := HF2.out _ hSw; go_simp; first | done | with_reducible rfl)
                          simp only [Act.put, List.setIfInBounds_toArray, List.set_cons_zero, List.set_cons_succ, List.getElem_toArray, List.getElem_cons_succ, List.getElem_cons_zero]
                          refine reg_on (i := 6) (v := .bool true) rfl (by kernel_rfl) (by kernel_rfl) (by kernel_rfl) (fun _ _ _ h => h) (by kernel_rfl) hHeld ?yr11_6 ?_
                          case yr11_6 => (intro w hSw; (try dsimp only at hSw); obtain ⟨z0, p2, p0, p1, y2, y5⟩ := HF2.out _ hSw; go_simp; first | done | with_reducible rfl)
                          simp only [Act.put, List.setIfInBounds_toArray, List.set_cons_zero, List.set_cons_succ, List.getElem_toArray, List.getElem_cons_succ, List.getElem_cons_zero]
                          refine reg_on (i := 7) (v := .bool true) rfl (by kernel_rfl) (by kernel_rfl) (by kernel_rfl) (fun _ _ _ h => h) (by kernel_rfl) hHeld ?yr11_7 ?_
                          case yr11_7 => (intro w hSw; (try dsimp only at hSw); obtain ⟨z0, p2, p0, p1, y2, y5⟩ := HF2.out _ hSw; go_simp; first | done | with_reducible rfl)
                          simp only [Act.put, List.setIfInBounds_toArray, List.set_cons_zero, List.set_cons_succ, List.getElem_toArray, List.getElem_cons_succ, List.getElem_cons_zero]
                          refine reg_on (i := 8) (v := .bool true) rfl (by kernel_rfl) (by kernel_rfl) (by kernel_rfl) (fun _ _ _ h => h) (by kernel_rfl) hHeld ?yr11_8 ?_
                          case yr11_8 => (intro w hSw; (try dsimp only at hSw); obtain ⟨z0, p2, p0, p1, y2, y5⟩ := HF2.out _ hSw; go_simp; first | done | with_reducible rfl)
                          simp only [Act.put, List.setIfInBounds_toArray, List.set_cons_zero, List.set_cons_succ, List.getElem_toArray, List.getElem_cons_succ, List.getElem_cons_zero]
                          refine reg_on (i := 9) (v := ?vr11_9) rfl (by kernel_rfl) (by kernel_rfl) (by kernel_rfl) (fun _ _ _ h => h) (by kernel_rfl) hHeld ?yr11_9 ?_
                          case yr11_9 => (intro w hSw; (try dsimp only at hSw); obtain ⟨z0, p2, p0, p1, y2, y5⟩ := HF2.out _ hSw; go_simp; first | done | with_reducible rfl)
                          simp only [Act.put, List.setIfInBounds_toArray, List.set_cons_zero, List.set_cons_succ, List.getElem_toArray, List.getElem_cons_succ, List.getElem_cons_zero]
                          refine reg_on (i := 10) (v := ?vr11_10) rfl (by kernel_rfl) (by kernel_rfl) (by kernel_rfl) (fun _ _ _ h => h) (by kernel_rfl) hHeld ?yr11_10 ?_
                          case yr11_10 => (intro w hSw; (try dsimp only at hSw); obtain ⟨z0, p2, p0, p1, y2, y5⟩ := HF2.out _ hSw; go_simp; first | done | with_reducible rfl)
                          simp only [Act.put, List.setIfInBounds_toArray, List.set_cons_zero, List.set_cons_succ, List.getElem_toArray, List.getElem_cons_succ, List.getElem_cons_zero]
                          refine reg_on (i := 11) (v := ?vr11_11) rfl (by kernel_rfl) (by kernel_rfl) (by kernel_rfl) (fun _ _ _ h => h) (by kernel_rfl) hHeld ?yr11_11 ?_
                          case yr11_11 => (intro w hSw; (try dsimp only at hSw); obtain ⟨z0, p2, p0, p1, y2, y5⟩ := HF2.out _ hSw; go_simp; first | done | with_reducible rfl)
                          simp only [Act.put, List.setIfInBounds_toArray, List.set_cons_zero, List.set_cons_succ, List.getElem_toArray, List.getElem_cons_succ, List.getElem_cons_zero]
                          refine reg_on (i := 12) (v := ?vr11_12) rfl (by kernel_rfl) (by kernel_rfl) (by kernel_rfl) (fun _ _ _ h => h) (by kernel_rfl) hHeld ?yr11_12 ?_
                          case yr11_12 => (intro w hSw; (try dsimp only at hSw); obtain ⟨z0, p2, p0, p1, y2, y5⟩ := HF2.out _ hSw; go_simp; first | done | with_reducible rfl)
                          simp only [Act.put, List.setIfInBounds_toArray, List.set_cons_zero, List.set_cons_succ, List.getElem_toArray, List.getElem_cons_succ, List.getElem_cons_zero]
                          refine reg_on (i := 13) (v := ?vr11_13) rfl (by kernel_rfl) (by kernel_rfl) (by kernel_rfl) (fun _ _ _ h => h) (by kernel_rfl) hHeld ?yr11_13 ?_
                          case yr11_13 => (intro w hSw; (try dsimp only at hSw); obtain ⟨z0, p2, p0, p1, y2, y5⟩ := HF2.out _ hSw; go_simp; first | done | with_reducible rfl)
                          simp only [Act.put, List.setIfInBounds_toArray, List.set_cons_zero, List.set_cons_succ, List.getElem_toArray, List.getElem_cons_succ, List.getElem_cons_zero]
                          refine reg_on (i := 14) (v := ?vr11_14) rfl (by kernel_rfl) (by kernel_rfl) (by kernel_rfl) (fun _ _ _ h => h) (by kernel_rfl) hHeld ?yr11_14 ?_
                          case yr11_14 => (intro w hSw; (try dsimp only at hSw); obtain ⟨z0, p2, p0, p1, y2, y5⟩ := HF2.out _ hSw; go_simp; first | done | with_reducible rfl)
                          simp only [Act.put, List.setIfInBounds_toArray, List.set_cons_zero, List.set_cons_succ, List.getElem_toArray, List.getElem_cons_succ, List.getElem_cons_zero]
                          refine reg_on (i := 15) (v := .bool false) rfl (by kernel_rfl) (by kernel_rfl) (by kernel_rfl) (fun _ _ _ h => h) (by kernel_rfl) hHeld ?yr11_15 ?_
                          case yr11_15 => (intro w hSw; (try dsimp only at hSw); obtain ⟨z0, p2, p0, p1, y2, y5⟩ := HF2.out _ hSw; go_simp; first | done | with_reducible rfl)
                          simp only [Act.put, List.setIfInBounds_toArray, List.set_cons_zero, List.set_cons_succ, List.getElem_toArray, List.getElem_cons_succ, List.getElem_cons_zero]
                          refine reg_on (i := 16) (v := .bool false) rfl (by kernel_rfl) (by kernel_rfl) (by kernel_rfl) (fun _ _ _ h => h) (by kernel_rfl) hHeld ?yr11_16 ?_
                          case yr11_16 => (intro w hSw; (try dsimp only at hSw); obtain ⟨z0, p2, p0, p1, y2, y5⟩ := HF2.out _ hSw; go_simp; first | done | with_reducible rfl)
                          simp only [Act.put, List.setIfInBounds_toArray, List.set_cons_zero, List.set_cons_succ, List.getElem_toArray, List.getElem_cons_succ, List.getElem_cons_zero]
                          refine reg_on (i := 17) (v := ?vr11_17) rfl (by kernel_rfl) (by kernel_rfl) (by kernel_rfl) (fun _ _ _ h => h) (by kernel_rfl) hHeld ?yr11_17 ?_
                          case yr11_17 => (intro w hSw; (try dsimp only at hSw); obtain ⟨z0, p2, p0, p1, y2, y5⟩ := HF2.out _ hSw; go_simp; first | done | with_reducible rfl)
                          simp only [Act.put, List.setIfInBounds_toArray, List.set_cons_zero, List.set_cons_succ, List.getElem_toArray, List.getElem_cons_succ, List.getElem_cons_zero]
                          refine reg_on (i := 18) (v := ?vr11_18) rfl (by kernel_rfl) (by kernel_rfl) (by kernel_rfl) (fun _ _ _ h => h) (by kernel_rfl) hHeld ?yr11_18 ?_
                          case yr11_18 => (intro w hSw; (try dsimp only at hSw); obtain ⟨z0, p2, p0, p1, y2, y5⟩ := HF2.out _ hSw; go_simp; first | done | with_reducible rfl)
                          simp only [Act.put, List.setIfInBounds_toArray, List.set_cons_zero, List.set_cons_succ, List.getElem_toArray, List.getElem_cons_succ, List.getElem_cons_zero]
                          refine reg_step (i := 19) (by kernel_rfl) rfl (by kernel_rfl) (fun K hK => ?_)
                          go_simp
                          refine (HCT.out _).mono ?_
                          rintro e wz ⟨rfl, hu⟩
                          have HS : (fun X => Upd NoF wr X) wz := hHeld.trans hu (fun _ _ h => h)
                          clear hu
                          go_wp2_with fail
                          refine hK.out _ _ HS (fun hHeld2 => ?_)
                          clear hK hHeld2 hHeld
                          have hHeld := HS
                          clear HS
                          try simp only [Act.put, List.setIfInBounds_toArray, List.set_cons_zero, List.set_cons_succ, List.getElem_toArray, List.getElem_cons_succ, List.getElem_cons_zero]
                          refine reg_on (i := 20) (v := .bool false) rfl (by kernel_rfl) (by kernel_rfl) (by kernel_rfl) (fun _ _ _ h => h) (by kernel_rfl) hHeld ?yr11_20 ?_
                          case yr11_20 => (intro w hSw; (try dsimp only at hSw); obtain ⟨z0, p2, p0, p1, y2, y5⟩ := HF2.out _ hSw; go_simp; first | done | with_reducible rfl)
                          simp only [Act.put, List.setIfInBounds_toArray, List.set_cons_zero, List.set_cons_succ, List.getElem_toArray, List.getElem_cons_succ, List.getElem_cons_zero]
                          refine reg_on (i := 21) (v := .bool false) rfl (by kernel_rfl) (by kernel_rfl) (by kernel_rfl) (fun _ _ _ h => h) (by kernel_rfl) hHeld ?yr11_21 ?_
                          case yr11_21 => (intro w hSw; (try dsimp only at hSw); obtain ⟨z0, p2, p0, p1, y2, y5⟩ := HF2.out _ hSw; go_simp; first | done | with_reducible rfl)
                          simp only [Act.put, List.setIfInBounds_toArray, List.set_cons_zero, List.set_cons_succ, List.getElem_toArray, List.getElem_cons_succ, List.getElem_cons_zero]
                          refine reg_on (i := 22) (v := .bool false) rfl (by kernel_rfl) (by kernel_rfl) (by kernel_rfl) (fun _ _ _ h => h) (by kernel_rfl) hHeld ?yr11_22 ?_
                          case yr11_22 => (intro w hSw; (try dsimp only at hSw); obtain ⟨z0, p2, p0, p1, y2, y5⟩ := HF2.out _ hSw; go_simp; first | done | with_reducible rfl)
                          simp only [Act.put, List.setIfInBounds_toArray, List.set_cons_zero, List.set_cons_succ, List.getElem_toArray, List.getElem_cons_succ, List.getElem_cons_zero]
                          refine wpAnyH_done (by kernel_rfl) ?_ _
                          have HU2 := Lib.hid hHeld
                          clear hHeld
                          go_wp2_with fail
                          exact ⟨⟨k + 1, S1, by omega, by go_num, HCC.out, HIV.out, ((((HS12.out.upd0 HU2.out).drop 0 (by simp)).drop 0 (by simp)).drop 1 (by simp)).drop 1 (by simp)⟩, by simp [intOf]; omega⟩
                    · have bn : (netN n.kind == 0) = false := by unfold isAsk at ha; simpa using ha
                      clear ha
                      have HF2 := Lib.hid (fun X (hX : Upd NoF wr X) => (show X.cell? ⟨nb, 0, none⟩ = some (.int .u8 n.kind) ∧ X.cell? ⟨eb, 0, none⟩ = some (.int .i64 x0.own) ∧ X.cell? ⟨e2, 0, none⟩ = some (.int .i64 x1.own) ∧ X.cell? ⟨e2, 1, none⟩ = some (VM x1.shr) ∧ X.cell? ⟨g2, 2, none⟩ = some (.int .i64 y.too) ∧ X.cell? ⟨g2, 5, none⟩ = some (.int .u8 y.state) from ⟨hX.cell z0 (fun h => h), hX.cell p2 (fun h => h), hX.cell p0 (fun h => h), hX.cell p1 (fun h => h), hX.cell y2 (fun h => h), hX.cell y5 (fun h => h)⟩))
                      clear z0 p0 p1 p2 y2 y5
                      by_cases hst : y.state = 1
                      · have bs : (y.state != 1) = false := by simp [hst]
                        clear hst
                        go_upto_region 29 with fail
                        have HD1 := Lib.hid (Upd.drew NoF wr)
                        refine wp_region_held_drew (S := (fun X => Upd NoF wr X)) (by kernel_rfl) (HD1.out) (fun hHeld => ?_)
                        refine reg_on (i := 0) (v := .bool true) rfl (by kernel_rfl) (by kernel_rfl) (by kernel_rfl) (fun _ _ _ h => h) (by kernel_rfl) hHeld ?yr12_0 ?_
                        case yr12_0 => (intro w hSw; (try dsimp only at hSw); obtain ⟨z0, p2, p0, p1, y2, y5⟩ := HF2.out _ hSw; go_simp; first | done | with_reducible rfl)
                        simp only [Act.put, List.setIfInBounds_toArray, List.set_cons_zero, List.set_cons_succ, List.getElem_toArray, List.getElem_cons_succ, List.getElem_cons_zero]
                        refine reg_on (i := 1) (v := .bool true) rfl (by kernel_rfl) (by kernel_rfl) (by kernel_rfl) (fun _ _ _ h => h) (by kernel_rfl) hHeld ?yr12_1 ?_
                        case yr12_1 => (intro w hSw; (try dsimp only at hSw); obtain ⟨z0, p2, p0, p1, y2, y5⟩ := HF2.out _ hSw; go_simp; first | done | with_reducible rfl)
                        simp only [Act.put, List.setIfInBounds_toArray, List.set_cons_zero, List.set_cons_succ, List.getElem_toArray, List.getElem_cons_succ, List.getElem_cons_zero]
                        refine reg_on (i := 2) (v := ?vr12_2) rfl (by kernel_rfl) (by kernel_rfl) (by kernel_rfl) (fun _ _ _ h => h) (by kernel_rfl) hHeld ?yr12_2 ?_
                        case yr12_2 => (intro w hSw; (try dsimp only at hSw); obtain ⟨z0, p2, p0, p1, y2, y5⟩ := HF2.out _ hSw; go_simp; first | done | with_reducible rfl)
                        simp only [Act.put, List.setIfInBounds_toArray, List.set_cons_zero, List.set_cons_succ, List.getElem_toArray, List.getElem_cons_succ, List.getElem_cons_zero]
                        refine reg_on (i := 3) (v := ?vr12_3) rfl (by kernel_rfl) (by kernel_rfl) (by kernel_rfl) (fun _ _ _ h => h) (by kernel_rfl) hHeld ?yr12_3 ?_
                        case yr12_3 => (intro w hSw; (try dsimp only at hSw); obtain ⟨z0, p2, p0, p1, y2, y5⟩ := HF2.out _ hSw; go_simp; first | done | with_reducible rfl)
                        simp only [Act.put, List.setIfInBounds_toArray, List.set_cons_zero, List.set_cons_succ, List.getElem_toArray, List.getElem_cons_succ, List.getElem_cons_zero]
                        refine reg_step (i := 4) (by kernel_rfl) rfl (by kernel_rfl) (fun K hK => ?_)
                        go_simp
                        refine (NC.net_any n.kind _).mono ?_
                        rintro e wz ⟨rfl, rfl⟩
                        have HS := hHeld
                        go_wp2_with fail
                        refine hK.out _ _ HS (fun hHeld2 => ?_)
                        clear hK hHeld2 hHeld
                        have hHeld := HS
                        clear HS
                        try simp only [Act.put, List.setIfInBounds_toArray, List.set_cons_zero, List.set_cons_succ, List.getElem_toArray, List.getElem_cons_succ, List.getElem_cons_zero]
                        refine reg_on (i := 5) (v := .bool false) rfl (by kernel_rfl) (by kernel_rfl) (by kernel_rfl) (fun _ _ _ h => h) (by kernel_rfl) hHeld ?yr12_5 ?_
                        case yr12_5 => (intro w hSw; (try dsimp only at hSw); obtain ⟨z0, p2, p0, p1, y2, y5⟩ := HF2.out _ hSw; go_simp; first | done | with_reducible rfl)
                        simp only [Act.put, List.setIfInBounds_toArray, List.set_cons_zero, List.set_cons_succ, List.getElem_toArray, List.getElem_cons_succ, List.getElem_cons_zero]
                        refine reg_on (i := 6) (v := .bool false) rfl (by kernel_rfl) (by kernel_rfl) (by kernel_rfl) (fun _ _ _ h => h) (by kernel_rfl) hHeld ?yr12_6 ?_
                        case yr12_6 => (intro w hSw; (try dsimp only at hSw); obtain ⟨z0, p2, p0, p1, y2, y5⟩ := HF2.out _ hSw; go_simp; first | done | with_reducible rfl)
                        simp only [Act.put, List.setIfInBounds_toArray, List.set_cons_zero, List.set_cons_succ, List.getElem_toArray, List.getElem_cons_succ, List.getElem_cons_zero]
                        refine reg_on (i := 7) (v := .bool false) rfl (by kernel_rfl) (by kernel_rfl) (by kernel_rfl) (fun _ _ _ h => h) (by kernel_rfl) hHeld ?yr12_7 ?_
                        case yr12_7 => (intro w hSw; (try dsimp only at hSw); obtain ⟨z0, p2, p0, p1, y2, y5⟩ := HF2.out _ hSw; go_simp; first | done | with_reducible rfl)
                        simp only [Act.put, List.setIfInBounds_toArray, List.set_cons_zero, List.set_cons_succ, List.getElem_toArray, List.getElem_cons_succ, List.getElem_cons_zero]
                        refine reg_off (i := 8) rfl (by kernel_rfl) (by kernel_rfl) (by kernel_rfl) (fun _ _ _ h => h) (by kernel_rfl) hHeld ?_
                        simp only [Act.put, List.setIfInBounds_toArray, List.set_cons_zero, List.set_cons_succ, List.getElem_toArray, List.getElem_cons_succ, List.getElem_cons_zero]
                        refine reg_off (i := 9) rfl (by kernel_rfl) (by kernel_rfl) (by kernel_rfl) (fun _ _ _ h => h) (by kernel_rfl) hHeld ?_
                        simp only [Act.put, List.setIfInBounds_toArray, List.set_cons_zero, List.set_cons_succ, List.getElem_toArray, List.getElem_cons_succ, List.getElem_cons_zero]
                        refine reg_off (i := 10) rfl (by kernel_rfl) (by kernel_rfl) (by kernel_rfl) (fun _ _ _ h => h) (by kernel_rfl) hHeld ?_
                        simp only [Act.put, List.setIfInBounds_toArray, List.set_cons_zero, List.set_cons_succ, List.getElem_toArray, List.getElem_cons_succ, List.getElem_cons_zero]
                        refine reg_on (i := 11) (v := .bool false) rfl (by kernel_rfl) (by kernel_rfl) (by kernel_rfl) (fun _ _ _ h => h) (by kernel_rfl) hHeld ?yr12_11 ?_
                        case yr12_11 => (intro w hSw; (try dsimp only at hSw); obtain ⟨z0, p2, p0, p1, y2, y5⟩ := HF2.out _ hSw; go_simp; first | done | with_reducible rfl)
                        simp only [Act.put, List.setIfInBounds_toArray, List.set_cons_zero, List.set_cons_succ, List.getElem_toArray, List.getElem_cons_succ, List.getElem_cons_zero]
                        refine reg_on (i := 12) (v := .bool false) rfl (by kernel_rfl) (by kernel_rfl) (by kernel_rfl) (fun _ _ _ h => h) (by kernel_rfl) hHeld ?yr12_12 ?_
                        case yr12_12 => (intro w hSw; (try dsimp only at hSw); obtain ⟨z0, p2, p0, p1, y2, y5⟩ := HF2.out _ hSw; go_simp; first | done | with_reducible rfl)
                        simp only [Act.put, List.setIfInBounds_toArray, List.set_cons_zero, List.set_cons_succ, List.getElem_toArray, List.getElem_cons_succ, List.getElem_cons_zero]
                        refine reg_off (i := 13) rfl (by kernel_rfl) (by kernel_rfl) (by kernel_rfl) (fun _ _ _ h => h) (by kernel_rfl) hHeld ?_
                        simp only [Act.put, List.setIfInBounds_toArray, List.set_cons_zero, List.set_cons_succ, List.getElem_toArray, List.getElem_cons_succ, List.getElem_cons_zero]
                        refine reg_off (i := 14) rfl (by kernel_rfl) (by kernel_rfl) (by kernel_rfl) (fun _ _ _ h => h) (by kernel_rfl) hHeld ?_
                        simp only [Act.put, List.setIfInBounds_toArray, List.set_cons_zero, List.set_cons_succ, List.getElem_toArray, List.getElem_cons_succ, List.getElem_cons_zero]
                        refine reg_off (i := 15) rfl (by kernel_rfl) (by kernel_rfl) (by kernel_rfl) (fun _ _ _ h => h) (by kernel_rfl) hHeld ?_
                        simp only [Act.put, List.setIfInBounds_toArray, List.set_cons_zero, List.set_cons_succ, List.getElem_toArray, List.getElem_cons_succ, List.getElem_cons_zero]
                        refine reg_off (i := 16) rfl (by kernel_rfl) (by kernel_rfl) (by kernel_rfl) (fun _ _ _ h => h) (by kernel_rfl) hHeld ?_
                        simp only [Act.put, List.setIfInBounds_toArray, List.set_cons_zero, List.set_cons_succ, List.getElem_toArray, List.getElem_cons_succ, List.getElem_cons_zero]
                        refine reg_off (i := 17) rfl (by kernel_rfl) (by kernel_rfl) (by kernel_rfl) (fun _ _ _ h => h) (by kernel_rfl) hHeld ?_
                        simp only [Act.put, List.setIfInBounds_toArray, List.set_cons_zero, List.set_cons_succ, List.getElem_toArray, List.getElem_cons_succ, List.getElem_cons_zero]
                        refine reg_off (i := 18) rfl (by kernel_rfl) (by kernel_rfl) (by kernel_rfl) (fun _ _ _ h => h) (by kernel_rfl) hHeld ?_
                        simp only [Act.put, List.setIfInBounds_toArray, List.set_cons_zero, List.set_cons_succ, List.getElem_toArray, List.getElem_cons_succ, List.getElem_cons_zero]
                        refine reg_off (i := 19) rfl (by kernel_rfl) (by kernel_rfl) (by kernel_rfl) (fun _ _ _ h => h) (by kernel_rfl) hHeld ?_
                        simp only [Act.put, List.setIfInBounds_toArray, List.set_cons_zero, List.set_cons_succ, List.getElem_toArray, List.getElem_cons_succ, List.getElem_cons_zero]
                        refine reg_on (i := 20) (v := .bool false) rfl (by kernel_rfl) (by kernel_rfl) (by kernel_rfl) (fun _ _ _ h => h) (by kernel_rfl) hHeld ?yr12_20 ?_
                        case yr12_20 => (intro w hSw; (try dsimp only at hSw); obtain ⟨z0, p2, p0, p1, y2, y5⟩ := HF2.out _ hSw; go_simp; first | done | with_reducible rfl)
                        simp only [Act.put, List.setIfInBounds_toArray, List.set_cons_zero, List.set_cons_succ, List.getElem_toArray, List.getElem_cons_succ, List.getElem_cons_zero]
                        refine wpAnyH_done (by kernel_rfl) ?_ _
                        have HU1 := Lib.hid hHeld
                        obtain ⟨X1, hX1⟩ : ∃ X, wr.drew = X := ⟨_, rfl⟩
                        rw [hX1] at HU1 ⊢
                        clear hX1 hHeld
                        go_upto_region 31 with fail
                        have HD2 := Lib.hid (HU1.out.trans (Upd.drew NoF X1) (fun _ _ h => h))
                        refine wp_region_held_drew (S := (fun X => Upd NoF wr X)) (by kernel_rfl) (HD2.out) (fun hHeld => ?_)
                        refine reg_on (i := 0) (v := .bool true) rfl (by kernel_rfl) (by kernel_rfl) (by kernel_rfl) (fun _ _ _ h => h) (by kernel_rfl) hHeld ?yr13_0 ?_
                        case yr13_0 => (intro w hSw; (try dsimp only at hSw); obtain ⟨z0, p2, p0, p1, y2, y5⟩ := HF2.out _ hSw; go_simp; first | done | with_reducible rfl)
                        simp only [Act.put, List.setIfInBounds_toArray, List.set_cons_zero, List.set_cons_succ, List.getElem_toArray, List.getElem_cons_succ, List.getElem_cons_zero]
                        refine reg_on (i := 1) (v := .bool true) rfl (by kernel_rfl) (by kernel_rfl) (by kernel_rfl) (fun _ _ _ h => h) (by kernel_rfl) hHeld ?yr13_1 ?_
                        case yr13_1 => (intro w hSw; (try dsimp only at hSw); obtain ⟨z0, p2, p0, p1, y2, y5⟩ := HF2.out _ hSw; go_simp; first | done | with_reducible rfl)
                        simp only [Act.put, List.setIfInBounds_toArray, List.set_cons_zero, List.set_cons_succ, List.getElem_toArray, List.getElem_cons_succ, List.getElem_cons_zero]
                        refine reg_on (i := 2) (v := ?vr13_2) rfl (by kernel_rfl) (by kernel_rfl) (by kernel_rfl) (fun _ _ _ h => h) (by kernel_rfl) hHeld ?yr13_2 ?_
                        case yr13_2 => (intro w hSw; (try dsimp only at hSw); obtain ⟨z0, p2, p0, p1, y2, y5⟩ := HF2.out _ hSw; go_simp; first | done | with_reducible rfl)
                        simp only [Act.put, List.setIfInBounds_toArray, List.set_cons_zero, List.set_cons_succ, List.getElem_toArray, List.getElem_cons_succ, List.getElem_cons_zero]
                        refine reg_on (i := 3) (v := ?vr13_3) rfl (by kernel_rfl) (by kernel_rfl) (by kernel_rfl) (fun _ _ _ h => h) (by kernel_rfl) hHeld ?yr13_3 ?_
                        case yr13_3 => (intro w hSw; (try dsimp only at hSw); obtain ⟨z0, p2, p0, p1, y2, y5⟩ := HF2.out _ hSw; go_simp; first | done | with_reducible rfl)
                        simp only [Act.put, List.setIfInBounds_toArray, List.set_cons_zero, List.set_cons_succ, List.getElem_toArray, List.getElem_cons_succ, List.getElem_cons_zero]
                        refine reg_on (i := 4) (v := ?vr13_4) rfl (by kernel_rfl) (by kernel_rfl) (by kernel_rfl) (fun _ _ _ h => h) (by kernel_rfl) hHeld ?yr13_4 ?_
                        case yr13_4 => (intro w hSw; (try dsimp only at hSw); obtain ⟨z0, p2, p0, p1, y2, y5⟩ := HF2.out _ hSw; go_simp; first | done | with_reducible rfl)
                        simp only [Act.put, List.setIfInBounds_toArray, List.set_cons_zero, List.set_cons_succ, List.getElem_toArray, List.getElem_cons_succ, List.getElem_cons_zero]
                        refine reg_on (i := 5) (v := ?vr13_5) rfl (by kernel_rfl) (by kernel_rfl) (by kernel_rfl) (fun _ _ _ h => h) (by kernel_rfl) hHeld ?yr13_5 ?_
                        case yr13_5 => (intro w hSw; (try dsimp only at hSw); obtain ⟨z0, p2, p0, p1, y2, y5⟩ := HF2.out _ hSw; go_simp; first | done | with_reducible rfl)
                        simp only [Act.put, List.setIfInBounds_toArray, List.set_cons_zero, List.set_cons_succ, List.getElem_toArray, List.getElem_cons_succ, List.getElem_cons_zero]
                        refine reg_on (i := 6) (v := .bool false) rfl (by kernel_rfl) (by kernel_rfl) (by kernel_rfl) (fun _ _ _ h => h) (by kernel_rfl) hHeld ?yr13_6 ?_
                        case yr13_6 => (intro w hSw; (try dsimp only at hSw); obtain ⟨z0, p2, p0, p1, y2, y5⟩ := HF2.out _ hSw; go_simp; first | done | with_reducible rfl)
                        simp only [Act.put, List.setIfInBounds_toArray, List.set_cons_zero, List.set_cons_succ, List.getElem_toArray, List.getElem_cons_succ, List.getElem_cons_zero]
                        refine reg_on (i := 7) (v := .bool false) rfl (by kernel_rfl) (by kernel_rfl) (by kernel_rfl) (fun _ _ _ h => h) (by kernel_rfl) hHeld ?yr13_7 ?_
                        case yr13_7 => (intro w hSw; (try dsimp only at hSw); obtain ⟨z0, p2, p0, p1, y2, y5⟩ := HF2.out _ hSw; go_simp; first | done | with_reducible rfl)
                        simp only [Act.put, List.setIfInBounds_toArray, List.set_cons_zero, List.set_cons_succ, List.getElem_toArray, List.getElem_cons_succ, List.getElem_cons_zero]
                        refine reg_on (i := 8) (v := .bool false) rfl (by kernel_rfl) (by kernel_rfl) (by kernel_rfl) (fun _ _ _ h => h) (by kernel_rfl) hHeld ?yr13_8 ?_
                        case yr13_8 => (intro w hSw; (try dsimp only at hSw); obtain ⟨z0, p2, p0, p1, y2, y5⟩ := HF2.out _ hSw; go_simp; first | done | with_reducible rfl)
                        simp only [Act.put, List.setIfInBounds_toArray, List.set_cons_zero, List.set_cons_succ, List.getElem_toArray, List.getElem_cons_succ, List.getElem_cons_zero]
                        refine reg_off (i := 9) rfl (by kernel_rfl) (by kernel_rfl) (by kernel_rfl) (fun _ _ _ h => h) (by kernel_rfl) hHeld ?_
                        simp only [Act.put, List.setIfInBounds_toArray, List.set_cons_zero, List.set_cons_succ, List.getElem_toArray, List.getElem_cons_succ, List.getElem_cons_zero]
                        refine reg_off (i := 10) rfl (by kernel_rfl) (by kernel_rfl) (by kernel_rfl) (fun _ _ _ h => h) (by kernel_rfl) hHeld ?_
                        simp only [Act.put, List.setIfInBounds_toArray, List.set_cons_zero, List.set_cons_succ, List.getElem_toArray, List.getElem_cons_succ, List.getElem_cons_zero]
                        refine reg_off (i := 11) rfl (by kernel_rfl) (by kernel_rfl) (by kernel_rfl) (fun _ _ _ h => h) (by kernel_rfl) hHeld ?_
                        simp only [Act.put, List.setIfInBounds_toArray, List.set_cons_zero, List.set_cons_succ, List.getElem_toArray, List.getElem_cons_succ, List.getElem_cons_zero]
                        refine reg_off (i := 12) rfl (by kernel_rfl) (by kernel_rfl) (by kernel_rfl) (fun _ _ _ h => h) (by kernel_rfl) hHeld ?_
                        simp only [Act.put, List.setIfInBounds_toArray, List.set_cons_zero, List.set_cons_succ, List.getElem_toArray, List.getElem_cons_succ, List.getElem_cons_zero]
                        refine reg_off (i := 13) rfl (by kernel_rfl) (by kernel_rfl) (by kernel_rfl) (fun _ _ _ h => h) (by kernel_rfl) hHeld ?_
                        simp only [Act.put, List.setIfInBounds_toArray, List.set_cons_zero, List.set_cons_succ, List.getElem_toArray, List.getElem_cons_succ, List.getElem_cons_zero]
                        refine reg_off (i := 14) rfl (by kernel_rfl) (by kernel_rfl) (by kernel_rfl) (fun _ _ _ h => h) (by kernel_rfl) hHeld ?_
                        simp only [Act.put, List.setIfInBounds_toArray, List.set_cons_zero, List.set_cons_succ, List.getElem_toArray, List.getElem_cons_succ, List.getElem_cons_zero]
                        refine reg_off (i := 15) rfl (by kernel_rfl) (by kernel_rfl) (by kernel_rfl) (fun _ _ _ h => h) (by kernel_rfl) hHeld ?_
                        simp only [Act.put, List.setIfInBounds_toArray, List.set_cons_zero, List.set_cons_succ, List.getElem_toArray, List.getElem_cons_succ, List.getElem_cons_zero]
                        refine reg_off (i := 16) rfl (by kernel_rfl) (by kernel_rfl) (by kernel_rfl) (fun _ _ _ h => h) (by kernel_rfl) hHeld ?_
                        simp only [Act.put, List.setIfInBounds_toArray, List.set_cons_zero, List.set_cons_succ, List.getElem_toArray, List.getElem_cons_succ, List.getElem_cons_zero]
                        refine reg_off (i := 17) rfl (by kernel_rfl) (by kernel_rfl) (by kernel_rfl) (fun _ _ _ h => h) (by kernel_rfl) hHeld ?_
                        simp only [Act.put, List.setIfInBounds_toArray, List.set_cons_zero, List.set_cons_succ, List.getElem_toArray, List.getElem_cons_succ, List.getElem_cons_zero]
                        refine reg_off (i := 18) rfl (by kernel_rfl) (by kernel_rfl) (by kernel_rfl) (fun _ _ _ h => h) (by kernel_rfl) hHeld ?_
                        simp only [Act.put, List.setIfInBounds_toArray, List.set_cons_zero, List.set_cons_succ, List.getElem_toArray, List.getElem_cons_succ, List.getElem_cons_zero]
                        refine reg_off (i := 19) rfl (by kernel_rfl) (by kernel_rfl) (by kernel_rfl) (fun _ _ _ h => h) (by kernel_rfl) hHeld ?_
                        simp only [Act.put, List.setIfInBounds_toArray, List.set_cons_zero, List.set_cons_succ, List.getElem_toArray, List.getElem_cons_succ, List.getElem_cons_zero]
                        refine reg_off (i := 20) rfl (by kernel_rfl) (by kernel_rfl) (by kernel_rfl) (fun _ _ _ h => h) (by kernel_rfl) hHeld ?_
                        simp only [Act.put, List.setIfInBounds_toArray, List.set_cons_zero, List.set_cons_succ, List.getElem_toArray, List.getElem_cons_succ, List.getElem_cons_zero]
                        refine reg_off (i := 21) rfl (by kernel_rfl) (by kernel_rfl) (by kernel_rfl) (fun _ _ _ h => h) (by kernel_rfl) hHeld ?_
                        simp only [Act.put, List.setIfInBounds_toArray, List.set_cons_zero, List.set_cons_succ, List.getElem_toArray, List.getElem_cons_succ, List.getElem_cons_zero]
                        refine reg_on (i := 22) (v := .bool false) rfl (by kernel_rfl) (by kernel_rfl) (by kernel_rfl) (fun _ _ _ h => h) (by kernel_rfl) hHeld ?yr13_22 ?_
                        case yr13_22 => (intro w hSw; (try dsimp only at hSw); obtain ⟨z0, p2, p0, p1, y2, y5⟩ := HF2.out _ hSw; go_simp; first | done | with_reducible rfl)
                        simp only [Act.put, List.setIfInBounds_toArray, List.set_cons_zero, List.set_cons_succ, List.getElem_toArray, List.getElem_cons_succ, List.getElem_cons_zero]
                        refine wpAnyH_done (by kernel_rfl) ?_ _
                        have HU2 := Lib.hid hHeld
                        clear hHeld
                        go_wp2_with fail
                        exact ⟨⟨k + 1, S1, by omega, by go_num, HCC.out, HIV.out, ((((HS12.out.upd0 HU2.out).drop 0 (by simp)).drop 0 (by simp)).drop 1 (by simp)).drop 1 (by simp)⟩, by simp [intOf]; omega⟩
                      · have bs : (y.state != 1) = true := by simpa using hst
                        have hx := HO4.out y HY0.out c6 hst
                        subst hx
                        have hne : (y.too != y.too) = false := by simp
                        clear hst c6
                        go_upto_region 29 with fail
                        have HD1 := Lib.hid (Upd.drew NoF wr)
                        refine wp_region_held_drew (S := (fun X => Upd NoF wr X)) (by kernel_rfl) (HD1.out) (fun hHeld => ?_)
                        refine reg_on (i := 0) (v := .bool true) rfl (by kernel_rfl) (by kernel_rfl) (by kernel_rfl) (fun _ _ _ h => h) (by kernel_rfl) hHeld ?yr14_0 ?_
                        case yr14_0 => (intro w hSw; (try dsimp only at hSw); obtain ⟨z0, p2, p0, p1, y2, y5⟩ := HF2.out _ hSw; go_simp; first | done | with_reducible rfl)
                        simp only [Act.put, List.setIfInBounds_toArray, List.set_cons_zero, List.set_cons_succ, List.getElem_toArray, List.getElem_cons_succ, List.getElem_cons_zero]
                        refine reg_on (i := 1) (v := .bool true) rfl (by kernel_rfl) (by kernel_rfl) (by kernel_rfl) (fun _ _ _ h => h) (by kernel_rfl) hHeld ?yr14_1 ?_
                        case yr14_1 => (intro w hSw; (try dsimp only at hSw); obtain ⟨z0, p2, p0, p1, y2, y5⟩ := HF2.out _ hSw; go_simp; first | done | with_reducible rfl)
                        simp only [Act.put, List.setIfInBounds_toArray, List.set_cons_zero, List.set_cons_succ, List.getElem_toArray, List.getElem_cons_succ, List.getElem_cons_zero]
                        refine reg_on (i := 2) (v := ?vr14_2) rfl (by kernel_rfl) (by kernel_rfl) (by kernel_rfl) (fun _ _ _ h => h) (by kernel_rfl) hHeld ?yr14_2 ?_
                        case yr14_2 => (intro w hSw; (try dsimp only at hSw); obtain ⟨z0, p2, p0, p1, y2, y5⟩ := HF2.out _ hSw; go_simp; first | done | with_reducible rfl)
                        simp only [Act.put, List.setIfInBounds_toArray, List.set_cons_zero, List.set_cons_succ, List.getElem_toArray, List.getElem_cons_succ, List.getElem_cons_zero]
                        refine reg_on (i := 3) (v := ?vr14_3) rfl (by kernel_rfl) (by kernel_rfl) (by kernel_rfl) (fun _ _ _ h => h) (by kernel_rfl) hHeld ?yr14_3 ?_
                        case yr14_3 => (intro w hSw; (try dsimp only at hSw); obtain ⟨z0, p2, p0, p1, y2, y5⟩ := HF2.out _ hSw; go_simp; first | done | with_reducible rfl)
                        simp only [Act.put, List.setIfInBounds_toArray, List.set_cons_zero, List.set_cons_succ, List.getElem_toArray, List.getElem_cons_succ, List.getElem_cons_zero]
                        refine reg_step (i := 4) (by kernel_rfl) rfl (by kernel_rfl) (fun K hK => ?_)
                        go_simp
                        refine (NC.net_any n.kind _).mono ?_
                        rintro e wz ⟨rfl, rfl⟩
                        have HS := hHeld
                        go_wp2_with fail
                        refine hK.out _ _ HS (fun hHeld2 => ?_)
                        clear hK hHeld2 hHeld
                        have hHeld := HS
                        clear HS
                        try simp only [Act.put, List.setIfInBounds_toArray, List.set_cons_zero, List.set_cons_succ, List.getElem_toArray, List.getElem_cons_succ, List.getElem_cons_zero]
                        refine reg_on (i := 5) (v := .bool false) rfl (by kernel_rfl) (by kernel_rfl) (by kernel_rfl) (fun _ _ _ h => h) (by kernel_rfl) hHeld ?yr14_5 ?_
                        case yr14_5 => (intro w hSw; (try dsimp only at hSw); obtain ⟨z0, p2, p0, p1, y2, y5⟩ := HF2.out _ hSw; go_simp; first | done | with_reducible rfl)
                        simp only [Act.put, List.setIfInBounds_toArray, List.set_cons_zero, List.set_cons_succ, List.getElem_toArray, List.getElem_cons_succ, List.getElem_cons_zero]
                        refine reg_on (i := 6) (v := .bool false) rfl (by kernel_rfl) (by kernel_rfl) (by kernel_rfl) (fun _ _ _ h => h) (by kernel_rfl) hHeld ?yr14_6 ?_
                        case yr14_6 => (intro w hSw; (try dsimp only at hSw); obtain ⟨z0, p2, p0, p1, y2, y5⟩ := HF2.out _ hSw; go_simp; first | done | with_reducible rfl)
                        simp only [Act.put, List.setIfInBounds_toArray, List.set_cons_zero, List.set_cons_succ, List.getElem_toArray, List.getElem_cons_succ, List.getElem_cons_zero]
                        refine reg_on (i := 7) (v := .bool false) rfl (by kernel_rfl) (by kernel_rfl) (by kernel_rfl) (fun _ _ _ h => h) (by kernel_rfl) hHeld ?yr14_7 ?_
                        case yr14_7 => (intro w hSw; (try dsimp only at hSw); obtain ⟨z0, p2, p0, p1, y2, y5⟩ := HF2.out _ hSw; go_simp; first | done | with_reducible rfl)
                        simp only [Act.put, List.setIfInBounds_toArray, List.set_cons_zero, List.set_cons_succ, List.getElem_toArray, List.getElem_cons_succ, List.getElem_cons_zero]
                        refine reg_off (i := 8) rfl (by kernel_rfl) (by kernel_rfl) (by kernel_rfl) (fun _ _ _ h => h) (by kernel_rfl) hHeld ?_
                        simp only [Act.put, List.setIfInBounds_toArray, List.set_cons_zero, List.set_cons_succ, List.getElem_toArray, List.getElem_cons_succ, List.getElem_cons_zero]
                        refine reg_off (i := 9) rfl (by kernel_rfl) (by kernel_rfl) (by kernel_rfl) (fun _ _ _ h => h) (by kernel_rfl) hHeld ?_
                        simp only [Act.put, List.setIfInBounds_toArray, List.set_cons_zero, List.set_cons_succ, List.getElem_toArray, List.getElem_cons_succ, List.getElem_cons_zero]
                        refine reg_off (i := 10) rfl (by kernel_rfl) (by kernel_rfl) (by kernel_rfl) (fun _ _ _ h => h) (by kernel_rfl) hHeld ?_
                        simp only [Act.put, List.setIfInBounds_toArray, List.set_cons_zero, List.set_cons_succ, List.getElem_toArray, List.getElem_cons_succ, List.getElem_cons_zero]
                        refine reg_on (i := 11) (v := .bool false) rfl (by kernel_rfl) (by kernel_rfl) (by kernel_rfl) (fun _ _ _ h => h) (by kernel_rfl) hHeld ?yr14_11 ?_
                        case yr14_11 => (intro w hSw; (try dsimp only at hSw); obtain ⟨z0, p2, p0, p1, y2, y5⟩ := HF2.out _ hSw; go_simp; first | done | with_reducible rfl)
                        simp only [Act.put, List.setIfInBounds_toArray, List.set_cons_zero, List.set_cons_succ, List.getElem_toArray, List.getElem_cons_succ, List.getElem_cons_zero]
                        refine reg_on (i := 12) (v := .bool false) rfl (by kernel_rfl) (by kernel_rfl) (by kernel_rfl) (fun _ _ _ h => h) (by kernel_rfl) hHeld ?yr14_12 ?_
                        case yr14_12 => (intro w hSw; (try dsimp only at hSw); obtain ⟨z0, p2, p0, p1, y2, y5⟩ := HF2.out _ hSw; go_simp; first | done | with_reducible rfl)
                        simp only [Act.put, List.setIfInBounds_toArray, List.set_cons_zero, List.set_cons_succ, List.getElem_toArray, List.getElem_cons_succ, List.getElem_cons_zero]
                        refine reg_off (i := 13) rfl (by kernel_rfl) (by kernel_rfl) (by kernel_rfl) (fun _ _ _ h => h) (by kernel_rfl) hHeld ?_
                        simp only [Act.put, List.setIfInBounds_toArray, List.set_cons_zero, List.set_cons_succ, List.getElem_toArray, List.getElem_cons_succ, List.getElem_cons_zero]
                        refine reg_off (i := 14) rfl (by kernel_rfl) (by kernel_rfl) (by kernel_rfl) (fun _ _ _ h => h) (by kernel_rfl) hHeld ?_
                        simp only [Act.put, List.setIfInBounds_toArray, List.set_cons_zero, List.set_cons_succ, List.getElem_toArray, List.getElem_cons_succ, List.getElem_cons_zero]
                        refine reg_off (i := 15) rfl (by kernel_rfl) (by kernel_rfl) (by kernel_rfl) (fun _ _ _ h => h) (by kernel_rfl) hHeld ?_
                        simp only [Act.put, List.setIfInBounds_toArray, List.set_cons_zero, List.set_cons_succ, List.getElem_toArray, List.getElem_cons_succ, List.getElem_cons_zero]
                        refine reg_off (i := 16) rfl (by kernel_rfl) (by kernel_rfl) (by kernel_rfl) (fun _ _ _ h => h) (by kernel_rfl) hHeld ?_
                        simp only [Act.put, List.setIfInBounds_toArray, List.set_cons_zero, List.set_cons_succ, List.getElem_toArray, List.getElem_cons_succ, List.getElem_cons_zero]
                        refine reg_off (i := 17) rfl (by kernel_rfl) (by kernel_rfl) (by kernel_rfl) (fun _ _ _ h => h) (by kernel_rfl) hHeld ?_
                        simp only [Act.put, List.setIfInBounds_toArray, List.set_cons_zero, List.set_cons_succ, List.getElem_toArray, List.getElem_cons_succ, List.getElem_cons_zero]
                        refine reg_off (i := 18) rfl (by kernel_rfl) (by kernel_rfl) (by kernel_rfl) (fun _ _ _ h => h) (by kernel_rfl) hHeld ?_
                        simp only [Act.put, List.setIfInBounds_toArray, List.set_cons_zero, List.set_cons_succ, List.getElem_toArray, List.getElem_cons_succ, List.getElem_cons_zero]
                        refine reg_off (i := 19) rfl (by kernel_rfl) (by kernel_rfl) (by kernel_rfl) (fun _ _ _ h => h) (by kernel_rfl) hHeld ?_
                        simp only [Act.put, List.setIfInBounds_toArray, List.set_cons_zero, List.set_cons_succ, List.getElem_toArray, List.getElem_cons_succ, List.getElem_cons_zero]
                        refine reg_on (i := 20) (v := .bool false) rfl (by kernel_rfl) (by kernel_rfl) (by kernel_rfl) (fun _ _ _ h => h) (by kernel_rfl) hHeld ?yr14_20 ?_
                        case yr14_20 => (intro w hSw; (try dsimp only at hSw); obtain ⟨z0, p2, p0, p1, y2, y5⟩ := HF2.out _ hSw; go_simp; first | done | with_reducible rfl)
                        simp only [Act.put, List.setIfInBounds_toArray, List.set_cons_zero, List.set_cons_succ, List.getElem_toArray, List.getElem_cons_succ, List.getElem_cons_zero]
                        refine wpAnyH_done (by kernel_rfl) ?_ _
                        have HU1 := Lib.hid hHeld
                        obtain ⟨X1, hX1⟩ : ∃ X, wr.drew = X := ⟨_, rfl⟩
                        rw [hX1] at HU1 ⊢
                        clear hX1 hHeld
                        go_upto_region 31 with fail
                        have HD2 := Lib.hid (HU1.out.trans (Upd.drew NoF X1) (fun _ _ h => h))
                        refine wp_region_held_drew (S := (fun X => Upd NoF wr X)) (by kernel_rfl) (HD2.out) (fun hHeld => ?_)
                        refine reg_on (i := 0) (v := .bool true) rfl (by kernel_rfl) (by kernel_rfl) (by kernel_rfl) (fun _ _ _ h => h) (by kernel_rfl) hHeld ?yr15_0 ?_
                        case yr15_0 => (intro w hSw; (try dsimp only at hSw); obtain ⟨z0, p2, p0, p1, y2, y5⟩ := HF2.out _ hSw; go_simp; first | done | with_reducible rfl)
                        simp only [Act.put, List.setIfInBounds_toArray, List.set_cons_zero, List.set_cons_succ, List.getElem_toArray, List.getElem_cons_succ, List.getElem_cons_zero]
                        refine reg_on (i := 1) (v := .bool true) rfl (by kernel_rfl) (by kernel_rfl) (by kernel_rfl) (fun _ _ _ h => h) (by kernel_rfl) hHeld ?yr15_1 ?_
                        case yr15_1 => (intro w hSw; (try dsimp only at hSw); obtain ⟨z0, p2, p0, p1, y2, y5⟩ := HF2.out _ hSw; go_simp; first | done | with_reducible rfl)
                        simp only [Act.put, List.setIfInBounds_toArray, List.set_cons_zero, List.set_cons_succ, List.getElem_toArray, List.getElem_cons_succ, List.getElem_cons_zero]
                        refine reg_on (i := 2) (v := ?vr15_2) rfl (by kernel_rfl) (by kernel_rfl) (by kernel_rfl) (fun _ _ _ h => h) (by kernel_rfl) hHeld ?yr15_2 ?_
                        case yr15_2 => (intro w hSw; (try dsimp only at hSw); obtain ⟨z0, p2, p0, p1, y2, y5⟩ := HF2.out _ hSw; go_simp; first | done | with_reducible rfl)
                        simp only [Act.put, List.setIfInBounds_toArray, List.set_cons_zero, List.set_cons_succ, List.getElem_toArray, List.getElem_cons_succ, List.getElem_cons_zero]
                        refine reg_on (i := 3) (v := ?vr15_3) rfl (by kernel_rfl) (by kernel_rfl) (by kernel_rfl) (fun _ _ _ h => h) (by kernel_rfl) hHeld ?yr15_3 ?_
                        case yr15_3 => (intro w hSw; (try dsimp only at hSw); obtain ⟨z0, p2, p0, p1, y2, y5⟩ := HF2.out _ hSw; go_simp; first | done | with_reducible rfl)
                        simp only [Act.put, List.setIfInBounds_toArray, List.set_cons_zero, List.set_cons_succ, List.getElem_toArray, List.getElem_cons_succ, List.getElem_cons_zero]
                        refine reg_on (i := 4) (v := ?vr15_4) rfl (by kernel_rfl) (by kernel_rfl) (by kernel_rfl) (fun _ _ _ h => h) (by kernel_rfl) hHeld ?yr15_4 ?_
                        case yr15_4 => (intro w hSw; (try dsimp only at hSw); obtain ⟨z0, p2, p0, p1, y2, y5⟩ := HF2.out _ hSw; go_simp; first | done | with_reducible rfl)
                        simp only [Act.put, List.setIfInBounds_toArray, List.set_cons_zero, List.set_cons_succ, List.getElem_toArray, List.getElem_cons_succ, List.getElem_cons_zero]
                        refine reg_on (i := 5) (v := ?vr15_5) rfl (by kernel_rfl) (by kernel_rfl) (by kernel_rfl) (fun _ _ _ h => h) (by kernel_rfl) hHeld ?yr15_5 ?_
                        case yr15_5 => (intro w hSw; (try dsimp only at hSw); obtain ⟨z0, p2, p0, p1, y2, y5⟩ := HF2.out _ hSw; go_simp; first | done | with_reducible rfl)
                        simp only [Act.put, List.setIfInBounds_toArray, List.set_cons_zero, List.set_cons_succ, List.getElem_toArray, List.getElem_cons_succ, List.getElem_cons_zero]
                        refine reg_on (i := 6) (v := .bool true) rfl (by kernel_rfl) (by kernel_rfl) (by kernel_rfl) (fun _ _ _ h => h) (by kernel_rfl) hHeld ?yr15_6 ?_
                        case yr15_6 => (intro w hSw; (try dsimp only at hSw); obtain ⟨z0, p2, p0, p1, y2, y5⟩ := HF2.out _ hSw; go_simp; first | done | with_reducible rfl)
                        simp only [Act.put, List.setIfInBounds_toArray, List.set_cons_zero, List.set_cons_succ, List.getElem_toArray, List.getElem_cons_succ, List.getElem_cons_zero]
                        refine reg_on (i := 7) (v := .bool true) rfl (by kernel_rfl) (by kernel_rfl) (by kernel_rfl) (fun _ _ _ h => h) (by kernel_rfl) hHeld ?yr15_7 ?_
                        case yr15_7 => (intro w hSw; (try dsimp only at hSw); obtain ⟨z0, p2, p0, p1, y2, y5⟩ := HF2.out _ hSw; go_simp; first | done | with_reducible rfl)
                        simp only [Act.put, List.setIfInBounds_toArray, List.set_cons_zero, List.set_cons_succ, List.getElem_toArray, List.getElem_cons_succ, List.getElem_cons_zero]
                        refine reg_on (i := 8) (v := .bool true) rfl (by kernel_rfl) (by kernel_rfl) (by kernel_rfl) (fun _ _ _ h => h) (by kernel_rfl) hHeld ?yr15_8 ?_
                        case yr15_8 => (intro w hSw; (try dsimp only at hSw); obtain ⟨z0, p2, p0, p1, y2, y5⟩ := HF2.out _ hSw; go_simp; first | done | with_reducible rfl)
                        simp only [Act.put, List.setIfInBounds_toArray, List.set_cons_zero, List.set_cons_succ, List.getElem_toArray, List.getElem_cons_succ, List.getElem_cons_zero]
                        refine reg_on (i := 9) (v := ?vr15_9) rfl (by kernel_rfl) (by kernel_rfl) (by kernel_rfl) (fun _ _ _ h => h) (by kernel_rfl) hHeld ?yr15_9 ?_
                        case yr15_9 => (intro w hSw; (try dsimp only at hSw); obtain ⟨z0, p2, p0, p1, y2, y5⟩ := HF2.out _ hSw; go_simp; first | done | with_reducible rfl)
                        simp only [Act.put, List.setIfInBounds_toArray, List.set_cons_zero, List.set_cons_succ, List.getElem_toArray, List.getElem_cons_succ, List.getElem_cons_zero]
                        refine reg_on (i := 10) (v := ?vr15_10) rfl (by kernel_rfl) (by kernel_rfl) (by kernel_rfl) (fun _ _ _ h => h) (by kernel_rfl) hHeld ?yr15_10 ?_
                        case yr15_10 => (intro w hSw; (try dsimp only at hSw); obtain ⟨z0, p2, p0, p1, y2, y5⟩ := HF2.out _ hSw; go_simp; first | done | with_reducible rfl)
                        simp only [Act.put, List.setIfInBounds_toArray, List.set_cons_zero, List.set_cons_succ, List.getElem_toArray, List.getElem_cons_succ, List.getElem_cons_zero]
                        refine reg_on (i := 11) (v := ?vr15_11) rfl (by kernel_rfl) (by kernel_rfl) (by kernel_rfl) (fun _ _ _ h => h) (by kernel_rfl) hHeld ?yr15_11 ?_
                        case yr15_11 => (intro w hSw; (try dsimp only at hSw); obtain ⟨z0, p2, p0, p1, y2, y5⟩ := HF2.out _ hSw; go_simp; first | done | with_reducible rfl)
                        simp only [Act.put, List.setIfInBounds_toArray, List.set_cons_zero, List.set_cons_succ, List.getElem_toArray, List.getElem_cons_succ, List.getElem_cons_zero]
                        refine reg_on (i := 12) (v := ?vr15_12) rfl (by kernel_rfl) (by kernel_rfl) (by kernel_rfl) (fun _ _ _ h => h) (by kernel_rfl) hHeld ?yr15_12 ?_
                        case yr15_12 => (intro w hSw; (try dsimp only at hSw); obtain ⟨z0, p2, p0, p1, y2, y5⟩ := HF2.out _ hSw; go_simp; first | done | with_reducible rfl)
                        simp only [Act.put, List.setIfInBounds_toArray, List.set_cons_zero, List.set_cons_succ, List.getElem_toArray, List.getElem_cons_succ, List.getElem_cons_zero]
                        refine reg_on (i := 13) (v := ?vr15_13) rfl (by kernel_rfl) (by kernel_rfl) (by kernel_rfl) (fun _ _ _ h => h) (by kernel_rfl) hHeld ?yr15_13 ?_
                        case yr15_13 => (intro w hSw; (try dsimp only at hSw); obtain ⟨z0, p2, p0, p1, y2, y5⟩ := HF2.out _ hSw; go_simp; first | done | with_reducible rfl)
                        simp only [Act.put, List.setIfInBounds_toArray, List.set_cons_zero, List.set_cons_succ, List.getElem_toArray, List.getElem_cons_succ, List.getElem_cons_zero]
                        refine reg_on (i := 14) (v := ?vr15_14) rfl (by kernel_rfl) (by kernel_rfl) (by kernel_rfl) (fun _ _ _ h => h) (by kernel_rfl) hHeld ?yr15_14 ?_
                        case yr15_14 => (intro w hSw; (try dsimp only at hSw); obtain ⟨z0, p2, p0, p1, y2, y5⟩ := HF2.out _ hSw; go_simp; first | done | with_reducible rfl)
                        simp only [Act.put, List.setIfInBounds_toArray, List.set_cons_zero, List.set_cons_succ, List.getElem_toArray, List.getElem_cons_succ, List.getElem_cons_zero]
                        refine reg_on (i := 15) (v := .bool false) rfl (by kernel_rfl) (by kernel_rfl) (by kernel_rfl) (fun _ _ _ h => h) (by kernel_rfl) hHeld ?yr15_15 ?_
                        case yr15_15 => (intro w hSw; (try dsimp only at hSw); obtain ⟨z0, p2, p0, p1, y2, y5⟩ := HF2.out _ hSw; go_simp; first | done | with_reducible rfl)
                        simp only [Act.put, List.setIfInBounds_toArray, List.set_cons_zero, List.set_cons_succ, List.getElem_toArray, List.getElem_cons_succ, List.getElem_cons_zero]
                        refine reg_on (i := 16) (v := .bool false) rfl (by kernel_rfl) (by kernel_rfl) (by kernel_rfl) (fun _ _ _ h => h) (by kernel_rfl) hHeld ?yr15_16 ?_
                        case yr15_16 => (intro w hSw; (try dsimp only at hSw); obtain ⟨z0, p2, p0, p1, y2, y5⟩ := HF2.out _ hSw; go_simp; first | done | with_reducible rfl)
                        simp only [Act.put, List.setIfInBounds_toArray, List.set_cons_zero, List.set_cons_succ, List.getElem_toArray, List.getElem_cons_succ, List.getElem_cons_zero]
                        refine reg_on (i := 17) (v := ?vr15_17) rfl (by kernel_rfl) (by kernel_rfl) (by kernel_rfl) (fun _ _ _ h => h) (by kernel_rfl) hHeld ?yr15_17 ?_
                        case yr15_17 => (intro w hSw; (try dsimp only at hSw); obtain ⟨z0, p2, p0, p1, y2, y5⟩ := HF2.out _ hSw; go_simp; first | done | with_reducible rfl)
                        simp only [Act.put, List.setIfInBounds_toArray, List.set_cons_zero, List.set_cons_succ, List.getElem_toArray, List.getElem_cons_succ, List.getElem_cons_zero]
                        refine reg_on (i := 18) (v := ?vr15_18) rfl (by kernel_rfl) (by kernel_rfl) (by kernel_rfl) (fun _ _ _ h => h) (by kernel_rfl) hHeld ?yr15_18 ?_
                        case yr15_18 => (intro w hSw; (try dsimp only at hSw); obtain ⟨z0, p2, p0, p1, y2, y5⟩ := HF2.out _ hSw; go_simp; first | done | with_reducible rfl)
                        simp only [Act.put, List.setIfInBounds_toArray, List.set_cons_zero, List.set_cons_succ, List.getElem_toArray, List.getElem_cons_succ, List.getElem_cons_zero]
                        refine reg_step (i := 19) (by kernel_rfl) rfl (by kernel_rfl) (fun K hK => ?_)
                        go_simp
                        refine (HCT.out _).mono ?_
                        rintro e wz ⟨rfl, hu⟩
                        have HS : (fun X => Upd NoF wr X) wz := hHeld.trans hu (fun _ _ h => h)
                        clear hu
                        go_wp2_with fail
                        refine hK.out _ _ HS (fun hHeld2 => ?_)
                        clear hK hHeld2 hHeld
                        have hHeld := HS
                        clear HS
                        try simp only [Act.put, List.setIfInBounds_toArray, List.set_cons_zero, List.set_cons_succ, List.getElem_toArray, List.getElem_cons_succ, List.getElem_cons_zero]
                        refine reg_on (i := 20) (v := .bool false) rfl (by kernel_rfl) (by kernel_rfl) (by kernel_rfl) (fun _ _ _ h => h) (by kernel_rfl) hHeld ?yr15_20 ?_
                        case yr15_20 => (intro w hSw; (try dsimp only at hSw); obtain ⟨z0, p2, p0, p1, y2, y5⟩ := HF2.out _ hSw; go_simp; first | done | with_reducible rfl)
                        simp only [Act.put, List.setIfInBounds_toArray, List.set_cons_zero, List.set_cons_succ, List.getElem_toArray, List.getElem_cons_succ, List.getElem_cons_zero]
                        refine reg_on (i := 21) (v := .bool false) rfl (by kernel_rfl) (by kernel_rfl) (by kernel_rfl) (fun _ _ _ h => h) (by kernel_rfl) hHeld ?yr15_21 ?_
                        case yr15_21 => (intro w hSw; (try dsimp only at hSw); obtain ⟨z0, p2, p0, p1, y2, y5⟩ := HF2.out _ hSw; go_simp; first | done | with_reducible rfl)
                        simp only [Act.put, List.setIfInBounds_toArray, List.set_cons_zero, List.set_cons_succ, List.getElem_toArray, List.getElem_cons_succ, List.getElem_cons_zero]
                        refine reg_on (i := 22) (v := .bool false) rfl (by kernel_rfl) (by kernel_rfl) (by kernel_rfl) (fun _ _ _ h => h) (by kernel_rfl) hHeld ?yr15_22 ?_
                        case yr15_22 => (intro w hSw; (try dsimp only at hSw); obtain ⟨z0, p2, p0, p1, y2, y5⟩ := HF2.out _ hSw; go_simp; first | done | with_reducible rfl)
                        simp only [Act.put, List.setIfInBounds_toArray, List.set_cons_zero, List.set_cons_succ, List.getElem_toArray, List.getElem_cons_succ, List.getElem_cons_zero]
                        refine wpAnyH_done (by kernel_rfl) ?_ _
                        have HU2 := Lib.hid hHeld
                        clear hHeld
                        go_wp2_with fail
                        exact ⟨⟨k + 1, S1, by omega, by go_num, HCC.out, HIV.out, ((((HS12.out.upd0 HU2.out).drop 0 (by simp)).drop 0 (by simp)).drop 1 (by simp)).drop 1 (by simp)⟩, by simp [intOf]; omega⟩
                  · have b6 : (y.kind == 6) = false := by simpa using c6
                    have HF2 := Lib.hid (fun X (hX : Upd NoF wr X) => (show X.cell? ⟨nb, 0, none⟩ = some (.int .u8 n.kind) ∧ X.cell? ⟨eb, 0, none⟩ = some (.int .i64 x0.own) ∧ X.cell? ⟨e2, 0, none⟩ = some (.int .i64 x1.own) ∧ X.cell? ⟨e2, 1, none⟩ = some (VM x1.shr) ∧ X.cell? ⟨g2, 2, none⟩ = some (.int .i64 y.too) ∧ X.cell? ⟨g2, 5, none⟩ = some (.int .u8 y.state) from ⟨hX.cell z0 (fun h => h), hX.cell p2 (fun h => h), hX.cell p0 (fun h => h), hX.cell p1 (fun h => h), hX.cell y2 (fun h => h), hX.cell y5 (fun h => h)⟩))
                    clear z0 p0 p1 p2 y2 y5
                    go_upto_region 29 with fail
                    have HD1 := Lib.hid (Upd.drew NoF wr)
                    refine wp_region_held_drew (S := (fun X => Upd NoF wr X)) (by kernel_rfl) (HD1.out) (fun hHeld => ?_)
                    refine reg_on (i := 0) (v := .bool false) rfl (by kernel_rfl) (by kernel_rfl) (by kernel_rfl) (fun _ _ _ h => h) (by kernel_rfl) hHeld ?yr16_0 ?_
                    case yr16_0 => (intro w hSw; (try dsimp only at hSw); obtain ⟨z0, p2, p0, p1, y2, y5⟩ := HF2.out _ hSw; go_simp; first | done | with_reducible rfl)
                    simp only [Act.put, List.setIfInBounds_toArray, List.set_cons_zero, List.set_cons_succ, List.getElem_toArray, List.getElem_cons_succ, List.getElem_cons_zero]
                    refine reg_on (i := 1) (v := .bool false) rfl (by kernel_rfl) (by kernel_rfl) (by kernel_rfl) (fun _ _ _ h => h) (by kernel_rfl) hHeld ?yr16_1 ?_
                    case yr16_1 => (intro w hSw; (try dsimp only at hSw); obtain ⟨z0, p2, p0, p1, y2, y5⟩ := HF2.out _ hSw; go_simp; first | done | with_reducible rfl)
                    simp only [Act.put, List.setIfInBounds_toArray, List.set_cons_zero, List.set_cons_succ, List.getElem_toArray, List.getElem_cons_succ, List.getElem_cons_zero]
                    refine reg_off (i := 2) rfl (by kernel_rfl) (by kernel_rfl) (by kernel_rfl) (fun _ _ _ h => h) (by kernel_rfl) hHeld ?_
                    simp only [Act.put, List.setIfInBounds_toArray, List.set_cons_zero, List.set_cons_succ, List.getElem_toArray, List.getElem_cons_succ, List.getElem_cons_zero]
                    refine reg_off (i := 3) rfl (by kernel_rfl) (by kernel_rfl) (by kernel_rfl) (fun _ _ _ h => h) (by kernel_rfl) hHeld ?_
                    simp only [Act.put, List.setIfInBounds_toArray, List.set_cons_zero, List.set_cons_succ, List.getElem_toArray, List.getElem_cons_succ, List.getElem_cons_zero]
                    refine reg_off (i := 4) rfl (by kernel_rfl) (by kernel_rfl) (by kernel_rfl) (fun _ _ _ h => h) (by kernel_rfl) hHeld ?_
                    simp only [Act.put, List.setIfInBounds_toArray, List.set_cons_zero, List.set_cons_succ, List.getElem_toArray, List.getElem_cons_succ, List.getElem_cons_zero]
                    refine reg_off (i := 5) rfl (by kernel_rfl) (by kernel_rfl) (by kernel_rfl) (fun _ _ _ h => h) (by kernel_rfl) hHeld ?_
                    simp only [Act.put, List.setIfInBounds_toArray, List.set_cons_zero, List.set_cons_succ, List.getElem_toArray, List.getElem_cons_succ, List.getElem_cons_zero]
                    refine reg_on (i := 6) (v := .bool false) rfl (by kernel_rfl) (by kernel_rfl) (by kernel_rfl) (fun _ _ _ h => h) (by kernel_rfl) hHeld ?yr16_6 ?_
                    case yr16_6 => (intro w hSw; (try dsimp only at hSw); obtain ⟨z0, p2, p0, p1, y2, y5⟩ := HF2.out _ hSw; go_simp; first | done | with_reducible rfl)
                    simp only [Act.put, List.setIfInBounds_toArray, List.set_cons_zero, List.set_cons_succ, List.getElem_toArray, List.getElem_cons_succ, List.getElem_cons_zero]
                    refine reg_on (i := 7) (v := .bool false) rfl (by kernel_rfl) (by kernel_rfl) (by kernel_rfl) (fun _ _ _ h => h) (by kernel_rfl) hHeld ?yr16_7 ?_
                    case yr16_7 => (intro w hSw; (try dsimp only at hSw); obtain ⟨z0, p2, p0, p1, y2, y5⟩ := HF2.out _ hSw; go_simp; first | done | with_reducible rfl)
                    simp only [Act.put, List.setIfInBounds_toArray, List.set_cons_zero, List.set_cons_succ, List.getElem_toArray, List.getElem_cons_succ, List.getElem_cons_zero]
                    refine reg_off (i := 8) rfl (by kernel_rfl) (by kernel_rfl) (by kernel_rfl) (fun _ _ _ h => h) (by kernel_rfl) hHeld ?_
                    simp only [Act.put, List.setIfInBounds_toArray, List.set_cons_zero, List.set_cons_succ, List.getElem_toArray, List.getElem_cons_succ, List.getElem_cons_zero]
                    refine reg_off (i := 9) rfl (by kernel_rfl) (by kernel_rfl) (by kernel_rfl) (fun _ _ _ h => h) (by kernel_rfl) hHeld ?_
                    simp only [Act.put, List.setIfInBounds_toArray, List.set_cons_zero, List.set_cons_succ, List.getElem_toArray, List.getElem_cons_succ, List.getElem_cons_zero]
                    refine reg_off (i := 10) rfl (by kernel_rfl) (by kernel_rfl) (by kernel_rfl) (fun _ _ _ h => h) (by kernel_rfl) hHeld ?_
                    simp only [Act.put, List.setIfInBounds_toArray, List.set_cons_zero, List.set_cons_succ, List.getElem_toArray, List.getElem_cons_succ, List.getElem_cons_zero]
                    refine reg_on (i := 11) (v := .bool false) rfl (by kernel_rfl) (by kernel_rfl) (by kernel_rfl) (fun _ _ _ h => h) (by kernel_rfl) hHeld ?yr16_11 ?_
                    case yr16_11 => (intro w hSw; (try dsimp only at hSw); obtain ⟨z0, p2, p0, p1, y2, y5⟩ := HF2.out _ hSw; go_simp; first | done | with_reducible rfl)
                    simp only [Act.put, List.setIfInBounds_toArray, List.set_cons_zero, List.set_cons_succ, List.getElem_toArray, List.getElem_cons_succ, List.getElem_cons_zero]
                    refine reg_on (i := 12) (v := .bool false) rfl (by kernel_rfl) (by kernel_rfl) (by kernel_rfl) (fun _ _ _ h => h) (by kernel_rfl) hHeld ?yr16_12 ?_
                    case yr16_12 => (intro w hSw; (try dsimp only at hSw); obtain ⟨z0, p2, p0, p1, y2, y5⟩ := HF2.out _ hSw; go_simp; first | done | with_reducible rfl)
                    simp only [Act.put, List.setIfInBounds_toArray, List.set_cons_zero, List.set_cons_succ, List.getElem_toArray, List.getElem_cons_succ, List.getElem_cons_zero]
                    refine reg_off (i := 13) rfl (by kernel_rfl) (by kernel_rfl) (by kernel_rfl) (fun _ _ _ h => h) (by kernel_rfl) hHeld ?_
                    simp only [Act.put, List.setIfInBounds_toArray, List.set_cons_zero, List.set_cons_succ, List.getElem_toArray, List.getElem_cons_succ, List.getElem_cons_zero]
                    refine reg_off (i := 14) rfl (by kernel_rfl) (by kernel_rfl) (by kernel_rfl) (fun _ _ _ h => h) (by kernel_rfl) hHeld ?_
                    simp only [Act.put, List.setIfInBounds_toArray, List.set_cons_zero, List.set_cons_succ, List.getElem_toArray, List.getElem_cons_succ, List.getElem_cons_zero]
                    refine reg_off (i := 15) rfl (by kernel_rfl) (by kernel_rfl) (by kernel_rfl) (fun _ _ _ h => h) (by kernel_rfl) hHeld ?_
                    simp only [Act.put, List.setIfInBounds_toArray, List.set_cons_zero, List.set_cons_succ, List.getElem_toArray, List.getElem_cons_succ, List.getElem_cons_zero]
                    refine reg_off (i := 16) rfl (by kernel_rfl) (by kernel_rfl) (by kernel_rfl) (fun _ _ _ h => h) (by kernel_rfl) hHeld ?_
                    simp only [Act.put, List.setIfInBounds_toArray, List.set_cons_zero, List.set_cons_succ, List.getElem_toArray, List.getElem_cons_succ, List.getElem_cons_zero]
                    refine reg_off (i := 17) rfl (by kernel_rfl) (by kernel_rfl) (by kernel_rfl) (fun _ _ _ h => h) (by kernel_rfl) hHeld ?_
                    simp only [Act.put, List.setIfInBounds_toArray, List.set_cons_zero, List.set_cons_succ, List.getElem_toArray, List.getElem_cons_succ, List.getElem_cons_zero]
                    refine reg_off (i := 18) rfl (by kernel_rfl) (by kernel_rfl) (by kernel_rfl) (fun _ _ _ h => h) (by kernel_rfl) hHeld ?_
                    simp only [Act.put, List.setIfInBounds_toArray, List.set_cons_zero, List.set_cons_succ, List.getElem_toArray, List.getElem_cons_succ, List.getElem_cons_zero]
                    refine reg_off (i := 19) rfl (by kernel_rfl) (by kernel_rfl) (by kernel_rfl) (fun _ _ _ h => h) (by kernel_rfl) hHeld ?_
                    simp only [Act.put, List.setIfInBounds_toArray, List.set_cons_zero, List.set_cons_succ, List.getElem_toArray, List.getElem_cons_succ, List.getElem_cons_zero]
                    refine reg_on (i := 20) (v := .bool false) rfl (by kernel_rfl) (by kernel_rfl) (by kernel_rfl) (fun _ _ _ h => h) (by kernel_rfl) hHeld ?yr16_20 ?_
                    case yr16_20 => (intro w hSw; (try dsimp only at hSw); obtain ⟨z0, p2, p0, p1, y2, y5⟩ := HF2.out _ hSw; go_simp; first | done | with_reducible rfl)
                    simp only [Act.put, List.setIfInBounds_toArray, List.set_cons_zero, List.set_cons_succ, List.getElem_toArray, List.getElem_cons_succ, List.getElem_cons_zero]
                    refine wpAnyH_done (by kernel_rfl) ?_ _
                    have HU1 := Lib.hid hHeld
                    obtain ⟨X1, hX1⟩ : ∃ X, wr.drew = X := ⟨_, rfl⟩
                    rw [hX1] at HU1 ⊢
                    clear hX1 hHeld
                    go_upto_region 31 with fail
                    have HD2 := Lib.hid (HU1.out.trans (Upd.drew NoF X1) (fun _ _ h => h))
                    refine wp_region_held_drew (S := (fun X => Upd NoF wr X)) (by kernel_rfl) (HD2.out) (fun hHeld => ?_)
                    refine reg_on (i := 0) (v := .bool false) rfl (by kernel_rfl) (by kernel_rfl) (by kernel_rfl) (fun _ _ _ h => h) (by kernel_rfl) hHeld ?yr17_0 ?_
                    case yr17_0 => (intro w hSw; (try dsimp only at hSw); obtain ⟨z0, p2, p0, p1, y2, y5⟩ := HF2.out _ hSw; go_simp; first | done | with_reducible rfl)
                    simp only [Act.put, List.setIfInBounds_toArray, List.set_cons_zero, List.set_cons_succ, List.getElem_toArray, List.getElem_cons_succ, List.getElem_cons_zero]
                    refine reg_on (i := 1) (v := .bool false) rfl (by kernel_rfl) (by kernel_rfl) (by kernel_rfl) (fun _ _ _ h => h) (by kernel_rfl) hHeld ?yr17_1 ?_
                    case yr17_1 => (intro w hSw; (try dsimp only at hSw); obtain ⟨z0, p2, p0, p1, y2, y5⟩ := HF2.out _ hSw; go_simp; first | done | with_reducible rfl)
                    simp only [Act.put, List.setIfInBounds_toArray, List.set_cons_zero, List.set_cons_succ, List.getElem_toArray, List.getElem_cons_succ, List.getElem_cons_zero]
                    refine reg_off (i := 2) rfl (by kernel_rfl) (by kernel_rfl) (by kernel_rfl) (fun _ _ _ h => h) (by kernel_rfl) hHeld ?_
                    simp only [Act.put, List.setIfInBounds_toArray, List.set_cons_zero, List.set_cons_succ, List.getElem_toArray, List.getElem_cons_succ, List.getElem_cons_zero]
                    refine reg_off (i := 3) rfl (by kernel_rfl) (by kernel_rfl) (by kernel_rfl) (fun _ _ _ h => h) (by kernel_rfl) hHeld ?_
                    simp only [Act.put, List.setIfInBounds_toArray, List.set_cons_zero, List.set_cons_succ, List.getElem_toArray, List.getElem_cons_succ, List.getElem_cons_zero]
                    refine reg_off (i := 4) rfl (by kernel_rfl) (by kernel_rfl) (by kernel_rfl) (fun _ _ _ h => h) (by kernel_rfl) hHeld ?_
                    simp only [Act.put, List.setIfInBounds_toArray, List.set_cons_zero, List.set_cons_succ, List.getElem_toArray, List.getElem_cons_succ, List.getElem_cons_zero]
                    refine reg_off (i := 5) rfl (by kernel_rfl) (by kernel_rfl) (by kernel_rfl) (fun _ _ _ h => h) (by kernel_rfl) hHeld ?_
                    simp only [Act.put, List.setIfInBounds_toArray, List.set_cons_zero, List.set_cons_succ, List.getElem_toArray, List.getElem_cons_succ, List.getElem_cons_zero]
                    refine reg_off (i := 6) rfl (by kernel_rfl) (by kernel_rfl) (by kernel_rfl) (fun _ _ _ h => h) (by kernel_rfl) hHeld ?_
                    simp only [Act.put, List.setIfInBounds_toArray, List.set_cons_zero, List.set_cons_succ, List.getElem_toArray, List.getElem_cons_succ, List.getElem_cons_zero]
                    refine reg_on (i := 7) (v := .bool false) rfl (by kernel_rfl) (by kernel_rfl) (by kernel_rfl) (fun _ _ _ h => h) (by kernel_rfl) hHeld ?yr17_7 ?_
                    case yr17_7 => (intro w hSw; (try dsimp only at hSw); obtain ⟨z0, p2, p0, p1, y2, y5⟩ := HF2.out _ hSw; go_simp; first | done | with_reducible rfl)
                    simp only [Act.put, List.setIfInBounds_toArray, List.set_cons_zero, List.set_cons_succ, List.getElem_toArray, List.getElem_cons_succ, List.getElem_cons_zero]
                    refine reg_on (i := 8) (v := .bool false) rfl (by kernel_rfl) (by kernel_rfl) (by kernel_rfl) (fun _ _ _ h => h) (by kernel_rfl) hHeld ?yr17_8 ?_
                    case yr17_8 => (intro w hSw; (try dsimp only at hSw); obtain ⟨z0, p2, p0, p1, y2, y5⟩ := HF2.out _ hSw; go_simp; first | done | with_reducible rfl)
                    simp only [Act.put, List.setIfInBounds_toArray, List.set_cons_zero, List.set_cons_succ, List.getElem_toArray, List.getElem_cons_succ, List.getElem_cons_zero]
                    refine reg_off (i := 9) rfl (by kernel_rfl) (by kernel_rfl) (by kernel_rfl) (fun _ _ _ h => h) (by kernel_rfl) hHeld ?_
                    simp only [Act.put, List.setIfInBounds_toArray, List.set_cons_zero, List.set_cons_succ, List.getElem_toArray, List.getElem_cons_succ, List.getElem_cons_zero]
                    refine reg_off (i := 10) rfl (by kernel_rfl) (by kernel_rfl) (by kernel_rfl) (fun _ _ _ h => h) (by kernel_rfl) hHeld ?_
                    simp only [Act.put, List.setIfInBounds_toArray, List.set_cons_zero, List.set_cons_succ, List.getElem_toArray, List.getElem_cons_succ, List.getElem_cons_zero]
                    refine reg_off (i := 11) rfl (by kernel_rfl) (by kernel_rfl) (by kernel_rfl) (fun _ _ _ h => h) (by kernel_rfl) hHeld ?_
                    simp only [Act.put, List.setIfInBounds_toArray, List.set_cons_zero, List.set_cons_succ, List.getElem_toArray, List.getElem_cons_succ, List.getElem_cons_zero]
                    refine reg_off (i := 12) rfl (by kernel_rfl) (by kernel_rfl) (by kernel_rfl) (fun _ _ _ h => h) (by kernel_rfl) hHeld ?_
                    simp only [Act.put, List.setIfInBounds_toArray, List.set_cons_zero, List.set_cons_succ, List.getElem_toArray, List.getElem_cons_succ, List.getElem_cons_zero]
                    refine reg_off (i := 13) rfl (by kernel_rfl) (by kernel_rfl) (by kernel_rfl) (fun _ _ _ h => h) (by kernel_rfl) hHeld ?_
                    simp only [Act.put, List.setIfInBounds_toArray, List.set_cons_zero, List.set_cons_succ, List.getElem_toArray, List.getElem_cons_succ, List.getElem_cons_zero]
                    refine reg_off (i := 14) rfl (by kernel_rfl) (by kernel_rfl) (by kernel_rfl) (fun _ _ _ h => h) (by kernel_rfl) hHeld ?_
                    simp only [Act.put, List.setIfInBounds_toArray, List.set_cons_zero, List.set_cons_succ, List.getElem_toArray, List.getElem_cons_succ, List.getElem_cons_zero]
                    refine reg_off (i := 15) rfl (by kernel_rfl) (by kernel_rfl) (by kernel_rfl) (fun _ _ _ h => h) (by kernel_rfl) hHeld ?_
                    simp only [Act.put, List.setIfInBounds_toArray, List.set_cons_zero, List.set_cons_succ, List.getElem_toArray, List.getElem_cons_succ, List.getElem_cons_zero]
                    refine reg_off (i := 16) rfl (by kernel_rfl) (by kernel_rfl) (by kernel_rfl) (fun _ _ _ h => h) (by kernel_rfl) hHeld ?_
                    simp only [Act.put, List.setIfInBounds_toArray, List.set_cons_zero, List.set_cons_succ, List.getElem_toArray, List.getElem_cons_succ, List.getElem_cons_zero]
                    refine reg_off (i := 17) rfl (by kernel_rfl) (by kernel_rfl) (by kernel_rfl) (fun _ _ _ h => h) (by kernel_rfl) hHeld ?_
                    simp only [Act.put, List.setIfInBounds_toArray, List.set_cons_zero, List.set_cons_succ, List.getElem_toArray, List.getElem_cons_succ, List.getElem_cons_zero]
                    refine reg_off (i := 18) rfl (by kernel_rfl) (by kernel_rfl) (by kernel_rfl) (fun _ _ _ h => h) (by kernel_rfl) hHeld ?_
                    simp only [Act.put, List.setIfInBounds_toArray, List.set_cons_zero, List.set_cons_succ, List.getElem_toArray, List.getElem_cons_succ, List.getElem_cons_zero]
                    refine reg_off (i := 19) rfl (by kernel_rfl) (by kernel_rfl) (by kernel_rfl) (fun _ _ _ h => h) (by kernel_rfl) hHeld ?_
                    simp only [Act.put, List.setIfInBounds_toArray, List.set_cons_zero, List.set_cons_succ, List.getElem_toArray, List.getElem_cons_succ, List.getElem_cons_zero]
                    refine reg_off (i := 20) rfl (by kernel_rfl) (by kernel_rfl) (by kernel_rfl) (fun _ _ _ h => h) (by kernel_rfl) hHeld ?_
                    simp only [Act.put, List.setIfInBounds_toArray, List.set_cons_zero, List.set_cons_succ, List.getElem_toArray, List.getElem_cons_succ, List.getElem_cons_zero]
                    refine reg_off (i := 21) rfl (by kernel_rfl) (by kernel_rfl) (by kernel_rfl) (fun _ _ _ h => h) (by kernel_rfl) hHeld ?_
                    simp only [Act.put, List.setIfInBounds_toArray, List.set_cons_zero, List.set_cons_succ, List.getElem_toArray, List.getElem_cons_succ, List.getElem_cons_zero]
                    refine reg_on (i := 22) (v := .bool false) rfl (by kernel_rfl) (by kernel_rfl) (by kernel_rfl) (fun _ _ _ h => h) (by kernel_rfl) hHeld ?yr17_22 ?_
                    case yr17_22 => (intro w hSw; (try dsimp only at hSw); obtain ⟨z0, p2, p0, p1, y2, y5⟩ := HF2.out _ hSw; go_simp; first | done | with_reducible rfl)
                    simp only [Act.put, List.setIfInBounds_toArray, List.set_cons_zero, List.set_cons_succ, List.getElem_toArray, List.getElem_cons_succ, List.getElem_cons_zero]
                    refine wpAnyH_done (by kernel_rfl) ?_ _
                    have HU2 := Lib.hid hHeld
                    clear hHeld
                    go_wp2_with fail
                    exact ⟨⟨k + 1, S1, by omega, by go_num, HCC.out, HIV.out, ((((HS12.out.upd0 HU2.out).drop 0 (by simp)).drop 0 (by simp)).drop 1 (by simp)).drop 1 (by simp)⟩, by simp [intOf]; omega⟩
          · rw [take_err hr] at htk
            obtain ⟨er, her⟩ : ∃ x, readyP S n = x := ⟨_, rfl⟩
            rw [her] at htk hr
            have hne : (er != 0) = true := by simpa using hr
            have HTK := Lib.hid htk
            clear htk her hr
            go_wp2_with fail
            refine HTK.out.mono ?_
            rintro e w9 ⟨v, rfl, hs⟩
            obtain ⟨a, cap, hv, hnc, hcm, -⟩ := NQ.s_row (hs.row 0 rfl) (fun m hm => by cases hm)
            have hv : v = .slice a 0 cap := hv
            subst hv
            have HS9 := Lib.hid hs
            have hen := entry_at HS9.out 1 rfl q (by rw [HSN.out]; exact HQ.out.1)
            rw [HX0.out] at hen
            have HEN2 := Lib.hid hen
            clear hs hen hnc hcm l9
            go_wp2_with fail
            refine HEN2.out.mono ?_
            rintro e w10 ⟨rfl, hu⟩
            have hs11 := (HS9.out.upd0 hu).alloc #[.int .i64 x0.own, VM x0.shr] ET'
            obtain ⟨V11, hV11⟩ : ∃ V, w10.alloc (.cells #[.int .i64 x0.own, VM x0.shr] ET') = V := ⟨_, rfl⟩
            obtain ⟨e2, he2⟩ : ∃ x, w10.heap.size = x := ⟨_, rfl⟩
            rw [hV11, he2] at hs11
            have HS11 : Hid (Sep NoF w V11 [boxO e2 #[.int .i64 x0.own, VM x0.shr] ET', outO (.slice a 0 cap) [], homeO hb mb S, boxO eb #[.int .i64 x0.own, VM x0.shr] ET', boxO nb n.cells NT, boxO cb (CC c) CT]) := Lib.hid hs11
            have HVE := Lib.hid (And.intro hV11 he2)
            clear hs11 hV11 he2 hu
            go_upto_region 17 with fail
            rw [HVE.out.1, HVE.out.2]
            clear HVE
            have p0 : V11.cell? ⟨e2, 0, none⟩ = some (.int .i64 x0.own) := (HS11.out.box 0 rfl).cell 0
            have p1 : V11.cell? ⟨e2, 1, none⟩ = some (VM x0.shr) := (HS11.out.box 0 rfl).cell 1
            have p2 : V11.cell? ⟨eb, 0, none⟩ = some (.int .i64 x0.own) := (HS11.out.box 3 rfl).cell 0
            have p3 : V11.cell? ⟨eb, 1, none⟩ = some (VM x0.shr) := (HS11.out.box 3 rfl).cell 1
            go_wp2_with fail
            exact ⟨⟨k + 1, S, by omega, by go_num, HSC.out, HSI.out, (((HS11.out.drop 0 (by simp)).drop 0 (by simp)).drop 1 (by simp)).drop 1 (by simp)⟩, by simp [intOf]; omega⟩
        · obtain rfl : len1 = k := by omega
          have HS := Lib.hid HI.out.2.2
          clear HI
          go_wp2_with fail
          refine (works_is HS.out HTB.out).mono ?_
          rintro e w9 ⟨rfl, hs⟩
          have HS9 := Lib.hid hs
          clear hs
          go_wp2
          go_ret
          exact ⟨rfl, HS9.out.below⟩
    · have HMN := Lib.hid (fun W => PL.pMay_no c hm W)
      clear hm
      go_enter Tryd.func4, Tryd.ntmps4
      go_wp2_with fail
      rw [HW0.out]
      refine (HMN.out W0).mono ?_
      rintro e w1 ⟨rfl, hu⟩
      have HS1 := Lib.hid (HS0.out.upd0 hu)
      clear hu
      go_wp2_with fail
      refine (works_is HS1.out HTB.out).mono ?_
      rintro e w9 ⟨rfl, hs⟩
      have HS9 := Lib.hid hs
      clear hs
      go_wp2
      go_ret
      exact ⟨rfl, HS9.out.below⟩
end
end Go.Proofs.YtlhbnndnkcpomaaDoor.HO
