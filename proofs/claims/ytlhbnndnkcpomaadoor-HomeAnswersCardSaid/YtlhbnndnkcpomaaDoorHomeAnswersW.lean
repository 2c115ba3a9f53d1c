/- HomeAnswers: what the Go function does. -/
import Derived.Test.YtlhbnndnkcpomaaDoorHomeAns
import Derived.Test.YtlhbnndnkcpomaaDoorRowF
import Derived.Test.YtlhbnndnkcpomaaDoorAggInt2
set_option linter.unusedSimpArgs false
set_option linter.unusedVariables false
namespace Go.Proofs.YtlhbnndnkcpomaaDoor.HO
open Go.RowKit
open BU (IsU words)
open PL (Cfg CC CV May)
open ME (memO sl)
open ET (run_neq_entry)
attribute [local go_sem] Oper.semAt_some
attribute [local go_sem ↓] TNot.ld_eq TNot.st_eq TNot.al_eq TNot.bx_eq TI2.ld_eq TI2.st_eq TI2.al_eq bdN_eq
attribute [local go_sem] TNot.al_run TNot.bx_run TI2.al_run
section
variable {w0 W W' : World} {hb mb : Nat} {S : Hs} {L : List Obj}
theorem ask_at {w : World} {a : Option Addr} {len cap : Nat} {V : Nat → Nat → Value} {K C B P : Nat → Int} {R : Nat → Bool} (h : IsRowF w a len cap 5 V) (hV : ∀ i, i < len → V i 0 = .int .u8 (K i) ∧ V i 1 = .int .i64 (C i) ∧ V i 2 = .int .i64 (B i) ∧ V i 3 = .int .i64 (P i) ∧ V i 4 = .bool (R i)) :
    ∀ i, i < len → ∃ x g q, a = some x ∧ x.add (i * 5) = ⟨g, q, none⟩ ∧ g < w.heap.size ∧ w.cell? ⟨g, q, none⟩ = some (.int .u8 (K i)) ∧ w.cell? ⟨g, q + 1, none⟩ = some (.int .i64 (C i)) ∧ w.cell? ⟨g, q + 2, none⟩ = some (.int .i64 (B i)) ∧ w.cell? ⟨g, q + 3, none⟩ = some (.int .i64 (P i)) ∧ w.cell? ⟨g, q + 4, none⟩ = some (.bool (R i)) := fun i hi => by
  obtain ⟨x, g, q, hx, hxa, hg, hc⟩ := h.at (by decide) hi
  obtain ⟨h0, h1, h2, h3, h4⟩ := hV i hi
  exact ⟨x, g, q, hx, hxa, hg, by rw [← h0]; exact hc 0 (by decide), by rw [← h1]; exact hc 1 (by decide), by rw [← h2]; exact hc 2 (by decide), by rw [← h3]; exact hc 3 (by decide), by rw [← h4]; exact hc 4 (by decide)⟩
abbrev askC (k co bl p : Int) (r : Bool) : Array Value := #[.int .u8 k, .int .i64 co, .int .i64 bl, .int .i64 p, .bool r]
set_option maxRecDepth 100000 in
theorem bd_up (k x b : Int) (w : World) : (bdN #[(0, .int .u8 k), (1, .int .i64 x), (2, .int .i64 (-1)), (3, .int .i64 b)]).run Tryd.prog w = .ok (.agg (bkN k x b 0).cells) w := by
  refine build_run (pl := [(0, 1), (1, 1), (2, 1), (3, 1), (4, 1), (5, 1), (6, 1), (7, 1), (8, 16)]) Tryd.underlying47 TNot.infoZ ntPl _ _ ?_ w
  rw [fill_step (off := 0) (size := 1) rfl rfl (by (repeat rw [size_setMany]); decide), fill_step (off := 1) (size := 1) rfl rfl (by (repeat rw [size_setMany]); decide), fill_step (off := 2) (size := 1) rfl rfl (by (repeat rw [size_setMany]); decide), fill_step (off := 3) (size := 1) rfl rfl (by (repeat rw [size_setMany]); decide), fill_nil]
  exact congrArg some (by kernel_rfl)
/-- What holds between two asks. -/
structure FI (c : Cfg) (t : Nat) (S : Hs) (way : List Nt) (Nd Nc : Nat) (fd fc : List Int → Option Value) (due came : Cnt) : Prop where
  sc : S.c = c
  ai : AI (fun _ => False) [] S way due came
  wo : WayOk way
  sd : Says fd due
  sm : Says fc came
  c0 : ∀ x b, 0 ≤ came x b
  dl : ∀ x b, due x b ≤ t
  nd : Nd ≤ t
  nc : Nc ≤ 5300 * t
  ph : ph S way ≤ 17 * t
theorem way_ph (S : Hs) (way : List Nt) : way.length ≤ ph S way := by unfold ph; omega
theorem says_add {f : List Int → Option Value} {due : Cnt} (h : Says f due) (n : Nt) : Says (GM.put f [n.frm, n.blk] (.int .i64 (due n.frm n.blk + 1))) (addD due n) := by
  have := says_put h n.frm n.blk (due n.frm n.blk + 1)
  have e : (fun y c => if y = n.frm ∧ c = n.blk then due n.frm n.blk + 1 else due y c) = addD due n := by
    funext y c
    unfold addD cnt
    by_cases e : y = n.frm ∧ c = n.blk
    · obtain ⟨rfl, rfl⟩ := e
      rw [if_pos ⟨rfl, rfl⟩]
      have : (n.frm == n.frm && n.blk == n.blk) = true := by simp
      simp only [List.filter, this]; rfl
    · rw [if_neg e]
      have : (n.frm == y && n.blk == c) = false := by
        by_cases e1 : n.frm = y
        · have : ¬ n.blk = c := fun e2 => e ⟨e1.symm, e2.symm⟩
          simp [this]
        · simp [e1]
      simp only [List.filter, this]
      show _ = due y c + ((0 : Nat) : Int)
      omega
  rw [← e]; exact this
theorem isN2 (a b : Int) : IsN 2 #[.int .i64 a, .int .i64 b] := ⟨rfl, fun u hu => by simp at hu; rcases hu with rfl | rfl <;> rfl⟩
theorem cnt_one (n : Nt) (x b : Int) : cnt [n] x b ≤ 1 := by
  unfold cnt
  have := List.length_filter_le (fun m : Nt => (m.frm == x) && (m.blk == b)) [n]
  simp at this
  omega
set_option maxRecDepth 100000 in
set_option maxHeartbeats 4000000 in
theorem answers_any (c : Cfg) (a1 : Option Addr) (len1 cap1 : Nat) (V : Nat → Nat → Value) (K Cf Bf Pf : Nat → Int) (R : Nat → Bool) (w : World) (hT : Tab w) (h1 : IsRowF w a1 len1 cap1 5 V) (hV : ∀ i, i < len1 → V i 0 = .int .u8 (K i) ∧ V i 1 = .int .i64 (Cf i) ∧ V i 2 = .int .i64 (Bf i) ∧ V i 3 = .int .i64 (Pf i) ∧ V i 4 = .bool (R i))
    (hB : ∀ i, i < len1 → (0 ≤ K i ∧ K i ≤ 255) ∧ (-9223372036854775808 ≤ Pf i ∧ Pf i ≤ 9223372036854775807)) :
    Calls Tryd.prog 3 #[CV c, .slice a1 len1 cap1] w fun e w' => e = .returned (.bool true) ∧ Below w.heap.size w w' := by
  have HC1 := Lib.hid (ask_at h1 hV)
  have HB1 := Lib.hid hB
  obtain ⟨lc1, m1, _⟩ := h1
  unfold maxLen at m1
  clear hV hB
  have HTB := Lib.hid hT
  obtain ⟨W0, hW0⟩ : ∃ W0, w.alloc (.cells (CC c) CT) = W0 := ⟨_, rfl⟩
  have HS0 : Hid (Sep NoF w W0 [boxO w.heap.size (CC c) CT]) := Lib.hid (by rw [← hW0]; exact (Sep.zero NoF w).alloc _ _)
  have HW0 := Lib.hid hW0
  clear hW0 hT
  by_cases g_len1 : 200 < len1
  · have hb_len1 : decide ((200 : Int) < (len1 : Int)) = true := by simp; omega
    go_enter Tryd.func3, Tryd.ntmps3
    go_wp2_with fail
    rw [HW0.out]
    refine (works_is HS0.out HTB.out).mono ?_
    rintro e w9 ⟨rfl, hs⟩
    have HS9 := Lib.hid hs
    clear hs
    go_wp2
    go_ret
    exact ⟨rfl, HS9.out.below⟩
  · have hb_len1 : decide ((200 : Int) < (len1 : Int)) = false := by simp; omega
    by_cases hm : May c
    · have hmd := mul_data hm
      have HMY := Lib.hid (fun W => PL.pMay_yes c hm W)
      obtain ⟨B, hB⟩ : ∃ B : Nat, c.blocks = B := ⟨c.blocks.toNat, by omega⟩
      obtain ⟨D, hD⟩ : ∃ D : Nat, c.blocks - c.cores * c.logs = D := ⟨(c.blocks - c.cores * c.logs).toNat, by omega⟩
      have HME := Lib.hid (fun W => ME.new_ok B (by omega) (by omega) W)
      have HNW := Lib.hid (fun (mb' : Nat) (W : World) (L : List Obj) (h : Sep NoF w W (memO mb' B (fun _ => TBlk.Z) :: L)) => new_yes h c hm hB (fun _ => BU.isU_Z))
      have hDD : 1 ≤ D ∧ D ≤ 255 := by omega
      have hBB : 1 ≤ B ∧ B ≤ 256 := by omega
      have HMM := Lib.hid hm
      have HDD := Lib.hid (And.intro hD hB)
      clear hmd hm hD hB
      go_enter Tryd.func3, Tryd.ntmps3
      go_wp2_with fail
      rw [HW0.out]
      refine (HMY.out W0).mono ?_
      rintro e w1 ⟨rfl, hu⟩
      have HS1 := Lib.hid (HS0.out.upd0 hu)
      clear hu
      obtain ⟨cb, hcb⟩ : ∃ x, w.heap.size = x := ⟨_, rfl⟩
      rw [hcb] at HS1 ⊢
      obtain ⟨k0, k1, k2, k3, k4, k5, k6, k7⟩ : (w1.cell? ⟨cb, 0, none⟩ = some (.int .i64 c.cores) ∧ w1.cell? ⟨cb, 1, none⟩ = some (.int .i64 c.sets) ∧ w1.cell? ⟨cb, 2, none⟩ = some (.int .i64 c.ways) ∧ w1.cell? ⟨cb, 3, none⟩ = some (.int .i64 c.blocks) ∧ w1.cell? ⟨cb, 4, none⟩ = some (.int .i64 c.logs) ∧ w1.cell? ⟨cb, 5, none⟩ = some (.int .i64 c.backs) ∧ w1.cell? ⟨cb, 6, none⟩ = some (.int .i64 c.nest) ∧ w1.cell? ⟨cb, 7, none⟩ = some (.int .i64 c.tries)) := ⟨(HS1.out.box 0 rfl).cell 0, (HS1.out.box 0 rfl).cell 1, (HS1.out.box 0 rfl).cell 2, (HS1.out.box 0 rfl).cell 3, (HS1.out.box 0 rfl).cell 4, (HS1.out.box 0 rfl).cell 5, (HS1.out.box 0 rfl).cell 6, (HS1.out.box 0 rfl).cell 7⟩
      rw [HDD.out.2] at k3
      go_wp2_with fail
      refine (HME.out _).mono ?_
      rintro e w2 ⟨mb, rfl, hu, hmo⟩
      have HS2 := Lib.hid (HS1.out.push hu hmo)
      clear hu hmo k0 k1 k2 k3 k4 k5 k6 k7
      obtain ⟨k0, k1, k2, k3, k4, k5, k6, k7⟩ : (w2.cell? ⟨cb, 0, none⟩ = some (.int .i64 c.cores) ∧ w2.cell? ⟨cb, 1, none⟩ = some (.int .i64 c.sets) ∧ w2.cell? ⟨cb, 2, none⟩ = some (.int .i64 c.ways) ∧ w2.cell? ⟨cb, 3, none⟩ = some (.int .i64 c.blocks) ∧ w2.cell? ⟨cb, 4, none⟩ = some (.int .i64 c.logs) ∧ w2.cell? ⟨cb, 5, none⟩ = some (.int .i64 c.backs) ∧ w2.cell? ⟨cb, 6, none⟩ = some (.int .i64 c.nest) ∧ w2.cell? ⟨cb, 7, none⟩ = some (.int .i64 c.tries)) := ⟨(HS2.out.box 1 rfl).cell 0, (HS2.out.box 1 rfl).cell 1, (HS2.out.box 1 rfl).cell 2, (HS2.out.box 1 rfl).cell 3, (HS2.out.box 1 rfl).cell 4, (HS2.out.box 1 rfl).cell 5, (HS2.out.box 1 rfl).cell 6, (HS2.out.box 1 rfl).cell 7⟩
      go_wp2_with fail
      refine (HNW.out _ _ _ HS2.out).mono ?_
      rintro e w3 ⟨hb, rfl, hs⟩
      have HS3 := Lib.hid hs
      clear hs k0 k1 k2 k3 k4 k5 k6 k7
      have hs4 := GM.mapNew pairT HS3.out
      obtain ⟨db, hdb⟩ : ∃ x, w3.heap.size = x := ⟨_, rfl⟩
      obtain ⟨V4, hV4⟩ : ∃ X, w3.alloc (.map #[] 0) = X := ⟨_, rfl⟩
      rw [hdb, hV4] at hs4
      have hs5 := GM.mapNew pairT hs4
      obtain ⟨cm, hcm⟩ : ∃ x, V4.heap.size = x := ⟨_, rfl⟩
      obtain ⟨V5, hV5⟩ : ∃ X, V4.alloc (.map #[] 0) = X := ⟨_, rfl⟩
      rw [hcm, hV5] at hs5
      have hs6 := (out_nil hs5).alloc (flo hb (.slice none 0 0) db cm) FT
      obtain ⟨fb, hfb⟩ : ∃ x, V5.heap.size = x := ⟨_, rfl⟩
      obtain ⟨V6, hV6⟩ : ∃ X, V5.alloc (.cells (flo hb (.slice none 0 0) db cm) FT) = X := ⟨_, rfl⟩
      rw [hfb, hV6] at hs6
      have HS6 : Hid (Sep NoF w V6 [boxO fb (flo hb (.slice none 0 0) db cm) FT, outO (.slice none 0 0) [], GM.mapO pairT cm 0 (fun _ => none), homeO hb mb (Hs.new c (fun _ => TBlk.Z)), GM.mapO pairT db 0 (fun _ => none), boxO cb (CC c) CT]) := Lib.hid (by
        -- fb, out, cm, db, home, cfg
        exact (Sep.pick (Sep.pick (Sep.pick (Sep.pick hs6 4 rfl) 3 rfl) 3 rfl) 3 rfl))
      have hmm := @run_makeMap Tryd.prog
      clear hs4 hs5 hs6
      go_upto_region 8 with fail
      clear hmm hdb hV4 hcm hV5 hfb hV6
      go_wp2_with fail
      go_loopw [52] (fun i wr => ∃ (k : Nat) (S : Hs) (wv : Value) (way : List Nt) (Nd Nc : Nat) (fd fc : List Int → Option Value) (due came : Cnt), k ≤ len1 ∧ i = .int .i64 k ∧ Hid (FI c k S way Nd Nc fd fc due came ∧ Sep NoF w wr [boxO fb (flo hb wv db cm) FT, outO wv way, GM.mapO pairT cm Nc fc, homeO hb mb S, GM.mapO pairT db Nd fd, boxO cb (CC c) CT])) (fun i _ => len1 - (intOf i).toNat)
      case atStart => exact ⟨0, _, _, [], 0, 0, _, _, (fun _ _ => 0), (fun _ _ => 0), Nat.zero_le _, rfl, ⟨rfl, ai_new c HMM.out _, ⟨fun n hn => by cases hn⟩, says_none, says_none, fun _ _ => Int.le_refl _, fun _ _ => by show (0 : Int) ≤ ((0 : Nat) : Int); omega, Nat.zero_le _, Nat.zero_le _, by unfold ph; show 0 + cntJ (fun _ => none) _ + 17 * 0 ≤ 0; rw [cnt_none]; omega⟩, HS6.out⟩
      case round =>
        obtain ⟨k, S, wv, way, Nd, Nc, fd, fc, due, came, hk, rfl, HI⟩ := hrel
        by_cases hlt : k < len1
        · obtain ⟨x, g, q, rfl, hxa, hgl, z0, z1, z2, z3, z4⟩ := HC1.out k hlt
          obtain ⟨hfi, hsp⟩ := HI.out
          have HFI := Lib.hid hfi
          have y0 := hsp.old z0
          have y1 := hsp.old z1
          have y2 := hsp.old z2
          have y3 := hsp.old z3
          have y4 := hsp.old z4
          have hkb := (HB1.out k hlt).1
          have HPK := Lib.hid (HB1.out k hlt).2
          clear z0 z1 z2 z3 z4
          generalize K k = kk at *
          generalize Cf k = co at *
          generalize Bf k = bl at *
          generalize Pf k = pk at *
          generalize R k = rr at *
          have hs5 := hsp.alloc (askC kk co bl pk rr) AT
          obtain ⟨V5, hV5⟩ : ∃ X, wr.alloc (.cells (askC kk co bl pk rr) AT) = X := ⟨_, rfl⟩
          obtain ⟨ob, hob⟩ : ∃ b, wr.heap.size = b := ⟨_, rfl⟩
          rw [hV5, hob] at hs5
          have HS5 := Lib.hid hs5
          have HV5 := Lib.hid (And.intro hV5 hob)
          clear hs5 hV5 hob hsp hfi HI
          go_upto_region 11 with fail
          rw [HV5.out.1, HV5.out.2]
          clear y0 y1 y2 y3 y4 HV5
          have p0 : V5.cell? ⟨ob, 0, none⟩ = some (.int .u8 kk) := (HS5.out.box 0 rfl).cell 0
          have p1 : V5.cell? ⟨ob, 1, none⟩ = some (.int .i64 co) := (HS5.out.box 0 rfl).cell 1
          have p2 : V5.cell? ⟨ob, 2, none⟩ = some (.int .i64 bl) := (HS5.out.box 0 rfl).cell 2
          have hbd := bd_up kk co bl V5
          have s2 := TNot.st_new (bk_u kk co bl 0) V5
          have hs6 := HS5.out.alloc (bkN kk co bl 0).cells NT
          obtain ⟨V6, hV6⟩ : ∃ X, V5.alloc (.cells (bkN kk co bl 0).cells NT) = X := ⟨_, rfl⟩
          obtain ⟨nb, hnb⟩ : ∃ b, V5.heap.size = b := ⟨_, rfl⟩
          rw [hV6, hnb] at hs6
          have HS6 := Lib.hid hs6
          have HV6 := Lib.hid (And.intro hV6 hnb)
          clear hs6 hV6 hnb
          go_upto_region 12 with fail
          rw [HV6.out.1, HV6.out.2]
          clear p0 p1 p2 hbd s2 HV6
          have c0 : V6.cell? ⟨nb, 0, none⟩ = some (.int .u8 kk) := (HS6.out.box 0 rfl).cell 0
          by_cases h3 : kk = 3
          · have hk3 : (kk == 3) = true := by simpa using h3
            have d0 : V6.cell? ⟨nb, 6, none⟩ = some (.bool false) := ((HS6.out.box 0 rfl).cell 6).trans (by kernel_rfl)
            have d1 : V6.frozen? ⟨nb, 6, none⟩ = false := (HS6.out.box 0 rfl).frozen 6
            have hs7 := HS6.out.set 0 rfl 6 (.bool true)
            obtain ⟨V7, hV7⟩ : ∃ X, V6.setCell ⟨nb, 6, none⟩ (.bool true) = X := ⟨_, rfl⟩
            rw [hV7] at hs7
            obtain ⟨n, hnc, hno⟩ : ∃ n : Nt, (bkN kk co bl 0).cells.setIfInBounds 6 (.bool true) = n.cells ∧ n.Ok := ⟨⟨kk, co, -1, bl, 0, 0, true, false, TBlk.Z⟩, by kernel_rfl, ⟨hkb, by show (0:Int) ≤ 0 ∧ (0:Int) ≤ _; omega, by show (0:Int) ≤ 0 ∧ (0:Int) ≤ 255; omega, BU.isU_Z⟩⟩
            have HS7 : Hid (Sep NoF w V7 [boxO nb n.cells NT, boxO ob (askC kk co bl pk rr) AT, boxO fb (flo hb wv db cm) FT, outO wv way, GM.mapO pairT cm Nc fc, homeO hb mb S, GM.mapO pairT db Nd fd, boxO cb (CC c) CT]) := Lib.hid (by rw [← hnc]; exact hs7)
            have HOK := Lib.hid hno
            have HV7 := Lib.hid hV7
            clear hs7 hV7 hnc hno h3 HS6
            go_upto_region 14 with fail
            try rw [HV7.out]
            clear c0 d0 d1 HV7
            obtain ⟨V6, hV6⟩ : ∃ X, V7 = X := ⟨_, rfl⟩
            rw [hV6] at HS7 ⊢
            have HS6 := HS7
            clear hV6 HS7
            have c0 : V6.cell? ⟨nb, 0, none⟩ = some (.int .u8 n.kind) := ((HS6.out.box 0 rfl).cell 0).trans n.get0
            go_wp2_with fail
            refine (NC.net_any n.kind _).mono ?_
            rintro e w7 ⟨rfl, rfl⟩
            clear c0
            by_cases ha : isAsk n = true
            · have bn : (netN n.kind == 0) = true := ha
              have l9 := TNot.ld_at (Nt.Ok.isN HOK.out.isU) (HS6.out.box 0 rfl).whole
              have htk := take_is (Sep.pick HS6.out 5 rfl) HTB.out n HOK.out
              obtain ⟨F0, hF0⟩ := HS6.out.has 5 rfl
              have hgd := home_good hF0
              clear hF0
              by_cases hr : readyP S n = 0
              · obtain ⟨hmay, -, hb0, -, hfc, -, -⟩ := ready_zero hr
                have hbk := may_blk hmay
                have hcf := core_lt (q_of hmay ha).1
                obtain ⟨hA2, hph⟩ := ai_ask rr HFI.out.ai hr ha
                have hoo := outs_ok hgd HFI.out.ai.inv HOK.out hbk hr
                have hfew := take_few hgd HOK.out
                have hto := too_take HFI.out.ai.inv n
                have hcc := take_c S n
                rw [take_code, hr] at htk
                obtain ⟨S2, hS2⟩ : ∃ x, (takeP S n).1 = x := ⟨_, rfl⟩
                obtain ⟨ns, hns⟩ : ∃ x, (takeP S n).2.1 = x := ⟨_, rfl⟩
                rw [hS2] at htk hA2 hph hcc
                rw [hns] at htk hA2 hph hoo hfew hto
                obtain ⟨cv, hcv⟩ : ∃ x, due n.frm n.blk = x := ⟨_, rfl⟩
                have hcvb : 0 ≤ cv ∧ cv ≤ 1000 := by
                  have h1 := HFI.out.dl n.frm n.blk
                  have h2 := acc_le HFI.out.ai n.frm n.blk
                  have h3 := HFI.out.c0 n.frm n.blk
                  omega
                have hwa : IntKind.i64.wrap (cv + 1) = cv + 1 := IntWalk.i64_in _ (by omega)
                have HKEY := Lib.hid (pair_ok (x := n.frm) (b := n.blk) (by omega) (by omega))
                have HTK := Lib.hid htk; have HA2 := Lib.hid hA2; have HPH := Lib.hid hph; have HOO := Lib.hid hoo; have HFW := Lib.hid hfew; have HTO := Lib.hid hto; have HCC := Lib.hid hcc
                clear htk hA2 hph hoo hfew hto hcc hS2 hns hgd hmay hb0 hfc hbk hcf hr ha
                go_wp2_with fail
                refine HTK.out.mono ?_
                rintro e w8 ⟨v, rfl, hs⟩
                have HS8 : Hid (Sep NoF w w8 [outO v ns, homeO hb mb S2, boxO nb n.cells NT, boxO ob (askC kk co bl pk rr) AT, boxO fb (flo hb wv db cm) FT, outO wv way, GM.mapO pairT cm Nc fc, GM.mapO pairT db Nd fd, boxO cb (CC c) CT]) := Lib.hid hs
                clear hs l9
                go_upto_region 17 with fail
                have HS10 := Lib.hid (HS8.out.upd0 (Upd.drew NoF w8))
                refine wp_region_held_drew (S := (fun X => Blk X fb (flo hb wv db cm) FT ∧ Blk X nb n.cells NT)) (by kernel_rfl) (⟨HS10.out.box 4 rfl, HS10.out.box 2 rfl⟩) (fun hHeld => ?_)
                obtain ⟨z0, hX0⟩ : ∃ X, w8.drew = X := ⟨_, rfl⟩
                rw [hX0] at hHeld HS10 ⊢
                clear hX0
                refine reg_on (i := 0) (v := ?vq1) rfl (by kernel_rfl) (by kernel_rfl) (by kernel_rfl) (fun _ _ _ h => h) (by kernel_rfl) hHeld ?yq1 ?_
                case yq1 => (intro w hSw; (try dsimp only at hSw); have k2 : w.cell? ⟨fb, 2, none⟩ = some (.map (some db)) := hSw.1.cell 2; have n1 := (hSw.2.cell 1).trans n.get1; have n3 := (hSw.2.cell 3).trans n.get3; go_simp; first | done | with_reducible rfl)
                simp only [Act.put, List.setIfInBounds_toArray, List.set_cons_zero, List.set_cons_succ, List.getElem_toArray, List.getElem_cons_succ, List.getElem_cons_zero]
                refine reg_on (i := 1) (v := ?vq2) rfl (by kernel_rfl) (by kernel_rfl) (by kernel_rfl) (fun _ _ _ h => h) (by kernel_rfl) hHeld ?yq2 ?_
                case yq2 => (intro w hSw; (try dsimp only at hSw); have k2 : w.cell? ⟨fb, 2, none⟩ = some (.map (some db)) := hSw.1.cell 2; have n1 := (hSw.2.cell 1).trans n.get1; have n3 := (hSw.2.cell 3).trans n.get3; go_simp; first | done | with_reducible rfl)
                simp only [Act.put, List.setIfInBounds_toArray, List.set_cons_zero, List.set_cons_succ, List.getElem_toArray, List.getElem_cons_succ, List.getElem_cons_zero]
                refine reg_on (i := 2) (v := ?vq3) rfl (by kernel_rfl) (by kernel_rfl) (by kernel_rfl) (fun _ _ _ h => h) (by kernel_rfl) hHeld ?yq3 ?_
                case yq3 => (intro w hSw; (try dsimp only at hSw); have k2 : w.cell? ⟨fb, 2, none⟩ = some (.map (some db)) := hSw.1.cell 2; have n1 := (hSw.2.cell 1).trans n.get1; have n3 := (hSw.2.cell 3).trans n.get3; go_simp; first | done | with_reducible rfl)
                simp only [Act.put, List.setIfInBounds_toArray, List.set_cons_zero, List.set_cons_succ, List.getElem_toArray, List.getElem_cons_succ, List.getElem_cons_zero]
                refine reg_on (i := 3) (v := ?vq4) rfl (by kernel_rfl) (by kernel_rfl) (by kernel_rfl) (fun _ _ _ h => h) (by kernel_rfl) hHeld ?yq4 ?_
                case yq4 => (intro w hSw; (try dsimp only at hSw); have k2 : w.cell? ⟨fb, 2, none⟩ = some (.map (some db)) := hSw.1.cell 2; have n1 := (hSw.2.cell 1).trans n.get1; have n3 := (hSw.2.cell 3).trans n.get3; go_simp; first | done | with_reducible rfl)
                simp only [Act.put, List.setIfInBounds_toArray, List.set_cons_zero, List.set_cons_succ, List.getElem_toArray, List.getElem_cons_succ, List.getElem_cons_zero]
                refine reg_on (i := 4) (v := ?vq5) rfl (by kernel_rfl) (by kernel_rfl) (by kernel_rfl) (fun _ _ _ h => h) (by kernel_rfl) hHeld ?yq5 ?_
                case yq5 => (intro w hSw; (try dsimp only at hSw); have k2 : w.cell? ⟨fb, 2, none⟩ = some (.map (some db)) := hSw.1.cell 2; have n1 := (hSw.2.cell 1).trans n.get1; have n3 := (hSw.2.cell 3).trans n.get3; go_simp; first | done | with_reducible rfl)
                simp only [Act.put, List.setIfInBounds_toArray, List.set_cons_zero, List.set_cons_succ, List.getElem_toArray, List.getElem_cons_succ, List.getElem_cons_zero]
                refine reg_on (i := 5) (v := ?vq6) rfl (by kernel_rfl) (by kernel_rfl) (by kernel_rfl) (fun _ _ _ h => h) (by kernel_rfl) hHeld ?yq6 ?_
                case yq6 => (intro w hSw; (try dsimp only at hSw); have k2 : w.cell? ⟨fb, 2, none⟩ = some (.map (some db)) := hSw.1.cell 2; have n1 := (hSw.2.cell 1).trans n.get1; have n3 := (hSw.2.cell 3).trans n.get3; go_simp; first | done | with_reducible rfl)
                simp only [Act.put, List.setIfInBounds_toArray, List.set_cons_zero, List.set_cons_succ, List.getElem_toArray, List.getElem_cons_succ, List.getElem_cons_zero]
                refine reg_on (i := 6) (v := ?vq7) rfl (by kernel_rfl) (by kernel_rfl) (by kernel_rfl) (fun _ _ _ h => h) (by kernel_rfl) hHeld ?yq7 ?_
                case yq7 => (intro w hSw; (try dsimp only at hSw); have k2 : w.cell? ⟨fb, 2, none⟩ = some (.map (some db)) := hSw.1.cell 2; have n1 := (hSw.2.cell 1).trans n.get1; have n3 := (hSw.2.cell 3).trans n.get3; go_simp; first | done | with_reducible rfl)
                simp only [Act.put, List.setIfInBounds_toArray, List.set_cons_zero, List.set_cons_succ, List.getElem_toArray, List.getElem_cons_succ, List.getElem_cons_zero]
                refine reg_on (i := 7) (v := ?vq8) rfl (by kernel_rfl) (by kernel_rfl) (by kernel_rfl) (fun _ _ _ h => h) (by kernel_rfl) hHeld ?yq8 ?_
                case yq8 => (intro w hSw; (try dsimp only at hSw); have k2 : w.cell? ⟨fb, 2, none⟩ = some (.map (some db)) := hSw.1.cell 2; have n1 := (hSw.2.cell 1).trans n.get1; have n3 := (hSw.2.cell 3).trans n.get3; go_simp; first | done | with_reducible rfl)
                simp only [Act.put, List.setIfInBounds_toArray, List.set_cons_zero, List.set_cons_succ, List.getElem_toArray, List.getElem_cons_succ, List.getElem_cons_zero]
                refine reg_on (i := 8) (v := ?vq9) rfl (by kernel_rfl) (by kernel_rfl) (by kernel_rfl) (fun _ _ _ h => h) (by kernel_rfl) hHeld ?yq9 ?_
                case yq9 => (intro w hSw; (try dsimp only at hSw); have k2 : w.cell? ⟨fb, 2, none⟩ = some (.map (some db)) := hSw.1.cell 2; have n1 := (hSw.2.cell 1).trans n.get1; have n3 := (hSw.2.cell 3).trans n.get3; go_simp; first | done | with_reducible rfl)
                simp only [Act.put, List.setIfInBounds_toArray, List.set_cons_zero, List.set_cons_succ, List.getElem_toArray, List.getElem_cons_succ, List.getElem_cons_zero]
                refine reg_two (i := 9) (j := 11) (by kernel_rfl) rfl rfl (by kernel_rfl) (by kernel_rfl) (fun K hK => ?_) (fun K hK => ?_)
                · have hl := (GM.mapIs HS10.out 7 rfl).look (a := [n.frm, n.blk]) HKEY.out
                  rw [HFI.out.sd n.frm n.blk, hcv] at hl
                  have hl2 : (Instr.lookup MT2 (.map (some db)) (.agg #[.int .i64 n.frm, .int .i64 n.blk]) false).run Tryd.prog z0 = .ok (.int .i64 cv) z0 := hl
                  go_simp
                  have HS := hHeld
                  clear hl hl2
                  refine hK.out _ _ HS (fun hHeld2 => ?_)
                  clear hK hHeld2 hHeld
                  have hHeld := HS
                  clear HS
                  try simp only [Act.put, List.setIfInBounds_toArray, List.set_cons_zero, List.set_cons_succ, List.getElem_toArray, List.getElem_cons_succ, List.getElem_cons_zero]
                  refine reg_on (i := 10) (v := ?vq10) rfl (by kernel_rfl) (by kernel_rfl) (by kernel_rfl) (fun _ _ _ h => h) (by kernel_rfl) hHeld ?yq10 ?_
                  case yq10 => (intro w hSw; (try dsimp only at hSw); skip; go_simp; first | done | with_reducible rfl)
                  simp only [Act.put, List.setIfInBounds_toArray, List.set_cons_zero, List.set_cons_succ, List.getElem_toArray, List.getElem_cons_succ, List.getElem_cons_zero]
                  refine reg_step (i := 11) (by kernel_rfl) rfl (by kernel_rfl) (fun K hK => ?_)
                  obtain ⟨st, z1, z2, hent, hs1, hstr, hs3⟩ := entry_sep HS10.out 7 rfl (by have := HFI.out.nd; unfold maxLen; omega) (a := [n.frm, n.blk]) HKEY.out (.int .i64 (cv + 1))
                  rw [HFI.out.sd n.frm n.blk, hcv] at hent
                  have hent2 : (Instr.mapEntry MT2 (.map (some db)) (.agg #[.int .i64 n.frm, .int .i64 n.blk])).run Tryd.prog z0 = .ok (.tuple #[.int .i64 cv, .int .i64 st]) z1 := hent
                  go_simp
                  have HS11 := Lib.hid hs1
                  have HS12 := Lib.hid hs3
                  have HSTR := Lib.hid hstr
                  have HS : (fun X => Blk X fb (flo hb wv db cm) FT ∧ Blk X nb n.cells NT) z1 := ⟨HS11.out.box 4 rfl, HS11.out.box 2 rfl⟩
                  clear hent hent2 hs1 hs3 hstr
                  refine hK.out _ _ HS (fun hHeld2 => ?_)
                  clear hK hHeld2 hHeld
                  have hHeld := HS
                  clear HS
                  try simp only [Act.put, List.setIfInBounds_toArray, List.set_cons_zero, List.set_cons_succ, List.getElem_toArray, List.getElem_cons_succ, List.getElem_cons_zero]
                  refine reg_on (i := 12) (v := ?vq11) rfl (by kernel_rfl) (by kernel_rfl) (by kernel_rfl) (fun _ _ _ h => h) (by kernel_rfl) hHeld ?yq11 ?_
                  case yq11 => (intro w hSw; (try dsimp only at hSw); skip; go_simp; first | done | with_reducible rfl)
                  simp only [Act.put, List.setIfInBounds_toArray, List.set_cons_zero, List.set_cons_succ, List.getElem_toArray, List.getElem_cons_succ, List.getElem_cons_zero]
                  refine reg_step (i := 13) (by kernel_rfl) rfl (by kernel_rfl) (fun K hK => ?_)
                  have hstr := HSTR.out
                  go_simp
                  have HS : (fun X => Blk X fb (flo hb wv db cm) FT ∧ Blk X nb n.cells NT) z2 := ⟨HS12.out.box 4 rfl, HS12.out.box 2 rfl⟩
                  clear hstr
                  refine hK.out _ _ HS (fun hHeld2 => ?_)
                  clear hK hHeld2 hHeld
                  have hHeld := HS
                  clear HS
                  try simp only [Act.put, List.setIfInBounds_toArray, List.set_cons_zero, List.set_cons_succ, List.getElem_toArray, List.getElem_cons_succ, List.getElem_cons_zero]
                  refine wpAnyH_done (by kernel_rfl) ?_ _
                  clear hHeld
                  have f4 : z2.cell? ⟨ob, 4, none⟩ = some (.bool rr) := (HS12.out.box 3 rfl).cell 4
                  have s1 : Sep NoF w z2 [outO v ns, homeO hb mb S2, boxO nb n.cells NT, boxO ob (askC kk co bl pk rr) AT, boxO fb (flo hb wv db cm) FT, outO wv way, GM.mapO pairT cm Nc fc, GM.mapO pairT db (GM.putN fd Nd [n.frm, n.blk]) (GM.put fd [n.frm, n.blk] (.int .i64 (cv + 1))), boxO cb (CC c) CT] := HS12.out
                  have s2 := Sep.pick (Sep.pick (Sep.pick s1 6 rfl) 6 rfl) 6 rfl
                  have s3 : Sep NoF w z2 (boxO fb (flo hb wv db cm) FT :: outO wv way :: GM.mapO pairT cm Nc fc :: outO v ns :: [homeO hb mb S2, boxO nb n.cells NT, boxO ob (askC kk co bl pk rr) AT, GM.mapO pairT db (GM.putN fd Nd [n.frm, n.blk]) (GM.put fd [n.frm, n.blk] (.int .i64 (cv + 1))), boxO cb (CC c) CT]) := s2
                  have HSN := Lib.hid (sends_is s3 rr HOO.out (by have := HFW.out; have := HFI.out.ph; have := way_ph S way; omega) (by have := HFI.out.nc; omega) HFI.out.sm HFI.out.c0 (fun x b => Int.le_trans (acc_le HA2.out x b) (by have h1 := HFI.out.dl x b; have h2 := cnt_one n x b; unfold addD; omega)))
                  clear s1 s2 s3
                  go_wp2_with fail
                  refine HSN.out.mono ?_
                  rintro e w9 ⟨wv2, Nc2, fc2, rfl, hN3, hs3, hs⟩
                  have hsq : Sep NoF w w9 [boxO nb n.cells NT, boxO ob (askC kk co bl pk rr) AT, boxO fb (flo hb wv2 db cm) FT, outO wv2 (sendW rr way ns), GM.mapO pairT cm Nc2 fc2, homeO hb mb S2, GM.mapO pairT db (GM.putN fd Nd [n.frm, n.blk]) (GM.put fd [n.frm, n.blk] (.int .i64 (cv + 1))), boxO cb (CC c) CT] := by
                    have t1 := hs.drop 3 (by simp)
                    -- fb, way, mapC, home, nb, ob, mapD, cfg
                    exact Sep.pick (Sep.pick t1 5 rfl) 5 rfl
                  have hnd : GM.putN fd Nd [n.frm, n.blk] ≤ k + 1 := by have := HFI.out.nd; unfold GM.putN; split <;> omega
                  obtain ⟨Nd2, hNd2⟩ : ∃ x, GM.putN fd Nd [n.frm, n.blk] = x := ⟨_, rfl⟩
                  obtain ⟨fd2, hfd2⟩ : ∃ x, GM.put fd [n.frm, n.blk] (.int .i64 (cv + 1)) = x := ⟨_, rfl⟩
                  obtain ⟨way2, hway2⟩ : ∃ x, sendW rr way ns = x := ⟨_, rfl⟩
                  obtain ⟨due2, hdue2⟩ : ∃ x, addD due n = x := ⟨_, rfl⟩
                  obtain ⟨came2, hcame2⟩ : ∃ x, sendC came ns = x := ⟨_, rfl⟩
                  have hq : FI c (k + 1) S2 (sendW rr way ns) (GM.putN fd Nd [n.frm, n.blk]) Nc2 (GM.put fd [n.frm, n.blk] (.int .i64 (cv + 1))) fc2 (addD due n) (sendC came ns) := ⟨HCC.out.trans HFI.out.sc, HA2.out, way_sends HFI.out.wo HTO.out, hcv ▸ says_add HFI.out.sd n, hs3, fun x b => by have h1 := HFI.out.c0 x b; have h2 := gotN_nonneg ns x b; unfold sendC; omega,
                    fun x b => by have h1 := HFI.out.dl x b; have h2 := cnt_one n x b; unfold addD; omega, hnd, by have := HFI.out.nc; have := HFW.out; omega, by have := HFI.out.ph; have := HPH.out; omega⟩
                  have hnc2 : Nc2 + 2601 ≤ 5300 * (k + 1) := by have := HFI.out.nc; have := HFW.out; omega
                  rw [hNd2, hfd2, hway2] at hsq
                  rw [hNd2, hfd2, hway2, hdue2, hcame2] at hq
                  have HQ := Lib.hid hq; have HSQ := Lib.hid hsq; have HNC2 := Lib.hid hnc2
                  clear hs hN3 hs3 f4 hq hsq hnc2 hnd hNd2 hfd2 hway2 hdue2 hcame2 HSN HS12 HS11 HS10 HSTR
                  obtain ⟨av9, cv9, rfl, hn9, hm9, -⟩ := (HSQ.out.row 3 rfl).slice
                  unfold maxLen at hm9
                  have g1 : w9.cell? ⟨fb, 1, none⟩ = some (.slice av9 way2.length cv9) := (HSQ.out.box 2 rfl).cell 1
                  by_cases hwz : 0 < way2.length
                  · have hwb : decide ((0 : Int) < (way2.length : Int)) = true := decide_eq_true (by omega)
                    have q0 : w9.cell? ⟨ob, 0, none⟩ = some (.int .u8 kk) := (HSQ.out.box 1 rfl).cell 0
                    have q1 : w9.cell? ⟨ob, 1, none⟩ = some (.int .i64 co) := (HSQ.out.box 1 rfl).cell 1
                    have q2 : w9.cell? ⟨ob, 2, none⟩ = some (.int .i64 bl) := (HSQ.out.box 1 rfl).cell 2
                    have q3 : w9.cell? ⟨ob, 3, none⟩ = some (.int .i64 pk) := (HSQ.out.box 1 rfl).cell 3
                    have q4 : w9.cell? ⟨ob, 4, none⟩ = some (.bool rr) := (HSQ.out.box 1 rfl).cell 4
                    have HON := Lib.hid (one_is ((HSQ.out.drop 0 (by simp)).drop 0 (by simp)) HTB.out HQ.out.ai HQ.out.wo HQ.out.sm HQ.out.c0 (fun x b => Int.le_trans (HQ.out.dl x b) (by omega)) (by have := HQ.out.nc; omega) (by have := HQ.out.ph; have := way_ph S2 way2; omega) hwz kk co bl pk rr HPK.out)
                    go_wp2_with fail
                    refine HON.out.mono ?_
                    rintro e w10 ⟨wv4, N4, f4, S4, way4, came4, rfl, hN4, hs4, hc4, ha4, hw4, hp4, hc5, hs⟩
                    have HSR := Lib.hid hs
                    have HR := Lib.hid (show FI c (k + 1) S4 way4 Nd2 N4 fd2 f4 due2 came4 from ⟨hc5.trans HQ.out.sc, ha4, hw4, HQ.out.sd, hs4, hc4, HQ.out.dl, HQ.out.nd, by have := HNC2.out; omega, by have := HQ.out.ph; omega⟩)
                    clear hs hN4 hs4 hc4 ha4 hw4 hp4 hc5 g1 q0 q1 q2 q3 q4
                    go_wp2_with fail
                    exact ⟨⟨k + 1, S4, wv4, way4, Nd2, N4, fd2, f4, due2, came4, by omega, by go_num, HR.out, HSR.out⟩, by simp [intOf]; omega⟩
                  · have hwb : decide ((0 : Int) < (way2.length : Int)) = false := decide_eq_false (by omega)
                    have HR := Lib.hid (show FI c (k + 1) S2 way2 Nd2 Nc2 fd2 fc2 due2 came2 from HQ.out)
                    go_wp2_with fail
                    exact ⟨⟨k + 1, S2, _, way2, Nd2, Nc2, fd2, fc2, due2, came2, by omega, by go_num, HR.out, (HSQ.out.drop 0 (by simp)).drop 0 (by simp)⟩, by simp [intOf]; omega⟩
                · obtain ⟨st, z1, z2, hent, hs1, hstr, hs3⟩ := entry_sep HS10.out 7 rfl (by have := HFI.out.nd; unfold maxLen; omega) (a := [n.frm, n.blk]) HKEY.out (.int .i64 (cv + 1))
                  rw [HFI.out.sd n.frm n.blk, hcv] at hent
                  have hent2 : (Instr.mapEntry MT2 (.map (some db)) (.agg #[.int .i64 n.frm, .int .i64 n.blk])).run Tryd.prog z0 = .ok (.tuple #[.int .i64 cv, .int .i64 st]) z1 := hent
                  go_simp
                  have HS11 := Lib.hid hs1
                  have HS12 := Lib.hid hs3
                  have HSTR := Lib.hid hstr
                  have HS : (fun X => Blk X fb (flo hb wv db cm) FT ∧ Blk X nb n.cells NT) z1 := ⟨HS11.out.box 4 rfl, HS11.out.box 2 rfl⟩
                  clear hent hent2 hs1 hs3 hstr
                  refine hK.out _ _ HS (fun hHeld2 => ?_)
                  clear hK hHeld2 hHeld
                  have hHeld := HS
                  clear HS
                  try simp only [Act.put, List.setIfInBounds_toArray, List.set_cons_zero, List.set_cons_succ, List.getElem_toArray, List.getElem_cons_succ, List.getElem_cons_zero]
                  refine reg_on (i := 12) (v := ?vq12) rfl (by kernel_rfl) (by kernel_rfl) (by kernel_rfl) (fun _ _ _ h => h) (by kernel_rfl) hHeld ?yq12 ?_
                  case yq12 => (intro w hSw; (try dsimp only at hSw); skip; go_simp; first | done | with_reducible rfl)
                  simp only [Act.put, List.setIfInBounds_toArray, List.set_cons_zero, List.set_cons_succ, List.getElem_toArray, List.getElem_cons_succ, List.getElem_cons_zero]
                  refine reg_step (i := 9) (by kernel_rfl) rfl (by kernel_rfl) (fun K hK => ?_)
                  have hl := (GM.mapIs HS11.out 7 rfl).look (a := [n.frm, n.blk]) HKEY.out
                  rw [at_put, HFI.out.sd n.frm n.blk, hcv] at hl
                  have hl2 : (Instr.lookup MT2 (.map (some db)) (.agg #[.int .i64 n.frm, .int .i64 n.blk]) false).run Tryd.prog z1 = .ok (.int .i64 cv) z1 := hl
                  go_simp
                  have HS := hHeld
                  clear hl hl2
                  refine hK.out _ _ HS (fun hHeld2 => ?_)
                  clear hK hHeld2 hHeld
                  have hHeld := HS
                  clear HS
                  try simp only [Act.put, List.setIfInBounds_toArray, List.set_cons_zero, List.set_cons_succ, List.getElem_toArray, List.getElem_cons_succ, List.getElem_cons_zero]
                  refine reg_on (i := 10) (v := ?vq13) rfl (by kernel_rfl) (by kernel_rfl) (by kernel_rfl) (fun _ _ _ h => h) (by kernel_rfl) hHeld ?yq13 ?_
                  case yq13 => (intro w hSw; (try dsimp only at hSw); skip; go_simp; first | done | with_reducible rfl)
                  simp only [Act.put, List.setIfInBounds_toArray, List.set_cons_zero, List.set_cons_succ, List.getElem_toArray, List.getElem_cons_succ, List.getElem_cons_zero]
                  refine reg_step (i := 13) (by kernel_rfl) rfl (by kernel_rfl) (fun K hK => ?_)
                  have hstr := HSTR.out
                  go_simp
                  have HS : (fun X => Blk X fb (flo hb wv db cm) FT ∧ Blk X nb n.cells NT) z2 := ⟨HS12.out.box 4 rfl, HS12.out.box 2 rfl⟩
                  clear hstr
                  refine hK.out _ _ HS (fun hHeld2 => ?_)
                  clear hK hHeld2 hHeld
                  have hHeld := HS
                  clear HS
                  try simp only [Act.put, List.setIfInBounds_toArray, List.set_cons_zero, List.set_cons_succ, List.getElem_toArray, List.getElem_cons_succ, List.getElem_cons_zero]
                  refine wpAnyH_done (by kernel_rfl) ?_ _
                  clear hHeld
                  have f4 : z2.cell? ⟨ob, 4, none⟩ = some (.bool rr) := (HS12.out.box 3 rfl).cell 4
                  have s1 : Sep NoF w z2 [outO v ns, homeO hb mb S2, boxO nb n.cells NT, boxO ob (askC kk co bl pk rr) AT, boxO fb (flo hb wv db cm) FT, outO wv way, GM.mapO pairT cm Nc fc, GM.mapO pairT db (GM.putN fd Nd [n.frm, n.blk]) (GM.put fd [n.frm, n.blk] (.int .i64 (cv + 1))), boxO cb (CC c) CT] := HS12.out
                  have s2 := Sep.pick (Sep.pick (Sep.pick s1 6 rfl) 6 rfl) 6 rfl
                  have s3 : Sep NoF w z2 (boxO fb (flo hb wv db cm) FT :: outO wv way :: GM.mapO pairT cm Nc fc :: outO v ns :: [homeO hb mb S2, boxO nb n.cells NT, boxO ob (askC kk co bl pk rr) AT, GM.mapO pairT db (GM.putN fd Nd [n.frm, n.blk]) (GM.put fd [n.frm, n.blk] (.int .i64 (cv + 1))), boxO cb (CC c) CT]) := s2
                  have HSN := Lib.hid (sends_is s3 rr HOO.out (by have := HFW.out; have := HFI.out.ph; have := way_ph S way; omega) (by have := HFI.out.nc; omega) HFI.out.sm HFI.out.c0 (fun x b => Int.le_trans (acc_le HA2.out x b) (by have h1 := HFI.out.dl x b; have h2 := cnt_one n x b; unfold addD; omega)))
                  clear s1 s2 s3
                  go_wp2_with fail
                  refine HSN.out.mono ?_
                  rintro e w9 ⟨wv2, Nc2, fc2, rfl, hN3, hs3, hs⟩
                  have hsq : Sep NoF w w9 [boxO nb n.cells NT, boxO ob (askC kk co bl pk rr) AT, boxO fb (flo hb wv2 db cm) FT, outO wv2 (sendW rr way ns), GM.mapO pairT cm Nc2 fc2, homeO hb mb S2, GM.mapO pairT db (GM.putN fd Nd [n.frm, n.blk]) (GM.put fd [n.frm, n.blk] (.int .i64 (cv + 1))), boxO cb (CC c) CT] := by
                    have t1 := hs.drop 3 (by simp)
                    -- fb, way, mapC, home, nb, ob, mapD, cfg
                    exact Sep.pick (Sep.pick t1 5 rfl) 5 rfl
                  have hnd : GM.putN fd Nd [n.frm, n.blk] ≤ k + 1 := by have := HFI.out.nd; unfold GM.putN; split <;> omega
                  obtain ⟨Nd2, hNd2⟩ : ∃ x, GM.putN fd Nd [n.frm, n.blk] = x := ⟨_, rfl⟩
                  obtain ⟨fd2, hfd2⟩ : ∃ x, GM.put fd [n.frm, n.blk] (.int .i64 (cv + 1)) = x := ⟨_, rfl⟩
                  obtain ⟨way2, hway2⟩ : ∃ x, sendW rr way ns = x := ⟨_, rfl⟩
                  obtain ⟨due2, hdue2⟩ : ∃ x, addD due n = x := ⟨_, rfl⟩
                  obtain ⟨came2, hcame2⟩ : ∃ x, sendC came ns = x := ⟨_, rfl⟩
                  have hq : FI c (k + 1) S2 (sendW rr way ns) (GM.putN fd Nd [n.frm, n.blk]) Nc2 (GM.put fd [n.frm, n.blk] (.int .i64 (cv + 1))) fc2 (addD due n) (sendC came ns) := ⟨HCC.out.trans HFI.out.sc, HA2.out, way_sends HFI.out.wo HTO.out, hcv ▸ says_add HFI.out.sd n, hs3, fun x b => by have h1 := HFI.out.c0 x b; have h2 := gotN_nonneg ns x b; unfold sendC; omega,
                    fun x b => by have h1 := HFI.out.dl x b; have h2 := cnt_one n x b; unfold addD; omega, hnd, by have := HFI.out.nc; have := HFW.out; omega, by have := HFI.out.ph; have := HPH.out; omega⟩
                  have hnc2 : Nc2 + 2601 ≤ 5300 * (k + 1) := by have := HFI.out.nc; have := HFW.out; omega
                  rw [hNd2, hfd2, hway2] at hsq
                  rw [hNd2, hfd2, hway2, hdue2, hcame2] at hq
                  have HQ := Lib.hid hq; have HSQ := Lib.hid hsq; have HNC2 := Lib.hid hnc2
                  clear hs hN3 hs3 f4 hq hsq hnc2 hnd hNd2 hfd2 hway2 hdue2 hcame2 HSN HS12 HS11 HS10 HSTR
                  obtain ⟨av9, cv9, rfl, hn9, hm9, -⟩ := (HSQ.out.row 3 rfl).slice
                  unfold maxLen at hm9
                  have g1 : w9.cell? ⟨fb, 1, none⟩ = some (.slice av9 way2.length cv9) := (HSQ.out.box 2 rfl).cell 1
                  by_cases hwz : 0 < way2.length
                  · have hwb : decide ((0 : Int) < (way2.length : Int)) = true := decide_eq_true (by omega)
                    have q0 : w9.cell? ⟨ob, 0, none⟩ = some (.int .u8 kk) := (HSQ.out.box 1 rfl).cell 0
                    have q1 : w9.cell? ⟨ob, 1, none⟩ = some (.int .i64 co) := (HSQ.out.box 1 rfl).cell 1
                    have q2 : w9.cell? ⟨ob, 2, none⟩ = some (.int .i64 bl) := (HSQ.out.box 1 rfl).cell 2
                    have q3 : w9.cell? ⟨ob, 3, none⟩ = some (.int .i64 pk) := (HSQ.out.box 1 rfl).cell 3
                    have q4 : w9.cell? ⟨ob, 4, none⟩ = some (.bool rr) := (HSQ.out.box 1 rfl).cell 4
                    have HON := Lib.hid (one_is ((HSQ.out.drop 0 (by simp)).drop 0 (by simp)) HTB.out HQ.out.ai HQ.out.wo HQ.out.sm HQ.out.c0 (fun x b => Int.le_trans (HQ.out.dl x b) (by omega)) (by have := HQ.out.nc; omega) (by have := HQ.out.ph; have := way_ph S2 way2; omega) hwz kk co bl pk rr HPK.out)
                    go_wp2_with fail
                    refine HON.out.mono ?_
                    rintro e w10 ⟨wv4, N4, f4, S4, way4, came4, rfl, hN4, hs4, hc4, ha4, hw4, hp4, hc5, hs⟩
                    have HSR := Lib.hid hs
                    have HR := Lib.hid (show FI c (k + 1) S4 way4 Nd2 N4 fd2 f4 due2 came4 from ⟨hc5.trans HQ.out.sc, ha4, hw4, HQ.out.sd, hs4, hc4, HQ.out.dl, HQ.out.nd, by have := HNC2.out; omega, by have := HQ.out.ph; omega⟩)
                    clear hs hN4 hs4 hc4 ha4 hw4 hp4 hc5 g1 q0 q1 q2 q3 q4
                    go_wp2_with fail
                    exact ⟨⟨k + 1, S4, wv4, way4, Nd2, N4, fd2, f4, due2, came4, by omega, by go_num, HR.out, HSR.out⟩, by simp [intOf]; omega⟩
                  · have hwb : decide ((0 : Int) < (way2.length : Int)) = false := decide_eq_false (by omega)
                    have HR := Lib.hid (show FI c (k + 1) S2 way2 Nd2 Nc2 fd2 fc2 due2 came2 from HQ.out)
                    go_wp2_with fail
                    exact ⟨⟨k + 1, S2, _, way2, Nd2, Nc2, fd2, fc2, due2, came2, by omega, by go_num, HR.out, (HSQ.out.drop 0 (by simp)).drop 0 (by simp)⟩, by simp [intOf]; omega⟩
              · rw [take_err hr] at htk
                obtain ⟨er, her⟩ : ∃ x, readyP S n = x := ⟨_, rfl⟩
                rw [her] at htk hr
                have hee : (er == 0) = false := beq_false_of_ne hr
                have HTK := Lib.hid htk
                clear htk her hr ha hgd
                go_wp2_with fail
                refine HTK.out.mono ?_
                rintro e w9 ⟨v, rfl, hs⟩
                have HS8 : Hid (Sep NoF w w9 [boxO nb n.cells NT, boxO ob (askC kk co bl pk rr) AT, boxO fb (flo hb wv db cm) FT, outO wv way, GM.mapO pairT cm Nc fc, homeO hb mb S, GM.mapO pairT db Nd fd, boxO cb (CC c) CT]) := Lib.hid ((hs.drop 0 (by simp)).sink 5)
                clear hs l9
                obtain ⟨S2, hS2⟩ : ∃ x, S = x := ⟨_, rfl⟩
                obtain ⟨way2, hway2⟩ : ∃ x, way = x := ⟨_, rfl⟩
                obtain ⟨Nd2, hNd2⟩ : ∃ x, Nd = x := ⟨_, rfl⟩
                obtain ⟨Nc2, hNc2⟩ : ∃ x, Nc = x := ⟨_, rfl⟩
                obtain ⟨fd2, hfd2⟩ : ∃ x, fd = x := ⟨_, rfl⟩
                obtain ⟨fc2, hfc2⟩ : ∃ x, fc = x := ⟨_, rfl⟩
                obtain ⟨due2, hdue2⟩ : ∃ x, due = x := ⟨_, rfl⟩
                obtain ⟨came2, hcame2⟩ : ∃ x, came = x := ⟨_, rfl⟩
                have hq : FI c (k + 1) S way Nd Nc fd fc due came := ⟨HFI.out.sc, HFI.out.ai, HFI.out.wo, HFI.out.sd, HFI.out.sm, HFI.out.c0, fun x b => Int.le_trans (HFI.out.dl x b) (by omega), by have := HFI.out.nd; omega, by have := HFI.out.nc; omega, by have := HFI.out.ph; omega⟩
                have hnc2 : Nc + 2700 ≤ 5300 * (k + 1) := by have := HFI.out.nc; omega
                rw [hNc2] at hnc2
                rw [hS2, hway2, hNd2, hNc2, hfd2, hfc2, hdue2, hcame2] at hq
                have hsq := HS8.out
                rw [hway2, hNc2, hfc2, hS2, hNd2, hfd2] at hsq
                have HQ := Lib.hid hq; have HSQ := Lib.hid hsq; have HNC2 := Lib.hid hnc2
                clear hq hsq hnc2 hS2 hway2 hNd2 hNc2 hfd2 hfc2 hdue2 hcame2
                obtain ⟨av9, cv9, rfl, hn9, hm9, -⟩ := (HSQ.out.row 3 rfl).slice
                unfold maxLen at hm9
                have g1 : w9.cell? ⟨fb, 1, none⟩ = some (.slice av9 way2.length cv9) := (HSQ.out.box 2 rfl).cell 1
                by_cases hwz : 0 < way2.length
                · have hwb : decide ((0 : Int) < (way2.length : Int)) = true := decide_eq_true (by omega)
                  have q0 : w9.cell? ⟨ob, 0, none⟩ = some (.int .u8 kk) := (HSQ.out.box 1 rfl).cell 0
                  have q1 : w9.cell? ⟨ob, 1, none⟩ = some (.int .i64 co) := (HSQ.out.box 1 rfl).cell 1
                  have q2 : w9.cell? ⟨ob, 2, none⟩ = some (.int .i64 bl) := (HSQ.out.box 1 rfl).cell 2
                  have q3 : w9.cell? ⟨ob, 3, none⟩ = some (.int .i64 pk) := (HSQ.out.box 1 rfl).cell 3
                  have q4 : w9.cell? ⟨ob, 4, none⟩ = some (.bool rr) := (HSQ.out.box 1 rfl).cell 4
                  have HON := Lib.hid (one_is ((HSQ.out.drop 0 (by simp)).drop 0 (by simp)) HTB.out HQ.out.ai HQ.out.wo HQ.out.sm HQ.out.c0 (fun x b => Int.le_trans (HQ.out.dl x b) (by omega)) (by have := HQ.out.nc; omega) (by have := HQ.out.ph; have := way_ph S2 way2; omega) hwz kk co bl pk rr HPK.out)
                  go_wp2_with fail
                  refine HON.out.mono ?_
                  rintro e w10 ⟨wv4, N4, f4, S4, way4, came4, rfl, hN4, hs4, hc4, ha4, hw4, hp4, hc5, hs⟩
                  have HSR := Lib.hid hs
                  have HR := Lib.hid (show FI c (k + 1) S4 way4 Nd2 N4 fd2 f4 due2 came4 from ⟨hc5.trans HQ.out.sc, ha4, hw4, HQ.out.sd, hs4, hc4, HQ.out.dl, HQ.out.nd, by have := HNC2.out; omega, by have := HQ.out.ph; omega⟩)
                  clear hs hN4 hs4 hc4 ha4 hw4 hp4 hc5 g1 q0 q1 q2 q3 q4
                  go_wp2_with fail
                  exact ⟨⟨k + 1, S4, wv4, way4, Nd2, N4, fd2, f4, due2, came4, by omega, by go_num, HR.out, HSR.out⟩, by simp [intOf]; omega⟩
                · have hwb : decide ((0 : Int) < (way2.length : Int)) = false := decide_eq_false (by omega)
                  have HR := Lib.hid (show FI c (k + 1) S2 way2 Nd2 Nc2 fd2 fc2 due2 came2 from HQ.out)
                  go_wp2_with fail
                  exact ⟨⟨k + 1, S2, _, way2, Nd2, Nc2, fd2, fc2, due2, came2, by omega, by go_num, HR.out, (HSQ.out.drop 0 (by simp)).drop 0 (by simp)⟩, by simp [intOf]; omega⟩
            · have bn : (netN n.kind == 0) = false := by unfold isAsk at ha; simpa using ha
              obtain ⟨w9, hw9⟩ : ∃ x, V6 = x := ⟨_, rfl⟩
              rw [hw9] at HS6 ⊢
              clear hw9 ha
              obtain ⟨S2, hS2⟩ : ∃ x, S = x := ⟨_, rfl⟩
              obtain ⟨way2, hway2⟩ : ∃ x, way = x := ⟨_, rfl⟩
              obtain ⟨Nd2, hNd2⟩ : ∃ x, Nd = x := ⟨_, rfl⟩
              obtain ⟨Nc2, hNc2⟩ : ∃ x, Nc = x := ⟨_, rfl⟩
              obtain ⟨fd2, hfd2⟩ : ∃ x, fd = x := ⟨_, rfl⟩
              obtain ⟨fc2, hfc2⟩ : ∃ x, fc = x := ⟨_, rfl⟩
              obtain ⟨due2, hdue2⟩ : ∃ x, due = x := ⟨_, rfl⟩
              obtain ⟨came2, hcame2⟩ : ∃ x, came = x := ⟨_, rfl⟩
              have hq : FI c (k + 1) S way Nd Nc fd fc due came := ⟨HFI.out.sc, HFI.out.ai, HFI.out.wo, HFI.out.sd, HFI.out.sm, HFI.out.c0, fun x b => Int.le_trans (HFI.out.dl x b) (by omega), by have := HFI.out.nd; omega, by have := HFI.out.nc; omega, by have := HFI.out.ph; omega⟩
              have hnc2 : Nc + 2700 ≤ 5300 * (k + 1) := by have := HFI.out.nc; omega
              rw [hNc2] at hnc2
              rw [hS2, hway2, hNd2, hNc2, hfd2, hfc2, hdue2, hcame2] at hq
              have hsq := HS6.out
              rw [hway2, hNc2, hfc2, hS2, hNd2, hfd2] at hsq
              have HQ := Lib.hid hq; have HSQ := Lib.hid hsq; have HNC2 := Lib.hid hnc2
              clear hq hsq hnc2 hS2 hway2 hNd2 hNc2 hfd2 hfc2 hdue2 hcame2
              obtain ⟨av9, cv9, rfl, hn9, hm9, -⟩ := (HSQ.out.row 3 rfl).slice
              unfold maxLen at hm9
              have g1 : w9.cell? ⟨fb, 1, none⟩ = some (.slice av9 way2.length cv9) := (HSQ.out.box 2 rfl).cell 1
              by_cases hwz : 0 < way2.length
              · have hwb : decide ((0 : Int) < (way2.length : Int)) = true := decide_eq_true (by omega)
                have q0 : w9.cell? ⟨ob, 0, none⟩ = some (.int .u8 kk) := (HSQ.out.box 1 rfl).cell 0
                have q1 : w9.cell? ⟨ob, 1, none⟩ = some (.int .i64 co) := (HSQ.out.box 1 rfl).cell 1
                have q2 : w9.cell? ⟨ob, 2, none⟩ = some (.int .i64 bl) := (HSQ.out.box 1 rfl).cell 2
                have q3 : w9.cell? ⟨ob, 3, none⟩ = some (.int .i64 pk) := (HSQ.out.box 1 rfl).cell 3
                have q4 : w9.cell? ⟨ob, 4, none⟩ = some (.bool rr) := (HSQ.out.box 1 rfl).cell 4
                have HON := Lib.hid (one_is ((HSQ.out.drop 0 (by simp)).drop 0 (by simp)) HTB.out HQ.out.ai HQ.out.wo HQ.out.sm HQ.out.c0 (fun x b => Int.le_trans (HQ.out.dl x b) (by omega)) (by have := HQ.out.nc; omega) (by have := HQ.out.ph; have := way_ph S2 way2; omega) hwz kk co bl pk rr HPK.out)
                go_wp2_with fail
                refine HON.out.mono ?_
                rintro e w10 ⟨wv4, N4, f4, S4, way4, came4, rfl, hN4, hs4, hc4, ha4, hw4, hp4, hc5, hs⟩
                have HSR := Lib.hid hs
                have HR := Lib.hid (show FI c (k + 1) S4 way4 Nd2 N4 fd2 f4 due2 came4 from ⟨hc5.trans HQ.out.sc, ha4, hw4, HQ.out.sd, hs4, hc4, HQ.out.dl, HQ.out.nd, by have := HNC2.out; omega, by have := HQ.out.ph; omega⟩)
                clear hs hN4 hs4 hc4 ha4 hw4 hp4 hc5 g1 q0 q1 q2 q3 q4
                go_wp2_with fail
                exact ⟨⟨k + 1, S4, wv4, way4, Nd2, N4, fd2, f4, due2, came4, by omega, by go_num, HR.out, HSR.out⟩, by simp [intOf]; omega⟩
              · have hwb : decide ((0 : Int) < (way2.length : Int)) = false := decide_eq_false (by omega)
                have HR := Lib.hid (show FI c (k + 1) S2 way2 Nd2 Nc2 fd2 fc2 due2 came2 from HQ.out)
                go_wp2_with fail
                exact ⟨⟨k + 1, S2, _, way2, Nd2, Nc2, fd2, fc2, due2, came2, by omega, by go_num, HR.out, (HSQ.out.drop 0 (by simp)).drop 0 (by simp)⟩, by simp [intOf]; omega⟩
          · have hk3 : (kk == 3) = false := by simpa using h3
            obtain ⟨n, hnc, hno⟩ : ∃ n : Nt, (bkN kk co bl 0).cells = n.cells ∧ n.Ok := ⟨bkN kk co bl 0, rfl, bk_ok hkb (by omega)⟩
            rw [hnc] at HS6
            have HOK := Lib.hid hno
            clear hnc hno h3
            go_upto_region 14 with fail
            clear c0
            have c0 : V6.cell? ⟨nb, 0, none⟩ = some (.int .u8 n.kind) := ((HS6.out.box 0 rfl).cell 0).trans n.get0
            go_wp2_with fail
            refine (NC.net_any n.kind _).mono ?_
            rintro e w7 ⟨rfl, rfl⟩
            clear c0
            by_cases ha : isAsk n = true
            · have bn : (netN n.kind == 0) = true := ha
              have l9 := TNot.ld_at (Nt.Ok.isN HOK.out.isU) (HS6.out.box 0 rfl).whole
              have htk := take_is (Sep.pick HS6.out 5 rfl) HTB.out n HOK.out
              obtain ⟨F0, hF0⟩ := HS6.out.has 5 rfl
              have hgd := home_good hF0
              clear hF0
              by_cases hr : readyP S n = 0
              · obtain ⟨hmay, -, hb0, -, hfc, -, -⟩ := ready_zero hr
                have hbk := may_blk hmay
                have hcf := core_lt (q_of hmay ha).1
                obtain ⟨hA2, hph⟩ := ai_ask rr HFI.out.ai hr ha
                have hoo := outs_ok hgd HFI.out.ai.inv HOK.out hbk hr
                have hfew := take_few hgd HOK.out
                have hto := too_take HFI.out.ai.inv n
                have hcc := take_c S n
                rw [take_code, hr] at htk
                obtain ⟨S2, hS2⟩ : ∃ x, (takeP S n).1 = x := ⟨_, rfl⟩
                obtain ⟨ns, hns⟩ : ∃ x, (takeP S n).2.1 = x := ⟨_, rfl⟩
                rw [hS2] at htk hA2 hph hcc
                rw [hns] at htk hA2 hph hoo hfew hto
                obtain ⟨cv, hcv⟩ : ∃ x, due n.frm n.blk = x := ⟨_, rfl⟩
                have hcvb : 0 ≤ cv ∧ cv ≤ 1000 := by
                  have h1 := HFI.out.dl n.frm n.blk
                  have h2 := acc_le HFI.out.ai n.frm n.blk
                  have h3 := HFI.out.c0 n.frm n.blk
                  omega
                have hwa : IntKind.i64.wrap (cv + 1) = cv + 1 := IntWalk.i64_in _ (by omega)
                have HKEY := Lib.hid (pair_ok (x := n.frm) (b := n.blk) (by omega) (by omega))
                have HTK := Lib.hid htk; have HA2 := Lib.hid hA2; have HPH := Lib.hid hph; have HOO := Lib.hid hoo; have HFW := Lib.hid hfew; have HTO := Lib.hid hto; have HCC := Lib.hid hcc
                clear htk hA2 hph hoo hfew hto hcc hS2 hns hgd hmay hb0 hfc hbk hcf hr ha
                go_wp2_with fail
                refine HTK.out.mono ?_
                rintro e w8 ⟨v, rfl, hs⟩
                have HS8 : Hid (Sep NoF w w8 [outO v ns, homeO hb mb S2, boxO nb n.cells NT, boxO ob (askC kk co bl pk rr) AT, boxO fb (flo hb wv db cm) FT, outO wv way, GM.mapO pairT cm Nc fc, GM.mapO pairT db Nd fd, boxO cb (CC c) CT]) := Lib.hid hs
                clear hs l9
                go_upto_region 17 with fail
                have HS10 := Lib.hid (HS8.out.upd0 (Upd.drew NoF w8))
                refine wp_region_held_drew (S := (fun X => Blk X fb (flo hb wv db cm) FT ∧ Blk X nb n.cells NT)) (by kernel_rfl) (⟨HS10.out.box 4 rfl, HS10.out.box 2 rfl⟩) (fun hHeld => ?_)
                obtain ⟨z0, hX0⟩ : ∃ X, w8.drew = X := ⟨_, rfl⟩
                rw [hX0] at hHeld HS10 ⊢
                clear hX0
                refine reg_on (i := 0) (v := ?vq14) rfl (by kernel_rfl) (by kernel_rfl) (by kernel_rfl) (fun _ _ _ h => h) (by kernel_rfl) hHeld ?yq14 ?_
                case yq14 => (intro w hSw; (try dsimp only at hSw); have k2 : w.cell? ⟨fb, 2, none⟩ = some (.map (some db)) := hSw.1.cell 2; have n1 := (hSw.2.cell 1).trans n.get1; have n3 := (hSw.2.cell 3).trans n.get3; go_simp; first | done | with_reducible rfl)
                simp only [Act.put, List.setIfInBounds_toArray, List.set_cons_zero, List.set_cons_succ, List.getElem_toArray, List.getElem_cons_succ, List.getElem_cons_zero]
                refine reg_on (i := 1) (v := ?vq15) rfl (by kernel_rfl) (by kernel_rfl) (by kernel_rfl) (fun _ _ _ h => h) (by kernel_rfl) hHeld ?yq15 ?_
                case yq15 => (intro w hSw; (try dsimp only at hSw); have k2 : w.cell? ⟨fb, 2, none⟩ = some (.map (some db)) := hSw.1.cell 2; have n1 := (hSw.2.cell 1).trans n.get1; have n3 := (hSw.2.cell 3).trans n.get3; go_simp; first | done | with_reducible rfl)
                simp only [Act.put, List.setIfInBounds_toArray, List.set_cons_zero, List.set_cons_succ, List.getElem_toArray, List.getElem_cons_succ, List.getElem_cons_zero]
                refine reg_on (i := 2) (v := ?vq16) rfl (by kernel_rfl) (by kernel_rfl) (by kernel_rfl) (fun _ _ _ h => h) (by kernel_rfl) hHeld ?yq16 ?_
                case yq16 => (intro w hSw; (try dsimp only at hSw); have k2 : w.cell? ⟨fb, 2, none⟩ = some (.map (some db)) := hSw.1.cell 2; have n1 := (hSw.2.cell 1).trans n.get1; have n3 := (hSw.2.cell 3).trans n.get3; go_simp; first | done | with_reducible rfl)
                simp only [Act.put, List.setIfInBounds_toArray, List.set_cons_zero, List.set_cons_succ, List.getElem_toArray, List.getElem_cons_succ, List.getElem_cons_zero]
                refine reg_on (i := 3) (v := ?vq17) rfl (by kernel_rfl) (by kernel_rfl) (by kernel_rfl) (fun _ _ _ h => h) (by kernel_rfl) hHeld ?yq17 ?_
                case yq17 => (intro w hSw; (try dsimp only at hSw); have k2 : w.cell? ⟨fb, 2, none⟩ = some (.map (some db)) := hSw.1.cell 2; have n1 := (hSw.2.cell 1).trans n.get1; have n3 := (hSw.2.cell 3).trans n.get3; go_simp; first | done | with_reducible rfl)
                simp only [Act.put, List.setIfInBounds_toArray, List.set_cons_zero, List.set_cons_succ, List.getElem_toArray, List.getElem_cons_succ, List.getElem_cons_zero]
                refine reg_on (i := 4) (v := ?vq18) rfl (by kernel_rfl) (by kernel_rfl) (by kernel_rfl) (fun _ _ _ h => h) (by kernel_rfl) hHeld ?yq18 ?_
                case yq18 => (intro w hSw; (try dsimp only at hSw); have k2 : w.cell? ⟨fb, 2, none⟩ = some (.map (some db)) := hSw.1.cell 2; have n1 := (hSw.2.cell 1).trans n.get1; have n3 := (hSw.2.cell 3).trans n.get3; go_simp; first | done | with_reducible rfl)
                simp only [Act.put, List.setIfInBounds_toArray, List.set_cons_zero, List.set_cons_succ, List.getElem_toArray, List.getElem_cons_succ, List.getElem_cons_zero]
                refine reg_on (i := 5) (v := ?vq19) rfl (by kernel_rfl) (by kernel_rfl) (by kernel_rfl) (fun _ _ _ h => h) (by kernel_rfl) hHeld ?yq19 ?_
                case yq19 => (intro w hSw; (try dsimp only at hSw); have k2 : w.cell? ⟨fb, 2, none⟩ = some (.map (some db)) := hSw.1.cell 2; have n1 := (hSw.2.cell 1).trans n.get1; have n3 := (hSw.2.cell 3).trans n.get3; go_simp; first | done | with_reducible rfl)
                simp only [Act.put, List.setIfInBounds_toArray, List.set_cons_zero, List.set_cons_succ, List.getElem_toArray, List.getElem_cons_succ, List.getElem_cons_zero]
                refine reg_on (i := 6) (v := ?vq20) rfl (by kernel_rfl) (by kernel_rfl) (by kernel_rfl) (fun _ _ _ h => h) (by kernel_rfl) hHeld ?yq20 ?_
                case yq20 => (intro w hSw; (try dsimp only at hSw); have k2 : w.cell? ⟨fb, 2, none⟩ = some (.map (some db)) := hSw.1.cell 2; have n1 := (hSw.2.cell 1).trans n.get1; have n3 := (hSw.2.cell 3).trans n.get3; go_simp; first | done | with_reducible rfl)
                simp only [Act.put, List.setIfInBounds_toArray, List.set_cons_zero, List.set_cons_succ, List.getElem_toArray, List.getElem_cons_succ, List.getElem_cons_zero]
                refine reg_on (i := 7) (v := ?vq21) rfl (by kernel_rfl) (by kernel_rfl) (by kernel_rfl) (fun _ _ _ h => h) (by kernel_rfl) hHeld ?yq21 ?_
                case yq21 => (intro w hSw; (try dsimp only at hSw); have k2 : w.cell? ⟨fb, 2, none⟩ = some (.map (some db)) := hSw.1.cell 2; have n1 := (hSw.2.cell 1).trans n.get1; have n3 := (hSw.2.cell 3).trans n.get3; go_simp; first | done | with_reducible rfl)
                simp only [Act.put, List.setIfInBounds_toArray, List.set_cons_zero, List.set_cons_succ, List.getElem_toArray, List.getElem_cons_succ, List.getElem_cons_zero]
                refine reg_on (i := 8) (v := ?vq22) rfl (by kernel_rfl) (by kernel_rfl) (by kernel_rfl) (fun _ _ _ h => h) (by kernel_rfl) hHeld ?yq22 ?_
                case yq22 => (intro w hSw; (try dsimp only at hSw); have k2 : w.cell? ⟨fb, 2, none⟩ = some (.map (some db)) := hSw.1.cell 2; have n1 := (hSw.2.cell 1).trans n.get1; have n3 := (hSw.2.cell 3).trans n.get3; go_simp; first | done | with_reducible rfl)
                simp only [Act.put, List.setIfInBounds_toArray, List.set_cons_zero, List.set_cons_succ, List.getElem_toArray, List.getElem_cons_succ, List.getElem_cons_zero]
                refine reg_two (i := 9) (j := 11) (by kernel_rfl) rfl rfl (by kernel_rfl) (by kernel_rfl) (fun K hK => ?_) (fun K hK => ?_)
                · have hl := (GM.mapIs HS10.out 7 rfl).look (a := [n.frm, n.blk]) HKEY.out
                  rw [HFI.out.sd n.frm n.blk, hcv] at hl
                  have hl2 : (Instr.lookup MT2 (.map (some db)) (.agg #[.int .i64 n.frm, .int .i64 n.blk]) false).run Tryd.prog z0 = .ok (.int .i64 cv) z0 := hl
                  go_simp
                  have HS := hHeld
                  clear hl hl2
                  refine hK.out _ _ HS (fun hHeld2 => ?_)
                  clear hK hHeld2 hHeld
                  have hHeld := HS
                  clear HS
                  try simp only [Act.put, List.setIfInBounds_toArray, List.set_cons_zero, List.set_cons_succ, List.getElem_toArray, List.getElem_cons_succ, List.getElem_cons_zero]
                  refine reg_on (i := 10) (v := ?vq23) rfl (by kernel_rfl) (by kernel_rfl) (by kernel_rfl) (fun _ _ _ h => h) (by kernel_rfl) hHeld ?yq23 ?_
                  case yq23 => (intro w hSw; (try dsimp only at hSw); skip; go_simp; first | done | with_reducible rfl)
                  simp only [Act.put, List.setIfInBounds_toArray, List.set_cons_zero, List.set_cons_succ, List.getElem_toArray, List.getElem_cons_succ, List.getElem_cons_zero]
                  refine reg_step (i := 11) (by kernel_rfl) rfl (by kernel_rfl) (fun K hK => ?_)
                  obtain ⟨st, z1, z2, hent, hs1, hstr, hs3⟩ := entry_sep HS10.out 7 rfl (by have := HFI.out.nd; unfold maxLen; omega) (a := [n.frm, n.blk]) HKEY.out (.int .i64 (cv + 1))
                  rw [HFI.out.sd n.frm n.blk, hcv] at hent
                  have hent2 : (Instr.mapEntry MT2 (.map (some db)) (.agg #[.int .i64 n.frm, .int .i64 n.blk])).run Tryd.prog z0 = .ok (.tuple #[.int .i64 cv, .int .i64 st]) z1 := hent
                  go_simp
                  have HS11 := Lib.hid hs1
                  have HS12 := Lib.hid hs3
                  have HSTR := Lib.hid hstr
                  have HS : (fun X => Blk X fb (flo hb wv db cm) FT ∧ Blk X nb n.cells NT) z1 := ⟨HS11.out.box 4 rfl, HS11.out.box 2 rfl⟩
                  clear hent hent2 hs1 hs3 hstr
                  refine hK.out _ _ HS (fun hHeld2 => ?_)
                  clear hK hHeld2 hHeld
                  have hHeld := HS
                  clear HS
                  try simp only [Act.put, List.setIfInBounds_toArray, List.set_cons_zero, List.set_cons_succ, List.getElem_toArray, List.getElem_cons_succ, List.getElem_cons_zero]
                  refine reg_on (i := 12) (v := ?vq24) rfl (by kernel_rfl) (by kernel_rfl) (by kernel_rfl) (fun _ _ _ h => h) (by kernel_rfl) hHeld ?yq24 ?_
                  case yq24 => (intro w hSw; (try dsimp only at hSw); skip; go_simp; first | done | with_reducible rfl)
                  simp only [Act.put, List.setIfInBounds_toArray, List.set_cons_zero, List.set_cons_succ, List.getElem_toArray, List.getElem_cons_succ, List.getElem_cons_zero]
                  refine reg_step (i := 13) (by kernel_rfl) rfl (by kernel_rfl) (fun K hK => ?_)
                  have hstr := HSTR.out
                  go_simp
                  have HS : (fun X => Blk X fb (flo hb wv db cm) FT ∧ Blk X nb n.cells NT) z2 := ⟨HS12.out.box 4 rfl, HS12.out.box 2 rfl⟩
                  clear hstr
                  refine hK.out _ _ HS (fun hHeld2 => ?_)
                  clear hK hHeld2 hHeld
                  have hHeld := HS
                  clear HS
                  try simp only [Act.put, List.setIfInBounds_toArray, List.set_cons_zero, List.set_cons_succ, List.getElem_toArray, List.getElem_cons_succ, List.getElem_cons_zero]
                  refine wpAnyH_done (by kernel_rfl) ?_ _
                  clear hHeld
                  have f4 : z2.cell? ⟨ob, 4, none⟩ = some (.bool rr) := (HS12.out.box 3 rfl).cell 4
                  have s1 : Sep NoF w z2 [outO v ns, homeO hb mb S2, boxO nb n.cells NT, boxO ob (askC kk co bl pk rr) AT, boxO fb (flo hb wv db cm) FT, outO wv way, GM.mapO pairT cm Nc fc, GM.mapO pairT db (GM.putN fd Nd [n.frm, n.blk]) (GM.put fd [n.frm, n.blk] (.int .i64 (cv + 1))), boxO cb (CC c) CT] := HS12.out
                  have s2 := Sep.pick (Sep.pick (Sep.pick s1 6 rfl) 6 rfl) 6 rfl
                  have s3 : Sep NoF w z2 (boxO fb (flo hb wv db cm) FT :: outO wv way :: GM.mapO pairT cm Nc fc :: outO v ns :: [homeO hb mb S2, boxO nb n.cells NT, boxO ob (askC kk co bl pk rr) AT, GM.mapO pairT db (GM.putN fd Nd [n.frm, n.blk]) (GM.put fd [n.frm, n.blk] (.int .i64 (cv + 1))), boxO cb (CC c) CT]) := s2
                  have HSN := Lib.hid (sends_is s3 rr HOO.out (by have := HFW.out; have := HFI.out.ph; have := way_ph S way; omega) (by have := HFI.out.nc; omega) HFI.out.sm HFI.out.c0 (fun x b => Int.le_trans (acc_le HA2.out x b) (by have h1 := HFI.out.dl x b; have h2 := cnt_one n x b; unfold addD; omega)))
                  clear s1 s2 s3
                  go_wp2_with fail
                  refine HSN.out.mono ?_
                  rintro e w9 ⟨wv2, Nc2, fc2, rfl, hN3, hs3, hs⟩
                  have hsq : Sep NoF w w9 [boxO nb n.cells NT, boxO ob (askC kk co bl pk rr) AT, boxO fb (flo hb wv2 db cm) FT, outO wv2 (sendW rr way ns), GM.mapO pairT cm Nc2 fc2, homeO hb mb S2, GM.mapO pairT db (GM.putN fd Nd [n.frm, n.blk]) (GM.put fd [n.frm, n.blk] (.int .i64 (cv + 1))), boxO cb (CC c) CT] := by
                    have t1 := hs.drop 3 (by simp)
                    -- fb, way, mapC, home, nb, ob, mapD, cfg
                    exact Sep.pick (Sep.pick t1 5 rfl) 5 rfl
                  have hnd : GM.putN fd Nd [n.frm, n.blk] ≤ k + 1 := by have := HFI.out.nd; unfold GM.putN; split <;> omega
                  obtain ⟨Nd2, hNd2⟩ : ∃ x, GM.putN fd Nd [n.frm, n.blk] = x := ⟨_, rfl⟩
                  obtain ⟨fd2, hfd2⟩ : ∃ x, GM.put fd [n.frm, n.blk] (.int .i64 (cv + 1)) = x := ⟨_, rfl⟩
                  obtain ⟨way2, hway2⟩ : ∃ x, sendW rr way ns = x := ⟨_, rfl⟩
                  obtain ⟨due2, hdue2⟩ : ∃ x, addD due n = x := ⟨_, rfl⟩
                  obtain ⟨came2, hcame2⟩ : ∃ x, sendC came ns = x := ⟨_, rfl⟩
                  have hq : FI c (k + 1) S2 (sendW rr way ns) (GM.putN fd Nd [n.frm, n.blk]) Nc2 (GM.put fd [n.frm, n.blk] (.int .i64 (cv + 1))) fc2 (addD due n) (sendC came ns) := ⟨HCC.out.trans HFI.out.sc, HA2.out, way_sends HFI.out.wo HTO.out, hcv ▸ says_add HFI.out.sd n, hs3, fun x b => by have h1 := HFI.out.c0 x b; have h2 := gotN_nonneg ns x b; unfold sendC; omega,
                    fun x b => by have h1 := HFI.out.dl x b; have h2 := cnt_one n x b; unfold addD; omega, hnd, by have := HFI.out.nc; have := HFW.out; omega, by have := HFI.out.ph; have := HPH.out; omega⟩
                  have hnc2 : Nc2 + 2601 ≤ 5300 * (k + 1) := by have := HFI.out.nc; have := HFW.out; omega
                  rw [hNd2, hfd2, hway2] at hsq
                  rw [hNd2, hfd2, hway2, hdue2, hcame2] at hq
                  have HQ := Lib.hid hq; have HSQ := Lib.hid hsq; have HNC2 := Lib.hid hnc2
                  clear hs hN3 hs3 f4 hq hsq hnc2 hnd hNd2 hfd2 hway2 hdue2 hcame2 HSN HS12 HS11 HS10 HSTR
                  obtain ⟨av9, cv9, rfl, hn9, hm9, -⟩ := (HSQ.out.row 3 rfl).slice
                  unfold maxLen at hm9
                  have g1 : w9.cell? ⟨fb, 1, none⟩ = some (.slice av9 way2.length cv9) := (HSQ.out.box 2 rfl).cell 1
                  by_cases hwz : 0 < way2.length
                  · have hwb : decide ((0 : Int) < (way2.length : Int)) = true := decide_eq_true (by omega)
                    have q0 : w9.cell? ⟨ob, 0, none⟩ = some (.int .u8 kk) := (HSQ.out.box 1 rfl).cell 0
                    have q1 : w9.cell? ⟨ob, 1, none⟩ = some (.int .i64 co) := (HSQ.out.box 1 rfl).cell 1
                    have q2 : w9.cell? ⟨ob, 2, none⟩ = some (.int .i64 bl) := (HSQ.out.box 1 rfl).cell 2
                    have q3 : w9.cell? ⟨ob, 3, none⟩ = some (.int .i64 pk) := (HSQ.out.box 1 rfl).cell 3
                    have q4 : w9.cell? ⟨ob, 4, none⟩ = some (.bool rr) := (HSQ.out.box 1 rfl).cell 4
                    have HON := Lib.hid (one_is ((HSQ.out.drop 0 (by simp)).drop 0 (by simp)) HTB.out HQ.out.ai HQ.out.wo HQ.out.sm HQ.out.c0 (fun x b => Int.le_trans (HQ.out.dl x b) (by omega)) (by have := HQ.out.nc; omega) (by have := HQ.out.ph; have := way_ph S2 way2; omega) hwz kk co bl pk rr HPK.out)
                    go_wp2_with fail
                    refine HON.out.mono ?_
                    rintro e w10 ⟨wv4, N4, f4, S4, way4, came4, rfl, hN4, hs4, hc4, ha4, hw4, hp4, hc5, hs⟩
                    have HSR := Lib.hid hs
                    have HR := Lib.hid (show FI c (k + 1) S4 way4 Nd2 N4 fd2 f4 due2 came4 from ⟨hc5.trans HQ.out.sc, ha4, hw4, HQ.out.sd, hs4, hc4, HQ.out.dl, HQ.out.nd, by have := HNC2.out; omega, by have := HQ.out.ph; omega⟩)
                    clear hs hN4 hs4 hc4 ha4 hw4 hp4 hc5 g1 q0 q1 q2 q3 q4
                    go_wp2_with fail
                    exact ⟨⟨k + 1, S4, wv4, way4, Nd2, N4, fd2, f4, due2, came4, by omega, by go_num, HR.out, HSR.out⟩, by simp [intOf]; omega⟩
                  · have hwb : decide ((0 : Int) < (way2.length : Int)) = false := decide_eq_false (by omega)
                    have HR := Lib.hid (show FI c (k + 1) S2 way2 Nd2 Nc2 fd2 fc2 due2 came2 from HQ.out)
                    go_wp2_with fail
                    exact ⟨⟨k + 1, S2, _, way2, Nd2, Nc2, fd2, fc2, due2, came2, by omega, by go_num, HR.out, (HSQ.out.drop 0 (by simp)).drop 0 (by simp)⟩, by simp [intOf]; omega⟩
                · obtain ⟨st, z1, z2, hent, hs1, hstr, hs3⟩ := entry_sep HS10.out 7 rfl (by have := HFI.out.nd; unfold maxLen; omega) (a := [n.frm, n.blk]) HKEY.out (.int .i64 (cv + 1))
                  rw [HFI.out.sd n.frm n.blk, hcv] at hent
                  have hent2 : (Instr.mapEntry MT2 (.map (some db)) (.agg #[.int .i64 n.frm, .int .i64 n.blk])).run Tryd.prog z0 = .ok (.tuple #[.int .i64 cv, .int .i64 st]) z1 := hent
                  go_simp
                  have HS11 := Lib.hid hs1
                  have HS12 := Lib.hid hs3
                  have HSTR := Lib.hid hstr
                  have HS : (fun X => Blk X fb (flo hb wv db cm) FT ∧ Blk X nb n.cells NT) z1 := ⟨HS11.out.box 4 rfl, HS11.out.box 2 rfl⟩
                  clear hent hent2 hs1 hs3 hstr
                  refine hK.out _ _ HS (fun hHeld2 => ?_)
                  clear hK hHeld2 hHeld
                  have hHeld := HS
                  clear HS
                  try simp only [Act.put, List.setIfInBounds_toArray, List.set_cons_zero, List.set_cons_succ, List.getElem_toArray, List.getElem_cons_succ, List.getElem_cons_zero]
                  refine reg_on (i := 12) (v := ?vq25) rfl (by kernel_rfl) (by kernel_rfl) (by kernel_rfl) (fun _ _ _ h => h) (by kernel_rfl) hHeld ?yq25 ?_
                  case yq25 => (intro w hSw; (try dsimp only at hSw); skip; go_simp; first | done | with_reducible rfl)
                  simp only [Act.put, List.setIfInBounds_toArray, List.set_cons_zero, List.set_cons_succ, List.getElem_toArray, List.getElem_cons_succ, List.getElem_cons_zero]
                  refine reg_step (i := 9) (by kernel_rfl) rfl (by kernel_rfl) (fun K hK => ?_)
                  have hl := (GM.mapIs HS11.out 7 rfl).look (a := [n.frm, n.blk]) HKEY.out
                  rw [at_put, HFI.out.sd n.frm n.blk, hcv] at hl
                  have hl2 : (Instr.lookup MT2 (.map (some db)) (.agg #[.int .i64 n.frm, .int .i64 n.blk]) false).run Tryd.prog z1 = .ok (.int .i64 cv) z1 := hl
                  go_simp
                  have HS := hHeld
                  clear hl hl2
                  refine hK.out _ _ HS (fun hHeld2 => ?_)
                  clear hK hHeld2 hHeld
                  have hHeld := HS
                  clear HS
                  try simp only [Act.put, List.setIfInBounds_toArray, List.set_cons_zero, List.set_cons_succ, List.getElem_toArray, List.getElem_cons_succ, List.getElem_cons_zero]
                  refine reg_on (i := 10) (v := ?vq26) rfl (by kernel_rfl) (by kernel_rfl) (by kernel_rfl) (fun _ _ _ h => h) (by kernel_rfl) hHeld ?yq26 ?_
                  case yq26 => (intro w hSw; (try dsimp only at hSw); skip; go_simp; first | done | with_reducible rfl)
                  simp only [Act.put, List.setIfInBounds_toArray, List.set_cons_zero, List.set_cons_succ, List.getElem_toArray, List.getElem_cons_succ, List.getElem_cons_zero]
                  refine reg_step (i := 13) (by kernel_rfl) rfl (by kernel_rfl) (fun K hK => ?_)
                  have hstr := HSTR.out
                  go_simp
                  have HS : (fun X => Blk X fb (flo hb wv db cm) FT ∧ Blk X nb n.cells NT) z2 := ⟨HS12.out.box 4 rfl, HS12.out.box 2 rfl⟩
                  clear hstr
                  refine hK.out _ _ HS (fun hHeld2 => ?_)
                  clear hK hHeld2 hHeld
                  have hHeld := HS
                  clear HS
                  try simp only [Act.put, List.setIfInBounds_toArray, List.set_cons_zero, List.set_cons_succ, List.getElem_toArray, List.getElem_cons_succ, List.getElem_cons_zero]
                  refine wpAnyH_done (by kernel_rfl) ?_ _
                  clear hHeld
                  have f4 : z2.cell? ⟨ob, 4, none⟩ = some (.bool rr) := (HS12.out.box 3 rfl).cell 4
                  have s1 : Sep NoF w z2 [outO v ns, homeO hb mb S2, boxO nb n.cells NT, boxO ob (askC kk co bl pk rr) AT, boxO fb (flo hb wv db cm) FT, outO wv way, GM.mapO pairT cm Nc fc, GM.mapO pairT db (GM.putN fd Nd [n.frm, n.blk]) (GM.put fd [n.frm, n.blk] (.int .i64 (cv + 1))), boxO cb (CC c) CT] := HS12.out
                  have s2 := Sep.pick (Sep.pick (Sep.pick s1 6 rfl) 6 rfl) 6 rfl
                  have s3 : Sep NoF w z2 (boxO fb (flo hb wv db cm) FT :: outO wv way :: GM.mapO pairT cm Nc fc :: outO v ns :: [homeO hb mb S2, boxO nb n.cells NT, boxO ob (askC kk co bl pk rr) AT, GM.mapO pairT db (GM.putN fd Nd [n.frm, n.blk]) (GM.put fd [n.frm, n.blk] (.int .i64 (cv + 1))), boxO cb (CC c) CT]) := s2
                  have HSN := Lib.hid (sends_is s3 rr HOO.out (by have := HFW.out; have := HFI.out.ph; have := way_ph S way; omega) (by have := HFI.out.nc; omega) HFI.out.sm HFI.out.c0 (fun x b => Int.le_trans (acc_le HA2.out x b) (by have h1 := HFI.out.dl x b; have h2 := cnt_one n x b; unfold addD; omega)))
                  clear s1 s2 s3
                  go_wp2_with fail
                  refine HSN.out.mono ?_
                  rintro e w9 ⟨wv2, Nc2, fc2, rfl, hN3, hs3, hs⟩
                  have hsq : Sep NoF w w9 [boxO nb n.cells NT, boxO ob (askC kk co bl pk rr) AT, boxO fb (flo hb wv2 db cm) FT, outO wv2 (sendW rr way ns), GM.mapO pairT cm Nc2 fc2, homeO hb mb S2, GM.mapO pairT db (GM.putN fd Nd [n.frm, n.blk]) (GM.put fd [n.frm, n.blk] (.int .i64 (cv + 1))), boxO cb (CC c) CT] := by
                    have t1 := hs.drop 3 (by simp)
                    -- fb, way, mapC, home, nb, ob, mapD, cfg
                    exact Sep.pick (Sep.pick t1 5 rfl) 5 rfl
                  have hnd : GM.putN fd Nd [n.frm, n.blk] ≤ k + 1 := by have := HFI.out.nd; unfold GM.putN; split <;> omega
                  obtain ⟨Nd2, hNd2⟩ : ∃ x, GM.putN fd Nd [n.frm, n.blk] = x := ⟨_, rfl⟩
                  obtain ⟨fd2, hfd2⟩ : ∃ x, GM.put fd [n.frm, n.blk] (.int .i64 (cv + 1)) = x := ⟨_, rfl⟩
                  obtain ⟨way2, hway2⟩ : ∃ x, sendW rr way ns = x := ⟨_, rfl⟩
                  obtain ⟨due2, hdue2⟩ : ∃ x, addD due n = x := ⟨_, rfl⟩
                  obtain ⟨came2, hcame2⟩ : ∃ x, sendC came ns = x := ⟨_, rfl⟩
                  have hq : FI c (k + 1) S2 (sendW rr way ns) (GM.putN fd Nd [n.frm, n.blk]) Nc2 (GM.put fd [n.frm, n.blk] (.int .i64 (cv + 1))) fc2 (addD due n) (sendC came ns) := ⟨HCC.out.trans HFI.out.sc, HA2.out, way_sends HFI.out.wo HTO.out, hcv ▸ says_add HFI.out.sd n, hs3, fun x b => by have h1 := HFI.out.c0 x b; have h2 := gotN_nonneg ns x b; unfold sendC; omega,
                    fun x b => by have h1 := HFI.out.dl x b; have h2 := cnt_one n x b; unfold addD; omega, hnd, by have := HFI.out.nc; have := HFW.out; omega, by have := HFI.out.ph; have := HPH.out; omega⟩
                  have hnc2 : Nc2 + 2601 ≤ 5300 * (k + 1) := by have := HFI.out.nc; have := HFW.out; omega
                  rw [hNd2, hfd2, hway2] at hsq
                  rw [hNd2, hfd2, hway2, hdue2, hcame2] at hq
                  have HQ := Lib.hid hq; have HSQ := Lib.hid hsq; have HNC2 := Lib.hid hnc2
                  clear hs hN3 hs3 f4 hq hsq hnc2 hnd hNd2 hfd2 hway2 hdue2 hcame2 HSN HS12 HS11 HS10 HSTR
                  obtain ⟨av9, cv9, rfl, hn9, hm9, -⟩ := (HSQ.out.row 3 rfl).slice
                  unfold maxLen at hm9
                  have g1 : w9.cell? ⟨fb, 1, none⟩ = some (.slice av9 way2.length cv9) := (HSQ.out.box 2 rfl).cell 1
                  by_cases hwz : 0 < way2.length
                  · have hwb : decide ((0 : Int) < (way2.length : Int)) = true := decide_eq_true (by omega)
                    have q0 : w9.cell? ⟨ob, 0, none⟩ = some (.int .u8 kk) := (HSQ.out.box 1 rfl).cell 0
                    have q1 : w9.cell? ⟨ob, 1, none⟩ = some (.int .i64 co) := (HSQ.out.box 1 rfl).cell 1
                    have q2 : w9.cell? ⟨ob, 2, none⟩ = some (.int .i64 bl) := (HSQ.out.box 1 rfl).cell 2
                    have q3 : w9.cell? ⟨ob, 3, none⟩ = some (.int .i64 pk) := (HSQ.out.box 1 rfl).cell 3
                    have q4 : w9.cell? ⟨ob, 4, none⟩ = some (.bool rr) := (HSQ.out.box 1 rfl).cell 4
                    have HON := Lib.hid (one_is ((HSQ.out.drop 0 (by simp)).drop 0 (by simp)) HTB.out HQ.out.ai HQ.out.wo HQ.out.sm HQ.out.c0 (fun x b => Int.le_trans (HQ.out.dl x b) (by omega)) (by have := HQ.out.nc; omega) (by have := HQ.out.ph; have := way_ph S2 way2; omega) hwz kk co bl pk rr HPK.out)
                    go_wp2_with fail
                    refine HON.out.mono ?_
                    rintro e w10 ⟨wv4, N4, f4, S4, way4, came4, rfl, hN4, hs4, hc4, ha4, hw4, hp4, hc5, hs⟩
                    have HSR := Lib.hid hs
                    have HR := Lib.hid (show FI c (k + 1) S4 way4 Nd2 N4 fd2 f4 due2 came4 from ⟨hc5.trans HQ.out.sc, ha4, hw4, HQ.out.sd, hs4, hc4, HQ.out.dl, HQ.out.nd, by have := HNC2.out; omega, by have := HQ.out.ph; omega⟩)
                    clear hs hN4 hs4 hc4 ha4 hw4 hp4 hc5 g1 q0 q1 q2 q3 q4
                    go_wp2_with fail
                    exact ⟨⟨k + 1, S4, wv4, way4, Nd2, N4, fd2, f4, due2, came4, by omega, by go_num, HR.out, HSR.out⟩, by simp [intOf]; omega⟩
                  · have hwb : decide ((0 : Int) < (way2.length : Int)) = false := decide_eq_false (by omega)
                    have HR := Lib.hid (show FI c (k + 1) S2 way2 Nd2 Nc2 fd2 fc2 due2 came2 from HQ.out)
                    go_wp2_with fail
                    exact ⟨⟨k + 1, S2, _, way2, Nd2, Nc2, fd2, fc2, due2, came2, by omega, by go_num, HR.out, (HSQ.out.drop 0 (by simp)).drop 0 (by simp)⟩, by simp [intOf]; omega⟩
              · rw [take_err hr] at htk
                obtain ⟨er, her⟩ : ∃ x, readyP S n = x := ⟨_, rfl⟩
                rw [her] at htk hr
                have hee : (er == 0) = false := beq_false_of_ne hr
                have HTK := Lib.hid htk
                clear htk her hr ha hgd
                go_wp2_with fail
                refine HTK.out.mono ?_
                rintro e w9 ⟨v, rfl, hs⟩
                have HS8 : Hid (Sep NoF w w9 [boxO nb n.cells NT, boxO ob (askC kk co bl pk rr) AT, boxO fb (flo hb wv db cm) FT, outO wv way, GM.mapO pairT cm Nc fc, homeO hb mb S, GM.mapO pairT db Nd fd, boxO cb (CC c) CT]) := Lib.hid ((hs.drop 0 (by simp)).sink 5)
                clear hs l9
                obtain ⟨S2, hS2⟩ : ∃ x, S = x := ⟨_, rfl⟩
                obtain ⟨way2, hway2⟩ : ∃ x, way = x := ⟨_, rfl⟩
                obtain ⟨Nd2, hNd2⟩ : ∃ x, Nd = x := ⟨_, rfl⟩
                obtain ⟨Nc2, hNc2⟩ : ∃ x, Nc = x := ⟨_, rfl⟩
                obtain ⟨fd2, hfd2⟩ : ∃ x, fd = x := ⟨_, rfl⟩
                obtain ⟨fc2, hfc2⟩ : ∃ x, fc = x := ⟨_, rfl⟩
                obtain ⟨due2, hdue2⟩ : ∃ x, due = x := ⟨_, rfl⟩
                obtain ⟨came2, hcame2⟩ : ∃ x, came = x := ⟨_, rfl⟩
                have hq : FI c (k + 1) S way Nd Nc fd fc due came := ⟨HFI.out.sc, HFI.out.ai, HFI.out.wo, HFI.out.sd, HFI.out.sm, HFI.out.c0, fun x b => Int.le_trans (HFI.out.dl x b) (by omega), by have := HFI.out.nd; omega, by have := HFI.out.nc; omega, by have := HFI.out.ph; omega⟩
                have hnc2 : Nc + 2700 ≤ 5300 * (k + 1) := by have := HFI.out.nc; omega
                rw [hNc2] at hnc2
                rw [hS2, hway2, hNd2, hNc2, hfd2, hfc2, hdue2, hcame2] at hq
                have hsq := HS8.out
                rw [hway2, hNc2, hfc2, hS2, hNd2, hfd2] at hsq
                have HQ := Lib.hid hq; have HSQ := Lib.hid hsq; have HNC2 := Lib.hid hnc2
                clear hq hsq hnc2 hS2 hway2 hNd2 hNc2 hfd2 hfc2 hdue2 hcame2
                obtain ⟨av9, cv9, rfl, hn9, hm9, -⟩ := (HSQ.out.row 3 rfl).slice
                unfold maxLen at hm9
                have g1 : w9.cell? ⟨fb, 1, none⟩ = some (.slice av9 way2.length cv9) := (HSQ.out.box 2 rfl).cell 1
                by_cases hwz : 0 < way2.length
                · have hwb : decide ((0 : Int) < (way2.length : Int)) = true := decide_eq_true (by omega)
                  have q0 : w9.cell? ⟨ob, 0, none⟩ = some (.int .u8 kk) := (HSQ.out.box 1 rfl).cell 0
                  have q1 : w9.cell? ⟨ob, 1, none⟩ = some (.int .i64 co) := (HSQ.out.box 1 rfl).cell 1
                  have q2 : w9.cell? ⟨ob, 2, none⟩ = some (.int .i64 bl) := (HSQ.out.box 1 rfl).cell 2
                  have q3 : w9.cell? ⟨ob, 3, none⟩ = some (.int .i64 pk) := (HSQ.out.box 1 rfl).cell 3
                  have q4 : w9.cell? ⟨ob, 4, none⟩ = some (.bool rr) := (HSQ.out.box 1 rfl).cell 4
                  have HON := Lib.hid (one_is ((HSQ.out.drop 0 (by simp)).drop 0 (by simp)) HTB.out HQ.out.ai HQ.out.wo HQ.out.sm HQ.out.c0 (fun x b => Int.le_trans (HQ.out.dl x b) (by omega)) (by have := HQ.out.nc; omega) (by have := HQ.out.ph; have := way_ph S2 way2; omega) hwz kk co bl pk rr HPK.out)
                  go_wp2_with fail
                  refine HON.out.mono ?_
                  rintro e w10 ⟨wv4, N4, f4, S4, way4, came4, rfl, hN4, hs4, hc4, ha4, hw4, hp4, hc5, hs⟩
                  have HSR := Lib.hid hs
                  have HR := Lib.hid (show FI c (k + 1) S4 way4 Nd2 N4 fd2 f4 due2 came4 from ⟨hc5.trans HQ.out.sc, ha4, hw4, HQ.out.sd, hs4, hc4, HQ.out.dl, HQ.out.nd, by have := HNC2.out; omega, by have := HQ.out.ph; omega⟩)
                  clear hs hN4 hs4 hc4 ha4 hw4 hp4 hc5 g1 q0 q1 q2 q3 q4
                  go_wp2_with fail
                  exact ⟨⟨k + 1, S4, wv4, way4, Nd2, N4, fd2, f4, due2, came4, by omega, by go_num, HR.out, HSR.out⟩, by simp [intOf]; omega⟩
                · have hwb : decide ((0 : Int) < (way2.length : Int)) = false := decide_eq_false (by omega)
                  have HR := Lib.hid (show FI c (k + 1) S2 way2 Nd2 Nc2 fd2 fc2 due2 came2 from HQ.out)
                  go_wp2_with fail
                  exact ⟨⟨k + 1, S2, _, way2, Nd2, Nc2, fd2, fc2, due2, came2, by omega, by go_num, HR.out, (HSQ.out.drop 0 (by simp)).drop 0 (by simp)⟩, by simp [intOf]; omega⟩
            · have bn : (netN n.kind == 0) = false := by unfold isAsk at ha; simpa using ha
              obtain ⟨w9, hw9⟩ : ∃ x, V6 = x := ⟨_, rfl⟩
              rw [hw9] at HS6 ⊢
              clear hw9 ha
              obtain ⟨S2, hS2⟩ : ∃ x, S = x := ⟨_, rfl⟩
              obtain ⟨way2, hway2⟩ : ∃ x, way = x := ⟨_, rfl⟩
              obtain ⟨Nd2, hNd2⟩ : ∃ x, Nd = x := ⟨_, rfl⟩
              obtain ⟨Nc2, hNc2⟩ : ∃ x, Nc = x := ⟨_, rfl⟩
              obtain ⟨fd2, hfd2⟩ : ∃ x, fd = x := ⟨_, rfl⟩
              obtain ⟨fc2, hfc2⟩ : ∃ x, fc = x := ⟨_, rfl⟩
              obtain ⟨due2, hdue2⟩ : ∃ x, due = x := ⟨_, rfl⟩
              obtain ⟨came2, hcame2⟩ : ∃ x, came = x := ⟨_, rfl⟩
              have hq : FI c (k + 1) S way Nd Nc fd fc due came := ⟨HFI.out.sc, HFI.out.ai, HFI.out.wo, HFI.out.sd, HFI.out.sm, HFI.out.c0, fun x b => Int.le_trans (HFI.out.dl x b) (by omega), by have := HFI.out.nd; omega, by have := HFI.out.nc; omega, by have := HFI.out.ph; omega⟩
              have hnc2 : Nc + 2700 ≤ 5300 * (k + 1) := by have := HFI.out.nc; omega
              rw [hNc2] at hnc2
              rw [hS2, hway2, hNd2, hNc2, hfd2, hfc2, hdue2, hcame2] at hq
              have hsq := HS6.out
              rw [hway2, hNc2, hfc2, hS2, hNd2, hfd2] at hsq
              have HQ := Lib.hid hq; have HSQ := Lib.hid hsq; have HNC2 := Lib.hid hnc2
              clear hq hsq hnc2 hS2 hway2 hNd2 hNc2 hfd2 hfc2 hdue2 hcame2
              obtain ⟨av9, cv9, rfl, hn9, hm9, -⟩ := (HSQ.out.row 3 rfl).slice
              unfold maxLen at hm9
              have g1 : w9.cell? ⟨fb, 1, none⟩ = some (.slice av9 way2.length cv9) := (HSQ.out.box 2 rfl).cell 1
              by_cases hwz : 0 < way2.length
              · have hwb : decide ((0 : Int) < (way2.length : Int)) = true := decide_eq_true (by omega)
                have q0 : w9.cell? ⟨ob, 0, none⟩ = some (.int .u8 kk) := (HSQ.out.box 1 rfl).cell 0
                have q1 : w9.cell? ⟨ob, 1, none⟩ = some (.int .i64 co) := (HSQ.out.box 1 rfl).cell 1
                have q2 : w9.cell? ⟨ob, 2, none⟩ = some (.int .i64 bl) := (HSQ.out.box 1 rfl).cell 2
                have q3 : w9.cell? ⟨ob, 3, none⟩ = some (.int .i64 pk) := (HSQ.out.box 1 rfl).cell 3
                have q4 : w9.cell? ⟨ob, 4, none⟩ = some (.bool rr) := (HSQ.out.box 1 rfl).cell 4
                have HON := Lib.hid (one_is ((HSQ.out.drop 0 (by simp)).drop 0 (by simp)) HTB.out HQ.out.ai HQ.out.wo HQ.out.sm HQ.out.c0 (fun x b => Int.le_trans (HQ.out.dl x b) (by omega)) (by have := HQ.out.nc; omega) (by have := HQ.out.ph; have := way_ph S2 way2; omega) hwz kk co bl pk rr HPK.out)
                go_wp2_with fail
                refine HON.out.mono ?_
                rintro e w10 ⟨wv4, N4, f4, S4, way4, came4, rfl, hN4, hs4, hc4, ha4, hw4, hp4, hc5, hs⟩
                have HSR := Lib.hid hs
                have HR := Lib.hid (show FI c (k + 1) S4 way4 Nd2 N4 fd2 f4 due2 came4 from ⟨hc5.trans HQ.out.sc, ha4, hw4, HQ.out.sd, hs4, hc4, HQ.out.dl, HQ.out.nd, by have := HNC2.out; omega, by have := HQ.out.ph; omega⟩)
                clear hs hN4 hs4 hc4 ha4 hw4 hp4 hc5 g1 q0 q1 q2 q3 q4
                go_wp2_with fail
                exact ⟨⟨k + 1, S4, wv4, way4, Nd2, N4, fd2, f4, due2, came4, by omega, by go_num, HR.out, HSR.out⟩, by simp [intOf]; omega⟩
              · have hwb : decide ((0 : Int) < (way2.length : Int)) = false := decide_eq_false (by omega)
                have HR := Lib.hid (show FI c (k + 1) S2 way2 Nd2 Nc2 fd2 fc2 due2 came2 from HQ.out)
                go_wp2_with fail
                exact ⟨⟨k + 1, S2, _, way2, Nd2, Nc2, fd2, fc2, due2, came2, by omega, by go_num, HR.out, (HSQ.out.drop 0 (by simp)).drop 0 (by simp)⟩, by simp [intOf]; omega⟩
        · obtain rfl : len1 = k := by omega
          obtain ⟨hfi, hsp⟩ := HI.out
          have HF0 := Lib.hid hfi; have HSP := Lib.hid hsp
          clear hfi hsp HI hlt hk
          obtain ⟨wo, rfl⟩ : ∃ x, x = wr := ⟨_, rfl⟩
          go_wp2_with fail
          go_loopw [15] (fun iv wr => ∃ (i : Nat) (S : Hs) (wv : Value) (way : List Nt) (Nc : Nat) (fc : List Int → Option Value) (came : Cnt), i ≤ 3400 ∧ iv = .int .i64 i ∧ Hid ((S.c = c ∧ AI (fun _ => False) [] S way due came ∧ WayOk way ∧ Says fc came ∧ (∀ x b, 0 ≤ came x b) ∧ Nc ≤ 1060000 + 2601 * i ∧ ph S way + i ≤ 3400) ∧ Sep NoF w wr [boxO fb (flo hb wv db cm) FT, outO wv way, GM.mapO pairT cm Nc fc, homeO hb mb S, GM.mapO pairT db Nd fd, boxO cb (CC c) CT])) (fun iv _ => 4000 - (intOf iv).toNat)
          case atStart => exact ⟨0, S, wv, way, Nc, fc, came, by omega, rfl, ⟨HF0.out.sc, HF0.out.ai, HF0.out.wo, HF0.out.sm, HF0.out.c0, by have := HF0.out.nc; omega, by have := HF0.out.ph; omega⟩, HSP.out⟩
          case round =>
            obtain ⟨i, S3, wv3, way3, Nc3, fc3, came3, hi, rfl, HI⟩ := hrel
            obtain ⟨⟨sc3, ai3, wo3, sm3, c03, nc3, ph3⟩, hsp3⟩ := HI.out
            obtain ⟨av9, cv9, rfl, hn9, hm9, -⟩ := (hsp3.row 1 rfl).slice
            unfold maxLen at hm9
            have HSQ := Lib.hid hsp3
            have g1 : wr.cell? ⟨fb, 1, none⟩ = some (.slice av9 way3.length cv9) := (hsp3.box 0 rfl).cell 1
            by_cases hwz : 0 < way3.length
            · have hwb : decide ((0 : Int) < (way3.length : Int)) = true := decide_eq_true (by omega)
              have hib : decide ((5000 : Int) < (i : Int)) = false := decide_eq_false (by omega)
              have hwi : IntKind.i64.wrap ((i : Int) + 1) = (i : Int) + 1 := IntWalk.i64_in _ (by omega)
              have hon := fun rr => one_is hsp3 HTB.out ai3 wo3 sm3 c03 (fun x b => Int.le_trans (HF0.out.dl x b) (by omega)) (by omega) (by have := way_ph S3 way3; omega) hwz 0 0 0 (i : Int) rr (by omega)
              have HON := Lib.hid hon
              have HPH := Lib.hid (And.intro sc3 (And.intro nc3 ph3))
              have hpz : 0 < ph S3 way3 := Nat.lt_of_lt_of_le hwz (way_ph S3 way3)
              have hi4 : i + 1 ≤ 3400 := by omega
              clear ai3 wo3 sm3 c03 sc3 nc3 ph3 hsp3 hon HI hpz
              go_wp2_with fail
              refine (HON.out _).mono ?_
              rintro e w10 ⟨wv4, N4, f4, S4, way4, came4, rfl, hN4, hs4, hc4, ha4, hw4, hp4, hc5, hs⟩
              have HR := Lib.hid (show (S4.c = c ∧ AI (fun _ => False) [] S4 way4 due came4 ∧ WayOk way4 ∧ Says f4 came4 ∧ (∀ x b, 0 ≤ came4 x b) ∧ N4 ≤ 1060000 + 2601 * (i + 1) ∧ ph S4 way4 + (i + 1) ≤ 3400) ∧ Sep NoF w w10 [boxO fb (flo hb wv4 db cm) FT, outO wv4 way4, GM.mapO pairT cm N4 f4, homeO hb mb S4, GM.mapO pairT db Nd fd, boxO cb (CC c) CT] from ⟨⟨hc5.trans HPH.out.1, ha4, hw4, hs4, hc4, by have := HPH.out.2.1; omega, by have := HPH.out.2.2; omega⟩, hs⟩)
              clear hs hN4 hs4 hc4 ha4 hw4 hp4 hc5 g1
              go_wp2_with fail
              exact ⟨⟨i + 1, S4, wv4, way4, N4, f4, came4, hi4, by go_num, HR.out⟩, by simp [intOf]; omega⟩
            · have hwb : decide ((0 : Int) < (way3.length : Int)) = false := decide_eq_false (by omega)
              have hw0 : way3 = [] := List.eq_nil_of_length_eq_zero (by omega)
              obtain ⟨hJ, hQ, hdc⟩ := ai_fin (hw0 ▸ ai3)
              have HJ := Lib.hid hJ; have HQ0 := Lib.hid hQ; have HDC := Lib.hid hdc; have HSM := Lib.hid sm3
              clear hJ hQ hdc hw0 ai3 wo3 sm3 c03 sc3 nc3 ph3 hsp3 HI
              obtain ⟨w1, hrun, hrg, hu, hsz⟩ := (GM.mapIs HSQ.out 4 rfl).range
              have l1 : (Instr.range MT2 (.map (some db))).run Tryd.prog wr = .ok (.pointer (some ⟨wr.heap.size, 0, none⟩)) w1 := hrun
              have k2 : wr.cell? ⟨fb, 2, none⟩ = some (.map (some db)) := (HSQ.out.box 0 rfl).cell 2
              have HR1 := Lib.hid hrg
              have HI1 := Lib.hid (HSQ.out.upd0 hu)
              have hws := HSQ.out.size
              obtain ⟨r, hr⟩ : ∃ r, wr.heap.size = r := ⟨_, rfl⟩
              rw [hr] at HR1 l1
              clear hrun hrg hu hsz HSQ
              obtain ⟨wo2, rfl⟩ : ∃ x, x = wr := ⟨_, rfl⟩
              go_wp2_with fail
              go_loopw [] (fun wr2 => ∃ cn : Nat, Hid (GM.Rng pairT wr2 db r Nd fd cn ∧ Sep NoF w wr2 [boxO fb (flo hb (.slice av9 way3.length cv9) db cm) FT, outO (.slice av9 way3.length cv9) way3, GM.mapO pairT cm Nc3 fc3, homeO hb mb S3, GM.mapO pairT db Nd fd, boxO cb (CC c) CT])) (fun wr2 => wr2.rangeLeft db r)
              case atStart => exact ⟨_, Lib.hid ⟨HR1.out, HI1.out⟩⟩
              case round =>
                clear HR1 HI1 l1 k2
                obtain ⟨cn, hrr⟩ := hrel
                have HRg := Lib.hid hrr.out.1
                have HIr := Lib.hid hrr.out.2
                have hle := hrr.out.1.left_eq
                clear hrr
                have hmw : w.heap.size ≤ r := by rw [← hr]; exact hws
                rcases HRg.out.next 0 with ⟨h0, l2⟩ | ⟨a, v, w', cn', ha, hfa, l2, hr', hlt2, hbk, hsz, l3⟩
                · go_wp2_with fail
                  refine (waits_at HIr.out 3 rfl (r := 0) (by rw [HQ0.out]; rfl)).mono ?_
                  rintro e w2' ⟨rfl, rfl⟩
                  clear l2
                  go_wp2_with fail
                  refine (works_is HIr.out HTB.out).mono ?_
                  rintro e w9 ⟨rfl, hs⟩
                  have HS9 := Lib.hid hs
                  clear hs
                  go_wp2
                  go_ret
                  exact ⟨rfl, HS9.out.below⟩
                · obtain ⟨x, b, rfl⟩ : ∃ x b, a = [x, b] := by
                    match a, ha.1 with
                    | [x, b], _ => exact ⟨x, b, rfl⟩
                  have hv : v = .int .i64 (due x b) := by
                    have := HF0.out.sd x b
                    unfold GM.Ty.at at this
                    rw [hfa] at this
                    exact this
                  subst hv
                  have HBB := Lib.hid (bounds_i64 (ha.2 b (by simp)))
                  have HI2 := Lib.hid (HIr.out.bk hbk hmw)
                  have HR2 := Lib.hid hr'
                  have l2b : (Instr.next (.pointer (some ⟨r, 0, none⟩)) false 0).run Tryd.prog wr = .ok (.tuple #[.bool true, .agg #[.int .i64 x, .int .i64 b], .int .i64 (due x b)]) w' := l2
                  have l3b : (Instr.entry (.pointer (some ⟨r, 0, none⟩))).run Tryd.prog w' = .ok (.tuple #[.agg #[.int .i64 x, .int .i64 b], .int .i64 (due x b)]) w' := l3
                  have hok := ha
                  clear l2 l3
                  clear hr' hbk HRg HIr hsz hfa
                  have hks := HI2.out.alloc #[.int .i64 x, .int .i64 b] 51
                  obtain ⟨V9, hV9⟩ : ∃ X, w'.alloc (.cells #[.int .i64 x, .int .i64 b] 51) = X := ⟨_, rfl⟩
                  obtain ⟨kb, hkb⟩ : ∃ y, w'.heap.size = y := ⟨_, rfl⟩
                  have HR3 := Lib.hid (HR2.out.upd (Upd.alloc NoF w' (.cells #[.int .i64 x, .int .i64 b] 51)) (fun h => h))
                  rw [hV9, hkb] at hks
                  rw [hV9] at HR3
                  have HKS := Lib.hid hks
                  have HV9 := Lib.hid (And.intro hV9 hkb)
                  have s2 := TI2.st_new (isN2 x b) w'
                  clear hks hV9 hkb
                  obtain ⟨dv, hdv⟩ : ∃ y, due x b = y := ⟨_, rfl⟩
                  rw [hdv] at l2b l3b
                  go_upto_region 30 with fail
                  rw [HV9.out.1, HV9.out.2]
                  clear l2b l3b HV9 s2
                  have HF := Lib.hid (fun X (hX : Upd NoF V9 X) => (show X.cell? ⟨fb, 3, none⟩ = some (.map (some cm)) ∧ X.cell? ⟨kb, 0, none⟩ = some (.int .i64 x) ∧ X.cell? ⟨kb, 1, none⟩ = some (.int .i64 b) ∧ (TI2.ld (.pointer (some ⟨kb, 0, none⟩))).run Tryd.prog X = .ok (.agg #[.int .i64 x, .int .i64 b]) X ∧ (Instr.lookup MT2 (.map (some cm)) (.agg #[.int .i64 x, .int .i64 b]) false).run Tryd.prog X = .ok (.int .i64 dv) X from by
                    refine ⟨((HKS.out.box 1 rfl).upd hX (fun h => h)).cell 3, ((HKS.out.box 0 rfl).upd hX (fun h => h)).cell 0, ((HKS.out.box 0 rfl).upd hX (fun h => h)).cell 1, TI2.ld_at (isN2 x b) ((HKS.out.box 0 rfl).upd hX (fun h => h)).whole, ?_⟩
                    have hl := (GM.mapIs (HKS.out.upd0 hX) 3 rfl).look (a := [x, b]) hok
                    rw [HSM.out x b, ← HDC.out x b, hdv] at hl
                    exact hl))
                  have HD9 := Lib.hid (Upd.drew NoF V9)
                  have hdd : (dv != dv) = false := by simp
                  refine wp_region_held_drew (S := (fun X => Upd NoF V9 X)) (by kernel_rfl) (HD9.out) (fun hHeld => ?_)
                  refine reg_on (i := 0) (v := ?vq27) rfl (by kernel_rfl) (by kernel_rfl) (by kernel_rfl) (fun _ _ _ h => h) (by kernel_rfl) hHeld ?yq27 ?_
                  case yq27 => (intro w hSw; (try dsimp only at hSw); obtain ⟨k3, j0, j1, jl, hlk⟩ := HF.out _ hSw; go_simp; first | done | with_reducible rfl)
                  simp only [Act.put, List.setIfInBounds_toArray, List.set_cons_zero, List.set_cons_succ, List.getElem_toArray, List.getElem_cons_succ, List.getElem_cons_zero]
                  refine reg_on (i := 1) (v := ?vq28) rfl (by kernel_rfl) (by kernel_rfl) (by kernel_rfl) (fun _ _ _ h => h) (by kernel_rfl) hHeld ?yq28 ?_
                  case yq28 => (intro w hSw; (try dsimp only at hSw); obtain ⟨k3, j0, j1, jl, hlk⟩ := HF.out _ hSw; go_simp; first | done | with_reducible rfl)
                  simp only [Act.put, List.setIfInBounds_toArray, List.set_cons_zero, List.set_cons_succ, List.getElem_toArray, List.getElem_cons_succ, List.getElem_cons_zero]
                  refine reg_on (i := 2) (v := ?vq29) rfl (by kernel_rfl) (by kernel_rfl) (by kernel_rfl) (fun _ _ _ h => h) (by kernel_rfl) hHeld ?yq29 ?_
                  case yq29 => (intro w hSw; (try dsimp only at hSw); obtain ⟨k3, j0, j1, jl, hlk⟩ := HF.out _ hSw; go_simp; first | done | with_reducible rfl)
                  simp only [Act.put, List.setIfInBounds_toArray, List.set_cons_zero, List.set_cons_succ, List.getElem_toArray, List.getElem_cons_succ, List.getElem_cons_zero]
                  refine reg_on (i := 3) (v := ?vq30) rfl (by kernel_rfl) (by kernel_rfl) (by kernel_rfl) (fun _ _ _ h => h) (by kernel_rfl) hHeld ?yq30 ?_
                  case yq30 => (intro w hSw; (try dsimp only at hSw); obtain ⟨k3, j0, j1, jl, hlk⟩ := HF.out _ hSw; go_simp; first | done | with_reducible rfl)
                  simp only [Act.put, List.setIfInBounds_toArray, List.set_cons_zero, List.set_cons_succ, List.getElem_toArray, List.getElem_cons_succ, List.getElem_cons_zero]
                  refine reg_on (i := 4) (v := ?vq31) rfl (by kernel_rfl) (by kernel_rfl) (by kernel_rfl) (fun _ _ _ h => h) (by kernel_rfl) hHeld ?yq31 ?_
                  case yq31 => (intro w hSw; (try dsimp only at hSw); obtain ⟨k3, j0, j1, jl, hlk⟩ := HF.out _ hSw; go_simp; first | done | with_reducible rfl)
                  simp only [Act.put, List.setIfInBounds_toArray, List.set_cons_zero, List.set_cons_succ, List.getElem_toArray, List.getElem_cons_succ, List.getElem_cons_zero]
                  refine reg_on (i := 5) (v := ?vq32) rfl (by kernel_rfl) (by kernel_rfl) (by kernel_rfl) (fun _ _ _ h => h) (by kernel_rfl) hHeld ?yq32 ?_
                  case yq32 => (intro w hSw; (try dsimp only at hSw); obtain ⟨k3, j0, j1, jl, hlk⟩ := HF.out _ hSw; go_simp; first | done | with_reducible rfl)
                  simp only [Act.put, List.setIfInBounds_toArray, List.set_cons_zero, List.set_cons_succ, List.getElem_toArray, List.getElem_cons_succ, List.getElem_cons_zero]
                  refine reg_on (i := 6) (v := ?vq33) rfl (by kernel_rfl) (by kernel_rfl) (by kernel_rfl) (fun _ _ _ h => h) (by kernel_rfl) hHeld ?yq33 ?_
                  case yq33 => (intro w hSw; (try dsimp only at hSw); obtain ⟨k3, j0, j1, jl, hlk⟩ := HF.out _ hSw; go_simp; first | done | with_reducible rfl)
                  simp only [Act.put, List.setIfInBounds_toArray, List.set_cons_zero, List.set_cons_succ, List.getElem_toArray, List.getElem_cons_succ, List.getElem_cons_zero]
                  refine reg_on (i := 7) (v := .bool false) rfl (by kernel_rfl) (by kernel_rfl) (by kernel_rfl) (fun _ _ _ h => h) (by kernel_rfl) hHeld ?yq34 ?_
                  case yq34 => (intro w hSw; (try dsimp only at hSw); obtain ⟨k3, j0, j1, jl, hlk⟩ := HF.out _ hSw; go_simp; first | done | with_reducible rfl)
                  simp only [Act.put, List.setIfInBounds_toArray, List.set_cons_zero, List.set_cons_succ, List.getElem_toArray, List.getElem_cons_succ, List.getElem_cons_zero]
                  refine reg_on (i := 8) (v := .bool false) rfl (by kernel_rfl) (by kernel_rfl) (by kernel_rfl) (fun _ _ _ h => h) (by kernel_rfl) hHeld ?yq35 ?_
                  case yq35 => (intro w hSw; (try dsimp only at hSw); obtain ⟨k3, j0, j1, jl, hlk⟩ := HF.out _ hSw; go_simp; first | done | with_reducible rfl)
                  simp only [Act.put, List.setIfInBounds_toArray, List.set_cons_zero, List.set_cons_succ, List.getElem_toArray, List.getElem_cons_succ, List.getElem_cons_zero]
                  refine reg_on (i := 9) (v := ?vq36) rfl (by kernel_rfl) (by kernel_rfl) (by kernel_rfl) (fun _ _ _ h => h) (by kernel_rfl) hHeld ?yq36 ?_
                  case yq36 => (intro w hSw; (try dsimp only at hSw); obtain ⟨k3, j0, j1, jl, hlk⟩ := HF.out _ hSw; go_simp; first | done | with_reducible rfl)
                  simp only [Act.put, List.setIfInBounds_toArray, List.set_cons_zero, List.set_cons_succ, List.getElem_toArray, List.getElem_cons_succ, List.getElem_cons_zero]
                  refine reg_on (i := 10) (v := ?vq37) rfl (by kernel_rfl) (by kernel_rfl) (by kernel_rfl) (fun _ _ _ h => h) (by kernel_rfl) hHeld ?yq37 ?_
                  case yq37 => (intro w hSw; (try dsimp only at hSw); obtain ⟨k3, j0, j1, jl, hlk⟩ := HF.out _ hSw; go_simp; first | done | with_reducible rfl)
                  simp only [Act.put, List.setIfInBounds_toArray, List.set_cons_zero, List.set_cons_succ, List.getElem_toArray, List.getElem_cons_succ, List.getElem_cons_zero]
                  refine reg_on (i := 11) (v := ?vq38) rfl (by kernel_rfl) (by kernel_rfl) (by kernel_rfl) (fun _ _ _ h => h) (by kernel_rfl) hHeld ?yq38 ?_
                  case yq38 => (intro w hSw; (try dsimp only at hSw); obtain ⟨k3, j0, j1, jl, hlk⟩ := HF.out _ hSw; go_simp; first | done | with_reducible rfl)
                  simp only [Act.put, List.setIfInBounds_toArray, List.set_cons_zero, List.set_cons_succ, List.getElem_toArray, List.getElem_cons_succ, List.getElem_cons_zero]
                  refine reg_step (i := 12) (by kernel_rfl) rfl (by kernel_rfl) (fun K hK => ?_)
                  go_simp
                  refine (busy_at (HKS.out.upd0 hHeld) 4 rfl b HBB.out (r := false) (by simp [HJ.out])).mono ?_
                  rintro e wz ⟨rfl, hu⟩
                  have HS : (fun X => Upd NoF V9 X) wz := hHeld.trans hu (fun _ _ h => h)
                  clear hu
                  go_wp2_with fail
                  refine hK.out _ _ HS (fun hHeld2 => ?_)
                  clear hK hHeld2 hHeld
                  have hHeld := HS
                  clear HS
                  try simp only [Act.put, List.setIfInBounds_toArray, List.set_cons_zero, List.set_cons_succ, List.getElem_toArray, List.getElem_cons_succ, List.getElem_cons_zero]
                  refine reg_on (i := 13) (v := .bool false) rfl (by kernel_rfl) (by kernel_rfl) (by kernel_rfl) (fun _ _ _ h => h) (by kernel_rfl) hHeld ?yq39 ?_
                  case yq39 => (intro w hSw; (try dsimp only at hSw); skip; go_simp; first | done | with_reducible rfl)
                  simp only [Act.put, List.setIfInBounds_toArray, List.set_cons_zero, List.set_cons_succ, List.getElem_toArray, List.getElem_cons_succ, List.getElem_cons_zero]
                  refine wpAnyH_done (by kernel_rfl) ?_ _
                  have HKE := Lib.hid (HKS.out.upd0 hHeld)
                  have HR4 := Lib.hid (HR3.out.upd hHeld (fun h => h))
                  clear hHeld hok hdd
                  go_wp2_with fail
                  refine ⟨⟨cn', Lib.hid ⟨HR4.out, HKE.out.drop 0 (by simp)⟩⟩, ?_⟩
                  rw [HR4.out.left_eq, hle]
                  exact hlt2
    · have HMN := Lib.hid (fun W => PL.pMay_no c hm W)
      clear hm
      go_enter Tryd.func3, Tryd.ntmps3
      go_wp2_with fail
      rw [HW0.out]
      refine (HMN.out W0).mono ?_
      rintro e w1 ⟨rfl, hu⟩
      have HS1 := Lib.hid (HS0.out.upd0 hu)
      clear hu
      go_wp2_with fail
      refine (works_is HS1.out HTB.out).mono ?_
      rintro e w9 ⟨rfl, hs⟩
      have HS9 := Lib.hid hs
      clear hs
      go_wp2
      go_ret
      exact ⟨rfl, HS9.out.below⟩
end
end Go.Proofs.YtlhbnndnkcpomaaDoor.HO
