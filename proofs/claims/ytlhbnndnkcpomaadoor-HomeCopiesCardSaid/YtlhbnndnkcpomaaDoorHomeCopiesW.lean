/- HomeCopies: what the Go function does. -/
import Derived.Test.YtlhbnndnkcpomaaDoorHomeWorks
set_option linter.unusedSimpArgs false
set_option linter.unusedVariables false
namespace Go.Proofs.YtlhbnndnkcpomaaDoor.HO
open Go.RowKit
open BU (IsU words)
open PL (Cfg CC CV May)
open ME (memO sl)
open ET (run_neq_entry)
attribute [local go_sem] Oper.semAt_some
attribute [local go_sem ↓] TNot.ld_eq TNot.st_eq TNot.al_eq TNot.bx_eq
attribute [local go_sem] TNot.al_run TNot.bx_run
section
variable {w0 W W' : World} {hb mb : Nat} {S : Hs} {L : List Obj}
abbrev RT : TypeId := 36
theorem infoR : (Tryd.prog.info? RT).map (fun i => (i.zero, i.size, i.bytes)) = some (some (.slice none 0 0), 1, 24) := by kernel_rfl
theorem s_app1 (h : Sep NoF w0 W L) (i : Nat) {v : Value} {n : Nat} {xs : List Value} (hi : L[i]? = some (rowO RT 1 v n xs)) (x : Value) (hx : x.oneCell' = true) (hm : n ≤ 65536) :
    ∃ v' W', (Builtin.append_ #[70, 70] 70 #[v, .slice (some ⟨W.heap.size, 0, none⟩) 1 1]).run Tryd.prog (W.alloc (.cells #[x] RT)) = .ok v' W' ∧ Sep NoF w0 W' (L.set i (rowO RT 1 v' (n + 1) (xs ++ [x]))) := by
  have h1 := h.upd0 (Upd.alloc NoF W (.cells #[x] RT))
  obtain ⟨F, hF, hS⟩ := h1.step i hi
  obtain ⟨i0, hi0, hz0, hz1, hz2⟩ := info_parts infoR
  have qx := (Blk.new W #[x] RT).whole
  obtain ⟨v9, w9, hrun, hrow9, hg, hf⟩ := run_append_row (P := Tryd.prog) (W.alloc (.cells #[x] RT)) 70 70 RT i0 (.slice none 0 0) 1 24 Tryd.underlying70 hi0 hz0 hz1 hz2 rfl (by decide) v n xs
    hF.1 ⟨W.heap.size, 0, none⟩ 1 1 [x] rfl (fun j u hu => by rw [Addr.add_lit]; simpa using qx j u hu) (fun u hu => by simp at hu; subst hu; exact hx) (by unfold maxLen; omega) (by omega)
  refine ⟨v9, w9, hrun, hS _ _ (Upd.grown (F := F) hg (fun k hk hlt => ⟨hF.2 k hk, hF.1.isCells k hk⟩)) ⟨hrow9, fun k hk => ?_⟩⟩
  rcases hf with e | ⟨g, e, hge⟩
  · rw [e] at hk; exact .inl (hF.2 k hk)
  · rw [e] at hk; cases hk; exact .inr hge
/-- No object. -/
def emptyO : Obj where
  is _ _ := True
  keep _ _ := trivial
  mono _ _ := trivial
  tight _ := ⟨fun _ => False, trivial, fun _ h => h.elim⟩
/-- Rows of notes that came out, one beside the other. -/
def outsF (V : Nat → Value) (O : Nat → List Nt) : Nat → Obj
  | 0 => emptyO
  | j + 1 => starO (outO (V j) (O j)) (outsF V O j)
theorem outs_ext {V V' : Nat → Value} {O : Nat → List Nt} : ∀ (j : Nat), (∀ i, i < j → V i = V' i) → outsF V O j = outsF V' O j
  | 0, _ => rfl
  | j + 1, h => by
    show starO _ _ = starO _ _
    rw [h j (Nat.lt_succ_self j), outs_ext j (fun i hi => h i (Nat.lt_succ_of_lt hi))]
theorem outs_row {V : Nat → Value} {O : Nat → List Nt} {F : Nat → Prop} : ∀ (j q : Nat) {F : Nat → Prop}, (outsF V O j).is W F → q < j → Row W NT 24 (V q) (O q).length (rowsOf ((O q).map Nt.cells)).flatten
  | 0, q, _, _, hq => by omega
  | j + 1, q, F, h, hq => by
    obtain ⟨F1, F2, _, _, _, h4, h5⟩ := h
    by_cases e : q = j
    · subst e; exact h4.1
    · exact outs_row (F := F) j q h5 (by omega)
/-- A home that goes on. -/
def stP (S : Hs) (N : Nat → Nt) : Nat → Hs
  | 0 => S
  | j + 1 => (takeP (stP S N j) (N j)).1
def outP (S : Hs) (N : Nat → Nt) (j : Nat) : List Nt := (takeP (stP S N j) (N j)).2.1
theorem range_upd (V : Nat → Value) (j : Nat) (v : Value) : (List.range (j + 1)).map (updG V j v) = (List.range j).map V ++ [v] := by
  rw [List.range_succ, List.map_append, List.map_cons, List.map_nil]
  congr 1
  · apply List.map_congr_left
    intro i hi
    have := List.mem_range.1 hi
    unfold updG; rw [if_neg (by omega)]
  · rw [show updG V j v j = v by unfold updG; simp]
set_option maxRecDepth 100000 in
set_option maxHeartbeats 3000000 in
theorem copies_any (c : Cfg) (a1 : Option Addr) (len1 cap1 : Nat) (N1 : Nat → Nt) (a2 : Option Addr) (len2 cap2 : Nat) (N2 : Nat → Nt) (w : World) (hT : Tab w) (h1 : IsRowN w a1 len1 cap1 N1) (h2 : IsRowN w a2 len2 cap2 N2) :
    Calls Tryd.prog 6 #[CV c, .slice a1 len1 cap1, .slice a2 len2 cap2] w fun e w' => e = .returned (.bool true) ∧ Below w.heap.size w w' := by
  have HC1 := Lib.hid (fun i (hi : i < len1) => h1.at hi)
  have HC2 := Lib.hid (fun i (hi : i < len2) => h2.at hi)
  obtain ⟨lc1, m1, _⟩ := h1
  obtain ⟨lc2, m2, _⟩ := h2
  unfold maxLen at m1 m2
  have HTB := Lib.hid hT
  obtain ⟨W0, hW0⟩ : ∃ W0, w.alloc (.cells (CC c) CT) = W0 := ⟨_, rfl⟩
  have HS0 : Hid (Sep NoF w W0 [boxO w.heap.size (CC c) CT]) := Lib.hid (by rw [← hW0]; exact (Sep.zero NoF w).alloc _ _)
  have HW0 := Lib.hid hW0
  clear hW0 hT
  by_cases g_len1 : 200 < len1
  · have hb_len1 : decide ((200 : Int) < (len1 : Int)) = true := by simp; omega
    go_enter Tryd.func6, Tryd.ntmps6
    go_wp2_with fail
    rw [HW0.out]
    refine (works_is HS0.out HTB.out).mono ?_
    rintro e w9 ⟨rfl, hs⟩
    have HS9 := Lib.hid hs
    clear hs
    go_wp2
    go_ret
    exact ⟨rfl, HS9.out.below⟩
  · have hb_len1 : decide ((200 : Int) < (len1 : Int)) = false := by simp; omega
    by_cases g_len2 : 200 < len2
    · have hb_len2 : decide ((200 : Int) < (len2 : Int)) = true := by simp; omega
      go_enter Tryd.func6, Tryd.ntmps6
      go_wp2_with fail
      rw [HW0.out]
      refine (works_is HS0.out HTB.out).mono ?_
      rintro e w9 ⟨rfl, hs⟩
      have HS9 := Lib.hid hs
      clear hs
      go_wp2
      go_ret
      exact ⟨rfl, HS9.out.below⟩
    · have hb_len2 : decide ((200 : Int) < (len2 : Int)) = false := by simp; omega
      by_cases hm : May c
      · have hmd := mul_data hm
        have HMY := Lib.hid (fun W => PL.pMay_yes c hm W)
        obtain ⟨B, hB⟩ : ∃ B : Nat, c.blocks = B := ⟨c.blocks.toNat, by omega⟩
        obtain ⟨D, hD⟩ : ∃ D : Nat, c.blocks - c.cores * c.logs = D := ⟨(c.blocks - c.cores * c.logs).toNat, by omega⟩
        have HME := Lib.hid (fun W => ME.new_ok B (by omega) (by omega) W)
        have HNW := Lib.hid (fun (mb' : Nat) (W : World) (L : List Obj) (h : Sep NoF w W (memO mb' B (fun _ => TBlk.Z) :: L)) => new_yes h c hm hB (fun _ => BU.isU_Z))
        have hDD : 1 ≤ D ∧ D ≤ 255 := by omega
        have hBB : 1 ≤ B ∧ B ≤ 256 := by omega
        have HMM := Lib.hid hm
        have HDD := Lib.hid (And.intro hD hB)
        clear hmd hm hD hB
        go_enter Tryd.func6, Tryd.ntmps6
        go_wp2_with fail
        rw [HW0.out]
        refine (HMY.out W0).mono ?_
        rintro e w1 ⟨rfl, hu⟩
        have HS1 := Lib.hid (HS0.out.upd0 hu)
        clear hu
        obtain ⟨cb, hcb⟩ : ∃ x, w.heap.size = x := ⟨_, rfl⟩
        rw [hcb] at HS1 ⊢
        obtain ⟨k0, k1, k2, k3, k4, k5, k6, k7⟩ : (w1.cell? ⟨cb, 0, none⟩ = some (.int .i64 c.cores) ∧ w1.cell? ⟨cb, 1, none⟩ = some (.int .i64 c.sets) ∧ w1.cell? ⟨cb, 2, none⟩ = some (.int .i64 c.ways) ∧ w1.cell? ⟨cb, 3, none⟩ = some (.int .i64 c.blocks) ∧ w1.cell? ⟨cb, 4, none⟩ = some (.int .i64 c.logs) ∧ w1.cell? ⟨cb, 5, none⟩ = some (.int .i64 c.backs) ∧ w1.cell? ⟨cb, 6, none⟩ = some (.int .i64 c.nest) ∧ w1.cell? ⟨cb, 7, none⟩ = some (.int .i64 c.tries)) := ⟨(HS1.out.box 0 rfl).cell 0, (HS1.out.box 0 rfl).cell 1, (HS1.out.box 0 rfl).cell 2, (HS1.out.box 0 rfl).cell 3, (HS1.out.box 0 rfl).cell 4, (HS1.out.box 0 rfl).cell 5, (HS1.out.box 0 rfl).cell 6, (HS1.out.box 0 rfl).cell 7⟩
        rw [HDD.out.2] at k3
        go_wp2_with fail
        refine (HME.out _).mono ?_
        rintro e w2 ⟨mb, rfl, hu, hmo⟩
        have HS2 := Lib.hid (HS1.out.push hu hmo)
        clear hu hmo k0 k1 k2 k3 k4 k5 k6 k7
        obtain ⟨k0, k1, k2, k3, k4, k5, k6, k7⟩ : (w2.cell? ⟨cb, 0, none⟩ = some (.int .i64 c.cores) ∧ w2.cell? ⟨cb, 1, none⟩ = some (.int .i64 c.sets) ∧ w2.cell? ⟨cb, 2, none⟩ = some (.int .i64 c.ways) ∧ w2.cell? ⟨cb, 3, none⟩ = some (.int .i64 c.blocks) ∧ w2.cell? ⟨cb, 4, none⟩ = some (.int .i64 c.logs) ∧ w2.cell? ⟨cb, 5, none⟩ = some (.int .i64 c.backs) ∧ w2.cell? ⟨cb, 6, none⟩ = some (.int .i64 c.nest) ∧ w2.cell? ⟨cb, 7, none⟩ = some (.int .i64 c.tries)) := ⟨(HS2.out.box 1 rfl).cell 0, (HS2.out.box 1 rfl).cell 1, (HS2.out.box 1 rfl).cell 2, (HS2.out.box 1 rfl).cell 3, (HS2.out.box 1 rfl).cell 4, (HS2.out.box 1 rfl).cell 5, (HS2.out.box 1 rfl).cell 6, (HS2.out.box 1 rfl).cell 7⟩
        go_wp2_with fail
        refine (HNW.out _ _ _ HS2.out).mono ?_
        rintro e w3 ⟨hb, rfl, hs⟩
        have HS3 := Lib.hid hs
        clear hs k0 k1 k2 k3 k4 k5 k6 k7
        go_wp2_with fail
        go_loopw [57] (fun i wr => ∃ (k : Nat) (S : Hs), k ≤ len1 ∧ i = .int .i64 k ∧ Hid (Sep NoF w wr [homeO hb mb S, boxO cb (CC c) CT])) (fun i _ => len1 - (intOf i).toNat)
        case atStart => exact ⟨0, _, Nat.zero_le _, rfl, HS3.out⟩
        case round =>
          obtain ⟨k, S, hk, rfl, HI⟩ := hrel
          by_cases hlt : k < len1
          · obtain ⟨hok, x, g, q, rfl, hxa, hgl, hrg⟩ := HC1.out k hlt
            have HOK := Lib.hid hok
            have hrw : wr.rangeAt g q (N1 k).cells.toList := fun j v hv => (HI.out).old (hrg j v hv)
            have hrw2 : (wr.alloc (.cells TNot.Z 47)).rangeAt g q (N1 k).cells.toList := World.rangeAt_alloc hrw _
            generalize N1 k = n at *
            have l1 := TNot.ld_at (Nt.Ok.isN HOK.out.isU) hrw
            have l2 := TNot.ld_at (Nt.Ok.isN HOK.out.isU) hrw2
            have s1 := TNot.st_new (Nt.Ok.isN HOK.out.isU) wr
            have hs5 := (HI.out).alloc n.cells NT
            obtain ⟨V, hV⟩ : ∃ W, wr.alloc (.cells n.cells NT) = W := ⟨_, rfl⟩
            obtain ⟨nb, hnb⟩ : ∃ b, wr.heap.size = b := ⟨_, rfl⟩
            rw [hV, hnb] at hs5
            have HS5 := Lib.hid hs5
            have HV := Lib.hid (And.intro hV hnb)
            clear hV hs5 hok hrw hrw2 hrg hnb
            go_upto_region 10 with fail
            rw [HV.out.1, HV.out.2]
            clear l1 l2 s1 HV
            have l9 := TNot.ld_at (Nt.Ok.isN HOK.out.isU) (HS5.out.box 0 rfl).whole
            have htk := take_is (Sep.pick HS5.out 1 rfl) HTB.out n HOK.out
            obtain ⟨er, her⟩ : ∃ x, (takeP S n).2.2 = x := ⟨_, rfl⟩
            rw [her] at htk
            have HTK := Lib.hid htk
            clear htk her HI
            go_wp2_with fail
            refine HTK.out.mono ?_
            rintro e w9 ⟨v, rfl, hs⟩
            have HS9 := Lib.hid hs
            clear hs l9
            go_wp2_with fail
            exact ⟨⟨k + 1, _, by omega, by go_num, (HS9.out.drop 0 (by simp)).drop 1 (by simp)⟩, by simp [intOf]; omega⟩
          · obtain rfl : len1 = k := by omega
            have HCP := Lib.hid (copy_is HI.out)
            clear HI
            go_wp2_with fail
            refine HCP.out.mono ?_
            rintro e w5 ⟨hb2, mb2, rfl, hs⟩
            have HS5 : Hid (Sep NoF w w5 [rowO RT 1 (.slice none 0 0) 0 ((List.range 0).map (fun _ => Value.slice none 0 0)), outsF (fun _ => Value.slice none 0 0) (outP S N2) 0, homeO hb2 mb2 (stP S N2 0), homeO hb mb S, boxO cb (CC c) CT]) :=
              Lib.hid ((hs.push (Φ := emptyO) (Upd.refl NoF w5) trivial).push (Upd.refl NoF w5) ⟨Row.nil _ _ _, fun k hk => by simp [Value.ownBlock] at hk⟩)
            clear hs
            go_wp2_with fail
            obtain ⟨wq, rfl⟩ : ∃ x, x = wr := ⟨_, rfl⟩
            go_loopw [14, 69] (fun tv i wr => ∃ (j : Nat) (wv : Value) (V : Nat → Value), j ≤ len2 ∧ i = .int .i64 j ∧ wv = tv ∧ Hid (Sep NoF w wr [rowO RT 1 wv j ((List.range j).map V), outsF V (outP S N2) j, homeO hb2 mb2 (stP S N2 j), homeO hb mb S, boxO cb (CC c) CT])) (fun _ i _ => len2 - (intOf i).toNat)
            case atStart => exact ⟨0, _, _, Nat.zero_le _, rfl, rfl, HS5.out⟩
            case round =>
              obtain ⟨j, wv, V9, hj, rfl, rfl, HI⟩ := hrel
              by_cases hlt : j < len2
              · obtain ⟨hok, x, g, q, rfl, hxa, hgl, hrg⟩ := HC2.out j hlt
                have HOK := Lib.hid hok
                have hrw : wr.rangeAt g q (N2 j).cells.toList := fun j v hv => (HI.out).old (hrg j v hv)
                have hrw2 : (wr.alloc (.cells TNot.Z 47)).rangeAt g q (N2 j).cells.toList := World.rangeAt_alloc hrw _
                obtain ⟨n, hn⟩ : ∃ n, N2 j = n := ⟨_, rfl⟩
                rw [hn] at HOK hrw hrw2
                have l1 := TNot.ld_at (Nt.Ok.isN HOK.out.isU) hrw
                have l2 := TNot.ld_at (Nt.Ok.isN HOK.out.isU) hrw2
                have s1 := TNot.st_new (Nt.Ok.isN HOK.out.isU) wr
                have hs5 := (HI.out).alloc n.cells NT
                obtain ⟨V, hV⟩ : ∃ W, wr.alloc (.cells n.cells NT) = W := ⟨_, rfl⟩
                obtain ⟨nb, hnb⟩ : ∃ b, wr.heap.size = b := ⟨_, rfl⟩
                rw [hV, hnb] at hs5
                have HS5 := Lib.hid hs5
                have HV := Lib.hid (And.intro hV hnb)
                clear hV hs5 hok hrw hrw2 hrg hnb
                go_upto_region 17 with fail
                rw [HV.out.1, HV.out.2]
                clear l1 l2 s1 HV
                have l9 := TNot.ld_at (Nt.Ok.isN HOK.out.isU) (HS5.out.box 0 rfl).whole
                have htk := take_is (Sep.pick HS5.out 3 rfl) HTB.out n HOK.out
                obtain ⟨er, her⟩ : ∃ x, (takeP (stP S N2 j) n).2.2 = x := ⟨_, rfl⟩
                rw [her] at htk
                rw [← hn] at htk
                change Calls _ _ _ _ (fun e W' => ∃ v, e = .returned (.tuple #[v, .int .i64 er]) ∧ Sep NoF w W' (outO v (outP S N2 j) :: homeO hb2 mb2 (stP S N2 (j + 1)) :: _)) at htk
                rw [hn] at htk
                have HTK := Lib.hid htk
                clear htk her hn HI
                go_wp2_with fail
                refine HTK.out.mono ?_
                rintro e w9 ⟨v, rfl, hs⟩
                have hs9 : Sep NoF w w9 [outO v (outP S N2 j), homeO hb2 mb2 (stP S N2 (j + 1)), boxO nb n.cells NT, rowO RT 1 wv j ((List.range j).map V9), outsF V9 (outP S N2) j, homeO hb mb S, boxO cb (CC c) CT] := hs
                obtain ⟨av, cv, rfl, -, -, -⟩ := (hs9.row 0 rfl).slice
                obtain ⟨v', w10, hrun, hs10⟩ := s_app1 hs9 3 rfl (.slice av (outP S N2 j).length cv) rfl (by omega)
                have e1 : outsF V9 (outP S N2) j = outsF (updG V9 j (.slice av (outP S N2 j).length cv)) (outP S N2) j := outs_ext j (fun i hi => by unfold updG; rw [if_neg (by omega)])
                have hs11 : Sep NoF w w10 [outO (.slice av (outP S N2 j).length cv) (outP S N2 j), homeO hb2 mb2 (stP S N2 (j + 1)), boxO nb n.cells NT, rowO RT 1 v' (j + 1) ((List.range (j + 1)).map (updG V9 j (.slice av (outP S N2 j).length cv))), outsF (updG V9 j (.slice av (outP S N2 j).length cv)) (outP S N2) j, homeO hb mb S, boxO cb (CC c) CT] := by
                  rw [range_upd, ← e1]; exact hs10
                have hs12 : Sep NoF w w10 [outsF (updG V9 j (.slice av (outP S N2 j).length cv)) (outP S N2) (j + 1), homeO hb2 mb2 (stP S N2 (j + 1)), boxO nb n.cells NT, rowO RT 1 v' (j + 1) ((List.range (j + 1)).map (updG V9 j (.slice av (outP S N2 j).length cv))), homeO hb mb S, boxO cb (CC c) CT] := by
                  have e2 : outO (.slice av (outP S N2 j).length cv) (outP S N2 j) = outO (updG V9 j (.slice av (outP S N2 j).length cv) j) (outP S N2 j) := by rw [show updG V9 j (.slice av (outP S N2 j).length cv) j = (.slice av (outP S N2 j).length cv) by unfold updG; simp]
                  rw [e2] at hs11
                  exact (Sep.pick hs11 4 rfl).swap.unstar
                have HS12 : Hid (Sep NoF w w10 [rowO RT 1 v' (j + 1) ((List.range (j + 1)).map (updG V9 j (.slice av (outP S N2 j).length cv))), outsF (updG V9 j (.slice av (outP S N2 j).length cv)) (outP S N2) (j + 1), homeO hb2 mb2 (stP S N2 (j + 1)), homeO hb mb S, boxO cb (CC c) CT]) := Lib.hid (Sep.pick (hs12.drop 2 (by simp)) 2 rfl)
                have HR := Lib.hid hrun
                clear hs hs9 hs10 hs11 hs12 hrun e1 l9
                go_wp2_with (at_builtin; refine wpList_append_run (w := w9.alloc (.cells #[(.slice av (outP S N2 j).length cv)] RT)) rfl _ _ 70 rfl rfl rfl HR.out ?_)
                exact ⟨⟨j + 1, v', updG V9 j (.slice av (outP S N2 j).length cv), by omega, by go_num, rfl, HS12.out⟩, by simp [intOf]; omega⟩
              · obtain rfl : len2 = j := by omega
                have HS8' := Lib.hid HI.out
                clear HI
                obtain ⟨a9, cap9, rfl, hn9, hm9, -⟩ := (HS8'.out.row 0 rfl).slice
                unfold maxLen at hm9
                have HS8 := HS8'
                clear HS8' hlt hj
                go_wp2_with fail
                obtain ⟨wq2, rfl⟩ : ∃ x, x = wr := ⟨_, rfl⟩
                go_loopw [86] (fun i wr => ∃ (j : Nat), j ≤ len2 ∧ i = .int .i64 j ∧ Hid (Sep NoF w wr [rowO RT 1 (.slice a9 len2 cap9) len2 ((List.range len2).map V9), outsF V9 (outP S N2) len2, homeO hb2 mb2 (stP S N2 len2), homeO hb mb (stP S N2 j), boxO cb (CC c) CT])) (fun i _ => len2 - (intOf i).toNat)
                case atStart => exact ⟨0, Nat.zero_le _, rfl, HS8.out⟩
                case round =>
                  obtain ⟨j, hj, rfl, HI⟩ := hrel
                  by_cases hlt : j < len2
                  · obtain ⟨hok, x, g, q, rfl, hxa, hgl, hrg⟩ := HC2.out j hlt
                    have HOK := Lib.hid hok
                    have hrw : wr.rangeAt g q (N2 j).cells.toList := fun j v hv => (HI.out).old (hrg j v hv)
                    have hrw2 : (wr.alloc (.cells TNot.Z 47)).rangeAt g q (N2 j).cells.toList := World.rangeAt_alloc hrw _
                    obtain ⟨n, hn⟩ : ∃ n, N2 j = n := ⟨_, rfl⟩
                    rw [hn] at HOK hrw hrw2
                    have l1 := TNot.ld_at (Nt.Ok.isN HOK.out.isU) hrw
                    have l2 := TNot.ld_at (Nt.Ok.isN HOK.out.isU) hrw2
                    have s1 := TNot.st_new (Nt.Ok.isN HOK.out.isU) wr
                    have hs5 := (HI.out).alloc n.cells NT
                    obtain ⟨V, hV⟩ : ∃ W, wr.alloc (.cells n.cells NT) = W := ⟨_, rfl⟩
                    obtain ⟨nb, hnb⟩ : ∃ b, wr.heap.size = b := ⟨_, rfl⟩
                    rw [hV, hnb] at hs5
                    have HS5 := Lib.hid hs5
                    have HV := Lib.hid (And.intro hV hnb)
                    clear hV hs5 hok hrw hrw2 hrg hnb
                    go_upto_region 23 with fail
                    rw [HV.out.1, HV.out.2]
                    clear l1 l2 s1 HV
                    have l9 := TNot.ld_at (Nt.Ok.isN HOK.out.isU) (HS5.out.box 0 rfl).whole
                    have htk := take_is (Sep.pick HS5.out 4 rfl) HTB.out n HOK.out
                    obtain ⟨F0, hF0⟩ := HS5.out.has 4 rfl
                    have hnu := take_isU (home_good hF0) HOK.out
                    obtain ⟨er, her⟩ : ∃ x, (takeP (stP S N2 j) n).2.2 = x := ⟨_, rfl⟩
                    rw [her] at htk
                    rw [← hn] at htk hnu
                    change Calls _ _ _ _ (fun e W' => ∃ v, e = .returned (.tuple #[v, .int .i64 er]) ∧ Sep NoF w W' (outO v (outP S N2 j) :: homeO hb mb (stP S N2 (j + 1)) :: _)) at htk
                    change ∀ m ∈ outP S N2 j, IsU m.D at hnu
                    rw [hn] at htk
                    have HTK := Lib.hid htk; have HNU := Lib.hid hnu
                    clear htk hnu her hF0 hn HI
                    go_wp2_with fail
                    refine HTK.out.mono ?_
                    rintro e w9 ⟨v, rfl, hs⟩
                    have HS9 : Hid (Sep NoF w w9 [outO v (outP S N2 j), homeO hb mb (stP S N2 (j + 1)), boxO nb n.cells NT, rowO RT 1 (.slice a9 len2 cap9) len2 ((List.range len2).map V9), outsF V9 (outP S N2) len2, homeO hb2 mb2 (stP S N2 len2), boxO cb (CC c) CT]) := Lib.hid hs
                    clear hs l9
                    obtain ⟨F4, hF4⟩ := HS9.out.has 4 rfl
                    have HEQ := Lib.hid (NQ.equal_same w9 v (V9 j) _ HNU.out (HS9.out.row 0 rfl) (outs_row (F := F4) len2 j hF4 hlt))
                    clear hF4
                    have hrow := HS9.out.row 3 rfl
                    obtain ⟨g9, hg9, hcl⟩ : ∃ g, a9 = some ⟨g, 0, none⟩ ∧ w9.cell? ⟨g, j, none⟩ = some (V9 j) := by
                      obtain ⟨a', cap', he, _, _, hnil⟩ := hrow.slice
                      cases he
                      cases a9 with
                      | none => have := (hnil rfl).1; omega
                      | some a9 =>
                        obtain ⟨⟨g, rfl⟩, hcell⟩ := hrow.cells
                        exact ⟨g, rfl, by have := hcell j (V9 j) (by simp [hlt]); simpa using this⟩
                    subst hg9
                    clear hrow
                    go_wp2_with fail
                    refine HEQ.out.mono ?_
                    rintro e w10 ⟨rfl, hu⟩
                    have HS10 := Lib.hid (HS9.out.upd0 hu)
                    clear hu hcl
                    go_wp2_with fail
                    exact ⟨⟨j + 1, by omega, by go_num, ((HS10.out.drop 0 (by simp)).drop 1 (by simp)).sink 3⟩, by simp [intOf]; omega⟩
                  · obtain rfl : len2 = j := by omega
                    have HS12 := Lib.hid HI.out
                    clear HI
                    go_wp2_with fail
                    refine (waits_at HS12.out 3 rfl rfl).mono ?_
                    rintro e w10 ⟨rfl, rfl⟩
                    go_wp2_with fail
                    refine (waits_at HS12.out 2 rfl rfl).mono ?_
                    rintro e w11 ⟨rfl, rfl⟩
                    have hqq : (((stP S N2 len2).Q.length : Int) == ((stP S N2 len2).Q.length : Int)) = true := by simp
                    go_wp2_with fail
                    refine (works_is HS12.out HTB.out).mono ?_
                    rintro e w9 ⟨rfl, hs⟩
                    have HS9 := Lib.hid hs
                    clear hs
                    go_wp2
                    go_ret
                    exact ⟨rfl, HS9.out.below⟩
      · have HMN := Lib.hid (fun W => PL.pMay_no c hm W)
        clear hm
        go_enter Tryd.func6, Tryd.ntmps6
        go_wp2_with fail
        rw [HW0.out]
        refine (HMN.out W0).mono ?_
        rintro e w1 ⟨rfl, hu⟩
        have HS1 := Lib.hid (HS0.out.upd0 hu)
        clear hu
        go_wp2_with fail
        refine (works_is HS1.out HTB.out).mono ?_
        rintro e w9 ⟨rfl, hs⟩
        have HS9 := Lib.hid hs
        clear hs
        go_wp2
        go_ret
        exact ⟨rfl, HS9.out.below⟩
end
end Go.Proofs.YtlhbnndnkcpomaaDoor.HO
