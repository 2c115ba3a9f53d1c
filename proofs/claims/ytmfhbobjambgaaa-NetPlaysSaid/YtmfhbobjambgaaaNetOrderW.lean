/- NetOrder: what the Go function does. -/
import Derived.Test.YtmfhbobjambgaaaNetWorks
import Derived.Test.YtmfhbobjambgaaaRowN
set_option linter.unusedSimpArgs false
set_option linter.unusedVariables false
namespace Go.Proofs.Ytmfhbobjambgaaa.NE
open Go.RowKit
open BU (IsU words)
open PL (Cfg CC CV May)
open GR (hopsN)
attribute [local go_sem] Oper.semAt_some
attribute [local go_sem ↓] eqN_eq neN_eq eqB_eq neB_eq TNot.ld_eq TNot.st_eq TNot.al_eq TNot.bx_eq
attribute [local go_sem] TNot.al_run TNot.bx_run
abbrev noteO (b : Nat) (n : Nt) : Obj := boxO b n.cells 37
abbrev cfgO (b : Nat) (c : Cfg) : Obj := boxO b (CC c) 23
abbrev notesO (v : Value) (ns : List Nt) : Obj := rowO 37 24 v ns.length (rowsOf (ns.map Nt.cells)).flatten
theorem s_app {G : Nat → Prop} {w0 W : World} {L : List Obj} (h : Sep G w0 W L) (i : Nat) {v : Value} {ns : List Nt} (hi : L[i]? = some (notesO v ns)) (n : Nt) (hn : IsU n.D) (hm : ns.length ≤ 65536) :
    ∃ v' W', (Builtin.append_ #[24, 24] 24 #[v, .slice (some ⟨W.heap.size, 0, none⟩) 1 1]).run Try.prog (W.alloc (.cells n.cells 37)) = .ok v' W' ∧ Sep G w0 W' (L.set i (notesO v' (ns ++ [n]))) := by
  have h1 := h.upd0 (Upd.alloc NoF W (.cells n.cells 37))
  obtain ⟨F, hF, hS⟩ := h1.step i hi
  have hz := Nt.Ok.isN hn
  obtain ⟨i0, hi0, hz0, hz1, hz2⟩ := info_parts PN.infoE
  have qx := (Blk.new W n.cells 37).whole
  obtain ⟨v9, w9, hrun, hrow9, hg, hf⟩ := run_append_row (P := Try.prog) (W.alloc (.cells n.cells 37)) 24 24 37 i0 (.agg TNot.Z) 24 112 Try.underlying24 hi0 hz0 hz1 hz2 PN.zsize (by decide) v ns.length (rowsOf (ns.map Nt.cells)).flatten
    hF.1 ⟨W.heap.size, 0, none⟩ 1 1 n.cells.toList (by simp [hz.1]) (fun j u hu => by rw [Addr.add_lit]; simpa using qx j u hu) (fun u hu => hz.2 u (by simpa using hu)) (by unfold maxLen; omega) (by omega)
  refine ⟨v9, w9, hrun, hS _ _ (Upd.grown (F := F) hg (fun k hk hlt => ⟨hF.2 k hk, hF.1.isCells k hk⟩)) ⟨?_, fun k hk => ?_⟩⟩
  · have e : (rowsOf ((ns ++ [n]).map Nt.cells)).flatten = (rowsOf (ns.map Nt.cells)).flatten ++ n.cells.toList := by simp [rowsOf]
    rw [e, List.length_append]
    exact hrow9
  · rcases hf with e | ⟨g, e, hge⟩
    · rw [e] at hk; exact .inl (hF.2 k hk)
    · rw [e] at hk; cases hk; exact .inr hge
theorem s_row {W : World} {v : Value} {ns : List Nt} (h : Row W 37 24 v ns.length (rowsOf (ns.map Nt.cells)).flatten) (hN : ∀ n ∈ ns, n.Ok) :
    ∃ a cap, v = .slice a ns.length cap ∧ ns.length ≤ cap ∧ cap ≤ maxLen ∧ ∀ k n, ns[k]? = some n → ∃ g, a = some ⟨g, 0, none⟩ ∧ W.rangeAt g (k * 24) n.cells.toList := by
  obtain ⟨a, cap, rfl, hn, hm, hnil⟩ := h.slice
  refine ⟨a, cap, rfl, hn, hm, fun k n hk => ?_⟩
  have hkl : k < ns.length := (List.getElem?_eq_some_iff.1 hk).1
  cases a with
  | none => have := (hnil rfl).1; omega
  | some a =>
    obtain ⟨⟨g, rfl⟩, hcell⟩ := h.cells
    refine ⟨g, rfl, fun j v hv => ?_⟩
    have := hcell (k * 24 + j) v (flat_get (zs := ns.map Nt.cells) (fun x hx => by obtain ⟨m, hm, rfl⟩ := List.mem_map.1 hx; exact Nt.Ok.isN (hN m hm).isU) (by rw [List.getElem?_map, hk]; rfl) j v hv)
    simpa using this
set_option maxRecDepth 100000 in
set_option maxHeartbeats 4000000 in
theorem order_any (c : Cfg) (a1 : Option Addr) (len1 cap1 : Nat) (N : Nat → Nt) (w : World) (h1 : IsRowN w a1 len1 cap1 N) :
    Calls Try.prog 5 #[CV c, .slice a1 len1 cap1] w fun e w' => e = .returned (.bool true) ∧ Below w.heap.size w w' := by
  have HC1 := Lib.hid (fun i (hi : i < len1) => h1.at hi)
  obtain ⟨lc1, m1, _⟩ := h1
  unfold maxLen at m1
  obtain ⟨W0, hW0⟩ : ∃ W0, w.alloc (.cells (CC c) 23) = W0 := ⟨_, rfl⟩
  have HS0 : Hid (Sep NoF w W0 [cfgO w.heap.size c]) := Lib.hid (by rw [← hW0]; exact (Sep.zero NoF w).alloc _ _)
  have HW0 := Lib.hid hW0
  clear hW0
  by_cases g1 : 100 < len1
  · have hb1 : decide ((100 : Int) < (len1 : Int)) = true := by simp; omega
    go_enter Try.func5, Try.ntmps5
    go_wp2_with fail
    rw [HW0.out]
    refine (works_any _).mono ?_
    rintro e w9 ⟨rfl, hu⟩
    have HS9 := Lib.hid (HS0.out.upd0 hu)
    clear hu
    go_wp2
    go_ret
    exact ⟨rfl, HS9.out.below⟩
  · have hb1 : decide ((100 : Int) < (len1 : Int)) = false := by simp; omega
    by_cases hm : May c
    · have hcc : c.cores ≤ 16 := hm.1.2
      have HN := Lib.hid (new_yes c hm 200 (by decide) (by decide))
      have HM := Lib.hid hm
      have I0 := Lib.hid (InvT.nil c 200 (by decide))
      clear hm
      go_enter Try.func5, Try.ntmps5
      go_wp2_with fail
      rw [HW0.out]
      refine (HN.out W0).mono ?_
      rintro e w2 ⟨tb, rfl, hu, ht⟩
      have HS2 : Hid (Sep NoF w w2 [notesO (.slice none 0 0) [], To tb c 200 [] 0, cfgO w.heap.size c]) := Lib.hid ((HS0.out.push hu ht).push (Upd.refl _ _) ⟨Row.nil _ _ _, fun k hk => by simp [Value.ownBlock] at hk⟩)
      clear hu ht
      obtain ⟨cb, hcb⟩ : ∃ cb, w.heap.size = cb := ⟨_, rfl⟩
      rw [hcb] at HS2 ⊢
      go_wp2_with fail
      go_loopw [7, 28] (fun tv i wr => ∃ (k : Nat) (ns : List Nt) (sv : Value), k ≤ len1 ∧ i = .int .i64 k ∧ sv = tv ∧ Hid (InvT c 200 ns ∧ ns.length ≤ k ∧ Sep NoF w wr [notesO sv ns, To tb c 200 ns 0, cfgO cb c])) (fun _ i _ => len1 - (intOf i).toNat)
      case atStart => exact ⟨0, [], _, Nat.zero_le _, rfl, rfl, I0.out, Nat.le_refl _, HS2.out⟩
      case round =>
        obtain ⟨k, ns, sv, hk, rfl, rfl, HI⟩ := hrel
        by_cases hlt : k < len1
        · obtain ⟨hok, x, g, q, rfl, hxa, hgl, hrg⟩ := HC1.out k hlt
          have HOK := Lib.hid hok
          have hrw : wr.rangeAt g q (N k).cells.toList := fun j v hv => HI.out.2.2.old (hrg j v hv)
          have hrw2 : (wr.alloc (.cells TNot.Z 37)).rangeAt g q (N k).cells.toList := World.rangeAt_alloc hrw _
          generalize N k = n at *
          have l1 := TNot.ld_at (Nt.Ok.isN HOK.out.isU) hrw
          have l2 := TNot.ld_at (Nt.Ok.isN HOK.out.isU) hrw2
          have s1 := TNot.st_new (Nt.Ok.isN HOK.out.isU) wr
          obtain ⟨w5, hw5⟩ : ∃ W, wr.alloc (.cells n.cells 37) = W := ⟨_, rfl⟩
          have HS5 : Hid (Sep NoF w w5 [noteO wr.heap.size n, notesO sv ns, To tb c 200 ns 0, cfgO cb c]) := Lib.hid (by rw [← hw5]; exact HI.out.2.2.alloc _ _)
          have HV := Lib.hid HI.out.1; have HL := Lib.hid HI.out.2.1
          have HW5 := Lib.hid hw5
          clear hw5 HI hok hrw hrw2 hrg
          go_upto_region 10 with fail
          rw [HW5.out]
          clear HW5 l1 l2 s1
          obtain ⟨nb, hnb⟩ : ∃ b, wr.heap.size = b := ⟨_, rfl⟩
          rw [hnb] at HS5 ⊢
          clear hnb
          have l9 := TNot.ld_at (Nt.Ok.isN HOK.out.isU) (HS5.out.box 0 rfl).whole
          have hsd := s_send HS5.out 2 rfl HM.out HV.out (by decide) n HOK.out
          have hv2 := HV.out.send hcc HOK.out
          by_cases he : sendE c 200 ns n = 0
          · have es : sendS c 200 ns n = ns ++ [n] := by unfold sendS; rw [if_pos he]
            rw [he, es] at hsd
            rw [es] at hv2
            have HSD := Lib.hid hsd; have HV2 := Lib.hid hv2
            clear hsd hv2 he es
            go_wp2_with fail
            refine HSD.out.mono ?_
            rintro e w6 ⟨rfl, hs⟩
            have HS6 : Hid (Sep NoF w w6 [noteO nb n, notesO sv ns, To tb c 200 (ns ++ [n]) 0, cfgO cb c]) := Lib.hid hs
            clear hs
            have l9b := TNot.ld_at (Nt.Ok.isN HOK.out.isU) (HS6.out.box 0 rfl).whole
            have e2 := PN.fold_x (Nt.Ok.isN HOK.out.isU)
            have e3 := (Nt.Ok.isN HOK.out.isU).1
            obtain ⟨v', w7, hrun, hs7⟩ := s_app HS6.out 1 rfl n HOK.out.isU (by have := HL.out; omega)
            have HR := Lib.hid hrun
            have HS7 : Hid (Sep NoF w w7 [notesO v' (ns ++ [n]), To tb c 200 (ns ++ [n]) 0, cfgO cb c]) := Lib.hid (hs7.drop 0 (Nat.succ_pos _))
            clear hrun hs7
            go_wp2_with (at_builtin; refine wpList_append_run (w := w6.alloc (.cells n.cells 37)) rfl _ _ 24 rfl rfl rfl HR.out ?_)
            exact ⟨⟨k + 1, ns ++ [n], v', by omega, by go_num, rfl, HV2.out, by have := HL.out; rw [List.length_append]; simp; omega, HS7.out⟩, by simp [intOf]; omega⟩
          · have es : sendS c 200 ns n = ns := by unfold sendS; rw [if_neg he]
            have heb : (sendE c 200 ns n == 0) = false := by simpa using he
            rw [es] at hsd
            generalize sendE c 200 ns n = ee at *
            have HSD := Lib.hid hsd
            clear hsd hv2 he es
            go_wp2_with fail
            refine HSD.out.mono ?_
            rintro e w6 ⟨rfl, hs⟩
            have HS6 : Hid (Sep NoF w w6 [notesO sv ns, To tb c 200 ns 0, cfgO cb c]) := Lib.hid (hs.drop 0 (Nat.succ_pos _))
            clear hs
            go_wp2_with fail
            exact ⟨⟨k + 1, ns, sv, by omega, by go_num, rfl, HV.out, by have := HL.out; omega, HS6.out⟩, by simp [intOf]; omega⟩
        · obtain rfl : len1 = k := by omega
          have HV := Lib.hid HI.out.1
          have HL := Lib.hid HI.out.2.1
          have HS := Lib.hid HI.out.2.2
          clear HI
          obtain ⟨a, cap, rfl, hnc, hcm, hcell⟩ := s_row (HS.out.row 0 rfl) HV.out.ok
          unfold maxLen at hcm
          clear hcell
          have h100 : ns.length ≤ 100 := by have := HL.out; omega
          obtain ⟨wq, rfl⟩ : ∃ x, x = wr := ⟨_, rfl⟩
          go_wp2_with fail
          go_loopw [43] (fun i wr => ∃ (j : Nat), j ≤ ns.length ∧ i = .int .i64 j ∧ Hid (InvT c 200 (ns.drop j) ∧ ∃ hops : Int, 0 ≤ hops ∧ hops ≤ 8 * j ∧ Sep NoF w wr [notesO (.slice a ns.length cap) ns, To tb c 200 (ns.drop j) hops, cfgO cb c])) (fun i _ => ns.length - (intOf i).toNat)
          case atStart => exact ⟨0, Nat.zero_le _, rfl, HV.out, 0, by omega, by omega, HS.out⟩
          case round =>
            obtain ⟨j, hj, rfl, HI⟩ := hrel
            obtain ⟨hvj, hops, hp0, hp1, hsj⟩ := HI.out
            have HVj := Lib.hid hvj; have HSj := Lib.hid hsj
            clear hvj hsj HI
            by_cases hjl : j < ns.length
            · obtain ⟨n, hn⟩ : ∃ n, ns[j]? = some n := ⟨_, List.getElem?_eq_getElem hjl⟩
              have hok := HV.out.ok n (List.mem_of_getElem? hn)
              have HOK := Lib.hid hok
              obtain ⟨a2, cap2, hae, _, _, hcell⟩ := s_row (HSj.out.row 0 rfl) HV.out.ok
              cases hae
              obtain ⟨g, rfl, hrg⟩ := hcell j n hn
              have hd0 : (ns.drop j)[0]? = some n := by rw [List.getElem?_drop]; simpa using hn
              have hde : (ns.drop j).eraseIdx 0 = ns.drop (j + 1) := by
                rw [List.drop_eq_getElem_cons hjl]; rfl
              have hhb := hopsN_le (fits_may (HV.out.fit n (List.mem_of_getElem? hn)))
              have hv1 := HVj.out.erase 0
              rw [hde] at hv1
              have HV1 := Lib.hid hv1
              have l1 := TNot.ld_at (Nt.Ok.isN HOK.out.isU) hrg
              have l2 := TNot.ld_at (Nt.Ok.isN HOK.out.isU) (World.rangeAt_alloc hrg (.cells TNot.Z 37))
              have s1 := TNot.st_new (Nt.Ok.isN HOK.out.isU) wr
              obtain ⟨w5, hw5⟩ : ∃ W, wr.alloc (.cells n.cells 37) = W := ⟨_, rfl⟩
              have HS5 : Hid (Sep NoF w w5 [noteO wr.heap.size n, notesO (.slice (some ⟨g, 0, none⟩) ns.length cap) ns, To tb c 200 (ns.drop j) hops, cfgO cb c]) := Lib.hid (by rw [← hw5]; exact HSj.out.alloc _ _)
              have HW5 := Lib.hid hw5
              clear hw5 hok hcell hrg hv1 hn
              go_upto_region 16 with fail
              rw [HW5.out]
              clear HW5 l1 l2 s1
              obtain ⟨nb, hnb⟩ : ∃ b, wr.heap.size = b := ⟨_, rfl⟩
              rw [hnb] at HS5 ⊢
              clear hnb
              have htk := s_take HS5.out 2 rfl hcc HVj.out (by decide) hp0 (by omega) 0 n hd0
              rw [hde] at htk
              have HTK := Lib.hid htk
              clear htk hd0 hde
              generalize hopsN n.frm n.too = hh at *
              go_wp2_with fail
              refine HTK.out.mono ?_
              rintro e w6 ⟨rfl, hs⟩
              have s9 := TNot.st_new (Nt.Ok.isN HOK.out.isU) w6
              obtain ⟨w7, hw7⟩ : ∃ W, w6.alloc (.cells n.cells 37) = W := ⟨_, rfl⟩
              have HS7 : Hid (Sep NoF w w7 [noteO w6.heap.size n, noteO nb n, notesO (.slice (some ⟨g, 0, none⟩) ns.length cap) ns, To tb c 200 (ns.drop (j + 1)) (hops + hh), cfgO cb c]) := Lib.hid (by rw [← hw7]; exact hs.alloc _ _)
              have HW7 := Lib.hid hw7
              clear hw7 hs
              go_upto_region 17 with fail
              rw [HW7.out]
              clear HW7 s9
              obtain ⟨eb, heb⟩ : ∃ b, w6.heap.size = b := ⟨_, rfl⟩
              rw [heb] at HS7 ⊢
              clear heb
              have la := TNot.ld_at (Nt.Ok.isN HOK.out.isU) (HS7.out.box 0 rfl).whole
              have lb := TNot.ld_at (Nt.Ok.isN HOK.out.isU) (HS7.out.box 1 rfl).whole
              have hne := neN_run HOK.out.isU HOK.out.isU w7
              rw [Nt.same_self] at hne
              go_wp2_with fail
              exact ⟨⟨j + 1, by omega, by go_num, HV1.out, hops + hh, by omega, by omega, (HS7.out.drop 0 (Nat.succ_pos _)).drop 0 (Nat.succ_pos _)⟩, by simp [intOf]; omega⟩
            · obtain rfl : j = ns.length := by omega
              have hde : ns.drop ns.length = [] := List.drop_length
              rw [hde] at HSj
              have HTB := Lib.hid (s_take_bad HSj.out 1 rfl 0 (.inr (by simp)))
              clear hde
              go_wp2_with fail
              refine HTB.out.mono ?_
              rintro e w6 ⟨rfl, hs⟩
              have HS6 := Lib.hid hs
              clear hs
              go_wp2_with fail
              refine (works_any _).mono ?_
              rintro e w9 ⟨rfl, hu⟩
              have HS9 := Lib.hid (HS6.out.upd0 hu)
              clear hu
              go_wp2
              go_ret
              exact ⟨rfl, HS9.out.below⟩
    · have HN := Lib.hid (new_no c 200 (fun h => hm h.1))
      clear hm
      go_enter Try.func5, Try.ntmps5
      go_wp2_with fail
      rw [HW0.out]
      refine (HN.out W0).mono ?_
      rintro e w2 ⟨rfl, hu⟩
      have HS2 := Lib.hid (HS0.out.upd0 hu)
      clear hu
      go_wp2_with fail
      refine (works_any _).mono ?_
      rintro e w9 ⟨rfl, hu⟩
      have HS9 := Lib.hid (HS2.out.upd0 hu)
      clear hu
      go_wp2
      go_ret
      exact ⟨rfl, HS9.out.below⟩
end Go.Proofs.Ytmfhbobjambgaaa.NE
