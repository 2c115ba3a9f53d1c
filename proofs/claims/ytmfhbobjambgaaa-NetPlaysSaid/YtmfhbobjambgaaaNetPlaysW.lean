/- NetPlays: what the Go function does. -/
import Derived.Test.YtmfhbobjambgaaaNetCopiesW
import Derived.Test.YtmfhbobjambgaaaNetAt
import Derived.Test.YtmfhbobjambgaaaRNet
import Derived.Test.YtmfhbobjambgaaaRowOp09
set_option linter.unusedSimpArgs false
set_option linter.unusedVariables false
namespace Go.Proofs.Ytmfhbobjambgaaa.NE
open Go.RowKit
open BU (IsU words)
open PL (Cfg CC CV May)
open GR (hopsN)
abbrev OT : TypeId := 65
attribute [local go_sem] Oper.semAt_some
attribute [local go_sem ↓] eqN_eq neN_eq eqB_eq neB_eq TNot.ld_eq TNot.st_eq TNot.al_eq TNot.bx_eq TOpN.ld_eq TOpN.st_eq TOpN.al_eq TOpN.bx_eq
attribute [local go_sem] TNot.al_run TNot.bx_run TOpN.al_run TOpN.bx_run
section
variable {G : Nat → Prop} {w0 W : World} {L : List Obj} {tb rb : Nat} {c : Cfg} {room hops : Int} {ns : List Nt}
theorem s_at (h : Sep G w0 W L) (i : Nat) (hi : L[i]? = some (To tb c room ns hops)) (k : Int) :
    Calls Try.prog 21 #[ptr tb, .int .i64 k] W fun e w' => e = .returned (.tuple #[.agg (atV ns k).1.cells, .int .i64 (atV ns k).2]) ∧ Upd NoF W w' := by
  obtain ⟨F, hF⟩ := h.has i hi
  exact at_any W F tb c room ns hops k hF
theorem s_room (h : Sep G w0 W L) (i : Nat) (hi : L[i]? = some (To tb c room ns hops)) (hl : ns.length ≤ 65536) (h1 : 1 ≤ room) (h2 : room ≤ 1024) (node net : Int) :
    Calls Try.prog 16 #[ptr tb, .int .i64 node, .int .i64 net] W fun e w' => e = .returned (.int .i64 (roomN c room ns node net)) ∧ Upd NoF W w' := by
  obtain ⟨F, hF⟩ := h.has i hi
  exact room_any W F tb c room ns hops node net hF hl h1 h2
theorem at_isU {ns : List Nt} (h : ∀ n ∈ ns, n.Ok) (i : Int) : IsU (atV ns i).1.D := by
  unfold atV
  split
  · exact BU.isU_Z
  · split
    · rename_i n hn; exact (h n (List.mem_of_getElem? hn)).isU
    · exact BU.isU_Z
theorem same_self (n : Nt) : n.same n = true := by unfold Nt.same; simp
end
set_option maxRecDepth 100000 in
set_option maxHeartbeats 8000000 in
theorem nplays_any (c : Cfg) (room : Int) (a1 : Option Addr) (len1 cap1 : Nat) (O : Nat → OpN) (w : World) (h1 : IsRowS w a1 len1 cap1 27 (fun i => (O i).cells)) (hO : ∀ i, i < len1 → (O i).Ok) :
    Calls Try.prog 8 #[CV c, .int .i64 room, .slice a1 len1 cap1] w fun e w' => e = .returned (.bool true) ∧ Below w.heap.size w w' := by
  have HC1 := Lib.hid (fun i (hi : i < len1) => h1.at (by decide) hi)
  have HO := Lib.hid hO
  obtain ⟨lc1, m1, _⟩ := h1
  unfold maxLen at m1
  obtain ⟨W0, hW0⟩ : ∃ W0, w.alloc (.cells (CC c) CT) = W0 := ⟨_, rfl⟩
  obtain ⟨cb, hcb⟩ : ∃ x, w.heap.size = x := ⟨_, rfl⟩
  have HS0 : Hid (Sep NoF w W0 [cfgO cb c]) := Lib.hid (by rw [← hW0, ← hcb]; exact (Sep.zero NoF w).alloc _ _)
  have HW0 := Lib.hid (And.intro hW0 hcb)
  clear hW0 hcb hO
  by_cases g1 : 300 < len1
  · have hb1 : decide ((300 : Int) < (len1 : Int)) = true := by simp; omega
    go_enter Try.func8, Try.ntmps8
    go_upto_region 1 with fail
    rw [HW0.out.1, HW0.out.2]
    go_wp2_with fail
    refine (works_any _).mono ?_
    rintro e w1 ⟨rfl, hu⟩
    have HS1 := Lib.hid (HS0.out.upd0 hu)
    clear hu
    go_wp2_with fail
    refine (works_any _).mono ?_
    rintro e w9 ⟨rfl, hu⟩
    have HS9 := Lib.hid (HS1.out.upd0 hu)
    clear hu
    go_wp2
    go_ret
    exact ⟨rfl, HS9.out.below⟩
  · have hb1 : decide ((300 : Int) < (len1 : Int)) = false := by simp; omega
    by_cases hm : May c ∧ 1 ≤ room ∧ room ≤ 1024
    · have HNW := Lib.hid (fun w => new_yes c hm.1 room hm.2.1 hm.2.2 w)
      have HRN := Lib.hid (fun w => (rnew_any c room w).mono (fun e w' h => show ∃ rb, e = .returned (.tuple #[ptr rb, .int .i64 0]) ∧ Upd NoF w w' ∧ (Rn rb c room [] 0).is w' (fun k => w.heap.size ≤ k) from by rw [if_pos hm] at h; exact h))
      have HMY := Lib.hid hm.1
      have hroom := hm.2
      have hc16 := hm.1.1.2
      clear hm
      go_enter Try.func8, Try.ntmps8
      go_upto_region 1 with fail
      rw [HW0.out.1, HW0.out.2]
      go_wp2_with fail
      refine (works_any _).mono ?_
      rintro e w1 ⟨rfl, hu⟩
      have HS1 := Lib.hid (HS0.out.upd0 hu)
      clear hu
      obtain ⟨k0, k1, k2, k3, k4, k5, k6, k7⟩ : (w1.cell? ⟨cb, 0, none⟩ = some (.int .i64 c.cores) ∧ w1.cell? ⟨cb, 1, none⟩ = some (.int .i64 c.sets) ∧ w1.cell? ⟨cb, 2, none⟩ = some (.int .i64 c.ways) ∧ w1.cell? ⟨cb, 3, none⟩ = some (.int .i64 c.blocks) ∧ w1.cell? ⟨cb, 4, none⟩ = some (.int .i64 c.logs) ∧ w1.cell? ⟨cb, 5, none⟩ = some (.int .i64 c.backs) ∧ w1.cell? ⟨cb, 6, none⟩ = some (.int .i64 c.nest) ∧ w1.cell? ⟨cb, 7, none⟩ = some (.int .i64 c.tries)) := ⟨(HS1.out.box 0 rfl).cell 0, (HS1.out.box 0 rfl).cell 1, (HS1.out.box 0 rfl).cell 2, (HS1.out.box 0 rfl).cell 3, (HS1.out.box 0 rfl).cell 4, (HS1.out.box 0 rfl).cell 5, (HS1.out.box 0 rfl).cell 6, (HS1.out.box 0 rfl).cell 7⟩
      go_wp2_with fail
      refine (HNW.out _).mono ?_
      rintro e w2 ⟨tb, rfl, hu, ho⟩
      have HS2 := Lib.hid (HS1.out.push hu ho)
      clear hu ho k0 k1 k2 k3 k4 k5 k6 k7
      obtain ⟨k0, k1, k2, k3, k4, k5, k6, k7⟩ : (w2.cell? ⟨cb, 0, none⟩ = some (.int .i64 c.cores) ∧ w2.cell? ⟨cb, 1, none⟩ = some (.int .i64 c.sets) ∧ w2.cell? ⟨cb, 2, none⟩ = some (.int .i64 c.ways) ∧ w2.cell? ⟨cb, 3, none⟩ = some (.int .i64 c.blocks) ∧ w2.cell? ⟨cb, 4, none⟩ = some (.int .i64 c.logs) ∧ w2.cell? ⟨cb, 5, none⟩ = some (.int .i64 c.backs) ∧ w2.cell? ⟨cb, 6, none⟩ = some (.int .i64 c.nest) ∧ w2.cell? ⟨cb, 7, none⟩ = some (.int .i64 c.tries)) := ⟨(HS2.out.box 1 rfl).cell 0, (HS2.out.box 1 rfl).cell 1, (HS2.out.box 1 rfl).cell 2, (HS2.out.box 1 rfl).cell 3, (HS2.out.box 1 rfl).cell 4, (HS2.out.box 1 rfl).cell 5, (HS2.out.box 1 rfl).cell 6, (HS2.out.box 1 rfl).cell 7⟩
      go_wp2_with fail
      refine (HRN.out _).mono ?_
      rintro e w3 ⟨rb, rfl, hu, ho⟩
      have HS3 : Hid (Sep NoF w w3 [To tb c room [] 0, Rn rb c room [] 0, cfgO cb c]) := Lib.hid (HS2.out.push hu ho).swap
      clear hu ho k0 k1 k2 k3 k4 k5 k6 k7
      go_wp2_with fail
      go_loopw [7, 8, 10, 46] (fun tv ev fv iv wr => ∃ (k tb : Nat) (ns : List Nt) (hops : Int) (v8 v10 : Value), k ≤ len1 ∧ tv = ptr tb ∧ v8 = ev ∧ v10 = fv ∧ iv = .int .i64 k ∧ Hid (InvT c room ns ∧ 0 ≤ hops ∧ hops ≤ 8 * k ∧ Sep NoF w wr [To tb c room ns hops, Rn rb c room ns hops, cfgO cb c])) (fun _ _ _ i _ => len1 - (intOf i).toNat)
      case atStart => exact ⟨0, tb, [], 0, _, _, Nat.zero_le _, rfl, rfl, rfl, rfl, Lib.hid ⟨InvT.nil c room (by omega), by omega, by omega, HS3.out⟩⟩
      case round =>
        obtain ⟨k, tb, ns, hops, v8, v10, hk, rfl, rfl, rfl, rfl, HI⟩ := hrel
        obtain ⟨wo, hwo⟩ : ∃ x, x = wr := ⟨_, rfl⟩
        subst hwo
        have HINV := Lib.hid HI.out.1
        have hh0 := HI.out.2.1
        have hh8 := HI.out.2.2.1
        have HS4 := Lib.hid HI.out.2.2.2
        have hlen := HI.out.1.len hc16 (by omega)
        clear HI
        by_cases hlt : k < len1
        · obtain ⟨x, g, q, rfl, hxa, hgl, hrg⟩ := HC1.out k hlt
          have hok := HO.out k hlt
          have hrw : wo.rangeAt g q (O k).cells.toList := fun j v hv => HS4.out.old (hrg j v hv)
          generalize O k = o at *
          have hoN := OpN.isN hok
          have HOK := Lib.hid hok; have HON := Lib.hid hoN
          have l1 := TOpN.ld_at hoN hrw
          have l2 := TOpN.ld_at hoN (World.rangeAt_alloc hrw (.cells TOpN.Z OT))
          have s1 := TOpN.st_new hoN wo
          have hs5 := HS4.out.alloc o.cells OT
          obtain ⟨V5, hV5⟩ : ∃ X, wo.alloc (.cells o.cells OT) = X := ⟨_, rfl⟩
          obtain ⟨ob, hob⟩ : ∃ x, wo.heap.size = x := ⟨_, rfl⟩
          rw [hV5, hob] at hs5
          have HV5 := Lib.hid (And.intro hV5 hob)
          have hs6 := (hs5.alloc TNot.Z NT).alloc TNot.Z NT
          obtain ⟨V6, hV6⟩ : ∃ X, V5.alloc (.cells TNot.Z NT) = X := ⟨_, rfl⟩
          obtain ⟨xb, hxb⟩ : ∃ x, V5.heap.size = x := ⟨_, rfl⟩
          rw [hV6, hxb] at hs6
          obtain ⟨V7, hV7⟩ : ∃ X, V6.alloc (.cells TNot.Z NT) = X := ⟨_, rfl⟩
          have hsz6 : V6.heap.size = xb + 1 := by rw [← hV6, World.size_alloc, hxb]
          obtain ⟨yb, hyb⟩ : ∃ x, xb + 1 = x := ⟨_, rfl⟩
          rw [hV7, hsz6, hyb, ← Nt.nil_cells] at hs6
          have HV6 := Lib.hid (And.intro hV6 hxb); have HV7 := Lib.hid (And.intro hV7 hyb)
          have p0 : V7.cell? ⟨ob, 0, none⟩ = some (.int .i64 o.kind) := ((hs6.box 2 rfl).cell 0).trans o.get0
          have HS7 : Hid (Sep NoF w V7 [boxO yb Nt.nil.cells NT, boxO xb Nt.nil.cells NT, boxO ob o.cells OT, To tb c room ns hops, Rn rb c room ns hops, cfgO cb c]) := Lib.hid hs6
          clear hok hoN hrw hrg hs5 hV5 hob hs6 hV6 hxb hV7 hyb hsz6 HS4
          go_upto_region 14 with fail
          rw [HV5.out.1, HV5.out.2]
          clear l1 l2 s1 HV5
          go_upto_region 15 with fail
          rw [HV6.out.1, HV6.out.2, HV7.out.1, HV7.out.2]
          clear HV6 HV7
          obtain ⟨kk, hkk⟩ : ∃ x, o.kind = x := ⟨_, rfl⟩
          rw [hkk] at p0
          clear hkk
          go_upto_block 2 with fail
          go_cut [7, 8, 10, 15] from 47 to 157 (fun s7 s8 s10 s15 wx => ∃ (tb2 : Nat) (ns2 : List Nt) (hops2 er : Int) (m : Nt) (v15 : Value), s7 = ptr tb2 ∧ s8 = .int .i64 er ∧ s10 = .int .i64 er ∧ v15 = s15 ∧ Hid (InvT c room ns2 ∧ 0 ≤ hops2 ∧ hops2 ≤ hops + 8 ∧ IsU m.D ∧ Sep NoF w wx [boxO yb m.cells NT, boxO xb m.cells NT, boxO ob o.cells OT, To tb2 c room ns2 hops2, Rn rb c room ns2 hops2, cfgO cb c]))
          case first =>
            by_cases k0 : kk = 0
            · subst k0
              have HSD := Lib.hid (HS7.out.upd0 (Upd.drew NoF V7))
              go_wp2_with fail
              refine wp_region_held_drew (S := (fun X : World => (TNot.ld (.pointer (some ⟨ob, 3, none⟩))).run Try.prog X = .ok (.agg o.n.cells) X)) (by kernel_rfl) (TNot.ld_at (Nt.Ok.isN HOK.out.n.isU) ((HSD.out.box 2 rfl).range 3 _ (fun j v hv => by rw [OpN.getN]; simpa using hv))) (fun hHeld => ?_)
              obtain ⟨X0, hX0⟩ : ∃ X, V7.drew = X := ⟨_, rfl⟩
              rw [hX0] at hHeld HSD ⊢
              clear hX0
              refine rgn 0 (v := ?vq1) hHeld ?yq1 ?_
              case yq1 => (intro w hSw; (try dsimp only at hSw); have k0 := hSw; go_simp; try with_reducible rfl)
              simp only [Act.put, rn1, rn2, rn3, rn4, rn5, rn6]
              refine rgn 1 (v := ?vq2) hHeld ?yq2 ?_
              case yq2 => (intro w hSw; (try dsimp only at hSw); have k0 := hSw; go_simp; try with_reducible rfl)
              simp only [Act.put, rn1, rn2, rn3, rn4, rn5, rn6]
              refine rgn 2 (v := ?vq3) hHeld ?yq3 ?_
              case yq3 => (intro w hSw; (try dsimp only at hSw); have k0 := hSw; go_simp; try with_reducible rfl)
              simp only [Act.put, rn1, rn2, rn3, rn4, rn5, rn6]
              refine rgn 4 (v := ?vq4) hHeld ?yq4 ?_
              case yq4 => (intro w hSw; (try dsimp only at hSw); have k0 := hSw; go_simp; try with_reducible rfl)
              simp only [Act.put, rn1, rn2, rn3, rn4, rn5, rn6]
              refine rgn 5 (v := ?vq5) hHeld ?yq5 ?_
              case yq5 => (intro w hSw; (try dsimp only at hSw); have k0 := hSw; go_simp; try with_reducible rfl)
              simp only [Act.put, rn1, rn2, rn3, rn4, rn5, rn6]
              refine rgn 6 (v := ?vq6) hHeld ?yq6 ?_
              case yq6 => (intro w hSw; (try dsimp only at hSw); have k0 := hSw; go_simp; try with_reducible rfl)
              simp only [Act.put, rn1, rn2, rn3, rn4, rn5, rn6]
              refine reg_step (i := 3) (by kernel_rfl) rfl (by kernel_rfl) (fun K hK => ?_)
              go_simp
              refine (s_send HSD.out 3 rfl HMY.out HINV.out hroom o.n HOK.out.n).mono ?_
              rintro e X1 ⟨rfl, hs⟩
              have HX1 : Hid (Sep NoF w X1 [boxO yb Nt.nil.cells NT, boxO xb Nt.nil.cells NT, boxO ob o.cells OT, To tb c room (sendS c room ns o.n) hops, Rn rb c room ns hops, cfgO cb c]) := Lib.hid hs
              have HS : (fun X : World => (TNot.ld (.pointer (some ⟨ob, 3, none⟩))).run Try.prog X = .ok (.agg o.n.cells) X) X1 := TNot.ld_at (Nt.Ok.isN HOK.out.n.isU) ((HX1.out.box 2 rfl).range 3 _ (fun j v hv => by rw [OpN.getN]; simpa using hv))
              clear hs
              go_wp2_with fail
              refine hK.out _ _ HS (fun hHeld2 => ?_)
              clear hK hHeld2 hHeld; have hHeld := HS; clear HS
              try simp only [Act.put, rn1, rn2, rn3, rn4, rn5, rn6]
              refine reg_step (i := 7) (by kernel_rfl) rfl (by kernel_rfl) (fun K hK => ?_)
              go_simp
              refine (rsend_any (Sep.at_ HX1.out 4 rfl) HMY.out o.n HOK.out.n (by omega) HINV.out).mono ?_
              rintro e X2 ⟨rfl, hs⟩
              have HX2 : Hid (Sep NoF w X2 [Rn rb c room (sendS c room ns o.n) hops, boxO yb Nt.nil.cells NT, boxO xb Nt.nil.cells NT, boxO ob o.cells OT, To tb c room (sendS c room ns o.n) hops, cfgO cb c]) := Lib.hid hs
              have HS : (fun X : World => (TNot.ld (.pointer (some ⟨ob, 3, none⟩))).run Try.prog X = .ok (.agg o.n.cells) X) X2 := TNot.ld_at (Nt.Ok.isN HOK.out.n.isU) ((HX2.out.box 3 rfl).range 3 _ (fun j v hv => by rw [OpN.getN]; simpa using hv))
              clear hs
              go_wp2_with fail
              refine hK.out _ _ HS (fun hHeld2 => ?_)
              clear hK hHeld2 hHeld; have hHeld := HS; clear HS
              try simp only [Act.put, rn1, rn2, rn3, rn4, rn5, rn6]
              refine rgn 8 (v := ?vq7) hHeld ?yq7 ?_
              case yq7 => (intro w hSw; go_simp; try with_reducible rfl)
              simp only [Act.put, rn1, rn2, rn3, rn4, rn5, rn6]
              refine rgn 9 (v := ?vq8) hHeld ?yq8 ?_
              case yq8 => (intro w hSw; go_simp; try with_reducible rfl)
              simp only [Act.put, rn1, rn2, rn3, rn4, rn5, rn6]
              refine wpAnyH_done (by kernel_rfl) ?_ _
              clear hHeld
              go_wp2_with fail
              go_meet
              exact ⟨tb, sendS c room ns o.n, hops, sendE c room ns o.n, Nt.nil, _, rfl, rfl, rfl, rfl, Lib.hid ⟨HINV.out.send hc16 HOK.out.n, hh0, by omega, BU.isU_Z, HX2.out.sink 4⟩⟩
            · have e0 : (kk == 0) = false := by simpa using k0
              by_cases k1 : kk = 1
              · subst k1
                have p1 : V7.cell? ⟨ob, 1, none⟩ = some (.int .i64 o.i) := ((HS7.out.box 2 rfl).cell 1).trans o.get1
                by_cases hin : 0 ≤ o.i ∧ o.i < (ns.length : Int)
                · obtain ⟨q, hq⟩ : ∃ q : Nat, o.i = q := ⟨o.i.toNat, by omega⟩
                  obtain ⟨m, hm⟩ : ∃ m, ns[q]? = some m := ⟨_, List.getElem?_eq_getElem (by omega)⟩
                  have hmo := HINV.out.ok m (List.mem_of_getElem? hm)
                  have hmay := fits_may (HINV.out.fit m (List.mem_of_getElem? hm))
                  have hhb := hopsN_le hmay
                  have HMO := Lib.hid hmo
                  have HMN := Lib.hid (Nt.Ok.isN hmo.isU)
                  have HTK := Lib.hid (s_take HS7.out 3 rfl hc16 HINV.out hroom hh0 (by omega) q m hm)
                  have HQ := Lib.hid hq
                  rw [hq] at p1
                  have HM := Lib.hid (And.intro hm hmay)
                  clear hin hq hm hmo hmay
                  go_wp2_with fail
                  refine HTK.out.mono ?_
                  rintro e X1 ⟨rfl, hs⟩
                  have hs1 : Sep NoF w X1 [boxO yb Nt.nil.cells NT, boxO xb Nt.nil.cells NT, boxO ob o.cells OT, To tb c room (ns.eraseIdx q) (hops + hopsN m.frm m.too), Rn rb c room ns hops, cfgO cb c] := hs
                  have s1 := (TNot.st_at (Nt.Ok.isN (n := Nt.nil) BU.isU_Z) HMN.out (hs1.box 1 rfl)).1
                  have hs2 := hs1.setMG 1 rfl 0 m.cells.toList
                  obtain ⟨X2, hX2⟩ : ∃ X, X1.setCells xb 0 m.cells.toList = X := ⟨_, rfl⟩
                  have e0 : setMany Nt.nil.cells 0 m.cells.toList = m.cells := setMany_all _ _ (by rw [HMN.out.1]; rfl)
                  rw [hX2] at s1 hs2
                  rw [e0] at hs2
                  have HX2 : Hid (Sep NoF w X2 [boxO yb Nt.nil.cells NT, boxO xb m.cells NT, boxO ob o.cells OT, To tb c room (ns.eraseIdx q) (hops + hopsN m.frm m.too), Rn rb c room ns hops, cfgO cb c]) := Lib.hid hs2
                  have p1 : X2.cell? ⟨ob, 1, none⟩ = some (.int .i64 q) := ((HX2.out.box 2 rfl).cell 1).trans (by rw [← HQ.out]; exact o.get1)
                  have HRT := Lib.hid (rtake_ok (Sep.at_ HX2.out 4 rfl) q m HM.out.1 HM.out.2 (by omega) hh0 (by omega))
                  clear hs hs1 hs2 hX2 e0
                  go_wp2_with fail
                  refine HRT.out.mono ?_
                  rintro e X3 ⟨rfl, hs⟩
                  have hs3 : Sep NoF w X3 [Rn rb c room (ns.eraseIdx q) (hops + hopsN m.frm m.too), boxO yb Nt.nil.cells NT, boxO xb m.cells NT, boxO ob o.cells OT, To tb c room (ns.eraseIdx q) (hops + hopsN m.frm m.too), cfgO cb c] := hs
                  have s1 := (TNot.st_at (Nt.Ok.isN (n := Nt.nil) BU.isU_Z) HMN.out (hs3.box 1 rfl)).1
                  have hs4 := hs3.setMG 1 rfl 0 m.cells.toList
                  obtain ⟨X4, hX4⟩ : ∃ X, X3.setCells yb 0 m.cells.toList = X := ⟨_, rfl⟩
                  have e0 : setMany Nt.nil.cells 0 m.cells.toList = m.cells := setMany_all _ _ (by rw [HMN.out.1]; rfl)
                  rw [hX4] at s1 hs4
                  rw [e0] at hs4
                  have HX4 : Hid (Sep NoF w X4 [boxO yb m.cells NT, boxO xb m.cells NT, boxO ob o.cells OT, To tb c room (ns.eraseIdx q) (hops + hopsN m.frm m.too), Rn rb c room (ns.eraseIdx q) (hops + hopsN m.frm m.too), cfgO cb c]) := Lib.hid (hs4.sink 4)
                  clear hs hs3 hs4 hX4 e0
                  go_wp2_with fail
                  go_meet
                  exact ⟨tb, ns.eraseIdx q, hops + hopsN m.frm m.too, 0, m, _, rfl, rfl, rfl, rfl, Lib.hid ⟨HINV.out.erase q, by omega, by omega, HMO.out.isU, HX4.out⟩⟩
                · have hbad : o.i < 0 ∨ (ns.length : Int) ≤ o.i := by omega
                  have HTK := Lib.hid (s_take_bad HS7.out 3 rfl o.i hbad)
                  have HBAD := Lib.hid hbad
                  clear hin hbad
                  go_wp2_with fail
                  refine HTK.out.mono ?_
                  rintro e X1 ⟨rfl, hs⟩
                  have hnz := Nt.Ok.isN (n := Nt.nil) BU.isU_Z
                  have s1 := (TNot.st_at hnz hnz (hs.box 1 rfl)).1
                  have hs2 := hs.setMG 1 rfl 0 Nt.nil.cells.toList
                  obtain ⟨X2, hX2⟩ : ∃ X, X1.setCells xb 0 Nt.nil.cells.toList = X := ⟨_, rfl⟩
                  have e0 : setMany Nt.nil.cells 0 Nt.nil.cells.toList = Nt.nil.cells := setMany_all _ _ rfl
                  rw [hX2] at s1 hs2
                  rw [e0] at hs2
                  have HX2 : Hid (Sep NoF w X2 [boxO yb Nt.nil.cells NT, boxO xb Nt.nil.cells NT, boxO ob o.cells OT, To tb c room ns hops, Rn rb c room ns hops, cfgO cb c]) := Lib.hid hs2
                  have p1 : X2.cell? ⟨ob, 1, none⟩ = some (.int .i64 o.i) := ((HX2.out.box 2 rfl).cell 1).trans o.get1
                  have HRT := Lib.hid (rtake_bad (Sep.at_ HX2.out 4 rfl) o.i HBAD.out)
                  clear hs hs2 hX2 hnz
                  go_wp2_with fail
                  refine HRT.out.mono ?_
                  rintro e X3 ⟨rfl, hu⟩
                  have hs3 := HX2.out.upd0 hu
                  have hnz := Nt.Ok.isN (n := Nt.nil) BU.isU_Z
                  have s1 := (TNot.st_at hnz hnz (hs3.box 0 rfl)).1
                  have hs4 := hs3.setMG 0 rfl 0 Nt.nil.cells.toList
                  obtain ⟨X4, hX4⟩ : ∃ X, X3.setCells yb 0 Nt.nil.cells.toList = X := ⟨_, rfl⟩
                  rw [hX4] at s1 hs4
                  rw [e0] at hs4
                  have HX4 : Hid (Sep NoF w X4 [boxO yb Nt.nil.cells NT, boxO xb Nt.nil.cells NT, boxO ob o.cells OT, To tb c room ns hops, Rn rb c room ns hops, cfgO cb c]) := Lib.hid hs4
                  clear hu hs3 hs4 hX4 hnz e0
                  go_wp2_with fail
                  go_meet
                  exact ⟨tb, ns, hops, 5, Nt.nil, _, rfl, rfl, rfl, rfl, Lib.hid ⟨HINV.out, hh0, by omega, BU.isU_Z, HX4.out⟩⟩
              · have e1 : (kk == 1) = false := by simpa using k1
                by_cases k2 : kk = 2
                · subst k2
                  have p1 : V7.cell? ⟨ob, 1, none⟩ = some (.int .i64 o.i) := ((HS7.out.box 2 rfl).cell 1).trans o.get1
                  have HAT := Lib.hid (s_at HS7.out 3 rfl o.i)
                  have hau := at_isU HINV.out.ok o.i
                  obtain ⟨am, ham⟩ : ∃ x, atV ns o.i = x := ⟨_, rfl⟩
                  rw [ham] at HAT hau
                  have HAM := Lib.hid ham; have HAU := Lib.hid hau
                  clear ham hau
                  go_wp2_with fail
                  refine HAT.out.mono ?_
                  rintro e X1 ⟨rfl, hu⟩
                  have hs1 := HS7.out.upd0 hu
                  have hnz := Nt.Ok.isN (n := Nt.nil) BU.isU_Z
                  have hma := Nt.Ok.isN HAU.out
                  have s1 := (TNot.st_at hnz hma (hs1.box 1 rfl)).1
                  have hs2 := hs1.setMG 1 rfl 0 am.1.cells.toList
                  obtain ⟨X2, hX2⟩ : ∃ X, X1.setCells xb 0 am.1.cells.toList = X := ⟨_, rfl⟩
                  have e0 : setMany Nt.nil.cells 0 am.1.cells.toList = am.1.cells := setMany_all _ _ (by rw [hma.1]; rfl)
                  rw [hX2] at s1 hs2
                  rw [e0] at hs2
                  have HX2 : Hid (Sep NoF w X2 [boxO yb Nt.nil.cells NT, boxO xb am.1.cells NT, boxO ob o.cells OT, To tb c room ns hops, Rn rb c room ns hops, cfgO cb c]) := Lib.hid hs2
                  obtain ⟨a, cap, hok9, hs9⟩ := rn_open (Sep.at_ HX2.out 4 rfl)
                  have hs9 : Sep NoF w X2 [boxO rb (RnA c room hops a ns.length cap) RNT, notesO (.slice a ns.length cap) ns, boxO yb Nt.nil.cells NT, boxO xb am.1.cells NT, boxO ob o.cells OT, To tb c room ns hops, cfgO cb c] := hs9
                  have HS9 := Lib.hid hs9
                  have HD9 : Hid ((fun X : World => X.cell? ⟨ob, 1, none⟩ = some (.int .i64 o.i) ∧ X.cell? ⟨rb, 9, none⟩ = some (.slice a ns.length cap)) X2.drew) := Lib.hid ⟨(((hs9.upd0 (Upd.drew NoF X2)).box 4 rfl).cell 1).trans o.get1, ((hs9.upd0 (Upd.drew NoF X2)).box 0 rfl).cell 9⟩
                  clear hu hs1 hs2 hX2 e0 hnz hma hs9
                  by_cases hi0 : o.i < 0
                  · have hg0 : decide (0 ≤ o.i) = false := decide_eq_false (by omega)
                    have hae : am = (Nt.nil, 5) := by rw [← HAM.out]; unfold atV; rw [if_pos hi0]
                    have HAE := Lib.hid hae
                    clear hi0 hae
                    go_wp2_with fail
                    refine wp_region_held_drew (S := (fun X : World => X.cell? ⟨ob, 1, none⟩ = some (.int .i64 o.i) ∧ X.cell? ⟨rb, 9, none⟩ = some (.slice a ns.length cap))) (by kernel_rfl) (HD9.out) (fun hHeld => ?_)
                    refine rgn 0 (v := ?vq9) hHeld ?yq9 ?_
                    case yq9 => (intro w hSw; obtain ⟨k1, k9⟩ := hSw; go_simp; try with_reducible rfl)
                    simp only [Act.put, rn1, rn2, rn3, rn4, rn5, rn6]
                    refine rgn 1 (v := ?vq10) hHeld ?yq10 ?_
                    case yq10 => (intro w hSw; obtain ⟨k1, k9⟩ := hSw; go_simp; try with_reducible rfl)
                    simp only [Act.put, rn1, rn2, rn3, rn4, rn5, rn6]
                    refine rgn 2 (v := .bool false) hHeld ?yq11 ?_
                    case yq11 => (intro w hSw; obtain ⟨k1, k9⟩ := hSw; go_simp; try with_reducible rfl)
                    simp only [Act.put, rn1, rn2, rn3, rn4, rn5, rn6]
                    refine rgn 3 (v := .bool false) hHeld ?yq12 ?_
                    case yq12 => (intro w hSw; obtain ⟨k1, k9⟩ := hSw; go_simp; try with_reducible rfl)
                    simp only [Act.put, rn1, rn2, rn3, rn4, rn5, rn6]
                    refine reg_off (i := 4) rfl (by kernel_rfl) (by kernel_rfl) (by kernel_rfl) (fun _ _ _ h => h) (by kernel_rfl) hHeld ?_
                    simp only [Act.put, rn1, rn2, rn3, rn4, rn5, rn6]
                    refine reg_off (i := 5) rfl (by kernel_rfl) (by kernel_rfl) (by kernel_rfl) (fun _ _ _ h => h) (by kernel_rfl) hHeld ?_
                    simp only [Act.put, rn1, rn2, rn3, rn4, rn5, rn6]
                    refine reg_off (i := 6) rfl (by kernel_rfl) (by kernel_rfl) (by kernel_rfl) (fun _ _ _ h => h) (by kernel_rfl) hHeld ?_
                    simp only [Act.put, rn1, rn2, rn3, rn4, rn5, rn6]
                    refine reg_off (i := 7) rfl (by kernel_rfl) (by kernel_rfl) (by kernel_rfl) (fun _ _ _ h => h) (by kernel_rfl) hHeld ?_
                    simp only [Act.put, rn1, rn2, rn3, rn4, rn5, rn6]
                    refine reg_off (i := 8) rfl (by kernel_rfl) (by kernel_rfl) (by kernel_rfl) (fun _ _ _ h => h) (by kernel_rfl) hHeld ?_
                    simp only [Act.put, rn1, rn2, rn3, rn4, rn5, rn6]
                    refine reg_off (i := 9) rfl (by kernel_rfl) (by kernel_rfl) (by kernel_rfl) (fun _ _ _ h => h) (by kernel_rfl) hHeld ?_
                    simp only [Act.put, rn1, rn2, rn3, rn4, rn5, rn6]
                    refine reg_off (i := 10) rfl (by kernel_rfl) (by kernel_rfl) (by kernel_rfl) (fun _ _ _ h => h) (by kernel_rfl) hHeld ?_
                    simp only [Act.put, rn1, rn2, rn3, rn4, rn5, rn6]
                    refine reg_off (i := 11) rfl (by kernel_rfl) (by kernel_rfl) (by kernel_rfl) (fun _ _ _ h => h) (by kernel_rfl) hHeld ?_
                    simp only [Act.put, rn1, rn2, rn3, rn4, rn5, rn6]
                    refine rgn 12 (v := .bool false) hHeld ?yq13 ?_
                    case yq13 => (intro w hSw; go_simp; try with_reducible rfl)
                    simp only [Act.put, rn1, rn2, rn3, rn4, rn5, rn6]
                    refine wpAnyH_done (by kernel_rfl) ?_ _
                    clear hHeld
                    go_wp2_with fail
                    have hfin := (rn_shut hok9 (HS9.out.upd0 (Upd.drew NoF X2))).sink 4
                    rw [HAE.out] at hfin ⊢
                    go_meet
                    exact ⟨tb, ns, hops, 5, Nt.nil, _, rfl, rfl, rfl, rfl, Lib.hid ⟨HINV.out, hh0, by omega, BU.isU_Z, hfin⟩⟩
                  · have hg0 : decide (0 ≤ o.i) = true := decide_eq_true (by omega)
                    by_cases hil : o.i < (ns.length : Int)
                    · have hg1 : decide (o.i < (ns.length : Int)) = true := decide_eq_true hil
                      obtain ⟨q, hq⟩ : ∃ q : Nat, o.i = q := ⟨o.i.toNat, by omega⟩
                      obtain ⟨m, hm⟩ : ∃ m, ns[q]? = some m := ⟨_, List.getElem?_eq_getElem (by omega)⟩
                      have hae : am = (m, 0) := by rw [← HAM.out]; unfold atV; rw [if_neg hi0, hq, Int.toNat_natCast, hm]
                      obtain ⟨a', cap', he, hcap, hcm, hat⟩ := s_row (HS9.out.row 1 rfl) hok9
                      cases he
                      obtain ⟨g, rfl, hrg⟩ := hat q m hm
                      have hmo := HINV.out.ok m (List.mem_of_getElem? hm)
                      unfold maxLen at hcm
                      have HAE := Lib.hid hae; have HQ := Lib.hid hq; have HMN := Lib.hid (Nt.Ok.isN hmo.isU); have HMO := Lib.hid hmo
                      have hql : q < ns.length := by omega
                      have hqc : q < cap := by omega
                      clear hae hat hrg hmo
                      go_wp2_with fail
                      refine wp_region_held_drew (S := (fun X : World => X.cell? ⟨ob, 1, none⟩ = some (.int .i64 o.i) ∧ X.cell? ⟨rb, 9, none⟩ = some (.slice (some ⟨g, 0, none⟩) ns.length cap))) (by kernel_rfl) (HD9.out) (fun hHeld => ?_)
                      refine rgn 0 (v := ?vq23) hHeld ?yq23 ?_
                      case yq23 => (intro w hSw; obtain ⟨k1, k9⟩ := hSw; go_simp; try with_reducible rfl)
                      simp only [Act.put, rn1, rn2, rn3, rn4, rn5, rn6]
                      refine rgn 1 (v := ?vq24) hHeld ?yq24 ?_
                      case yq24 => (intro w hSw; obtain ⟨k1, k9⟩ := hSw; go_simp; try with_reducible rfl)
                      simp only [Act.put, rn1, rn2, rn3, rn4, rn5, rn6]
                      refine rgn 2 (v := .bool true) hHeld ?yq25 ?_
                      case yq25 => (intro w hSw; obtain ⟨k1, k9⟩ := hSw; go_simp; try with_reducible rfl)
                      simp only [Act.put, rn1, rn2, rn3, rn4, rn5, rn6]
                      refine rgn 3 (v := .bool true) hHeld ?yq26 ?_
                      case yq26 => (intro w hSw; obtain ⟨k1, k9⟩ := hSw; go_simp; try with_reducible rfl)
                      simp only [Act.put, rn1, rn2, rn3, rn4, rn5, rn6]
                      refine rgn 4 (v := ?vq27) hHeld ?yq27 ?_
                      case yq27 => (intro w hSw; obtain ⟨k1, k9⟩ := hSw; go_simp; try with_reducible rfl)
                      simp only [Act.put, rn1, rn2, rn3, rn4, rn5, rn6]
                      refine rgn 5 (v := ?vq28) hHeld ?yq28 ?_
                      case yq28 => (intro w hSw; obtain ⟨k1, k9⟩ := hSw; go_simp; try with_reducible rfl)
                      simp only [Act.put, rn1, rn2, rn3, rn4, rn5, rn6]
                      refine rgn 6 (v := ?vq29) hHeld ?yq29 ?_
                      case yq29 => (intro w hSw; obtain ⟨k1, k9⟩ := hSw; go_simp; try with_reducible rfl)
                      simp only [Act.put, rn1, rn2, rn3, rn4, rn5, rn6]
                      refine rgn 7 (v := ?vq30) hHeld ?yq30 ?_
                      case yq30 => (intro w hSw; obtain ⟨k1, k9⟩ := hSw; go_simp; try with_reducible rfl)
                      simp only [Act.put, rn1, rn2, rn3, rn4, rn5, rn6]
                      refine rgn 8 (v := ?vq31) hHeld ?yq31 ?_
                      case yq31 => (intro w hSw; obtain ⟨k1, k9⟩ := hSw; go_simp; try with_reducible rfl)
                      simp only [Act.put, rn1, rn2, rn3, rn4, rn5, rn6]
                      refine rgn 9 (v := ?vq32) hHeld ?yq32 ?_
                      case yq32 => (intro w hSw; obtain ⟨k1, k9⟩ := hSw; go_simp; try with_reducible rfl)
                      simp only [Act.put, rn1, rn2, rn3, rn4, rn5, rn6]
                      refine rgn 10 (v := ?vq33) hHeld ?yq33 ?_
                      case yq33 => (intro w hSw; obtain ⟨k1, k9⟩ := hSw; go_simp; try with_reducible rfl)
                      simp only [Act.put, rn1, rn2, rn3, rn4, rn5, rn6]
                      refine rgn 11 (v := .bool true) hHeld ?yq34 ?_
                      case yq34 => (intro w hSw; obtain ⟨k1, k9⟩ := hSw; go_simp; try with_reducible rfl)
                      simp only [Act.put, rn1, rn2, rn3, rn4, rn5, rn6]
                      refine rgn 12 (v := .bool true) hHeld ?yq35 ?_
                      case yq35 => (intro w hSw; obtain ⟨k1, k9⟩ := hSw; go_simp; try with_reducible rfl)
                      simp only [Act.put, rn1, rn2, rn3, rn4, rn5, rn6]
                      refine wpAnyH_done (by kernel_rfl) ?_ _
                      have HSX := Lib.hid ((HS9.out.upd0 (Upd.drew NoF X2)).upd0 (Upd.drew NoF X2.drew))
                      clear hHeld hg0 hg1 hi0 hil hok9
                      go_wp2_with fail
                      have HK27 : Hid (∀ X yv, Sep NoF w X [boxO rb (RnA c room hops (some ⟨g, 0, none⟩) ns.length cap) RNT, notesO (.slice (some ⟨g, 0, none⟩) ns.length cap) ns, boxO yb yv NT, boxO xb am.1.cells NT, boxO ob o.cells OT, To tb c room ns hops, cfgO cb c] → (fun X : World => X.cell? ⟨ob, 1, none⟩ = some (.int .i64 q) ∧ X.cell? ⟨rb, 9, none⟩ = some (.slice (some ⟨g, 0, none⟩) ns.length cap) ∧ (TNot.ld (.pointer (some ⟨g, q * 24, none⟩))).run Try.prog X = .ok (.agg m.cells) X) X) := Lib.hid (fun X yv h => by
                        obtain ⟨a2, cap2, he, -, -, hat⟩ := s_row (h.row 1 rfl) HINV.out.ok
                        cases he
                        obtain ⟨g2, hg2, hrg⟩ := hat q m hm
                        cases hg2
                        exact ⟨((h.box 4 rfl).cell 1).trans (by rw [← HQ.out]; exact o.get1), (h.box 0 rfl).cell 9, TNot.ld_at HMN.out hrg⟩)
                      refine wp_region_held_drew (S := (fun X : World => X.cell? ⟨ob, 1, none⟩ = some (.int .i64 q) ∧ X.cell? ⟨rb, 9, none⟩ = some (.slice (some ⟨g, 0, none⟩) ns.length cap) ∧ (TNot.ld (.pointer (some ⟨g, q * 24, none⟩))).run Try.prog X = .ok (.agg m.cells) X)) (by kernel_rfl) (HK27.out _ _ HSX.out) (fun hHeld => ?_)
                      generalize hX5 : X2.drew.drew = X5 at *
                      clear hX5
                      refine rgn 0 (v := ?vq14) hHeld ?yq14 ?_
                      case yq14 => (intro w hSw; obtain ⟨k1, k9, k24⟩ := hSw; go_simp; try with_reducible rfl)
                      simp only [Act.put, rn1, rn2, rn3, rn4, rn5, rn6]
                      refine rgn 1 (v := ?vq15) hHeld ?yq15 ?_
                      case yq15 => (intro w hSw; obtain ⟨k1, k9, k24⟩ := hSw; go_simp; try with_reducible rfl)
                      simp only [Act.put, rn1, rn2, rn3, rn4, rn5, rn6]
                      refine rgn 2 (v := ?vq16) hHeld ?yq16 ?_
                      case yq16 => (intro w hSw; obtain ⟨k1, k9, k24⟩ := hSw; go_simp; try with_reducible rfl)
                      simp only [Act.put, rn1, rn2, rn3, rn4, rn5, rn6]
                      refine rgn 3 (v := ?vq17) hHeld ?yq17 ?_
                      case yq17 => (intro w hSw; obtain ⟨k1, k9, k24⟩ := hSw; go_simp; try with_reducible rfl)
                      simp only [Act.put, rn1, rn2, rn3, rn4, rn5, rn6]
                      refine rgn 4 (v := ?vq18) hHeld ?yq18 ?_
                      case yq18 => (intro w hSw; obtain ⟨k1, k9, k24⟩ := hSw; go_simp; try with_reducible rfl)
                      simp only [Act.put, rn1, rn2, rn3, rn4, rn5, rn6]
                      refine rgn 5 (v := ?vq19) hHeld ?yq19 ?_
                      case yq19 => (intro w hSw; obtain ⟨k1, k9, k24⟩ := hSw; go_simp; try with_reducible rfl)
                      simp only [Act.put, rn1, rn2, rn3, rn4, rn5, rn6]
                      refine rgn 6 (v := ?vq20) hHeld ?yq20 ?_
                      case yq20 => (intro w hSw; obtain ⟨k1, k9, k24⟩ := hSw; go_simp; try with_reducible rfl)
                      simp only [Act.put, rn1, rn2, rn3, rn4, rn5, rn6]
                      refine rgn 7 (v := ?vq21) hHeld ?yq21 ?_
                      case yq21 => (intro w hSw; obtain ⟨k1, k9, k24⟩ := hSw; go_simp; try with_reducible rfl)
                      simp only [Act.put, rn1, rn2, rn3, rn4, rn5, rn6]
                      refine reg_step (i := 8) (by kernel_rfl) rfl (by kernel_rfl) (fun K hK => ?_)
                      have hnz := Nt.Ok.isN (n := Nt.nil) BU.isU_Z
                      have s2 := (TNot.st_at hnz HMN.out (HSX.out.box 2 rfl)).1
                      have hs3 := HSX.out.setMG 2 rfl 0 m.cells.toList
                      obtain ⟨X6, hX6⟩ : ∃ X, X5.setCells yb 0 m.cells.toList = X := ⟨_, rfl⟩
                      have e0 : setMany Nt.nil.cells 0 m.cells.toList = m.cells := setMany_all _ _ (by rw [HMN.out.1]; rfl)
                      rw [hX6] at s2 hs3
                      rw [e0] at hs3
                      have HS6 := Lib.hid hs3
                      go_simp
                      have HS : (fun X : World => X.cell? ⟨ob, 1, none⟩ = some (.int .i64 q) ∧ X.cell? ⟨rb, 9, none⟩ = some (.slice (some ⟨g, 0, none⟩) ns.length cap) ∧ (TNot.ld (.pointer (some ⟨g, q * 24, none⟩))).run Try.prog X = .ok (.agg m.cells) X) X6 := HK27.out _ m.cells HS6.out
                      clear hs3 hX6 e0 s2 hnz
                      refine hK.out _ _ HS (fun hHeld2 => ?_)
                      clear hK hHeld2 hHeld; have hHeld := HS; clear HS
                      try simp only [Act.put, rn1, rn2, rn3, rn4, rn5, rn6]
                      refine rgn 9 (v := ?vq22) hHeld ?yq22 ?_
                      case yq22 => (intro w hSw; go_simp; try with_reducible rfl)
                      simp only [Act.put, rn1, rn2, rn3, rn4, rn5, rn6]
                      refine wpAnyH_done (by kernel_rfl) ?_ _
                      clear hHeld
                      go_wp2_with fail
                      have hfin := (rn_shut HINV.out.ok HS6.out).sink 4
                      rw [HAE.out] at hfin ⊢
                      go_meet
                      exact ⟨tb, ns, hops, 0, m, _, rfl, rfl, rfl, rfl, Lib.hid ⟨HINV.out, hh0, by omega, HMO.out.isU, hfin⟩⟩
                    · have hg1 : decide (o.i < (ns.length : Int)) = false := decide_eq_false hil
                      have hae : am = (Nt.nil, 5) := by
                        rw [← HAM.out]; unfold atV; rw [if_neg hi0]
                        have : ns[o.i.toNat]? = none := List.getElem?_eq_none_iff.2 (by omega)
                        rw [this]
                      have HAE := Lib.hid hae
                      clear hi0 hae hil
                      go_wp2_with fail
                      refine wp_region_held_drew (S := (fun X : World => X.cell? ⟨ob, 1, none⟩ = some (.int .i64 o.i) ∧ X.cell? ⟨rb, 9, none⟩ = some (.slice a ns.length cap))) (by kernel_rfl) (HD9.out) (fun hHeld => ?_)
                      refine rgn 0 (v := ?vq36) hHeld ?yq36 ?_
                      case yq36 => (intro w hSw; obtain ⟨k1, k9⟩ := hSw; go_simp; try with_reducible rfl)
                      simp only [Act.put, rn1, rn2, rn3, rn4, rn5, rn6]
                      refine rgn 1 (v := ?vq37) hHeld ?yq37 ?_
                      case yq37 => (intro w hSw; obtain ⟨k1, k9⟩ := hSw; go_simp; try with_reducible rfl)
                      simp only [Act.put, rn1, rn2, rn3, rn4, rn5, rn6]
                      refine rgn 2 (v := .bool true) hHeld ?yq38 ?_
                      case yq38 => (intro w hSw; obtain ⟨k1, k9⟩ := hSw; go_simp; try with_reducible rfl)
                      simp only [Act.put, rn1, rn2, rn3, rn4, rn5, rn6]
                      refine rgn 3 (v := .bool true) hHeld ?yq39 ?_
                      case yq39 => (intro w hSw; obtain ⟨k1, k9⟩ := hSw; go_simp; try with_reducible rfl)
                      simp only [Act.put, rn1, rn2, rn3, rn4, rn5, rn6]
                      refine rgn 4 (v := ?vq40) hHeld ?yq40 ?_
                      case yq40 => (intro w hSw; obtain ⟨k1, k9⟩ := hSw; go_simp; try with_reducible rfl)
                      simp only [Act.put, rn1, rn2, rn3, rn4, rn5, rn6]
                      refine rgn 5 (v := ?vq41) hHeld ?yq41 ?_
                      case yq41 => (intro w hSw; obtain ⟨k1, k9⟩ := hSw; go_simp; try with_reducible rfl)
                      simp only [Act.put, rn1, rn2, rn3, rn4, rn5, rn6]
                      refine rgn 6 (v := ?vq42) hHeld ?yq42 ?_
                      case yq42 => (intro w hSw; obtain ⟨k1, k9⟩ := hSw; go_simp; try with_reducible rfl)
                      simp only [Act.put, rn1, rn2, rn3, rn4, rn5, rn6]
                      refine rgn 7 (v := ?vq43) hHeld ?yq43 ?_
                      case yq43 => (intro w hSw; obtain ⟨k1, k9⟩ := hSw; go_simp; try with_reducible rfl)
                      simp only [Act.put, rn1, rn2, rn3, rn4, rn5, rn6]
                      refine rgn 8 (v := ?vq44) hHeld ?yq44 ?_
                      case yq44 => (intro w hSw; obtain ⟨k1, k9⟩ := hSw; go_simp; try with_reducible rfl)
                      simp only [Act.put, rn1, rn2, rn3, rn4, rn5, rn6]
                      refine rgn 9 (v := ?vq45) hHeld ?yq45 ?_
                      case yq45 => (intro w hSw; obtain ⟨k1, k9⟩ := hSw; go_simp; try with_reducible rfl)
                      simp only [Act.put, rn1, rn2, rn3, rn4, rn5, rn6]
                      refine rgn 10 (v := ?vq46) hHeld ?yq46 ?_
                      case yq46 => (intro w hSw; obtain ⟨k1, k9⟩ := hSw; go_simp; try with_reducible rfl)
                      simp only [Act.put, rn1, rn2, rn3, rn4, rn5, rn6]
                      refine rgn 11 (v := .bool false) hHeld ?yq47 ?_
                      case yq47 => (intro w hSw; obtain ⟨k1, k9⟩ := hSw; go_simp; try with_reducible rfl)
                      simp only [Act.put, rn1, rn2, rn3, rn4, rn5, rn6]
                      refine rgn 12 (v := .bool false) hHeld ?yq48 ?_
                      case yq48 => (intro w hSw; obtain ⟨k1, k9⟩ := hSw; go_simp; try with_reducible rfl)
                      simp only [Act.put, rn1, rn2, rn3, rn4, rn5, rn6]
                      refine wpAnyH_done (by kernel_rfl) ?_ _
                      clear hHeld
                      go_wp2_with fail
                      have hfin := (rn_shut hok9 (HS9.out.upd0 (Upd.drew NoF X2))).sink 4
                      rw [HAE.out] at hfin ⊢
                      go_meet
                      exact ⟨tb, ns, hops, 5, Nt.nil, _, rfl, rfl, rfl, rfl, Lib.hid ⟨HINV.out, hh0, by omega, BU.isU_Z, hfin⟩⟩
                · have e2 : (kk == 2) = false := by simpa using k2
                  by_cases k3 : kk = 3
                  · subst k3
                    have HF := Lib.hid (fun X (hX : Upd NoF V7 X) => (show X.cell? ⟨ob, 1, none⟩ = some (.int .i64 o.i) ∧ X.cell? ⟨ob, 2, none⟩ = some (.int .i64 o.j) from ⟨(((HS7.out.upd0 hX).box 2 rfl).cell 1).trans o.get1, (((HS7.out.upd0 hX).box 2 rfl).cell 2).trans o.get2⟩))
                    have HR1 := Lib.hid (fun X (hX : Upd NoF V7 X) => s_room (HS7.out.upd0 hX) 3 rfl (by omega) hroom.1 hroom.2 o.i o.j)
                    have HR2 := Lib.hid (fun X (hX : Upd NoF V7 X) => rroom_any (Sep.at_ (HS7.out.upd0 hX) 4 rfl) o.i o.j (by omega) (by omega))
                    have HD := Lib.hid (Upd.drew NoF V7)
                    generalize roomN c room ns o.i o.j = rv at *
                    go_wp2_with fail
                    refine wp_region_held_drew (S := (fun X => Upd NoF V7 X)) (by kernel_rfl) (HD.out) (fun hHeld => ?_)
                    refine rgn 0 (v := ?vq49) hHeld ?yq49 ?_
                    case yq49 => (intro w hSw; obtain ⟨k1, k2⟩ := HF.out _ hSw; go_simp; try with_reducible rfl)
                    simp only [Act.put, rn1, rn2, rn3, rn4, rn5, rn6]
                    refine rgn 1 (v := ?vq50) hHeld ?yq50 ?_
                    case yq50 => (intro w hSw; obtain ⟨k1, k2⟩ := HF.out _ hSw; go_simp; try with_reducible rfl)
                    simp only [Act.put, rn1, rn2, rn3, rn4, rn5, rn6]
                    refine rgn 2 (v := ?vq51) hHeld ?yq51 ?_
                    case yq51 => (intro w hSw; obtain ⟨k1, k2⟩ := HF.out _ hSw; go_simp; try with_reducible rfl)
                    simp only [Act.put, rn1, rn2, rn3, rn4, rn5, rn6]
                    refine rgn 3 (v := ?vq52) hHeld ?yq52 ?_
                    case yq52 => (intro w hSw; obtain ⟨k1, k2⟩ := HF.out _ hSw; go_simp; try with_reducible rfl)
                    simp only [Act.put, rn1, rn2, rn3, rn4, rn5, rn6]
                    refine rgn 4 (v := ?vq53) hHeld ?yq53 ?_
                    case yq53 => (intro w hSw; obtain ⟨k1, k2⟩ := HF.out _ hSw; go_simp; try with_reducible rfl)
                    simp only [Act.put, rn1, rn2, rn3, rn4, rn5, rn6]
                    refine rgn 6 (v := ?vq54) hHeld ?yq54 ?_
                    case yq54 => (intro w hSw; obtain ⟨k1, k2⟩ := HF.out _ hSw; go_simp; try with_reducible rfl)
                    simp only [Act.put, rn1, rn2, rn3, rn4, rn5, rn6]
                    refine rgn 7 (v := ?vq55) hHeld ?yq55 ?_
                    case yq55 => (intro w hSw; obtain ⟨k1, k2⟩ := HF.out _ hSw; go_simp; try with_reducible rfl)
                    simp only [Act.put, rn1, rn2, rn3, rn4, rn5, rn6]
                    refine rgn 8 (v := ?vq56) hHeld ?yq56 ?_
                    case yq56 => (intro w hSw; obtain ⟨k1, k2⟩ := HF.out _ hSw; go_simp; try with_reducible rfl)
                    simp only [Act.put, rn1, rn2, rn3, rn4, rn5, rn6]
                    refine rgn 9 (v := ?vq57) hHeld ?yq57 ?_
                    case yq57 => (intro w hSw; obtain ⟨k1, k2⟩ := HF.out _ hSw; go_simp; try with_reducible rfl)
                    simp only [Act.put, rn1, rn2, rn3, rn4, rn5, rn6]
                    refine rgn 10 (v := ?vq58) hHeld ?yq58 ?_
                    case yq58 => (intro w hSw; obtain ⟨k1, k2⟩ := HF.out _ hSw; go_simp; try with_reducible rfl)
                    simp only [Act.put, rn1, rn2, rn3, rn4, rn5, rn6]
                    refine reg_step (i := 5) (by kernel_rfl) rfl (by kernel_rfl) (fun K hK => ?_)
                    go_simp
                    refine (HR1.out _ hHeld).mono ?_
                    rintro e X1 ⟨rfl, hu⟩
                    have HS : (fun X => Upd NoF V7 X) X1 := hHeld.trans hu (fun _ _ h => h)
                    clear hu
                    go_wp2_with fail
                    refine hK.out _ _ HS (fun hHeld2 => ?_)
                    clear hK hHeld2 hHeld; have hHeld := HS; clear HS
                    try simp only [Act.put, rn1, rn2, rn3, rn4, rn5, rn6]
                    refine reg_step (i := 11) (by kernel_rfl) rfl (by kernel_rfl) (fun K hK => ?_)
                    go_simp
                    refine (HR2.out _ hHeld).mono ?_
                    rintro e X2 ⟨rfl, hu⟩
                    have HS : (fun X => Upd NoF V7 X) X2 := hHeld.trans hu (fun _ _ h => h)
                    clear hu
                    go_wp2_with fail
                    refine hK.out _ _ HS (fun hHeld2 => ?_)
                    clear hK hHeld2 hHeld; have hHeld := HS; clear HS
                    try simp only [Act.put, rn1, rn2, rn3, rn4, rn5, rn6]
                    refine rgn 12 (v := .bool false) hHeld ?yq59 ?_
                    case yq59 => (intro w hSw; go_simp; try with_reducible rfl)
                    simp only [Act.put, rn1, rn2, rn3, rn4, rn5, rn6]
                    refine wpAnyH_done (by kernel_rfl) ?_ _
                    have HX2 := Lib.hid (HS7.out.upd0 hHeld)
                    clear hHeld
                    go_wp2_with fail
                    go_meet
                    exact ⟨tb, ns, hops, 0, Nt.nil, _, rfl, rfl, rfl, rfl, Lib.hid ⟨HINV.out, hh0, by omega, BU.isU_Z, HX2.out⟩⟩
                  · have e3 : (kk == 3) = false := by simpa using k3
                    by_cases k4 : kk = 4
                    · subst k4
                      go_wp2_with fail
                      refine (s_copy HS7.out 3 rfl (by omega)).mono ?_
                      rintro e X1 ⟨tb2, rfl, hs⟩
                      have HX1 : Hid (Sep NoF w X1 [To tb2 c room ns hops, boxO yb Nt.nil.cells NT, boxO xb Nt.nil.cells NT, boxO ob o.cells OT, To tb c room ns hops, Rn rb c room ns hops, cfgO cb c]) := Lib.hid hs
                      clear hs
                      by_cases hz : 0 < ns.length
                      · obtain ⟨m, hm⟩ : ∃ m, ns[0]? = some m := ⟨_, List.getElem?_eq_getElem hz⟩
                        have HTK := Lib.hid (s_take HX1.out 4 rfl hc16 HINV.out hroom hh0 (by omega) 0 m hm)
                        clear hz hm
                        go_wp2_with fail
                        refine HTK.out.mono ?_
                        rintro e X2 ⟨rfl, hs⟩
                        have hs2 : Sep NoF w X2 [To tb2 c room ns hops, boxO yb Nt.nil.cells NT, boxO xb Nt.nil.cells NT, boxO ob o.cells OT, To tb c room (ns.eraseIdx 0) (hops + hopsN m.frm m.too), Rn rb c room ns hops, cfgO cb c] := hs
                        have HX2 := Lib.hid ((hs2.drop 4 (by simp)).sink 3)
                        clear hs hs2
                        go_wp2_with fail
                        go_meet
                        exact ⟨tb2, ns, hops, 0, Nt.nil, _, rfl, rfl, rfl, rfl, Lib.hid ⟨HINV.out, hh0, by omega, BU.isU_Z, HX2.out⟩⟩
                      · have HTK := Lib.hid (s_take_bad HX1.out 4 rfl 0 (by omega))
                        clear hz
                        go_wp2_with fail
                        refine HTK.out.mono ?_
                        rintro e X2 ⟨rfl, hs⟩
                        have HX2 := Lib.hid ((hs.drop 4 (by simp)).sink 3)
                        clear hs
                        go_wp2_with fail
                        go_meet
                        exact ⟨tb2, ns, hops, 0, Nt.nil, _, rfl, rfl, rfl, rfl, Lib.hid ⟨HINV.out, hh0, by omega, BU.isU_Z, HX2.out⟩⟩
                    · have e4 : (kk == 4) = false := by simpa using k4
                      go_wp2_with fail
                      go_meet
                      exact ⟨tb, ns, hops, 0, Nt.nil, _, rfl, rfl, rfl, rfl, Lib.hid ⟨HINV.out, hh0, by omega, BU.isU_Z, HS7.out⟩⟩
          case rest =>
            obtain ⟨tb2, ns2, hops2, er, m, v15, rfl, rfl, rfl, rfl, HC⟩ := hcut
            have HI2 := Lib.hid HC.out.1
            have hg0 := HC.out.2.1
            have hg8 := HC.out.2.2.1
            have HMU := Lib.hid HC.out.2.2.2.1
            have hs0 := HC.out.2.2.2.2
            clear HC HS7 HINV p0
            obtain ⟨a, cap, hok, hs1⟩ := rn_open (Sep.at_ hs0 4 rfl)
            have hs1 : Sep NoF w wc [boxO rb (RnA c room hops2 a ns2.length cap) RNT, notesO (.slice a ns2.length cap) ns2, boxO yb m.cells NT, boxO xb m.cells NT, boxO ob o.cells OT, To tb2 c room ns2 hops2, cfgO cb c] := hs1
            have hmN := Nt.Ok.isN HMU.out
            have HF := Lib.hid (fun X (hX : Upd NoF wc X) => (show (TNot.ld (.pointer (some ⟨yb, 0, none⟩))).run Try.prog X = .ok (.agg m.cells) X ∧ (TNot.ld (.pointer (some ⟨xb, 0, none⟩))).run Try.prog X = .ok (.agg m.cells) X ∧ X.cell? ⟨rb, 9, none⟩ = some (.slice a ns2.length cap) ∧ X.cell? ⟨rb, 10, none⟩ = some (.int .i64 hops2) from
              ⟨TNot.ld_at hmN ((hs1.upd0 hX).box 2 rfl).whole, TNot.ld_at hmN ((hs1.upd0 hX).box 3 rfl).whole, ((hs1.upd0 hX).box 0 rfl).cell 9, ((hs1.upd0 hX).box 0 rfl).cell 10⟩))
            have HLN := Lib.hid (fun X (hX : Upd NoF wc X) => s_len (hs1.upd0 hX) 5 rfl)
            have HHP := Lib.hid (fun X (hX : Upd NoF wc X) => s_hops (hs1.upd0 hX) 5 rfl)
            have HNE := Lib.hid (fun w => (neN_run HMU.out HMU.out w).trans (by rw [same_self]))
            have HD := Lib.hid (Upd.drew NoF wc)
            have HS0 := Lib.hid hs0
            obtain ⟨mc, hmc⟩ : ∃ x, m.cells = x := ⟨_, rfl⟩
            obtain ⟨ln, hln⟩ : ∃ x, (ns2.length : Int) = x := ⟨_, rfl⟩
            rw [hmc] at HF HNE
            rw [hln] at HLN
            have HLQ := Lib.hid hln
            clear hs0 hs1 hmN hok hmc hln
            go_wp2_with fail
            refine wp_region_held_drew (S := (fun X => Upd NoF wc X)) (by kernel_rfl) (HD.out) (fun hHeld => ?_)
            refine rgn 0 (v := ?vq60) hHeld ?yq60 ?_
            case yq60 => (intro w hSw; obtain ⟨k1, k2, k3, k4⟩ := HF.out _ hSw; have k5 := HNE.out w; have k6 := HLQ.out; go_simp; try with_reducible rfl)
            simp only [Act.put, rn1, rn2, rn3, rn4, rn5, rn6]
            refine rgn 1 (v := ?vq61) hHeld ?yq61 ?_
            case yq61 => (intro w hSw; obtain ⟨k1, k2, k3, k4⟩ := HF.out _ hSw; have k5 := HNE.out w; have k6 := HLQ.out; go_simp; try with_reducible rfl)
            simp only [Act.put, rn1, rn2, rn3, rn4, rn5, rn6]
            refine rgn 2 (v := .bool false) hHeld ?yq62 ?_
            case yq62 => (intro w hSw; obtain ⟨k1, k2, k3, k4⟩ := HF.out _ hSw; have k5 := HNE.out w; have k6 := HLQ.out; go_simp; try with_reducible rfl)
            simp only [Act.put, rn1, rn2, rn3, rn4, rn5, rn6]
            refine rgn 3 (v := .bool false) hHeld ?yq63 ?_
            case yq63 => (intro w hSw; obtain ⟨k1, k2, k3, k4⟩ := HF.out _ hSw; have k5 := HNE.out w; have k6 := HLQ.out; go_simp; try with_reducible rfl)
            simp only [Act.put, rn1, rn2, rn3, rn4, rn5, rn6]
            refine rgn 4 (v := ?vq64) hHeld ?yq64 ?_
            case yq64 => (intro w hSw; obtain ⟨k1, k2, k3, k4⟩ := HF.out _ hSw; have k5 := HNE.out w; have k6 := HLQ.out; go_simp; try with_reducible rfl)
            simp only [Act.put, rn1, rn2, rn3, rn4, rn5, rn6]
            refine rgn 5 (v := ?vq65) hHeld ?yq65 ?_
            case yq65 => (intro w hSw; obtain ⟨k1, k2, k3, k4⟩ := HF.out _ hSw; have k5 := HNE.out w; have k6 := HLQ.out; go_simp; try with_reducible rfl)
            simp only [Act.put, rn1, rn2, rn3, rn4, rn5, rn6]
            refine rgn 6 (v := .bool false) hHeld ?yq66 ?_
            case yq66 => (intro w hSw; obtain ⟨k1, k2, k3, k4⟩ := HF.out _ hSw; have k5 := HNE.out w; have k6 := HLQ.out; go_simp; try with_reducible rfl)
            simp only [Act.put, rn1, rn2, rn3, rn4, rn5, rn6]
            refine rgn 7 (v := .bool false) hHeld ?yq67 ?_
            case yq67 => (intro w hSw; obtain ⟨k1, k2, k3, k4⟩ := HF.out _ hSw; have k5 := HNE.out w; have k6 := HLQ.out; go_simp; try with_reducible rfl)
            simp only [Act.put, rn1, rn2, rn3, rn4, rn5, rn6]
            refine rgn 8 (v := .bool false) hHeld ?yq68 ?_
            case yq68 => (intro w hSw; obtain ⟨k1, k2, k3, k4⟩ := HF.out _ hSw; have k5 := HNE.out w; have k6 := HLQ.out; go_simp; try with_reducible rfl)
            simp only [Act.put, rn1, rn2, rn3, rn4, rn5, rn6]
            refine rgn 9 (v := ?vq69) hHeld ?yq69 ?_
            case yq69 => (intro w hSw; obtain ⟨k1, k2, k3, k4⟩ := HF.out _ hSw; have k5 := HNE.out w; have k6 := HLQ.out; go_simp; try with_reducible rfl)
            simp only [Act.put, rn1, rn2, rn3, rn4, rn5, rn6]
            refine rgn 11 (v := ?vq70) hHeld ?yq70 ?_
            case yq70 => (intro w hSw; obtain ⟨k1, k2, k3, k4⟩ := HF.out _ hSw; have k5 := HNE.out w; have k6 := HLQ.out; go_simp; try with_reducible rfl)
            simp only [Act.put, rn1, rn2, rn3, rn4, rn5, rn6]
            refine rgn 12 (v := ?vq71) hHeld ?yq71 ?_
            case yq71 => (intro w hSw; obtain ⟨k1, k2, k3, k4⟩ := HF.out _ hSw; have k5 := HNE.out w; have k6 := HLQ.out; go_simp; try with_reducible rfl)
            simp only [Act.put, rn1, rn2, rn3, rn4, rn5, rn6]
            refine rgn 13 (v := ?vq72) hHeld ?yq72 ?_
            case yq72 => (intro w hSw; obtain ⟨k1, k2, k3, k4⟩ := HF.out _ hSw; have k5 := HNE.out w; have k6 := HLQ.out; go_simp; try with_reducible rfl)
            simp only [Act.put, rn1, rn2, rn3, rn4, rn5, rn6]
            refine rgn 14 (v := ?vq73) hHeld ?yq73 ?_
            case yq73 => (intro w hSw; obtain ⟨k1, k2, k3, k4⟩ := HF.out _ hSw; have k5 := HNE.out w; have k6 := HLQ.out; go_simp; try with_reducible rfl)
            simp only [Act.put, rn1, rn2, rn3, rn4, rn5, rn6]
            refine rgn 15 (v := ?vq74) hHeld ?yq74 ?_
            case yq74 => (intro w hSw; obtain ⟨k1, k2, k3, k4⟩ := HF.out _ hSw; have k5 := HNE.out w; have k6 := HLQ.out; go_simp; try with_reducible rfl)
            simp only [Act.put, rn1, rn2, rn3, rn4, rn5, rn6]
            refine reg_step (i := 10) (by kernel_rfl) rfl (by kernel_rfl) (fun K hK => ?_)
            go_simp
            refine (HLN.out _ hHeld).mono ?_
            rintro e X9 ⟨rfl, hx9⟩
            have HS : (fun X => Upd NoF wc X) X9 := by rw [← hx9]; exact hHeld
            clear hx9
            go_wp2_with fail
            refine hK.out _ _ HS (fun hHeld2 => ?_)
            clear hK hHeld2 hHeld; have hHeld := HS; clear HS
            try simp only [Act.put, rn1, rn2, rn3, rn4, rn5, rn6]
            refine rgn 16 (v := .bool false) hHeld ?yq75 ?_
            case yq75 => (intro w hSw; obtain ⟨k1, k2, k3, k4⟩ := HF.out _ hSw; have k5 := HNE.out w; have k6 := HLQ.out; go_simp; try with_reducible rfl)
            simp only [Act.put, rn1, rn2, rn3, rn4, rn5, rn6]
            refine rgn 17 (v := .bool false) hHeld ?yq76 ?_
            case yq76 => (intro w hSw; obtain ⟨k1, k2, k3, k4⟩ := HF.out _ hSw; have k5 := HNE.out w; have k6 := HLQ.out; go_simp; try with_reducible rfl)
            simp only [Act.put, rn1, rn2, rn3, rn4, rn5, rn6]
            refine rgn 18 (v := .bool false) hHeld ?yq77 ?_
            case yq77 => (intro w hSw; obtain ⟨k1, k2, k3, k4⟩ := HF.out _ hSw; have k5 := HNE.out w; have k6 := HLQ.out; go_simp; try with_reducible rfl)
            simp only [Act.put, rn1, rn2, rn3, rn4, rn5, rn6]
            refine rgn 19 (v := ?vq78) hHeld ?yq78 ?_
            case yq78 => (intro w hSw; obtain ⟨k1, k2, k3, k4⟩ := HF.out _ hSw; have k5 := HNE.out w; have k6 := HLQ.out; go_simp; try with_reducible rfl)
            simp only [Act.put, rn1, rn2, rn3, rn4, rn5, rn6]
            refine rgn 21 (v := ?vq79) hHeld ?yq79 ?_
            case yq79 => (intro w hSw; obtain ⟨k1, k2, k3, k4⟩ := HF.out _ hSw; have k5 := HNE.out w; have k6 := HLQ.out; go_simp; try with_reducible rfl)
            simp only [Act.put, rn1, rn2, rn3, rn4, rn5, rn6]
            refine rgn 22 (v := ?vq80) hHeld ?yq80 ?_
            case yq80 => (intro w hSw; obtain ⟨k1, k2, k3, k4⟩ := HF.out _ hSw; have k5 := HNE.out w; have k6 := HLQ.out; go_simp; try with_reducible rfl)
            simp only [Act.put, rn1, rn2, rn3, rn4, rn5, rn6]
            refine rgn 23 (v := ?vq81) hHeld ?yq81 ?_
            case yq81 => (intro w hSw; obtain ⟨k1, k2, k3, k4⟩ := HF.out _ hSw; have k5 := HNE.out w; have k6 := HLQ.out; go_simp; try with_reducible rfl)
            simp only [Act.put, rn1, rn2, rn3, rn4, rn5, rn6]
            refine rgn 24 (v := ?vq82) hHeld ?yq82 ?_
            case yq82 => (intro w hSw; obtain ⟨k1, k2, k3, k4⟩ := HF.out _ hSw; have k5 := HNE.out w; have k6 := HLQ.out; go_simp; try with_reducible rfl)
            simp only [Act.put, rn1, rn2, rn3, rn4, rn5, rn6]
            refine reg_step (i := 20) (by kernel_rfl) rfl (by kernel_rfl) (fun K hK => ?_)
            go_simp
            refine (HHP.out _ hHeld).mono ?_
            rintro e X9 ⟨rfl, hx9⟩
            have HS : (fun X => Upd NoF wc X) X9 := by rw [← hx9]; exact hHeld
            clear hx9
            go_wp2_with fail
            refine hK.out _ _ HS (fun hHeld2 => ?_)
            clear hK hHeld2 hHeld; have hHeld := HS; clear HS
            try simp only [Act.put, rn1, rn2, rn3, rn4, rn5, rn6]
            refine rgn 25 (v := .bool false) hHeld ?yq83 ?_
            case yq83 => (intro w hSw; obtain ⟨k1, k2, k3, k4⟩ := HF.out _ hSw; have k5 := HNE.out w; have k6 := HLQ.out; go_simp; try with_reducible rfl)
            simp only [Act.put, rn1, rn2, rn3, rn4, rn5, rn6]
            refine rgn 26 (v := .bool false) hHeld ?yq84 ?_
            case yq84 => (intro w hSw; obtain ⟨k1, k2, k3, k4⟩ := HF.out _ hSw; have k5 := HNE.out w; have k6 := HLQ.out; go_simp; try with_reducible rfl)
            simp only [Act.put, rn1, rn2, rn3, rn4, rn5, rn6]
            refine wpAnyH_done (by kernel_rfl) ?_ _
            have HS9 := Lib.hid ((((HS0.out.upd0 hHeld).drop 0 (by simp)).drop 0 (by simp)).drop 0 (by simp))
            clear hHeld HF HLN HHP HNE HD HS0
            go_wp2
            go_roundw
            case rel => exact ⟨k + 1, tb2, ns2, hops2, _, _, hlt, rfl, rfl, rfl, by go_num, Lib.hid ⟨HI2.out, hg0, by omega, HS9.out⟩⟩
            case measure => simp [intOf]; omega
        · obtain rfl : k = len1 := by omega
          obtain ⟨a, cap, hok, hs1⟩ := rn_open (Sep.at_ HS4.out 1 rfl)
          have hs1 : Sep NoF w wo [boxO rb (RnA c room hops a ns.length cap) RNT, notesO (.slice a ns.length cap) ns, To tb c room ns hops, cfgO cb c] := hs1
          have HSD := Lib.hid (hs1.upd0 (Upd.drew NoF wo))
          have HOK2 := Lib.hid hok
          clear hs1 hok HS4
          go_wp2_with fail
          refine wp_region_held_drew (S := (fun X : World => X.cell? ⟨rb, 9, none⟩ = some (.slice a ns.length cap))) (by kernel_rfl) ((HSD.out.box 0 rfl).cell 9) (fun hHeld => ?_)
          obtain ⟨X0, hX0⟩ : ∃ X, wo.drew = X := ⟨_, rfl⟩
          rw [hX0] at hHeld HSD ⊢
          clear hX0
          refine rgn 0 (v := ?vq85) hHeld ?yq85 ?_
          case yq85 => (intro w hSw; (try dsimp only at hSw); have k9 := hSw; go_simp; try with_reducible rfl)
          simp only [Act.put, rn1, rn2, rn3, rn4, rn5, rn6]
          refine rgn 3 (v := ?vq86) hHeld ?yq86 ?_
          case yq86 => (intro w hSw; (try dsimp only at hSw); have k9 := hSw; go_simp; try with_reducible rfl)
          simp only [Act.put, rn1, rn2, rn3, rn4, rn5, rn6]
          refine rgn 4 (v := ?vq87) hHeld ?yq87 ?_
          case yq87 => (intro w hSw; (try dsimp only at hSw); have k9 := hSw; go_simp; try with_reducible rfl)
          simp only [Act.put, rn1, rn2, rn3, rn4, rn5, rn6]
          refine rgn 5 (v := ?vq88) hHeld ?yq88 ?_
          case yq88 => (intro w hSw; (try dsimp only at hSw); have k9 := hSw; go_simp; try with_reducible rfl)
          simp only [Act.put, rn1, rn2, rn3, rn4, rn5, rn6]
          refine rgn 6 (v := ?vq89) hHeld ?yq89 ?_
          case yq89 => (intro w hSw; (try dsimp only at hSw); have k9 := hSw; go_simp; try with_reducible rfl)
          simp only [Act.put, rn1, rn2, rn3, rn4, rn5, rn6]
          refine reg_step (i := 1) (by kernel_rfl) rfl (by kernel_rfl) (fun K hK => ?_)
          go_simp
          refine (nall_any tb X0).mono ?_
          rintro e X1 ⟨rfl, hw3⟩
          have HX1 : Hid (Sep NoF w X1 [boxO X0.heap.size #[ptr tb] 27, boxO rb (RnA c room hops a ns.length cap) RNT, notesO (.slice a ns.length cap) ns, To tb c room ns hops, cfgO cb c]) := Lib.hid (by rw [← hw3]; exact HSD.out.alloc _ _)
          have HS : (fun X : World => X.cell? ⟨rb, 9, none⟩ = some (.slice a ns.length cap)) X1 := (HX1.out.box 1 rfl).cell 9
          clear hw3
          go_wp2_with fail
          refine hK.out _ _ HS (fun hHeld2 => ?_)
          clear hK hHeld2 hHeld; have hHeld := HS; clear HS
          try simp only [Act.put, rn1, rn2, rn3, rn4, rn5, rn6]
          refine reg_step (i := 2) (by kernel_rfl) rfl (by kernel_rfl) (fun K hK => ?_)
          go_simp
          refine (s_collect HX1.out 3 rfl ((HX1.out.box 0 rfl).cell 0) (by omega)).mono ?_
          rintro e X2 ⟨v, rfl, hs⟩
          have HX2 := Lib.hid hs
          have HS : (fun X : World => X.cell? ⟨rb, 9, none⟩ = some (.slice a ns.length cap)) X2 := (HX2.out.box 2 rfl).cell 9
          clear hs
          go_wp2_with fail
          refine hK.out _ _ HS (fun hHeld2 => ?_)
          clear hK hHeld2 hHeld; have hHeld := HS; clear HS
          try simp only [Act.put, rn1, rn2, rn3, rn4, rn5, rn6]
          refine reg_step (i := 7) (by kernel_rfl) rfl (by kernel_rfl) (fun K hK => ?_)
          go_simp
          refine (equal_same X2 _ _ ns HOK2.out (HX2.out.row 0 rfl) (HX2.out.row 3 rfl)).mono ?_
          rintro e X3 ⟨rfl, hu⟩
          have HX3 := Lib.hid (HX2.out.upd0 hu)
          have HS : (fun X : World => X.cell? ⟨rb, 9, none⟩ = some (.slice a ns.length cap)) X3 := (HX3.out.box 2 rfl).cell 9
          clear hu
          go_wp2_with fail
          refine hK.out _ _ HS (fun hHeld2 => ?_)
          clear hK hHeld2 hHeld; have hHeld := HS; clear HS
          try simp only [Act.put, rn1, rn2, rn3, rn4, rn5, rn6]
          refine rgn 8 (v := .bool true) hHeld ?yq90 ?_
          case yq90 => (intro w hSw; go_simp; try with_reducible rfl)
          simp only [Act.put, rn1, rn2, rn3, rn4, rn5, rn6]
          refine reg_step (i := 9) (by kernel_rfl) rfl (by kernel_rfl) (fun K hK => ?_)
          go_simp
          refine (works_any _).mono ?_
          rintro e X4 ⟨rfl, hu⟩
          have HX4 := Lib.hid (HX3.out.upd0 hu)
          have HS : (fun X : World => X.cell? ⟨rb, 9, none⟩ = some (.slice a ns.length cap)) X4 := (HX4.out.box 2 rfl).cell 9
          clear hu
          go_wp2_with fail
          refine hK.out _ _ HS (fun hHeld2 => ?_)
          clear hK hHeld2 hHeld; have hHeld := HS; clear HS
          try simp only [Act.put, rn1, rn2, rn3, rn4, rn5, rn6]
          refine rgn 10 (v := .bool true) hHeld ?yq91 ?_
          case yq91 => (intro w hSw; go_simp; try with_reducible rfl)
          simp only [Act.put, rn1, rn2, rn3, rn4, rn5, rn6]
          refine rgn 11 (v := ?vq92) hHeld ?yq92 ?_
          case yq92 => (intro w hSw; go_simp; try with_reducible rfl)
          simp only [Act.put, rn1, rn2, rn3, rn4, rn5, rn6]
          refine wpAnyH_done (by kernel_rfl) ?_ _
          clear hHeld
          go_wp2
          go_ret
          exact ⟨rfl, HX4.out.below⟩
    · have HNO := Lib.hid (fun w => new_no c room hm w)
      have HRN := Lib.hid (fun w => (rnew_any c room w).mono (fun e w' h => show e = .returned (.tuple #[.pointer none, .int .i64 2]) ∧ Upd NoF w w' from by rw [if_neg hm] at h; exact h))
      clear hm
      go_enter Try.func8, Try.ntmps8
      go_upto_region 1 with fail
      rw [HW0.out.1, HW0.out.2]
      go_wp2_with fail
      refine (works_any _).mono ?_
      rintro e w1 ⟨rfl, hu⟩
      have HS1 := Lib.hid (HS0.out.upd0 hu)
      clear hu
      obtain ⟨k0, k1, k2, k3, k4, k5, k6, k7⟩ : (w1.cell? ⟨cb, 0, none⟩ = some (.int .i64 c.cores) ∧ w1.cell? ⟨cb, 1, none⟩ = some (.int .i64 c.sets) ∧ w1.cell? ⟨cb, 2, none⟩ = some (.int .i64 c.ways) ∧ w1.cell? ⟨cb, 3, none⟩ = some (.int .i64 c.blocks) ∧ w1.cell? ⟨cb, 4, none⟩ = some (.int .i64 c.logs) ∧ w1.cell? ⟨cb, 5, none⟩ = some (.int .i64 c.backs) ∧ w1.cell? ⟨cb, 6, none⟩ = some (.int .i64 c.nest) ∧ w1.cell? ⟨cb, 7, none⟩ = some (.int .i64 c.tries)) := ⟨(HS1.out.box 0 rfl).cell 0, (HS1.out.box 0 rfl).cell 1, (HS1.out.box 0 rfl).cell 2, (HS1.out.box 0 rfl).cell 3, (HS1.out.box 0 rfl).cell 4, (HS1.out.box 0 rfl).cell 5, (HS1.out.box 0 rfl).cell 6, (HS1.out.box 0 rfl).cell 7⟩
      go_wp2_with fail
      refine (HNO.out _).mono ?_
      rintro e w2 ⟨rfl, hu⟩
      have HS2 := Lib.hid (HS1.out.upd0 hu)
      clear hu k0 k1 k2 k3 k4 k5 k6 k7
      obtain ⟨k0, k1, k2, k3, k4, k5, k6, k7⟩ : (w2.cell? ⟨cb, 0, none⟩ = some (.int .i64 c.cores) ∧ w2.cell? ⟨cb, 1, none⟩ = some (.int .i64 c.sets) ∧ w2.cell? ⟨cb, 2, none⟩ = some (.int .i64 c.ways) ∧ w2.cell? ⟨cb, 3, none⟩ = some (.int .i64 c.blocks) ∧ w2.cell? ⟨cb, 4, none⟩ = some (.int .i64 c.logs) ∧ w2.cell? ⟨cb, 5, none⟩ = some (.int .i64 c.backs) ∧ w2.cell? ⟨cb, 6, none⟩ = some (.int .i64 c.nest) ∧ w2.cell? ⟨cb, 7, none⟩ = some (.int .i64 c.tries)) := ⟨(HS2.out.box 0 rfl).cell 0, (HS2.out.box 0 rfl).cell 1, (HS2.out.box 0 rfl).cell 2, (HS2.out.box 0 rfl).cell 3, (HS2.out.box 0 rfl).cell 4, (HS2.out.box 0 rfl).cell 5, (HS2.out.box 0 rfl).cell 6, (HS2.out.box 0 rfl).cell 7⟩
      go_wp2_with fail
      refine (HRN.out _).mono ?_
      rintro e w3 ⟨rfl, hu⟩
      have HS3 := Lib.hid (HS2.out.upd0 hu)
      clear hu k0 k1 k2 k3 k4 k5 k6 k7
      go_wp2_with fail
      refine (works_any _).mono ?_
      rintro e w9 ⟨rfl, hu⟩
      have HS9 := Lib.hid (HS3.out.upd0 hu)
      clear hu
      go_wp2
      go_ret
      exact ⟨rfl, HS9.out.below⟩
end Go.Proofs.Ytmfhbobjambgaaa.NE
