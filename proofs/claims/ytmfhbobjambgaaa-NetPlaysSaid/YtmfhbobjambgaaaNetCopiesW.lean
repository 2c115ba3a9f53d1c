/- NetCopies: what the Go function does. -/
import Derived.Test.YtmfhbobjambgaaaNetAll
import Derived.Test.YtmfhbobjambgaaaNetTook
import Derived.Test.YtmfhbobjambgaaaNetCopy
set_option linter.unusedSimpArgs false
set_option linter.unusedVariables false
namespace Go.Proofs.Ytmfhbobjambgaaa.NE
open Go.RowKit
open BU (IsU words)
open PL (Cfg CC CV May)
open GR (hopsN)
attribute [local go_sem] Oper.semAt_some
attribute [local go_sem ↓] eqN_eq neN_eq eqB_eq neB_eq TNot.ld_eq TNot.st_eq TNot.al_eq TNot.bx_eq
attribute [local go_sem] TNot.al_run TNot.bx_run
section
variable {G : Nat → Prop} {w0 W : World} {L : List Obj} {tb : Nat} {c : Cfg} {room hops : Int} {ns : List Nt}
theorem s_collect (h : Sep G w0 W L) (i : Nat) (hi : L[i]? = some (To tb c room ns hops)) {B : Nat} (hB : W.cell? ⟨B, 0, none⟩ = some (ptr tb)) (hl : ns.length ≤ 65536) :
    Calls Try.prog 23 #[.func (.func 45) #[] #[ptr B]] W fun e W' => ∃ v, e = .returned v ∧ Sep G w0 W' (notesO v ns :: L) := by
  obtain ⟨F, hF⟩ := h.has i hi
  exact (collect_any W F tb B c room ns hops hF hB hl).mono fun e W' ⟨v, he, hr, ho, hu⟩ => ⟨v, he, h.push hu ⟨hr, ho⟩⟩
theorem s_copy (h : Sep G w0 W L) (i : Nat) (hi : L[i]? = some (To tb c room ns hops)) (hl : ns.length ≤ 65536) :
    Calls Try.prog 22 #[ptr tb] W fun e W' => ∃ q, e = .returned (ptr q) ∧ Sep G w0 W' (To q c room ns hops :: L) := by
  obtain ⟨F, hF⟩ := h.has i hi
  exact (copy_any W F tb c room ns hops hF hl).mono fun e W' ⟨q, he, hu, ho⟩ => ⟨q, he, h.push hu ho⟩
theorem s_hops (h : Sep G w0 W L) (i : Nat) (hi : L[i]? = some (To tb c room ns hops)) :
    Calls Try.prog 20 #[ptr tb] W fun e W' => e = .returned (.int .i64 hops) ∧ W = W' := by
  obtain ⟨F, hF⟩ := h.has i hi
  exact hops_any W F tb c room ns hops hF
end
set_option maxRecDepth 100000 in
set_option maxHeartbeats 4000000 in
theorem copies_any (c : Cfg) (a1 : Option Addr) (len1 cap1 : Nat) (N : Nat → Nt) (a2 : Option Addr) (len2 cap2 : Nat) (Z2 : Nat → Int) (w : World) (h1 : IsRowN w a1 len1 cap1 N) (h2 : IsRow1 w a2 len2 cap2 (fun i => .int .i64 (Z2 i))) :
    Calls Try.prog 7 #[CV c, .slice a1 len1 cap1, .slice a2 len2 cap2] w fun e w' => e = .returned (.bool true) ∧ Below w.heap.size w w' := by
  have HC1 := Lib.hid (fun i (hi : i < len1) => h1.at hi)
  obtain ⟨lc1, m1, _⟩ := h1
  obtain ⟨lc2, m2, c2⟩ := h2
  unfold maxLen at m1 m2
  have C2 := Lib.hid c2
  clear c2
  obtain ⟨W0, hW0⟩ : ∃ W0, w.alloc (.cells (CC c) 23) = W0 := ⟨_, rfl⟩
  have HS0 : Hid (Sep NoF w W0 [cfgO w.heap.size c]) := Lib.hid (by rw [← hW0]; exact (Sep.zero NoF w).alloc _ _)
  have HW0 := Lib.hid hW0
  clear hW0
  by_cases g1 : 100 < len1 ∨ 100 < len2
  · by_cases g0 : 100 < len1
    · have hb1 : decide ((100 : Int) < (len1 : Int)) = true := by simp; omega
      go_enter Try.func7, Try.ntmps7
      go_wp2_with fail
      rw [HW0.out]
      refine (works_any _).mono ?_
      rintro e w1 ⟨rfl, hu⟩
      have HS1 := Lib.hid (HS0.out.upd0 hu)
      clear hu
      go_wp2_with fail
      refine (works_any _).mono ?_
      rintro e w9 ⟨rfl, hu⟩
      have HS9 := Lib.hid (HS1.out.upd0 hu)
      clear hu
      go_wp2
      go_ret
      exact ⟨rfl, HS9.out.below⟩
    · have hb1 : decide ((100 : Int) < (len1 : Int)) = false := by simp; omega
      have hb2 : decide ((100 : Int) < (len2 : Int)) = true := by simp; omega
      go_enter Try.func7, Try.ntmps7
      go_wp2_with fail
      rw [HW0.out]
      refine (works_any _).mono ?_
      rintro e w1 ⟨rfl, hu⟩
      have HS1 := Lib.hid (HS0.out.upd0 hu)
      clear hu
      go_wp2_with fail
      refine (works_any _).mono ?_
      rintro e w9 ⟨rfl, hu⟩
      have HS9 := Lib.hid (HS1.out.upd0 hu)
      clear hu
      go_wp2
      go_ret
      exact ⟨rfl, HS9.out.below⟩
  · have hb1 : decide ((100 : Int) < (len1 : Int)) = false := by simp; omega
    have hb2 : decide ((100 : Int) < (len2 : Int)) = false := by simp; omega
    by_cases hm : May c
    · have hcc : c.cores ≤ 16 := hm.1.2
      have HN := Lib.hid (new_yes c hm 200 (by decide) (by decide))
      have HM := Lib.hid hm
      have I0 := Lib.hid (InvT.nil c 200 (by decide))
      clear hm
      go_enter Try.func7, Try.ntmps7
      go_wp2_with fail
      rw [HW0.out]
      refine (works_any _).mono ?_
      rintro e w1 ⟨rfl, hu⟩
      have HS1 := Lib.hid (HS0.out.upd0 hu)
      clear hu
      obtain ⟨cb, hcb⟩ : ∃ cb, w.heap.size = cb := ⟨_, rfl⟩
      rw [hcb] at HS1 ⊢
      clear HS0 HW0
      have d0 : w1.cell? ⟨cb, 0, none⟩ = some (.int .i64 c.cores) := (HS1.out.box 0 rfl).cell 0
      have d1 : w1.cell? ⟨cb, 1, none⟩ = some (.int .i64 c.sets) := (HS1.out.box 0 rfl).cell 1
      have d2 : w1.cell? ⟨cb, 2, none⟩ = some (.int .i64 c.ways) := (HS1.out.box 0 rfl).cell 2
      have d3 : w1.cell? ⟨cb, 3, none⟩ = some (.int .i64 c.blocks) := (HS1.out.box 0 rfl).cell 3
      have d4 : w1.cell? ⟨cb, 4, none⟩ = some (.int .i64 c.logs) := (HS1.out.box 0 rfl).cell 4
      have d5 : w1.cell? ⟨cb, 5, none⟩ = some (.int .i64 c.backs) := (HS1.out.box 0 rfl).cell 5
      have d6 : w1.cell? ⟨cb, 6, none⟩ = some (.int .i64 c.nest) := (HS1.out.box 0 rfl).cell 6
      have d7 : w1.cell? ⟨cb, 7, none⟩ = some (.int .i64 c.tries) := (HS1.out.box 0 rfl).cell 7
      go_wp2_with fail
      refine (HN.out w1).mono ?_
      rintro e w2 ⟨tb, rfl, hu, ht⟩
      have HS2 : Hid (Sep NoF w w2 [To tb c 200 [] 0, cfgO cb c]) := Lib.hid (HS1.out.push hu ht)
      clear hu ht d0 d1 d2 d3 d4 d5 d6 d7
      go_wp2_with fail
      go_loopw [39] (fun i wr => ∃ (k : Nat) (ns : List Nt), k ≤ len1 ∧ i = .int .i64 k ∧ Hid (InvT c 200 ns ∧ ns.length ≤ k ∧ Sep NoF w wr [To tb c 200 ns 0, cfgO cb c])) (fun i _ => len1 - (intOf i).toNat)
      case atStart => exact ⟨0, [], Nat.zero_le _, rfl, I0.out, Nat.le_refl _, HS2.out⟩
      case round =>
        obtain ⟨k, ns, hk, rfl, HI⟩ := hrel
        by_cases hlt : k < len1
        · obtain ⟨hok, x, g, q, rfl, hxa, hgl, hrg⟩ := HC1.out k hlt
          have HOK := Lib.hid hok
          have hrw : wr.rangeAt g q (N k).cells.toList := fun j v hv => HI.out.2.2.old (hrg j v hv)
          have hrw2 : (wr.alloc (.cells TNot.Z 37)).rangeAt g q (N k).cells.toList := World.rangeAt_alloc hrw _
          generalize N k = n at *
          have l1 := TNot.ld_at (Nt.Ok.isN HOK.out.isU) hrw
          have l2 := TNot.ld_at (Nt.Ok.isN HOK.out.isU) hrw2
          have s1 := TNot.st_new (Nt.Ok.isN HOK.out.isU) wr
          obtain ⟨w5, hw5⟩ : ∃ W, wr.alloc (.cells n.cells 37) = W := ⟨_, rfl⟩
          have HS5 : Hid (Sep NoF w w5 [noteO wr.heap.size n, To tb c 200 ns 0, cfgO cb c]) := Lib.hid (by rw [← hw5]; exact HI.out.2.2.alloc _ _)
          have HV := Lib.hid HI.out.1; have HL := Lib.hid HI.out.2.1
          have HW5 := Lib.hid hw5
          clear hw5 HI hok hrw hrw2 hrg
          go_upto_region 11 with fail
          rw [HW5.out]
          clear HW5 l1 l2 s1
          obtain ⟨nb, hnb⟩ : ∃ b, wr.heap.size = b := ⟨_, rfl⟩
          rw [hnb] at HS5 ⊢
          clear hnb
          have l9 := TNot.ld_at (Nt.Ok.isN HOK.out.isU) (HS5.out.box 0 rfl).whole
          have hsd := s_send HS5.out 1 rfl HM.out HV.out (by decide) n HOK.out
          have HV2 := Lib.hid (HV.out.send hcc HOK.out)
          have hls : (sendS c 200 ns n).length ≤ k + 1 := by have := HL.out; unfold sendS; split <;> simp <;> omega
          generalize sendS c 200 ns n = ns2 at *
          generalize sendE c 200 ns n = ee at *
          have HSD := Lib.hid hsd; have HLS := Lib.hid hls
          clear hsd hls
          go_wp2_with fail
          refine HSD.out.mono ?_
          rintro e w6 ⟨rfl, hs⟩
          have HS6 : Hid (Sep NoF w w6 [To tb c 200 ns2 0, cfgO cb c]) := Lib.hid (hs.drop 0 (Nat.succ_pos _))
          clear hs
          go_wp2_with fail
          exact ⟨⟨k + 1, ns2, by omega, by go_num, HV2.out, HLS.out, HS6.out⟩, by simp [intOf]; omega⟩
        · obtain rfl : len1 = k := by omega
          have HV := Lib.hid HI.out.1
          have HS := Lib.hid HI.out.2.2
          have h100 : ns.length ≤ 100 := by have := HI.out.2.1; omega
          clear HI
          obtain ⟨wq, rfl⟩ : ∃ x, x = wr := ⟨_, rfl⟩
          go_wp2_with fail
          refine (nall_any tb wq).mono ?_
          rintro e w3 ⟨rfl, hw3⟩
          have HS3 : Hid (Sep NoF w w3 [boxO wq.heap.size #[ptr tb] 27, To tb c 200 ns 0, cfgO cb c]) := Lib.hid (by rw [← hw3]; exact HS.out.alloc _ _)
          clear hw3
          go_wp2_with fail
          refine (s_collect HS3.out 1 rfl ((HS3.out.box 0 rfl).cell 0) (by omega)).mono ?_
          rintro e w4 ⟨v, rfl, hs⟩
          have HS4 : Hid (Sep NoF w w4 [notesO v ns, To tb c 200 ns 0, cfgO cb c]) := Lib.hid (hs.drop 1 (by simp))
          clear hs HS3
          go_wp2_with fail
          refine (s_hops HS4.out 1 rfl).mono ?_
          rintro e w5 ⟨rfl, rfl⟩
          go_wp2_with fail
          refine (s_copy HS4.out 1 rfl (by omega)).mono ?_
          rintro e w6 ⟨q, rfl, hs⟩
          have HS6 : Hid (Sep NoF w w6 [To q c 200 ns 0, notesO v ns, To tb c 200 ns 0, cfgO cb c]) := Lib.hid hs
          clear hs HS4
          obtain ⟨av, capv, rfl, hnc, hcm, _⟩ := s_row (HS6.out.row 1 rfl) HV.out.ok
          unfold maxLen at hcm
          go_wp2_with fail
          go_loopw [56] (fun i wr => ∃ (k : Nat) (ms : List Nt) (hops : Int), k ≤ len2 ∧ i = .int .i64 k ∧ Hid (InvT c 200 ms ∧ ms.length ≤ 100 ∧ 0 ≤ hops ∧ hops ≤ 8 * k ∧ Sep NoF w wr [To q c 200 ms hops, notesO (.slice av ns.length capv) ns, To tb c 200 ns 0, cfgO cb c])) (fun i _ => len2 - (intOf i).toNat)
          case atStart => exact ⟨0, ns, 0, Nat.zero_le _, rfl, HV.out, h100, by omega, by omega, HS6.out⟩
          case round =>
            obtain ⟨k, ms, hops, hk, rfl, HI⟩ := hrel
            obtain ⟨hvm, hlm, hp0, hp1, hs⟩ := HI.out
            have HVM := Lib.hid hvm; have HSM := Lib.hid hs
            clear hvm hs HI
            by_cases hlt : k < len2
            · obtain ⟨x2, rfl, gz0⟩ := C2.out k hlt
              have gz := HSM.out.old gz0
              clear gz0
              generalize Z2 k = z at *
              by_cases hr : 0 ≤ z ∧ z < ms.length
              · obtain ⟨j, rfl⟩ : ∃ j : Nat, z = j := ⟨_, (Int.toNat_of_nonneg hr.1).symm⟩
                obtain ⟨n, hn⟩ : ∃ n, ms[j]? = some n := ⟨_, List.getElem?_eq_getElem (by omega)⟩
                have hhb := hopsN_le (fits_may (HVM.out.fit n (List.mem_of_getElem? hn)))
                have HTK := Lib.hid (s_take HSM.out 0 rfl hcc HVM.out (by decide) hp0 (by omega) j n hn)
                have hle := List.length_eraseIdx_le ms j
                clear hn
                go_wp2_with fail
                refine HTK.out.mono ?_
                rintro e w7 ⟨rfl, hs⟩
                have HS7 := Lib.hid hs
                clear hs
                go_wp2_with fail
                exact ⟨⟨k + 1, ms.eraseIdx j, hops + hopsN n.frm n.too, by omega, by go_num, HVM.out.erase j, by omega, by omega, by omega, HS7.out⟩, by simp [intOf]; omega⟩
              · have HTK := Lib.hid (s_take_bad HSM.out 0 rfl z (by omega))
                go_wp2_with fail
                refine HTK.out.mono ?_
                rintro e w7 ⟨rfl, hs⟩
                have HS7 := Lib.hid hs
                clear hs
                go_wp2_with fail
                exact ⟨⟨k + 1, ms, hops, by omega, by go_num, HVM.out, by omega, by omega, by omega, HS7.out⟩, by simp [intOf]; omega⟩
            · obtain rfl : len2 = k := by omega
              obtain ⟨wp, rfl⟩ : ∃ x, x = wr := ⟨_, rfl⟩
              go_wp2_with fail
              go_loopw [66] (fun i wr => ∃ (k : Nat) (ms : List Nt), k ≤ len1 ∧ i = .int .i64 k ∧ Hid (InvT c 200 ms ∧ ms.length ≤ 100 + k ∧ Sep NoF w wr [To q c 200 ms hops, notesO (.slice av ns.length capv) ns, To tb c 200 ns 0, cfgO cb c])) (fun i _ => len1 - (intOf i).toNat)
              case atStart => exact ⟨0, ms, Nat.zero_le _, rfl, HVM.out, hlm, HSM.out⟩
              case round =>
                clear HVM HSM
                obtain ⟨k, ms, hk, rfl, HI⟩ := hrel
                by_cases hlt : k < len1
                · obtain ⟨hok, x, g, qq, rfl, hxa, hgl, hrg⟩ := HC1.out k hlt
                  have HOK := Lib.hid hok
                  have hrw : wr.rangeAt g qq (N k).cells.toList := fun j v hv => HI.out.2.2.old (hrg j v hv)
                  have hrw2 : (wr.alloc (.cells TNot.Z 37)).rangeAt g qq (N k).cells.toList := World.rangeAt_alloc hrw _
                  generalize N k = n at *
                  have l1 := TNot.ld_at (Nt.Ok.isN HOK.out.isU) hrw
                  have l2 := TNot.ld_at (Nt.Ok.isN HOK.out.isU) hrw2
                  have s1 := TNot.st_new (Nt.Ok.isN HOK.out.isU) wr
                  obtain ⟨w5, hw5⟩ : ∃ W, wr.alloc (.cells n.cells 37) = W := ⟨_, rfl⟩
                  have HS5 : Hid (Sep NoF w w5 [noteO wr.heap.size n, To q c 200 ms hops, notesO (.slice av ns.length capv) ns, To tb c 200 ns 0, cfgO cb c]) := Lib.hid (by rw [← hw5]; exact HI.out.2.2.alloc _ _)
                  have HVM := Lib.hid HI.out.1; have HL := Lib.hid HI.out.2.1
                  have HW5 := Lib.hid hw5
                  clear hw5 HI hok hrw hrw2 hrg
                  go_upto_region 23 with fail
                  rw [HW5.out]
                  clear HW5 l1 l2 s1
                  obtain ⟨nb, hnb⟩ : ∃ b, wr.heap.size = b := ⟨_, rfl⟩
                  rw [hnb] at HS5 ⊢
                  clear hnb
                  have l9 := TNot.ld_at (Nt.Ok.isN HOK.out.isU) (HS5.out.box 0 rfl).whole
                  have hsd := s_send HS5.out 1 rfl HM.out HVM.out (by decide) n HOK.out
                  have HV2 := Lib.hid (HVM.out.send hcc HOK.out)
                  have hls : (sendS c 200 ms n).length ≤ 100 + (k + 1) := by have := HL.out; unfold sendS; split <;> simp <;> omega
                  generalize sendS c 200 ms n = ms2 at *
                  generalize sendE c 200 ms n = ee at *
                  have HSD := Lib.hid hsd; have HLS := Lib.hid hls
                  clear hsd hls
                  go_wp2_with fail
                  refine HSD.out.mono ?_
                  rintro e w6 ⟨rfl, hs⟩
                  have HS6 : Hid (Sep NoF w w6 [To q c 200 ms2 hops, notesO (.slice av ns.length capv) ns, To tb c 200 ns 0, cfgO cb c]) := Lib.hid (hs.drop 0 (Nat.succ_pos _))
                  clear hs
                  go_wp2_with fail
                  exact ⟨⟨k + 1, ms2, by omega, by go_num, HV2.out, HLS.out, HS6.out⟩, by simp [intOf]; omega⟩
                · obtain rfl : len1 = k := by omega
                  have HS := Lib.hid HI.out.2.2
                  clear HI
                  obtain ⟨wz, rfl⟩ : ∃ x, x = wr := ⟨_, rfl⟩
                  go_wp2_with fail
                  refine (nall_any tb wz).mono ?_
                  rintro e w3 ⟨rfl, hw3⟩
                  have HS3 : Hid (Sep NoF w w3 [boxO wz.heap.size #[ptr tb] 27, To q c 200 ms hops, notesO (.slice av ns.length capv) ns, To tb c 200 ns 0, cfgO cb c]) := Lib.hid (by rw [← hw3]; exact HS.out.alloc _ _)
                  clear hw3
                  go_wp2_with fail
                  refine (s_collect HS3.out 3 rfl ((HS3.out.box 0 rfl).cell 0) (by omega)).mono ?_
                  rintro e w4 ⟨v9, rfl, hs⟩
                  have HS4 := Lib.hid hs
                  clear hs HS3
                  go_wp2_with fail
                  refine (equal_same w4 _ _ ns HV.out.ok (HS4.out.row 0 rfl) (HS4.out.row 3 rfl)).mono ?_
                  rintro e w5 ⟨rfl, hu⟩
                  have HS5 := Lib.hid (HS4.out.upd0 hu)
                  clear hu HS4
                  go_wp2_with fail
                  refine (s_hops HS5.out 4 rfl).mono ?_
                  rintro e w6 ⟨rfl, rfl⟩
                  go_wp2_with fail
                  refine (s_len HS5.out 4 rfl).mono ?_
                  rintro e w6 ⟨rfl, rfl⟩
                  go_wp2_with fail
                  refine (works_any _).mono ?_
                  rintro e w9 ⟨rfl, hu⟩
                  have HS9 := Lib.hid (HS5.out.upd0 hu)
                  clear hu
                  go_wp2
                  go_ret
                  exact ⟨rfl, HS9.out.below⟩
    · have HN := Lib.hid (new_no c 200 (fun h => hm h.1))
      clear hm
      go_enter Try.func7, Try.ntmps7
      go_wp2_with fail
      rw [HW0.out]
      refine (works_any _).mono ?_
      rintro e w1 ⟨rfl, hu⟩
      have HS1 := Lib.hid (HS0.out.upd0 hu)
      clear hu
      have d0 : w1.cell? ⟨w.heap.size, 0, none⟩ = some (.int .i64 c.cores) := (HS1.out.box 0 rfl).cell 0
      have d1 : w1.cell? ⟨w.heap.size, 1, none⟩ = some (.int .i64 c.sets) := (HS1.out.box 0 rfl).cell 1
      have d2 : w1.cell? ⟨w.heap.size, 2, none⟩ = some (.int .i64 c.ways) := (HS1.out.box 0 rfl).cell 2
      have d3 : w1.cell? ⟨w.heap.size, 3, none⟩ = some (.int .i64 c.blocks) := (HS1.out.box 0 rfl).cell 3
      have d4 : w1.cell? ⟨w.heap.size, 4, none⟩ = some (.int .i64 c.logs) := (HS1.out.box 0 rfl).cell 4
      have d5 : w1.cell? ⟨w.heap.size, 5, none⟩ = some (.int .i64 c.backs) := (HS1.out.box 0 rfl).cell 5
      have d6 : w1.cell? ⟨w.heap.size, 6, none⟩ = some (.int .i64 c.nest) := (HS1.out.box 0 rfl).cell 6
      have d7 : w1.cell? ⟨w.heap.size, 7, none⟩ = some (.int .i64 c.tries) := (HS1.out.box 0 rfl).cell 7
      go_wp2_with fail
      refine (HN.out w1).mono ?_
      rintro e w2 ⟨rfl, hu⟩
      have HS2 := Lib.hid (HS1.out.upd0 hu)
      clear hu
      go_wp2_with fail
      refine (works_any _).mono ?_
      rintro e w9 ⟨rfl, hu⟩
      have HS9 := Lib.hid (HS2.out.upd0 hu)
      clear hu
      go_wp2
      go_ret
      exact ⟨rfl, HS9.out.below⟩
end Go.Proofs.Ytmfhbobjambgaaa.NE
