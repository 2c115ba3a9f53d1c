/- What undertowlaw11 builds its statements of: two, up, down, begun, gives, works. -/
import Derived.Test.YtlhbnndnkcpomaaDoorHomeM
import Derived.Test.YtlhbnndnkcpomaaDoorHomeBase
set_option linter.unusedSimpArgs false
set_option linter.unusedVariables false
namespace Go.Proofs.YtlhbnndnkcpomaaDoor.HO
open Go.RowKit
open BU (IsU words)
open PL (Cfg CC CV May)
open ME (memO sl)
attribute [local go_sem] Oper.semAt_some
attribute [local go_sem ↓] TNot.ld_eq TNot.st_eq TNot.al_eq TNot.bx_eq TBlk.ld_eq TBlk.st_eq TBlk.al_eq TBlk.bx_eq bsN_eq
attribute [local go_sem] TNot.al_run TNot.bx_run TBlk.al_run TBlk.bx_run
section
variable {w0 W W' : World} {hb mb : Nat} {S : Hs} {L : List Obj}
def twoC : Cfg := ⟨2, 2, 2, 10, 1, 1, 1, 0⟩
theorem may_two : May twoC := by decide
theorem two_any (w : World) : Calls Tryd.prog 30 #[] w fun e w' => e = .returned (CV twoC) ∧ Upd NoF w w' := by
  show Calls Tryd.prog 30 #[] w fun e w' => e = .returned (.agg #[.int .i64 2, .int .i64 2, .int .i64 2, .int .i64 10, .int .i64 1, .int .i64 1, .int .i64 1, .int .i64 0]) ∧ Upd NoF w w'
  go_enter Tryd.func30, Tryd.ntmps30
  go_wp2
  exact bodyPost_ret (v := .agg #[.int .i64 2, .int .i64 2, .int .i64 2, .int .i64 10, .int .i64 1, .int .i64 1, .int .i64 1, .int .i64 0]) (by simp [results, Tryd.f30, go_sem]) rfl ⟨rfl, Upd.alloc NoF w _⟩
/-- A note of two kinds of cells told one by one. -/
abbrev noA (k frm too blk stamp st : Int) (has : Bool) (D : Array Value) : Array Value := #[.int .u8 k, .int .i64 frm, .int .i64 too, .int .i64 blk, .int .u64 stamp, .int .u8 st, .bool has, .bool false] ++ D
abbrev noZ (k frm too blk : Int) : Array Value := #[.int .u8 k, .int .i64 frm, .int .i64 too, .int .i64 blk, .int .u64 0, .int .u8 0, .bool false, .bool false, .int .u32 0, .int .u32 0, .int .u32 0, .int .u32 0, .int .u32 0, .int .u32 0, .int .u32 0, .int .u32 0, .int .u32 0, .int .u32 0, .int .u32 0, .int .u32 0, .int .u32 0, .int .u32 0, .int .u32 0, .int .u32 0]
def upN (k core : Int) : Nt := ⟨k, core, -1, 5, 0, 0, false, false, TBlk.Z⟩
def dnN (k core : Int) : Nt := ⟨k, -1, core, 5, 0, 0, false, false, TBlk.Z⟩
theorem up_cells (k core : Int) : (upN k core).cells = noZ k core (-1) 5 := by kernel_rfl
theorem dn_cells (k core : Int) : (dnN k core).cells = noZ k (-1) core 5 := by kernel_rfl
theorem up_ok (k core : Int) (h : 0 ≤ k ∧ k ≤ 255) : (upN k core).Ok := ⟨h, by show (0:Int) ≤ 0 ∧ (0:Int) ≤ _; omega, by show (0:Int) ≤ 0 ∧ (0:Int) ≤ 255; omega, BU.isU_Z⟩
theorem dn_ok (k core : Int) (h : 0 ≤ k ∧ k ≤ 255) : (dnN k core).Ok := ⟨h, by show (0:Int) ≤ 0 ∧ (0:Int) ≤ _; omega, by show (0:Int) ≤ 0 ∧ (0:Int) ≤ 255; omega, BU.isU_Z⟩
set_option maxRecDepth 100000 in
theorem up_any (k core : Int) (w : World) : Calls Tryd.prog 28 #[.int .u8 k, .int .i64 core] w fun e w' => e = .returned (.agg (upN k core).cells) ∧ Upd NoF w w' := by
  rw [up_cells]
  have hA : IsN 24 (noZ k core (-1) 5) := by rw [← up_cells]; exact Nt.Ok.isN BU.isU_Z
  have s1 := TNot.st_new hA w
  have HV := Lib.hid (TNot.ldV_at hA (Blk.new w (noZ k core (-1) 5) NT).whole)
  clear hA
  go_enter Tryd.func28, Tryd.ntmps28
  go_wp2
  have hv := HV.out
  refine bodyPost_ret (v := .agg (noZ k core (-1) 5)) ?_ ?_ ?_
  · simp [results, Tryd.f28, asAddr, hv]
  · rfl
  exact ⟨rfl, Upd.alloc NoF w _⟩
set_option maxRecDepth 100000 in
theorem dn_any (k core : Int) (w : World) : Calls Tryd.prog 27 #[.int .u8 k, .int .i64 core] w fun e w' => e = .returned (.agg (dnN k core).cells) ∧ Upd NoF w w' := by
  rw [dn_cells]
  have hA : IsN 24 (noZ k (-1) core 5) := by rw [← dn_cells]; exact Nt.Ok.isN BU.isU_Z
  have s1 := TNot.st_new hA w
  have HV := Lib.hid (TNot.ldV_at hA (Blk.new w (noZ k (-1) core 5) NT).whole)
  clear hA
  go_enter Tryd.func27, Tryd.ntmps27
  go_wp2
  have hv := HV.out
  refine bodyPost_ret (v := .agg (noZ k (-1) core 5)) ?_ ?_ ?_
  · simp [results, Tryd.f27, asAddr, hv]
  · rfl
  exact ⟨rfl, Upd.alloc NoF w _⟩
abbrev Hs0 : Hs := Hs.new twoC (fun _ => TBlk.Z)
set_option maxRecDepth 100000 in
theorem begun_is (h : Sep NoF w0 W L) : Calls Tryd.prog 26 #[] W fun e W' => ∃ hb mb, e = .returned (.tuple #[ptr hb, .bool true]) ∧ Sep NoF w0 W' (homeO hb mb Hs0 :: L) := by
  have HM := Lib.hid (ME.new_ok 10 (by omega) (by omega) W)
  have HS := Lib.hid h
  clear h
  go_enter Tryd.func26, Tryd.ntmps26
  go_wp2_with fail
  refine HM.out.mono ?_
  rintro e w1 ⟨mb, rfl, hu, hm⟩
  have HS1 := Lib.hid (HS.out.push hu hm)
  clear hu hm
  go_wp2_with fail
  refine (two_any w1).mono ?_
  rintro e w2 ⟨rfl, hu⟩
  have HN := Lib.hid (new_yes (HS1.out.upd0 hu) twoC may_two rfl (fun _ => BU.isU_Z))
  clear hu
  go_wp2_with fail
  refine HN.out.mono ?_
  rintro e w3 ⟨hb, rfl, hs⟩
  have HS3 := Lib.hid hs
  clear hs
  go_wp2
  go_ret2
  exact ⟨hb, mb, rfl, HS3.out⟩
set_option maxRecDepth 100000 in
theorem gives_is (h : Sep NoF w0 W (homeO hb mb S :: L)) (hT : Tab w0) (n : Nt) (hn : n.Ok) (v : Value) (ns : List Nt) (i : Nat) (hi : L[i]? = some (outO v ns)) (hN : ∀ m ∈ ns, IsU m.D) (hR : (takeP S n).2 = (ns, 0)) :
    Calls Tryd.prog 29 #[ptr hb, .agg n.cells, v] W fun e W' => e = .returned (.bool true) ∧ Sep NoF w0 W' (homeO hb mb (takeP S n).1 :: L) := by
  have hs1 := (h.alloc n.cells NT).swap
  have l0 := TNot.ld_at (Nt.Ok.isN hn.isU) (hs1.box 1 rfl).whole
  have ht := take_is hs1 hT n hn
  rw [hR] at ht
  obtain ⟨S', hS'⟩ : ∃ S', (takeP S n).1 = S' := ⟨_, rfl⟩
  rw [hS'] at ht ⊢
  obtain ⟨V, hV⟩ : ∃ V, W.alloc (.cells n.cells NT) = V := ⟨_, rfl⟩
  obtain ⟨nx, hnx⟩ : ∃ nx, W.heap.size = nx := ⟨_, rfl⟩
  rw [hV] at ht l0
  rw [hnx] at ht l0
  have HTK := Lib.hid ht; have HV := Lib.hid hV; have HNX := Lib.hid hnx; have HI := Lib.hid hi; have HN := Lib.hid hN
  clear h hT hs1 ht hV hnx hi hR hS' hn hN
  go_enter Tryd.func29, Tryd.ntmps29
  go_upto_region 1 with fail
  rw [HV.out, HNX.out]
  go_wp2_with fail
  refine HTK.out.mono ?_
  rintro e w2 ⟨v', rfl, hs⟩
  have HE := Lib.hid (NQ.equal_same w2 v' v ns HN.out (hs.row 0 rfl) (hs.row (i + 3) HI.out))
  have HS2 := Lib.hid ((hs.drop 0 (by simp)).drop 1 (by simp))
  clear hs l0
  go_wp2_with fail
  refine HE.out.mono ?_
  rintro e w3 ⟨rfl, hu⟩
  have HS3 := Lib.hid (HS2.out.upd0 hu)
  clear hu
  go_wp2
  go_ret
  exact ⟨rfl, HS3.out⟩
theorem gives_to (h : Sep NoF w0 W (homeO hb mb S :: L)) (hT : Tab w0) (n : Nt) (hn : n.Ok) (v : Value) (ns : List Nt) (i : Nat) (hi : L[i]? = some (outO v ns)) (hN : ∀ m ∈ ns, IsU m.D) {K : Hs} (hK : takeP S n = (K, ns, 0)) :
    Calls Tryd.prog 29 #[ptr hb, .agg n.cells, v] W fun e W' => e = .returned (.bool true) ∧ Sep NoF w0 W' (homeO hb mb K :: L) := by
  have := gives_is h hT n hn v ns i hi hN (by rw [hK])
  rw [hK] at this
  exact this
theorem gives_none (h : Sep NoF w0 W (homeO hb mb S :: L)) (hT : Tab w0) (n : Nt) (hn : n.Ok) {K : Hs} (hK : takeP S n = (K, [], 0)) :
    Calls Tryd.prog 29 #[ptr hb, .agg n.cells, .slice none 0 0] W fun e W' => e = .returned (.bool true) ∧ Sep NoF w0 W' (homeO hb mb K :: L) := by
  have h1 := (out_nil h).swap
  exact (gives_to h1 hT n hn (.slice none 0 0) [] 0 rfl (fun m hm => by cases hm) hK).mono (fun e W' ⟨he, hs⟩ => ⟨he, hs.drop 1 (by simp)⟩)
theorem busy_at (h : Sep NoF w0 W L) (i : Nat) (hi : L[i]? = some (homeO hb mb S)) (b : Int) (hb' : -9223372036854775808 ≤ b ∧ b ≤ 9223372036854775807) {r : Bool} (hr : (S.J b).isSome = r) :
    Calls Tryd.prog 17 #[ptr hb, .int .i64 b] W fun e w' => e = .returned (.bool r) ∧ Upd NoF W w' := by
  obtain ⟨F, hF⟩ := h.has i hi
  exact hr ▸ busy_is hF b hb'
theorem waits_at (h : Sep NoF w0 W L) (i : Nat) (hi : L[i]? = some (homeO hb mb S)) {r : Int} (hr : (S.Q.length : Int) = r) :
    Calls Tryd.prog 18 #[ptr hb] W fun e w' => e = .returned (.int .i64 r) ∧ W = w' := by
  obtain ⟨F, hF⟩ := h.has i hi
  exact hr ▸ waits_is hF
def datN : Nt := ⟨6, -1, 0, 5, 0, 2, true, false, TBlk.Z⟩
theorem dat_cells : ((dnN 6 0).cells.setIfInBounds 5 (.int .u8 2)).setIfInBounds 6 (.bool true) = datN.cells := by kernel_rfl
theorem dat_ok : datN.Ok := ⟨by decide, by decide, by decide, BU.isU_Z⟩
def K1 : Hs := (takeP Hs0 (upN 1 0)).1
theorem k1 : takeP Hs0 (upN 1 0) = (K1, [datN], 0) := Prod.ext rfl (by kernel_rfl)
theorem b1 : (K1.J 5).isSome = true := by kernel_rfl
def K2 : Hs := (takeP K1 (upN 2 1)).1
theorem k2 : takeP K1 (upN 2 1) = (K2, [], 0) := Prod.ext rfl (by kernel_rfl)
theorem q2 : (K2.Q.length : Int) = 1 := by kernel_rfl
set_option maxRecDepth 100000 in
set_option maxHeartbeats 4000000 in
theorem works_is (h : Sep NoF w0 W L) (hT : Tab w0) : Calls Tryd.prog 10 #[] W fun e W' => e = .returned (.bool true) ∧ Sep NoF w0 W' L := by
  have HS0 := Lib.hid h; have HT := Lib.hid hT
  have HDN := Lib.hid (Nt.Ok.isN dat_ok.isU)
  clear h hT
  go_enter Tryd.func10, Tryd.ntmps10
  go_wp2_with fail
  refine (begun_is HS0.out).mono ?_
  rintro e w1 ⟨hb, mb, rfl, hs⟩
  have HS1 := Lib.hid hs
  clear hs
  go_wp2_with fail
  refine (dn_any 6 0 _).mono ?_
  rintro e w2 ⟨rfl, hu⟩
  have hs2 := (HS1.out.upd0 hu).alloc (((dnN 6 0).cells.setIfInBounds 5 (.int .u8 2)).setIfInBounds 6 (.bool true)) NT
  have s1 := TNot.st_new (Nt.Ok.isN (dn_ok 6 0 (by omega)).isU) w2
  obtain ⟨V, hV⟩ : ∃ V, w2.alloc (.cells (((dnN 6 0).cells.setIfInBounds 5 (.int .u8 2)).setIfInBounds 6 (.bool true)) NT) = V := ⟨_, rfl⟩
  obtain ⟨db, hdb⟩ : ∃ x, w2.heap.size = x := ⟨_, rfl⟩
  rw [hV, hdb] at hs2
  have HS2 := Lib.hid (show Sep NoF w0 V (boxO db datN.cells NT :: homeO hb mb Hs0 :: L) from dat_cells ▸ hs2)
  have HV := Lib.hid hV; have HDB := Lib.hid hdb
  clear hs2 hu hV hdb
  go_upto_region 4 with fail
  rw [HV.out, HDB.out]
  have HS3 := Lib.hid (HS2.out.upd0 (Upd.drew NoF V))
  refine wp_region_held_drew (S := (fun X => Blk X db datN.cells NT)) (by kernel_rfl) (HS3.out.box 0 rfl) (fun hHeld => ?_)
  obtain ⟨X0, hX0⟩ : ∃ X, V.drew = X := ⟨_, rfl⟩
  have HX0 := Lib.hid hX0
  have HS4 : Hid (Sep NoF w0 X0 (boxO db datN.cells NT :: homeO hb mb Hs0 :: L)) := hX0 ▸ HS3
  rw [hX0] at hHeld ⊢
  clear hX0
  refine rgn 0 (v := .bool true) hHeld ?yq1 ?_
  case yq1 => (intro w hSw; go_simp; try with_reducible rfl)
  simp only [Act.put, rn1, rn2, rn3, rn4, rn5, rn6]
  refine rgn 1 (v := .bool true) hHeld ?yq2 ?_
  case yq2 => (intro w hSw; go_simp; try with_reducible rfl)
  simp only [Act.put, rn1, rn2, rn3, rn4, rn5, rn6]
  refine rgn 2 (v := ?vq3) hHeld ?yq3 ?_
  case yq3 => (intro w hSw; go_simp; try with_reducible rfl)
  simp only [Act.put, rn1, rn2, rn3, rn4, rn5, rn6]
  refine rgn 4 (v := ?vq4) hHeld ?yq4 ?_
  case yq4 => (intro w hSw; (try dsimp only at hSw); have l0 := TNot.ld_at HDN.out hSw.whole; go_simp; try with_reducible rfl)
  simp only [Act.put, rn1, rn2, rn3, rn4, rn5, rn6]
  refine reg_two (i := 3) (j := 5) (by kernel_rfl) rfl rfl (by kernel_rfl) (by kernel_rfl) (fun K hK => ?_) (fun K hK => ?_)
  · go_simp
    refine (up_any 1 0 _).mono ?_
    rintro e y4 ⟨rfl, hu⟩
    have HSA := Lib.hid (HS4.out.upd0 hu)
    have HS : (fun X => Blk X db datN.cells NT) y4 := HSA.out.box 0 rfl
    clear hu
    go_wp2_with fail
    refine hK.out _ _ HS (fun hHeld2 => ?_)
    clear hK hHeld2 hHeld; have hHeld := HS; clear HS
    try simp only [Act.put, rn1, rn2, rn3, rn4, rn5, rn6]
    refine reg_step (i := 5) (by kernel_rfl) rfl (by kernel_rfl) (fun K hK => ?_)
    have bs := bsN_run (Nt.Ok.isN dat_ok.isU).1 (y4)
    go_simp
    have hs := (HSA.out.alloc datN.cells NT).head (Φ' := outO (sl (y4).heap.size 1 1) [datN]) (fun F hF => out_one (Nt.Ok.isN dat_ok.isU).1 hF)
    obtain ⟨y5, hy⟩ : ∃ X, (y4).alloc (.cells datN.cells NT) = X := ⟨_, rfl⟩
    obtain ⟨gy5, hz⟩ : ∃ g, (y4).heap.size = g := ⟨_, rfl⟩
    rw [hy, hz] at hs
    have HS5 := Lib.hid hs
    have HS : (fun X => Blk X db datN.cells NT) y5 := HS5.out.box 1 rfl
    simp only [hy, hz]
    clear hs bs hy hz
    refine hK.out _ _ HS (fun hHeld2 => ?_)
    clear hK hHeld2 hHeld; have hHeld := HS; clear HS
    try simp only [Act.put, rn1, rn2, rn3, rn4, rn5, rn6]
    refine reg_step (i := 6) (by kernel_rfl) rfl (by kernel_rfl) (fun K hK => ?_)
    go_simp
    refine (gives_to (Sep.pick HS5.out 2 rfl) HT.out (upN 1 0) (up_ok 1 0 (by omega)) _ [datN] 0 rfl (fun m hm => by simp at hm; subst hm; exact BU.isU_Z) k1).mono ?_
    rintro e y6 ⟨rfl, hs⟩
    have HS6 := Lib.hid hs
    have HS : (fun X => Blk X db datN.cells NT) y6 := HS6.out.box 2 rfl
    clear hs
    go_wp2_with fail
    refine hK.out _ _ HS (fun hHeld2 => ?_)
    clear hK hHeld2 hHeld; have hHeld := HS; clear HS
    try simp only [Act.put, rn1, rn2, rn3, rn4, rn5, rn6]
    refine rgn 7 (v := .bool true) hHeld ?yq5 ?_
    case yq5 => (intro w hSw; go_simp; try with_reducible rfl)
    simp only [Act.put, rn1, rn2, rn3, rn4, rn5, rn6]
    refine rgn 8 (v := .bool true) hHeld ?yq6 ?_
    case yq6 => (intro w hSw; go_simp; try with_reducible rfl)
    simp only [Act.put, rn1, rn2, rn3, rn4, rn5, rn6]
    refine rgn 9 (v := ?vq7) hHeld ?yq7 ?_
    case yq7 => (intro w hSw; go_simp; try with_reducible rfl)
    simp only [Act.put, rn1, rn2, rn3, rn4, rn5, rn6]
    refine reg_step (i := 10) (by kernel_rfl) rfl (by kernel_rfl) (fun K hK => ?_)
    go_simp
    refine (busy_at HS6.out 0 rfl 5 (by omega) b1).mono ?_
    rintro e y7 ⟨rfl, hu⟩
    have HS7 := Lib.hid (HS6.out.upd0 hu)
    have HS : (fun X => Blk X db datN.cells NT) y7 := HS7.out.box 2 rfl
    clear hu
    go_wp2_with fail
    refine hK.out _ _ HS (fun hHeld2 => ?_)
    clear hK hHeld2 hHeld; have hHeld := HS; clear HS
    try simp only [Act.put, rn1, rn2, rn3, rn4, rn5, rn6]
    refine rgn 11 (v := .bool true) hHeld ?yq8 ?_
    case yq8 => (intro w hSw; go_simp; try with_reducible rfl)
    simp only [Act.put, rn1, rn2, rn3, rn4, rn5, rn6]
    refine rgn 12 (v := .bool true) hHeld ?yq9 ?_
    case yq9 => (intro w hSw; go_simp; try with_reducible rfl)
    simp only [Act.put, rn1, rn2, rn3, rn4, rn5, rn6]
    refine rgn 13 (v := ?vq10) hHeld ?yq10 ?_
    case yq10 => (intro w hSw; go_simp; try with_reducible rfl)
    simp only [Act.put, rn1, rn2, rn3, rn4, rn5, rn6]
    refine reg_step (i := 14) (by kernel_rfl) rfl (by kernel_rfl) (fun K hK => ?_)
    go_simp
    refine (up_any 2 1 _).mono ?_
    rintro e y8 ⟨rfl, hu⟩
    have HS8 := Lib.hid (HS7.out.upd0 hu)
    have HS : (fun X => Blk X db datN.cells NT) y8 := HS8.out.box 2 rfl
    clear hu
    go_wp2_with fail
    refine hK.out _ _ HS (fun hHeld2 => ?_)
    clear hK hHeld2 hHeld; have hHeld := HS; clear HS
    try simp only [Act.put, rn1, rn2, rn3, rn4, rn5, rn6]
    refine reg_step (i := 15) (by kernel_rfl) rfl (by kernel_rfl) (fun K hK => ?_)
    go_simp
    refine (gives_none (Sep.pick HS8.out 0 rfl) HT.out (upN 2 1) (up_ok 2 1 (by omega)) k2).mono ?_
    rintro e y9 ⟨rfl, hs⟩
    have HS9 := Lib.hid hs
    have HS : (fun X => Blk X db datN.cells NT) y9 := HS9.out.box 2 rfl
    clear hs
    go_wp2_with fail
    refine hK.out _ _ HS (fun hHeld2 => ?_)
    clear hK hHeld2 hHeld; have hHeld := HS; clear HS
    try simp only [Act.put, rn1, rn2, rn3, rn4, rn5, rn6]
    refine rgn 16 (v := .bool true) hHeld ?yq11 ?_
    case yq11 => (intro w hSw; go_simp; try with_reducible rfl)
    simp only [Act.put, rn1, rn2, rn3, rn4, rn5, rn6]
    refine rgn 17 (v := .bool true) hHeld ?yq12 ?_
    case yq12 => (intro w hSw; go_simp; try with_reducible rfl)
    simp only [Act.put, rn1, rn2, rn3, rn4, rn5, rn6]
    refine rgn 18 (v := ?vq13) hHeld ?yq13 ?_
    case yq13 => (intro w hSw; go_simp; try with_reducible rfl)
    simp only [Act.put, rn1, rn2, rn3, rn4, rn5, rn6]
    refine reg_step (i := 19) (by kernel_rfl) rfl (by kernel_rfl) (fun K hK => ?_)
    go_simp
    refine (waits_at HS9.out 0 rfl q2).mono ?_
    rintro e y10 ⟨rfl, rfl⟩
    have HS := hHeld
    go_wp2_with fail
    refine hK.out _ _ HS (fun hHeld2 => ?_)
    clear hK hHeld2 hHeld; have hHeld := HS; clear HS
    try simp only [Act.put, rn1, rn2, rn3, rn4, rn5, rn6]
    refine rgn 20 (v := .bool true) hHeld ?yq14 ?_
    case yq14 => (intro w hSw; go_simp; try with_reducible rfl)
    simp only [Act.put, rn1, rn2, rn3, rn4, rn5, rn6]
    refine rgn 21 (v := .bool true) hHeld ?yq15 ?_
    case yq15 => (intro w hSw; go_simp; try with_reducible rfl)
    simp only [Act.put, rn1, rn2, rn3, rn4, rn5, rn6]
    refine rgn 22 (v := .bool true) hHeld ?yq16 ?_
    case yq16 => (intro w hSw; go_simp; try with_reducible rfl)
    simp only [Act.put, rn1, rn2, rn3, rn4, rn5, rn6]
    refine wpAnyH_done (by kernel_rfl) ?_ _
    go_wp2
    go_ret
    exact ⟨rfl, ((HS9.out.drop 0 (by simp)).drop 0 (by simp)).drop 0 (by simp)⟩
  · have bs := bsN_run (Nt.Ok.isN dat_ok.isU).1 (X0)
    go_simp
    have hs := (HS4.out.alloc datN.cells NT).head (Φ' := outO (sl (X0).heap.size 1 1) [datN]) (fun F hF => out_one (Nt.Ok.isN dat_ok.isU).1 hF)
    obtain ⟨y4, hy⟩ : ∃ X, (X0).alloc (.cells datN.cells NT) = X := ⟨_, rfl⟩
    obtain ⟨gy4, hz⟩ : ∃ g, (X0).heap.size = g := ⟨_, rfl⟩
    rw [hy, hz] at hs
    have HSA := Lib.hid hs
    have HS : (fun X => Blk X db datN.cells NT) y4 := HSA.out.box 1 rfl
    simp only [hy, hz]
    clear hs bs hy hz
    refine hK.out _ _ HS (fun hHeld2 => ?_)
    clear hK hHeld2 hHeld; have hHeld := HS; clear HS
    try simp only [Act.put, rn1, rn2, rn3, rn4, rn5, rn6]
    refine reg_step (i := 3) (by kernel_rfl) rfl (by kernel_rfl) (fun K hK => ?_)
    go_simp
    refine (up_any 1 0 _).mono ?_
    rintro e y5 ⟨rfl, hu⟩
    have HS5 := Lib.hid (HSA.out.upd0 hu)
    have HS : (fun X => Blk X db datN.cells NT) y5 := HS5.out.box 1 rfl
    clear hu
    go_wp2_with fail
    refine hK.out _ _ HS (fun hHeld2 => ?_)
    clear hK hHeld2 hHeld; have hHeld := HS; clear HS
    try simp only [Act.put, rn1, rn2, rn3, rn4, rn5, rn6]
    refine reg_step (i := 6) (by kernel_rfl) rfl (by kernel_rfl) (fun K hK => ?_)
    go_simp
    refine (gives_to (Sep.pick HS5.out 2 rfl) HT.out (upN 1 0) (up_ok 1 0 (by omega)) _ [datN] 0 rfl (fun m hm => by simp at hm; subst hm; exact BU.isU_Z) k1).mono ?_
    rintro e y6 ⟨rfl, hs⟩
    have HS6 := Lib.hid hs
    have HS : (fun X => Blk X db datN.cells NT) y6 := HS6.out.box 2 rfl
    clear hs
    go_wp2_with fail
    refine hK.out _ _ HS (fun hHeld2 => ?_)
    clear hK hHeld2 hHeld; have hHeld := HS; clear HS
    try simp only [Act.put, rn1, rn2, rn3, rn4, rn5, rn6]
    refine rgn 7 (v := .bool true) hHeld ?yq17 ?_
    case yq17 => (intro w hSw; go_simp; try with_reducible rfl)
    simp only [Act.put, rn1, rn2, rn3, rn4, rn5, rn6]
    refine rgn 8 (v := .bool true) hHeld ?yq18 ?_
    case yq18 => (intro w hSw; go_simp; try with_reducible rfl)
    simp only [Act.put, rn1, rn2, rn3, rn4, rn5, rn6]
    refine rgn 9 (v := ?vq19) hHeld ?yq19 ?_
    case yq19 => (intro w hSw; go_simp; try with_reducible rfl)
    simp only [Act.put, rn1, rn2, rn3, rn4, rn5, rn6]
    refine reg_step (i := 10) (by kernel_rfl) rfl (by kernel_rfl) (fun K hK => ?_)
    go_simp
    refine (busy_at HS6.out 0 rfl 5 (by omega) b1).mono ?_
    rintro e y7 ⟨rfl, hu⟩
    have HS7 := Lib.hid (HS6.out.upd0 hu)
    have HS : (fun X => Blk X db datN.cells NT) y7 := HS7.out.box 2 rfl
    clear hu
    go_wp2_with fail
    refine hK.out _ _ HS (fun hHeld2 => ?_)
    clear hK hHeld2 hHeld; have hHeld := HS; clear HS
    try simp only [Act.put, rn1, rn2, rn3, rn4, rn5, rn6]
    refine rgn 11 (v := .bool true) hHeld ?yq20 ?_
    case yq20 => (intro w hSw; go_simp; try with_reducible rfl)
    simp only [Act.put, rn1, rn2, rn3, rn4, rn5, rn6]
    refine rgn 12 (v := .bool true) hHeld ?yq21 ?_
    case yq21 => (intro w hSw; go_simp; try with_reducible rfl)
    simp only [Act.put, rn1, rn2, rn3, rn4, rn5, rn6]
    refine rgn 13 (v := ?vq22) hHeld ?yq22 ?_
    case yq22 => (intro w hSw; go_simp; try with_reducible rfl)
    simp only [Act.put, rn1, rn2, rn3, rn4, rn5, rn6]
    refine reg_step (i := 14) (by kernel_rfl) rfl (by kernel_rfl) (fun K hK => ?_)
    go_simp
    refine (up_any 2 1 _).mono ?_
    rintro e y8 ⟨rfl, hu⟩
    have HS8 := Lib.hid (HS7.out.upd0 hu)
    have HS : (fun X => Blk X db datN.cells NT) y8 := HS8.out.box 2 rfl
    clear hu
    go_wp2_with fail
    refine hK.out _ _ HS (fun hHeld2 => ?_)
    clear hK hHeld2 hHeld; have hHeld := HS; clear HS
    try simp only [Act.put, rn1, rn2, rn3, rn4, rn5, rn6]
    refine reg_step (i := 15) (by kernel_rfl) rfl (by kernel_rfl) (fun K hK => ?_)
    go_simp
    refine (gives_none (Sep.pick HS8.out 0 rfl) HT.out (upN 2 1) (up_ok 2 1 (by omega)) k2).mono ?_
    rintro e y9 ⟨rfl, hs⟩
    have HS9 := Lib.hid hs
    have HS : (fun X => Blk X db datN.cells NT) y9 := HS9.out.box 2 rfl
    clear hs
    go_wp2_with fail
    refine hK.out _ _ HS (fun hHeld2 => ?_)
    clear hK hHeld2 hHeld; have hHeld := HS; clear HS
    try simp only [Act.put, rn1, rn2, rn3, rn4, rn5, rn6]
    refine rgn 16 (v := .bool true) hHeld ?yq23 ?_
    case yq23 => (intro w hSw; go_simp; try with_reducible rfl)
    simp only [Act.put, rn1, rn2, rn3, rn4, rn5, rn6]
    refine rgn 17 (v := .bool true) hHeld ?yq24 ?_
    case yq24 => (intro w hSw; go_simp; try with_reducible rfl)
    simp only [Act.put, rn1, rn2, rn3, rn4, rn5, rn6]
    refine rgn 18 (v := ?vq25) hHeld ?yq25 ?_
    case yq25 => (intro w hSw; go_simp; try with_reducible rfl)
    simp only [Act.put, rn1, rn2, rn3, rn4, rn5, rn6]
    refine reg_step (i := 19) (by kernel_rfl) rfl (by kernel_rfl) (fun K hK => ?_)
    go_simp
    refine (waits_at HS9.out 0 rfl q2).mono ?_
    rintro e y10 ⟨rfl, rfl⟩
    have HS := hHeld
    go_wp2_with fail
    refine hK.out _ _ HS (fun hHeld2 => ?_)
    clear hK hHeld2 hHeld; have hHeld := HS; clear HS
    try simp only [Act.put, rn1, rn2, rn3, rn4, rn5, rn6]
    refine rgn 20 (v := .bool true) hHeld ?yq26 ?_
    case yq26 => (intro w hSw; go_simp; try with_reducible rfl)
    simp only [Act.put, rn1, rn2, rn3, rn4, rn5, rn6]
    refine rgn 21 (v := .bool true) hHeld ?yq27 ?_
    case yq27 => (intro w hSw; go_simp; try with_reducible rfl)
    simp only [Act.put, rn1, rn2, rn3, rn4, rn5, rn6]
    refine rgn 22 (v := .bool true) hHeld ?yq28 ?_
    case yq28 => (intro w hSw; go_simp; try with_reducible rfl)
    simp only [Act.put, rn1, rn2, rn3, rn4, rn5, rn6]
    refine wpAnyH_done (by kernel_rfl) ?_ _
    go_wp2
    go_ret
    exact ⟨rfl, ((HS9.out.drop 0 (by simp)).drop 0 (by simp)).drop 0 (by simp)⟩
end
end Go.Proofs.YtlhbnndnkcpomaaDoor.HO
