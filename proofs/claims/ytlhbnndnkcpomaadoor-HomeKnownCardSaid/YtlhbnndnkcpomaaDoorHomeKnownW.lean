/- HomeKnown: the document's examples; no home. -/
import Derived.Test.YtlhbnndnkcpomaaDoorHomeWorks
set_option linter.unusedSimpArgs false
set_option linter.unusedVariables false
namespace Go.Proofs.YtlhbnndnkcpomaaDoor.HO
open Go.RowKit
open BU (IsU words)
open PL (Cfg CC CV May)
open ME (memO sl)
attribute [local go_sem] Oper.semAt_some
attribute [local go_sem ↓] TNot.ld_eq TNot.st_eq TNot.al_eq TNot.bx_eq TBlk.ld_eq TBlk.st_eq TBlk.al_eq TBlk.bx_eq bsN_eq
attribute [local go_sem] TNot.al_run TNot.bx_run TBlk.al_run TBlk.bx_run
section
variable {w0 W W' : World} {hb mb : Nat} {S : Hs} {L : List Obj}
theorem ready_nil (n : Nt) (W : World) : Calls Tryd.prog 31 #[.pointer none, .agg n.cells] W fun e W' => e = .returned (.int .i64 1) ∧ Upd NoF W W' := by
  have HU := Lib.hid (Upd.alloc NoF W (.cells n.cells NT))
  go_enter Tryd.func31, Tryd.ntmps31
  go_wp2
  go_ret
  exact ⟨rfl, HU.out⟩
theorem take_nil (n : Nt) (hn : n.Ok) (W : World) : Calls Tryd.prog 14 #[.pointer none, .agg n.cells] W fun e W' => e = .returned (.tuple #[.slice none 0 0, .int .i64 1]) ∧ Upd NoF W W' := by
  have HU := Lib.hid (Upd.alloc NoF W (.cells n.cells NT))
  have l0 := TNot.ld_new (Nt.Ok.isN hn.isU) W
  go_enter Tryd.func14, Tryd.ntmps14
  go_wp2_with fail
  refine (ready_nil n _).mono ?_
  rintro e w1 ⟨rfl, hu⟩
  go_wp2
  go_ret2
  exact ⟨rfl, HU.out.trans hu (fun _ _ h => h)⟩
theorem entry_nil (b : Int) (W : World) : Calls Tryd.prog 20 #[.pointer none, .int .i64 b] W fun e W' => e = .returned (.tuple #[.agg #[.int .i64 0, .int .u32 0], .int .i64 1]) ∧ Upd NoF W W' := by
  have HU := Lib.hid (Upd.alloc NoF W (.cells #[.int .i64 0, .int .u32 0] ET'))
  go_enter Tryd.func20, Tryd.ntmps20
  go_wp2
  refine bodyPost_ret (v := .tuple #[.agg #[.int .i64 0, .int .u32 0], .int .i64 1]) (by simp [results, Tryd.f20, go_sem]) rfl ⟨rfl, HU.out⟩
theorem busy_nil (b : Int) (W : World) : Calls Tryd.prog 17 #[.pointer none, .int .i64 b] W fun e W' => e = .returned (.bool false) ∧ Upd NoF W W' := by
  go_enter Tryd.func17, Tryd.ntmps17
  go_wp2
  go_ret
  exact ⟨rfl, Upd.refl _ _⟩
theorem waits_nil (W : World) : Calls Tryd.prog 18 #[.pointer none] W fun e W' => e = .returned (.int .i64 0) ∧ Upd NoF W W' := by
  go_enter Tryd.func18, Tryd.ntmps18
  go_wp2
  go_ret
  exact ⟨rfl, Upd.refl _ _⟩
theorem copy_nil (W : World) : Calls Tryd.prog 24 #[.pointer none] W fun e W' => e = .returned (.pointer none) ∧ Upd NoF W W' := by
  go_enter Tryd.func24, Tryd.ntmps24
  go_wp2
  go_ret
  exact ⟨rfl, Upd.refl _ _⟩
def D77 : Array Value := TBlk.Z.setIfInBounds 2 (.int .u32 77)
theorem isU_77 : IsU D77 := ⟨rfl, fun u hu => by
  simp [D77, TBlk.Z] at hu
  rcases hu with rfl | rfl | rfl <;> exact ⟨_, rfl⟩⟩
def ownN : Nt := ⟨6, -1, 1, 5, 0, 3, true, false, D77⟩
def ackN : Nt := ⟨9, 0, -1, 5, 0, 0, true, false, D77⟩
def refN : Nt := ⟨10, 1, -1, 5, 7, 0, false, false, TBlk.Z⟩
def nakN : Nt := ⟨7, -1, 0, 5, 7, 0, false, false, TBlk.Z⟩
theorem own_cells : (((dnN 6 1).cells.setIfInBounds 5 (.int .u8 3)).setIfInBounds 6 (.bool true)).setIfInBounds 10 (.int .u32 77) = ownN.cells := by kernel_rfl
theorem own_data (j : Nat) : ownN.cells[8 + j]? = D77.toList[j]? := by
  have : ownN.cells = #[.int .u8 6, .int .i64 (-1), .int .i64 1, .int .i64 5, .int .u64 0, .int .u8 3, .bool true, .bool false] ++ D77 := by kernel_rfl
  rw [this, Array.getElem?_append_right (by simp)]
  simp
theorem ack_cells : setMany ((upN 9 0).cells.setIfInBounds 6 (.bool true)) 8 D77.toList = ackN.cells := by kernel_rfl
theorem ref_cells : (upN 10 1).cells.setIfInBounds 4 (.int .u64 7) = refN.cells := by kernel_rfl
theorem nak_cells : (dnN 7 0).cells.setIfInBounds 4 (.int .u64 7) = nakN.cells := by kernel_rfl
theorem own_ok : ownN.Ok := ⟨by decide, by decide, by decide, isU_77⟩
theorem ack_ok : ackN.Ok := ⟨by decide, by decide, by decide, isU_77⟩
theorem ref_ok : refN.Ok := ⟨by decide, by decide, by decide, BU.isU_Z⟩
theorem nak_ok : nakN.Ok := ⟨by decide, by decide, by decide, BU.isU_Z⟩
def K3 : Hs := (takeP K2 (upN 11 0)).1
theorem k3 : takeP K2 (upN 11 0) = (K3, [dnN 5 0], 0) := Prod.ext rfl (by kernel_rfl)
def K4 : Hs := (takeP K3 ackN).1
theorem k4 : takeP K3 ackN = (K4, [ownN], 0) := Prod.ext rfl (by kernel_rfl)
def K5 : Hs := (takeP K4 (upN 11 1)).1
theorem k5 : takeP K4 (upN 11 1) = (K5, [], 0) := Prod.ext rfl (by kernel_rfl)
def K6 : Hs := (takeP K5 (upN 1 0)).1
theorem k6 : takeP K5 (upN 1 0) = (K6, [dnN 4 1], 0) := Prod.ext rfl (by kernel_rfl)
def K7 : Hs := (takeP K6 refN).1
theorem k7 : takeP K6 refN = (K7, [nakN], 0) := Prod.ext rfl (by kernel_rfl)
theorem b7 : (K7.J 5).isSome = false := by kernel_rfl
theorem store_n {L : List Obj} (h : Sep NoF w0 W L) (i : Nat) {b : Nat} {x y : Array Value} (hi : L[i]? = some (boxO b x NT)) (hx : IsN 24 x) (hy : IsN 24 y) :
    ∃ W1, (TNot.st (ptr b) (.agg y)).run Tryd.prog W = .ok () W1 ∧ Sep NoF w0 W1 (L.set i (boxO b y NT)) := by
  obtain ⟨r1, r2⟩ := TNot.st_at hx hy (h.box i hi)
  refine ⟨_, r1, ?_⟩
  have h1 := h.setMG i hi 0 y.toList
  have e : setMany x 0 y.toList = y := by
    have b1 := blk_setCells y.toList 0 W x (h.box i hi)
    have := b1.symm.trans r2
    simpa using this
  rw [e] at h1
  exact h1
theorem storeB_n {L : List Obj} (h : Sep NoF w0 W L) (i : Nat) {b o : Nat} {x y : Array Value} (hi : L[i]? = some (boxO b x NT)) (hy : IsU y) (ho : o + 16 ≤ x.size) :
    ∃ W1, (TBlk.st (.pointer (some ⟨b, o, none⟩)) (.agg y)).run Tryd.prog W = .ok () W1 ∧ Sep NoF w0 W1 (L.set i (boxO b (setMany x o y.toList) NT)) :=
  ⟨_, ME.bst_mid hy.isN (h.box i hi) ho, h.setMG i hi o y.toList⟩
set_option maxRecDepth 100000 in
set_option maxHeartbeats 16000000 in
theorem known_is (h : Sep NoF w0 W []) (hT : Tab w0) : Calls Tryd.prog 7 #[] W fun e W' => e = .returned (.bool true) ∧ Sep NoF w0 W' [] := by
  have HS0 := Lib.hid h; have HT := Lib.hid hT
  clear h hT
  go_enter Tryd.func7, Tryd.ntmps7
  go_wp2_with fail
  refine (begun_is HS0.out).mono ?_
  rintro e w1 ⟨hb, mb, rfl, hs⟩
  have HS1 := Lib.hid hs
  clear hs
  go_wp2_with fail
  refine (dn_any 6 0 _).mono ?_
  rintro e w2 ⟨rfl, hu⟩
  have HS2 := Lib.hid (HS1.out.upd0 hu)
  clear hu
  go_wp2_with fail
  refine (dn_any 6 1 _).mono ?_
  rintro e w3 ⟨rfl, hu⟩
  have HS3 := Lib.hid (HS2.out.upd0 hu)
  clear hu
  have na := Nt.Ok.isN (dn_ok 6 0 (by omega)).isU
  have nb := Nt.Ok.isN (dn_ok 6 1 (by omega)).isU
  have hs4 := (HS3.out.alloc TNot.Z NT).alloc TNot.Z NT
  rw [World.size_alloc] at hs4
  obtain ⟨xa, hxa⟩ : ∃ x, w3.heap.size = x := ⟨_, rfl⟩
  obtain ⟨V, hV⟩ : ∃ V, (w3.alloc (.cells TNot.Z NT)).alloc (.cells TNot.Z NT) = V := ⟨_, rfl⟩
  rw [hxa, hV] at hs4
  obtain ⟨V1, r1, hs5⟩ := store_n hs4 1 rfl TNot.isZ na
  obtain ⟨V2, r2, hs6⟩ := store_n hs5 0 rfl TNot.isZ nb
  have HS6 := Lib.hid hs6
  clear hs4 hs5 hs6 na nb
  go_upto_region 3 with fail
  clear r1 r2 hxa hV
  have c0 : (V2).cell? ⟨xa, 5, none⟩ = some (.int .u8 0) := ((HS6.out.box 1 rfl).cell 5).trans (by kernel_rfl)
  have f0 : (V2).frozen? ⟨xa, 5, none⟩ = false := (HS6.out.box 1 rfl).frozen 5
  have sa0 := HS6.out.set 1 rfl 5 (.int .u8 2)
  have c1 : (V2.setCell ⟨xa, 5, none⟩ (.int .u8 2)).cell? ⟨xa, 6, none⟩ = some (.bool false) := ((sa0.box 1 rfl).cell 6).trans (by kernel_rfl)
  have f1 : (V2.setCell ⟨xa, 5, none⟩ (.int .u8 2)).frozen? ⟨xa, 6, none⟩ = false := (sa0.box 1 rfl).frozen 6
  have sa1 := sa0.set 1 rfl 6 (.bool true)
  have c2 : ((V2.setCell ⟨xa, 5, none⟩ (.int .u8 2)).setCell ⟨xa, 6, none⟩ (.bool true)).cell? ⟨xa + 1, 5, none⟩ = some (.int .u8 0) := ((sa1.box 0 rfl).cell 5).trans (by kernel_rfl)
  have f2 : ((V2.setCell ⟨xa, 5, none⟩ (.int .u8 2)).setCell ⟨xa, 6, none⟩ (.bool true)).frozen? ⟨xa + 1, 5, none⟩ = false := (sa1.box 0 rfl).frozen 5
  have sa2 := sa1.set 0 rfl 5 (.int .u8 3)
  have c3 : (((V2.setCell ⟨xa, 5, none⟩ (.int .u8 2)).setCell ⟨xa, 6, none⟩ (.bool true)).setCell ⟨xa + 1, 5, none⟩ (.int .u8 3)).cell? ⟨xa + 1, 6, none⟩ = some (.bool false) := ((sa2.box 0 rfl).cell 6).trans (by kernel_rfl)
  have f3 : (((V2.setCell ⟨xa, 5, none⟩ (.int .u8 2)).setCell ⟨xa, 6, none⟩ (.bool true)).setCell ⟨xa + 1, 5, none⟩ (.int .u8 3)).frozen? ⟨xa + 1, 6, none⟩ = false := (sa2.box 0 rfl).frozen 6
  have sa3 := sa2.set 0 rfl 6 (.bool true)
  have c4 : ((((V2.setCell ⟨xa, 5, none⟩ (.int .u8 2)).setCell ⟨xa, 6, none⟩ (.bool true)).setCell ⟨xa + 1, 5, none⟩ (.int .u8 3)).setCell ⟨xa + 1, 6, none⟩ (.bool true)).cell? ⟨xa + 1, 10, none⟩ = some (.int .u32 0) := ((sa3.box 0 rfl).cell 10).trans (by kernel_rfl)
  have f4 : ((((V2.setCell ⟨xa, 5, none⟩ (.int .u8 2)).setCell ⟨xa, 6, none⟩ (.bool true)).setCell ⟨xa + 1, 5, none⟩ (.int .u8 3)).setCell ⟨xa + 1, 6, none⟩ (.bool true)).frozen? ⟨xa + 1, 10, none⟩ = false := (sa3.box 0 rfl).frozen 10
  have sa4 := sa3.set 0 rfl 10 (.int .u32 77)
  obtain ⟨V3, hV3⟩ : ∃ V, ((((V2.setCell ⟨xa, 5, none⟩ (.int .u8 2)).setCell ⟨xa, 6, none⟩ (.bool true)).setCell ⟨xa + 1, 5, none⟩ (.int .u8 3)).setCell ⟨xa + 1, 6, none⟩ (.bool true)).setCell ⟨xa + 1, 10, none⟩ (.int .u32 77) = V := ⟨_, rfl⟩
  rw [hV3] at sa4
  have hs8 : Sep NoF w0 V3 [boxO (xa + 1) ((((dnN 6 1).cells.setIfInBounds 5 (.int .u8 3)).setIfInBounds 6 (.bool true)).setIfInBounds 10 (.int .u32 77)) NT, boxO xa (((dnN 6 0).cells.setIfInBounds 5 (.int .u8 2)).setIfInBounds 6 (.bool true)) NT, homeO hb mb Hs0] := sa4
  rw [own_cells, dat_cells] at hs8
  have HS7 := Lib.hid hs8
  clear hs8 sa0 sa1 sa2 sa3 sa4
  go_upto_region 4 with fail
  clear hV3 c0 c1 c2 c3 c4 f0 f1 f2 f3 f4
  go_wp2_with fail
  refine (up_any 9 0 _).mono ?_
  rintro e w4 ⟨rfl, hu⟩
  have HS8 := Lib.hid (HS7.out.upd0 hu)
  clear hu
  go_wp2_with fail
  refine (up_any 10 1 _).mono ?_
  rintro e w5 ⟨rfl, hu⟩
  have HS9 := Lib.hid (HS8.out.upd0 hu)
  clear hu
  go_wp2_with fail
  refine (dn_any 7 0 _).mono ?_
  rintro e w6 ⟨rfl, hu⟩
  have HS10 := Lib.hid (HS9.out.upd0 hu)
  clear hu
  go_wp2_with fail
  refine (dn_any 4 1 _).mono ?_
  rintro e w7 ⟨rfl, hu⟩
  have HS11 := Lib.hid (HS10.out.upd0 hu)
  clear hu
  have hs := (((HS11.out.alloc TNot.Z NT).alloc TNot.Z NT).alloc TNot.Z NT).alloc TNot.Z NT
  rw [World.size_alloc, World.size_alloc, World.size_alloc] at hs
  obtain ⟨xc, hxc⟩ : ∃ x, w7.heap.size = x := ⟨_, rfl⟩
  obtain ⟨V4, hV4⟩ : ∃ V, (((w7.alloc (.cells TNot.Z NT)).alloc (.cells TNot.Z NT)).alloc (.cells TNot.Z NT)).alloc (.cells TNot.Z NT) = V := ⟨_, rfl⟩
  rw [hxc, hV4] at hs
  have hs4 : Sep NoF w0 V4 [boxO (xc + 3) TNot.Z NT, boxO (xc + 2) TNot.Z NT, boxO (xc + 1) TNot.Z NT, boxO xc TNot.Z NT, boxO (xa + 1) ownN.cells NT, boxO xa datN.cells NT, homeO hb mb Hs0] := hs
  obtain ⟨V5, r1, hs5⟩ := store_n hs4 3 rfl TNot.isZ (Nt.Ok.isN (up_ok 9 0 (by omega)).isU)
  obtain ⟨V6, r2, hs6⟩ := store_n hs5 2 rfl TNot.isZ (Nt.Ok.isN (up_ok 10 1 (by omega)).isU)
  obtain ⟨V7, r3, hs7⟩ := store_n hs6 1 rfl TNot.isZ (Nt.Ok.isN (dn_ok 7 0 (by omega)).isU)
  obtain ⟨V8, r4, hs8⟩ := store_n hs7 0 rfl TNot.isZ (Nt.Ok.isN (dn_ok 4 1 (by omega)).isU)
  have HS12 : Hid (Sep NoF w0 V8 [boxO (xc + 3) (dnN 4 1).cells NT, boxO (xc + 2) (dnN 7 0).cells NT, boxO (xc + 1) (upN 10 1).cells NT, boxO xc (upN 9 0).cells NT, boxO (xa + 1) ownN.cells NT, boxO xa datN.cells NT, homeO hb mb Hs0]) := Lib.hid hs8
  clear hs hs4 hs5 hs6 hs7 hs8
  go_upto_region 5 with fail
  clear r1 r2 r3 r4 hxc hV4
  have HS13 := Lib.hid (HS12.out.upd0 (Upd.drew NoF V8))
  have HB := Lib.hid (fun (X : World) (h : Blk X (xa + 1) ownN.cells NT) => TBlk.ld_at (o := 8) isU_77.isN (h.range 8 D77.toList (fun j v hv => by rw [own_data]; exact hv)))
  refine wp_region_held_drew (S := (fun X => Blk X (xa + 1) ownN.cells NT)) (by kernel_rfl) (HS13.out.box 4 rfl) (fun hHeld => ?_)
  obtain ⟨X0, hX0⟩ : ∃ X, V8.drew = X := ⟨_, rfl⟩
  rw [hX0] at hHeld HS13 ⊢
  clear hX0
  refine reg_on (i := 0) (v := ?vq1) rfl (by kernel_rfl) (by kernel_rfl) (by kernel_rfl) (fun _ _ _ h => h) (by kernel_rfl) hHeld ?yq1 ?_
  case yq1 => (intro w hSw; (try dsimp only at hSw); skip; go_simp; first | done | with_reducible rfl)
  simp only [Act.put, List.setIfInBounds_toArray, List.set_cons_zero, List.set_cons_succ, List.getElem_toArray, List.getElem_cons_succ, List.getElem_cons_zero]
  refine reg_on (i := 1) (v := ?vq2) rfl (by kernel_rfl) (by kernel_rfl) (by kernel_rfl) (fun _ _ _ h => h) (by kernel_rfl) hHeld ?yq2 ?_
  case yq2 => (intro w hSw; (try dsimp only at hSw); have l0 := HB.out _ hSw; go_simp; first | done | with_reducible rfl)
  simp only [Act.put, List.setIfInBounds_toArray, List.set_cons_zero, List.set_cons_succ, List.getElem_toArray, List.getElem_cons_succ, List.getElem_cons_zero]
  refine reg_on (i := 2) (v := ?vq3) rfl (by kernel_rfl) (by kernel_rfl) (by kernel_rfl) (fun _ _ _ h => h) (by kernel_rfl) hHeld ?yq3 ?_
  case yq3 => (intro w hSw; (try dsimp only at hSw); skip; go_simp; first | done | with_reducible rfl)
  simp only [Act.put, List.setIfInBounds_toArray, List.set_cons_zero, List.set_cons_succ, List.getElem_toArray, List.getElem_cons_succ, List.getElem_cons_zero]
  refine reg_step (i := 3) (by kernel_rfl) rfl (by kernel_rfl) (fun K hK => ?_)
  have c0 : X0.cell? ⟨xc, 6, none⟩ = some (.bool false) := ((HS13.out.box 3 rfl).cell 6).trans (by kernel_rfl)
  have f0 : X0.frozen? ⟨xc, 6, none⟩ = false := (HS13.out.box 3 rfl).frozen 6
  have hs := HS13.out.set 3 rfl 6 (.bool true)
  go_simp
  obtain ⟨X1, hY⟩ : ∃ X, X0.setCell ⟨xc, 6, none⟩ (.bool true) = X := ⟨_, rfl⟩
  rw [hY] at hs
  have HS14 := Lib.hid hs
  have HS : (fun X => Blk X (xa + 1) ownN.cells NT) X1 := HS14.out.box 4 rfl
  simp only [hY]
  clear hs hY c0 f0
  refine hK.out _ _ HS (fun hHeld2 => ?_)
  clear hK hHeld2 hHeld
  have hHeld := HS
  clear HS
  try simp only [Act.put, List.setIfInBounds_toArray, List.set_cons_zero, List.set_cons_succ, List.getElem_toArray, List.getElem_cons_succ, List.getElem_cons_zero]
  refine reg_on (i := 4) (v := ?vq4) rfl (by kernel_rfl) (by kernel_rfl) (by kernel_rfl) (fun _ _ _ h => h) (by kernel_rfl) hHeld ?yq4 ?_
  case yq4 => (intro w hSw; (try dsimp only at hSw); skip; go_simp; first | done | with_reducible rfl)
  simp only [Act.put, List.setIfInBounds_toArray, List.set_cons_zero, List.set_cons_succ, List.getElem_toArray, List.getElem_cons_succ, List.getElem_cons_zero]
  refine reg_step (i := 5) (by kernel_rfl) rfl (by kernel_rfl) (fun K hK => ?_)
  obtain ⟨X2, rs, hs⟩ := storeB_n HS14.out 3 rfl (o := 8) isU_77 (by rw [Array.size_setIfInBounds, (Nt.Ok.isN (up_ok 9 0 (by omega)).isU).1]; decide)
  go_simp
  have HS15 := Lib.hid hs
  have HS : (fun X => Blk X (xa + 1) ownN.cells NT) X2 := HS15.out.box 4 rfl
  clear hs rs
  refine hK.out _ _ HS (fun hHeld2 => ?_)
  clear hK hHeld2 hHeld
  have hHeld := HS
  clear HS
  try simp only [Act.put, List.setIfInBounds_toArray, List.set_cons_zero, List.set_cons_succ, List.getElem_toArray, List.getElem_cons_succ, List.getElem_cons_zero]
  refine reg_on (i := 6) (v := ?vq5) rfl (by kernel_rfl) (by kernel_rfl) (by kernel_rfl) (fun _ _ _ h => h) (by kernel_rfl) hHeld ?yq5 ?_
  case yq5 => (intro w hSw; (try dsimp only at hSw); skip; go_simp; first | done | with_reducible rfl)
  simp only [Act.put, List.setIfInBounds_toArray, List.set_cons_zero, List.set_cons_succ, List.getElem_toArray, List.getElem_cons_succ, List.getElem_cons_zero]
  refine reg_step (i := 7) (by kernel_rfl) rfl (by kernel_rfl) (fun K hK => ?_)
  have c0 : X2.cell? ⟨xc + 1, 4, none⟩ = some (.int .u64 0) := ((HS15.out.box 2 rfl).cell 4).trans (by kernel_rfl)
  have f0 : X2.frozen? ⟨xc + 1, 4, none⟩ = false := (HS15.out.box 2 rfl).frozen 4
  have hs := HS15.out.set 2 rfl 4 (.int .u64 7)
  go_simp
  obtain ⟨X3, hY⟩ : ∃ X, X2.setCell ⟨xc + 1, 4, none⟩ (.int .u64 7) = X := ⟨_, rfl⟩
  rw [hY] at hs
  have HS16 := Lib.hid hs
  have HS : (fun X => Blk X (xa + 1) ownN.cells NT) X3 := HS16.out.box 4 rfl
  simp only [hY]
  clear hs hY c0 f0
  refine hK.out _ _ HS (fun hHeld2 => ?_)
  clear hK hHeld2 hHeld
  have hHeld := HS
  clear HS
  try simp only [Act.put, List.setIfInBounds_toArray, List.set_cons_zero, List.set_cons_succ, List.getElem_toArray, List.getElem_cons_succ, List.getElem_cons_zero]
  refine reg_on (i := 8) (v := ?vq6) rfl (by kernel_rfl) (by kernel_rfl) (by kernel_rfl) (fun _ _ _ h => h) (by kernel_rfl) hHeld ?yq6 ?_
  case yq6 => (intro w hSw; (try dsimp only at hSw); skip; go_simp; first | done | with_reducible rfl)
  simp only [Act.put, List.setIfInBounds_toArray, List.set_cons_zero, List.set_cons_succ, List.getElem_toArray, List.getElem_cons_succ, List.getElem_cons_zero]
  refine reg_step (i := 9) (by kernel_rfl) rfl (by kernel_rfl) (fun K hK => ?_)
  have c0 : X3.cell? ⟨xc + 1 + 1, 4, none⟩ = some (.int .u64 0) := ((HS16.out.box 1 rfl).cell 4).trans (by kernel_rfl)
  have f0 : X3.frozen? ⟨xc + 1 + 1, 4, none⟩ = false := (HS16.out.box 1 rfl).frozen 4
  have hs := HS16.out.set 1 rfl 4 (.int .u64 7)
  go_simp
  obtain ⟨X4, hY⟩ : ∃ X, X3.setCell ⟨xc + 1 + 1, 4, none⟩ (.int .u64 7) = X := ⟨_, rfl⟩
  rw [hY] at hs
  have HS17 := Lib.hid hs
  have HS : (fun X => Blk X (xa + 1) ownN.cells NT) X4 := HS17.out.box 4 rfl
  simp only [hY]
  clear hs hY c0 f0
  refine hK.out _ _ HS (fun hHeld2 => ?_)
  clear hK hHeld2 hHeld
  have hHeld := HS
  clear HS
  try simp only [Act.put, List.setIfInBounds_toArray, List.set_cons_zero, List.set_cons_succ, List.getElem_toArray, List.getElem_cons_succ, List.getElem_cons_zero]
  refine wpAnyH_done (by kernel_rfl) ?_ _
  have hs : Sep NoF w0 X4 [boxO (xc + 1 + 1 + 1) (dnN 4 1).cells NT, boxO (xc + 1 + 1) ((dnN 7 0).cells.setIfInBounds 4 (.int .u64 7)) NT, boxO (xc + 1) ((upN 10 1).cells.setIfInBounds 4 (.int .u64 7)) NT, boxO xc (setMany ((upN 9 0).cells.setIfInBounds 6 (.bool true)) 8 D77.toList) NT, boxO (xa + 1) ownN.cells NT, boxO xa datN.cells NT, homeO hb mb Hs0] := HS17.out
  rw [ack_cells, ref_cells, nak_cells] at hs
  clear hHeld HS17 HS16 HS15 HS14 HS13 HS12 HB
  obtain ⟨x8, hx8⟩ : ∃ x, xc + 1 + 1 + 1 = x := ⟨_, rfl⟩
  obtain ⟨x7, hx7⟩ : ∃ x, xc + 1 + 1 = x := ⟨_, rfl⟩
  obtain ⟨x6, hx6⟩ : ∃ x, xc + 1 = x := ⟨_, rfl⟩
  obtain ⟨x4, hx4⟩ : ∃ x, xa + 1 = x := ⟨_, rfl⟩
  rw [hx8, hx7, hx6, hx4] at hs
  have HDA := Lib.hid (Nt.Ok.isN dat_ok.isU); have HOW := Lib.hid (Nt.Ok.isN own_ok.isU); have HAC := Lib.hid (Nt.Ok.isN ack_ok.isU)
  have HAS := Lib.hid (Nt.Ok.isN (dn_ok 4 1 (by omega)).isU); have HRE := Lib.hid (Nt.Ok.isN ref_ok.isU); have HNK := Lib.hid (Nt.Ok.isN nak_ok.isU)
  have HS18 := Lib.hid hs
  clear hs
  go_upto_region 6 with fail
  rw [hx8, hx7, hx6, hx4]
  clear hx8 hx7 hx6 hx4
  have HS19 := Lib.hid (HS18.out.upd0 (Upd.drew NoF X4))
  refine wp_region_held_drew (S := (fun X => Blk X xa datN.cells NT ∧ Blk X x4 ownN.cells NT ∧ Blk X xc ackN.cells NT)) (by kernel_rfl) (⟨HS19.out.box 5 rfl, HS19.out.box 4 rfl, HS19.out.box 3 rfl⟩) (fun hHeld => ?_)
  obtain ⟨z1, hX0⟩ : ∃ X, X4.drew = X := ⟨_, rfl⟩
  rw [hX0] at hHeld HS19 ⊢
  clear hX0
  refine reg_step (i := 0) (by kernel_rfl) rfl (by kernel_rfl) (fun K hK => ?_)
  go_simp
  refine (works_is HS19.out HT.out).mono ?_
  rintro e z2 ⟨rfl, hs⟩
  have HS20 := Lib.hid hs
  have HS : (fun X => Blk X xa datN.cells NT ∧ Blk X x4 ownN.cells NT ∧ Blk X xc ackN.cells NT) z2 := ⟨HS20.out.box 5 rfl, HS20.out.box 4 rfl, HS20.out.box 3 rfl⟩
  clear hs
  go_wp2_with fail
  refine hK.out _ _ HS (fun hHeld2 => ?_)
  clear hK hHeld2 hHeld
  have hHeld := HS
  clear HS
  try simp only [Act.put, List.setIfInBounds_toArray, List.set_cons_zero, List.set_cons_succ, List.getElem_toArray, List.getElem_cons_succ, List.getElem_cons_zero]
  refine reg_on (i := 1) (v := .bool false) rfl (by kernel_rfl) (by kernel_rfl) (by kernel_rfl) (fun _ _ _ h => h) (by kernel_rfl) hHeld ?yq7 ?_
  case yq7 => (intro w hSw; (try dsimp only at hSw); skip; go_simp; first | done | with_reducible rfl)
  simp only [Act.put, List.setIfInBounds_toArray, List.set_cons_zero, List.set_cons_succ, List.getElem_toArray, List.getElem_cons_succ, List.getElem_cons_zero]
  refine reg_on (i := 2) (v := .bool false) rfl (by kernel_rfl) (by kernel_rfl) (by kernel_rfl) (fun _ _ _ h => h) (by kernel_rfl) hHeld ?yq8 ?_
  case yq8 => (intro w hSw; (try dsimp only at hSw); skip; go_simp; first | done | with_reducible rfl)
  simp only [Act.put, List.setIfInBounds_toArray, List.set_cons_zero, List.set_cons_succ, List.getElem_toArray, List.getElem_cons_succ, List.getElem_cons_zero]
  refine reg_on (i := 3) (v := .bool true) rfl (by kernel_rfl) (by kernel_rfl) (by kernel_rfl) (fun _ _ _ h => h) (by kernel_rfl) hHeld ?yq9 ?_
  case yq9 => (intro w hSw; (try dsimp only at hSw); skip; go_simp; first | done | with_reducible rfl)
  simp only [Act.put, List.setIfInBounds_toArray, List.set_cons_zero, List.set_cons_succ, List.getElem_toArray, List.getElem_cons_succ, List.getElem_cons_zero]
  refine reg_on (i := 4) (v := .bool false) rfl (by kernel_rfl) (by kernel_rfl) (by kernel_rfl) (fun _ _ _ h => h) (by kernel_rfl) hHeld ?yq10 ?_
  case yq10 => (intro w hSw; (try dsimp only at hSw); skip; go_simp; first | done | with_reducible rfl)
  simp only [Act.put, List.setIfInBounds_toArray, List.set_cons_zero, List.set_cons_succ, List.getElem_toArray, List.getElem_cons_succ, List.getElem_cons_zero]
  refine reg_on (i := 5) (v := .bool false) rfl (by kernel_rfl) (by kernel_rfl) (by kernel_rfl) (fun _ _ _ h => h) (by kernel_rfl) hHeld ?yq11 ?_
  case yq11 => (intro w hSw; (try dsimp only at hSw); skip; go_simp; first | done | with_reducible rfl)
  simp only [Act.put, List.setIfInBounds_toArray, List.set_cons_zero, List.set_cons_succ, List.getElem_toArray, List.getElem_cons_succ, List.getElem_cons_zero]
  refine reg_on (i := 6) (v := .bool false) rfl (by kernel_rfl) (by kernel_rfl) (by kernel_rfl) (fun _ _ _ h => h) (by kernel_rfl) hHeld ?yq12 ?_
  case yq12 => (intro w hSw; (try dsimp only at hSw); skip; go_simp; first | done | with_reducible rfl)
  simp only [Act.put, List.setIfInBounds_toArray, List.set_cons_zero, List.set_cons_succ, List.getElem_toArray, List.getElem_cons_succ, List.getElem_cons_zero]
  refine reg_on (i := 7) (v := ?vq13) rfl (by kernel_rfl) (by kernel_rfl) (by kernel_rfl) (fun _ _ _ h => h) (by kernel_rfl) hHeld ?yq13 ?_
  case yq13 => (intro w hSw; (try dsimp only at hSw); skip; go_simp; first | done | with_reducible rfl)
  simp only [Act.put, List.setIfInBounds_toArray, List.set_cons_zero, List.set_cons_succ, List.getElem_toArray, List.getElem_cons_succ, List.getElem_cons_zero]
  refine reg_on (i := 9) (v := ?vq14) rfl (by kernel_rfl) (by kernel_rfl) (by kernel_rfl) (fun _ _ _ h => h) (by kernel_rfl) hHeld ?yq14 ?_
  case yq14 => (intro w hSw; (try dsimp only at hSw); have l0 := TNot.ld_at HDA.out hSw.1.whole; go_simp; first | done | with_reducible rfl)
  simp only [Act.put, List.setIfInBounds_toArray, List.set_cons_zero, List.set_cons_succ, List.getElem_toArray, List.getElem_cons_succ, List.getElem_cons_zero]
  refine reg_two (i := 8) (j := 10) (by kernel_rfl) rfl rfl (by kernel_rfl) (by kernel_rfl) (fun K hK => ?_) (fun K hK => ?_)
  · go_simp
    refine (up_any 1 0 _).mono ?_
    rintro e z3 ⟨rfl, hu⟩
    have HS21 := Lib.hid (HS20.out.upd0 hu)
    have HS : (fun X => Blk X xa datN.cells NT ∧ Blk X x4 ownN.cells NT ∧ Blk X xc ackN.cells NT) z3 := ⟨HS21.out.box 5 rfl, HS21.out.box 4 rfl, HS21.out.box 3 rfl⟩
    clear hu
    go_wp2_with fail
    refine hK.out _ _ HS (fun hHeld2 => ?_)
    clear hK hHeld2 hHeld
    have hHeld := HS
    clear HS
    try simp only [Act.put, List.setIfInBounds_toArray, List.set_cons_zero, List.set_cons_succ, List.getElem_toArray, List.getElem_cons_succ, List.getElem_cons_zero]
    refine reg_step (i := 10) (by kernel_rfl) rfl (by kernel_rfl) (fun K hK => ?_)
    have bs := bsN_run (Nt.Ok.isN dat_ok.isU).1 (z3)
    go_simp
    have hs := (HS21.out.alloc datN.cells NT).head (Φ' := outO (sl (z3).heap.size 1 1) [datN]) (fun F hF => out_one (Nt.Ok.isN dat_ok.isU).1 hF)
    obtain ⟨z4, hy⟩ : ∃ X, (z3).alloc (.cells datN.cells NT) = X := ⟨_, rfl⟩
    obtain ⟨gz4, hz⟩ : ∃ g, (z3).heap.size = g := ⟨_, rfl⟩
    rw [hy, hz] at hs
    have HS22 := Lib.hid hs
    have HS : (fun X => Blk X xa datN.cells NT ∧ Blk X x4 ownN.cells NT ∧ Blk X xc ackN.cells NT) z4 := ⟨HS22.out.box 6 rfl, HS22.out.box 5 rfl, HS22.out.box 4 rfl⟩
    simp only [hy, hz]
    clear hs bs hy hz
    refine hK.out _ _ HS (fun hHeld2 => ?_)
    clear hK hHeld2 hHeld
    have hHeld := HS
    clear HS
    try simp only [Act.put, List.setIfInBounds_toArray, List.set_cons_zero, List.set_cons_succ, List.getElem_toArray, List.getElem_cons_succ, List.getElem_cons_zero]
    refine reg_step (i := 11) (by kernel_rfl) rfl (by kernel_rfl) (fun K hK => ?_)
    go_simp
    refine (gives_to (Sep.pick HS22.out 7 rfl) HT.out (upN 1 0) (up_ok 1 0 (by omega)) _ [datN] 0 rfl (fun m hm => by simp at hm; subst hm; exact BU.isU_Z) k1).mono ?_
    rintro e z5 ⟨rfl, hs⟩
    have HS23 := Lib.hid hs
    have HS : (fun X => Blk X xa datN.cells NT ∧ Blk X x4 ownN.cells NT ∧ Blk X xc ackN.cells NT) z5 := ⟨HS23.out.box 7 rfl, HS23.out.box 6 rfl, HS23.out.box 5 rfl⟩
    clear hs
    go_wp2_with fail
    refine hK.out _ _ HS (fun hHeld2 => ?_)
    clear hK hHeld2 hHeld
    have hHeld := HS
    clear HS
    try simp only [Act.put, List.setIfInBounds_toArray, List.set_cons_zero, List.set_cons_succ, List.getElem_toArray, List.getElem_cons_succ, List.getElem_cons_zero]
    refine reg_on (i := 12) (v := .bool false) rfl (by kernel_rfl) (by kernel_rfl) (by kernel_rfl) (fun _ _ _ h => h) (by kernel_rfl) hHeld ?yq15 ?_
    case yq15 => (intro w hSw; (try dsimp only at hSw); skip; go_simp; first | done | with_reducible rfl)
    simp only [Act.put, List.setIfInBounds_toArray, List.set_cons_zero, List.set_cons_succ, List.getElem_toArray, List.getElem_cons_succ, List.getElem_cons_zero]
    refine reg_on (i := 13) (v := .bool false) rfl (by kernel_rfl) (by kernel_rfl) (by kernel_rfl) (fun _ _ _ h => h) (by kernel_rfl) hHeld ?yq16 ?_
    case yq16 => (intro w hSw; (try dsimp only at hSw); skip; go_simp; first | done | with_reducible rfl)
    simp only [Act.put, List.setIfInBounds_toArray, List.set_cons_zero, List.set_cons_succ, List.getElem_toArray, List.getElem_cons_succ, List.getElem_cons_zero]
    refine reg_on (i := 14) (v := .bool false) rfl (by kernel_rfl) (by kernel_rfl) (by kernel_rfl) (fun _ _ _ h => h) (by kernel_rfl) hHeld ?yq17 ?_
    case yq17 => (intro w hSw; (try dsimp only at hSw); skip; go_simp; first | done | with_reducible rfl)
    simp only [Act.put, List.setIfInBounds_toArray, List.set_cons_zero, List.set_cons_succ, List.getElem_toArray, List.getElem_cons_succ, List.getElem_cons_zero]
    refine reg_on (i := 15) (v := ?vq18) rfl (by kernel_rfl) (by kernel_rfl) (by kernel_rfl) (fun _ _ _ h => h) (by kernel_rfl) hHeld ?yq18 ?_
    case yq18 => (intro w hSw; (try dsimp only at hSw); skip; go_simp; first | done | with_reducible rfl)
    simp only [Act.put, List.setIfInBounds_toArray, List.set_cons_zero, List.set_cons_succ, List.getElem_toArray, List.getElem_cons_succ, List.getElem_cons_zero]
    refine reg_step (i := 16) (by kernel_rfl) rfl (by kernel_rfl) (fun K hK => ?_)
    go_simp
    refine (up_any 2 1 _).mono ?_
    rintro e z6 ⟨rfl, hu⟩
    have HS24 := Lib.hid (HS23.out.upd0 hu)
    have HS : (fun X => Blk X xa datN.cells NT ∧ Blk X x4 ownN.cells NT ∧ Blk X xc ackN.cells NT) z6 := ⟨HS24.out.box 7 rfl, HS24.out.box 6 rfl, HS24.out.box 5 rfl⟩
    clear hu
    go_wp2_with fail
    refine hK.out _ _ HS (fun hHeld2 => ?_)
    clear hK hHeld2 hHeld
    have hHeld := HS
    clear HS
    try simp only [Act.put, List.setIfInBounds_toArray, List.set_cons_zero, List.set_cons_succ, List.getElem_toArray, List.getElem_cons_succ, List.getElem_cons_zero]
    refine reg_step (i := 17) (by kernel_rfl) rfl (by kernel_rfl) (fun K hK => ?_)
    go_simp
    refine (gives_none (Sep.pick HS24.out 0 rfl) HT.out (upN 2 1) (up_ok 2 1 (by omega)) k2).mono ?_
    rintro e z7 ⟨rfl, hs⟩
    have HS25 := Lib.hid hs
    have HS : (fun X => Blk X xa datN.cells NT ∧ Blk X x4 ownN.cells NT ∧ Blk X xc ackN.cells NT) z7 := ⟨HS25.out.box 7 rfl, HS25.out.box 6 rfl, HS25.out.box 5 rfl⟩
    clear hs
    go_wp2_with fail
    refine hK.out _ _ HS (fun hHeld2 => ?_)
    clear hK hHeld2 hHeld
    have hHeld := HS
    clear HS
    try simp only [Act.put, List.setIfInBounds_toArray, List.set_cons_zero, List.set_cons_succ, List.getElem_toArray, List.getElem_cons_succ, List.getElem_cons_zero]
    refine reg_on (i := 18) (v := .bool false) rfl (by kernel_rfl) (by kernel_rfl) (by kernel_rfl) (fun _ _ _ h => h) (by kernel_rfl) hHeld ?yq19 ?_
    case yq19 => (intro w hSw; (try dsimp only at hSw); skip; go_simp; first | done | with_reducible rfl)
    simp only [Act.put, List.setIfInBounds_toArray, List.set_cons_zero, List.set_cons_succ, List.getElem_toArray, List.getElem_cons_succ, List.getElem_cons_zero]
    refine reg_on (i := 19) (v := .bool false) rfl (by kernel_rfl) (by kernel_rfl) (by kernel_rfl) (fun _ _ _ h => h) (by kernel_rfl) hHeld ?yq20 ?_
    case yq20 => (intro w hSw; (try dsimp only at hSw); skip; go_simp; first | done | with_reducible rfl)
    simp only [Act.put, List.setIfInBounds_toArray, List.set_cons_zero, List.set_cons_succ, List.getElem_toArray, List.getElem_cons_succ, List.getElem_cons_zero]
    refine reg_on (i := 20) (v := .bool false) rfl (by kernel_rfl) (by kernel_rfl) (by kernel_rfl) (fun _ _ _ h => h) (by kernel_rfl) hHeld ?yq21 ?_
    case yq21 => (intro w hSw; (try dsimp only at hSw); skip; go_simp; first | done | with_reducible rfl)
    simp only [Act.put, List.setIfInBounds_toArray, List.set_cons_zero, List.set_cons_succ, List.getElem_toArray, List.getElem_cons_succ, List.getElem_cons_zero]
    refine reg_on (i := 21) (v := ?vq22) rfl (by kernel_rfl) (by kernel_rfl) (by kernel_rfl) (fun _ _ _ h => h) (by kernel_rfl) hHeld ?yq22 ?_
    case yq22 => (intro w hSw; (try dsimp only at hSw); skip; go_simp; first | done | with_reducible rfl)
    simp only [Act.put, List.setIfInBounds_toArray, List.set_cons_zero, List.set_cons_succ, List.getElem_toArray, List.getElem_cons_succ, List.getElem_cons_zero]
    refine reg_step (i := 22) (by kernel_rfl) rfl (by kernel_rfl) (fun K hK => ?_)
    go_simp
    refine (up_any 11 0 _).mono ?_
    rintro e z8 ⟨rfl, hu⟩
    have HS26 := Lib.hid (HS25.out.upd0 hu)
    have HS : (fun X => Blk X xa datN.cells NT ∧ Blk X x4 ownN.cells NT ∧ Blk X xc ackN.cells NT) z8 := ⟨HS26.out.box 7 rfl, HS26.out.box 6 rfl, HS26.out.box 5 rfl⟩
    clear hu
    go_wp2_with fail
    refine hK.out _ _ HS (fun hHeld2 => ?_)
    clear hK hHeld2 hHeld
    have hHeld := HS
    clear HS
    try simp only [Act.put, List.setIfInBounds_toArray, List.set_cons_zero, List.set_cons_succ, List.getElem_toArray, List.getElem_cons_succ, List.getElem_cons_zero]
    refine reg_step (i := 23) (by kernel_rfl) rfl (by kernel_rfl) (fun K hK => ?_)
    go_simp
    refine (dn_any 5 0 _).mono ?_
    rintro e z9 ⟨rfl, hu⟩
    have HS27 := Lib.hid (HS26.out.upd0 hu)
    have HS : (fun X => Blk X xa datN.cells NT ∧ Blk X x4 ownN.cells NT ∧ Blk X xc ackN.cells NT) z9 := ⟨HS27.out.box 7 rfl, HS27.out.box 6 rfl, HS27.out.box 5 rfl⟩
    clear hu
    go_wp2_with fail
    refine hK.out _ _ HS (fun hHeld2 => ?_)
    clear hK hHeld2 hHeld
    have hHeld := HS
    clear HS
    try simp only [Act.put, List.setIfInBounds_toArray, List.set_cons_zero, List.set_cons_succ, List.getElem_toArray, List.getElem_cons_succ, List.getElem_cons_zero]
    refine reg_step (i := 24) (by kernel_rfl) rfl (by kernel_rfl) (fun K hK => ?_)
    have bs := bsN_run (Nt.Ok.isN (dn_ok 5 0 (by omega)).isU).1 (z9)
    go_simp
    have hs := (HS27.out.alloc (dnN 5 0).cells NT).head (Φ' := outO (sl (z9).heap.size 1 1) [(dnN 5 0)]) (fun F hF => out_one (Nt.Ok.isN (dn_ok 5 0 (by omega)).isU).1 hF)
    obtain ⟨z10, hy⟩ : ∃ X, (z9).alloc (.cells (dnN 5 0).cells NT) = X := ⟨_, rfl⟩
    obtain ⟨gz10, hz⟩ : ∃ g, (z9).heap.size = g := ⟨_, rfl⟩
    rw [hy, hz] at hs
    have HS28 := Lib.hid hs
    have HS : (fun X => Blk X xa datN.cells NT ∧ Blk X x4 ownN.cells NT ∧ Blk X xc ackN.cells NT) z10 := ⟨HS28.out.box 8 rfl, HS28.out.box 7 rfl, HS28.out.box 6 rfl⟩
    simp only [hy, hz]
    clear hs bs hy hz
    refine hK.out _ _ HS (fun hHeld2 => ?_)
    clear hK hHeld2 hHeld
    have hHeld := HS
    clear HS
    try simp only [Act.put, List.setIfInBounds_toArray, List.set_cons_zero, List.set_cons_succ, List.getElem_toArray, List.getElem_cons_succ, List.getElem_cons_zero]
    refine reg_step (i := 25) (by kernel_rfl) rfl (by kernel_rfl) (fun K hK => ?_)
    go_simp
    refine (gives_to (Sep.pick HS28.out 1 rfl) HT.out (upN 11 0) (up_ok 11 0 (by omega)) _ [dnN 5 0] 0 rfl (fun m hm => by simp at hm; subst hm; exact BU.isU_Z) k3).mono ?_
    rintro e z11 ⟨rfl, hs⟩
    have HS29 := Lib.hid hs
    have HS : (fun X => Blk X xa datN.cells NT ∧ Blk X x4 ownN.cells NT ∧ Blk X xc ackN.cells NT) z11 := ⟨HS29.out.box 8 rfl, HS29.out.box 7 rfl, HS29.out.box 6 rfl⟩
    clear hs
    go_wp2_with fail
    refine hK.out _ _ HS (fun hHeld2 => ?_)
    clear hK hHeld2 hHeld
    have hHeld := HS
    clear HS
    try simp only [Act.put, List.setIfInBounds_toArray, List.set_cons_zero, List.set_cons_succ, List.getElem_toArray, List.getElem_cons_succ, List.getElem_cons_zero]
    refine reg_on (i := 26) (v := .bool false) rfl (by kernel_rfl) (by kernel_rfl) (by kernel_rfl) (fun _ _ _ h => h) (by kernel_rfl) hHeld ?yq23 ?_
    case yq23 => (intro w hSw; (try dsimp only at hSw); skip; go_simp; first | done | with_reducible rfl)
    simp only [Act.put, List.setIfInBounds_toArray, List.set_cons_zero, List.set_cons_succ, List.getElem_toArray, List.getElem_cons_succ, List.getElem_cons_zero]
    refine reg_on (i := 27) (v := .bool false) rfl (by kernel_rfl) (by kernel_rfl) (by kernel_rfl) (fun _ _ _ h => h) (by kernel_rfl) hHeld ?yq24 ?_
    case yq24 => (intro w hSw; (try dsimp only at hSw); skip; go_simp; first | done | with_reducible rfl)
    simp only [Act.put, List.setIfInBounds_toArray, List.set_cons_zero, List.set_cons_succ, List.getElem_toArray, List.getElem_cons_succ, List.getElem_cons_zero]
    refine reg_on (i := 28) (v := .bool false) rfl (by kernel_rfl) (by kernel_rfl) (by kernel_rfl) (fun _ _ _ h => h) (by kernel_rfl) hHeld ?yq25 ?_
    case yq25 => (intro w hSw; (try dsimp only at hSw); skip; go_simp; first | done | with_reducible rfl)
    simp only [Act.put, List.setIfInBounds_toArray, List.set_cons_zero, List.set_cons_succ, List.getElem_toArray, List.getElem_cons_succ, List.getElem_cons_zero]
    refine reg_on (i := 29) (v := ?vq26) rfl (by kernel_rfl) (by kernel_rfl) (by kernel_rfl) (fun _ _ _ h => h) (by kernel_rfl) hHeld ?yq26 ?_
    case yq26 => (intro w hSw; (try dsimp only at hSw); skip; go_simp; first | done | with_reducible rfl)
    simp only [Act.put, List.setIfInBounds_toArray, List.set_cons_zero, List.set_cons_succ, List.getElem_toArray, List.getElem_cons_succ, List.getElem_cons_zero]
    refine reg_on (i := 30) (v := ?vq27) rfl (by kernel_rfl) (by kernel_rfl) (by kernel_rfl) (fun _ _ _ h => h) (by kernel_rfl) hHeld ?yq27 ?_
    case yq27 => (intro w hSw; (try dsimp only at hSw); have l0 := TNot.ld_at HAC.out hSw.2.2.whole; go_simp; first | done | with_reducible rfl)
    simp only [Act.put, List.setIfInBounds_toArray, List.set_cons_zero, List.set_cons_succ, List.getElem_toArray, List.getElem_cons_succ, List.getElem_cons_zero]
    refine reg_on (i := 31) (v := ?vq28) rfl (by kernel_rfl) (by kernel_rfl) (by kernel_rfl) (fun _ _ _ h => h) (by kernel_rfl) hHeld ?yq28 ?_
    case yq28 => (intro w hSw; (try dsimp only at hSw); have l0 := TNot.ld_at HOW.out hSw.2.1.whole; go_simp; first | done | with_reducible rfl)
    simp only [Act.put, List.setIfInBounds_toArray, List.set_cons_zero, List.set_cons_succ, List.getElem_toArray, List.getElem_cons_succ, List.getElem_cons_zero]
    refine reg_step (i := 32) (by kernel_rfl) rfl (by kernel_rfl) (fun K hK => ?_)
    have bs := bsN_run (Nt.Ok.isN own_ok.isU).1 (z11)
    go_simp
    have hs := (HS29.out.alloc ownN.cells NT).head (Φ' := outO (sl (z11).heap.size 1 1) [ownN]) (fun F hF => out_one (Nt.Ok.isN own_ok.isU).1 hF)
    obtain ⟨z12, hy⟩ : ∃ X, (z11).alloc (.cells ownN.cells NT) = X := ⟨_, rfl⟩
    obtain ⟨gz12, hz⟩ : ∃ g, (z11).heap.size = g := ⟨_, rfl⟩
    rw [hy, hz] at hs
    have HS30 := Lib.hid hs
    have HS : (fun X => Blk X xa datN.cells NT ∧ Blk X x4 ownN.cells NT ∧ Blk X xc ackN.cells NT) z12 := ⟨HS30.out.box 9 rfl, HS30.out.box 8 rfl, HS30.out.box 7 rfl⟩
    simp only [hy, hz]
    clear hs bs hy hz
    refine hK.out _ _ HS (fun hHeld2 => ?_)
    clear hK hHeld2 hHeld
    have hHeld := HS
    clear HS
    try simp only [Act.put, List.setIfInBounds_toArray, List.set_cons_zero, List.set_cons_succ, List.getElem_toArray, List.getElem_cons_succ, List.getElem_cons_zero]
    refine reg_step (i := 33) (by kernel_rfl) rfl (by kernel_rfl) (fun K hK => ?_)
    go_simp
    refine (gives_to (Sep.pick HS30.out 1 rfl) HT.out ackN ack_ok _ [ownN] 0 rfl (fun m hm => by simp at hm; subst hm; exact isU_77) k4).mono ?_
    rintro e z13 ⟨rfl, hs⟩
    have HS31 := Lib.hid hs
    have HS : (fun X => Blk X xa datN.cells NT ∧ Blk X x4 ownN.cells NT ∧ Blk X xc ackN.cells NT) z13 := ⟨HS31.out.box 9 rfl, HS31.out.box 8 rfl, HS31.out.box 7 rfl⟩
    clear hs
    go_wp2_with fail
    refine hK.out _ _ HS (fun hHeld2 => ?_)
    clear hK hHeld2 hHeld
    have hHeld := HS
    clear HS
    try simp only [Act.put, List.setIfInBounds_toArray, List.set_cons_zero, List.set_cons_succ, List.getElem_toArray, List.getElem_cons_succ, List.getElem_cons_zero]
    refine reg_on (i := 34) (v := .bool false) rfl (by kernel_rfl) (by kernel_rfl) (by kernel_rfl) (fun _ _ _ h => h) (by kernel_rfl) hHeld ?yq29 ?_
    case yq29 => (intro w hSw; (try dsimp only at hSw); skip; go_simp; first | done | with_reducible rfl)
    simp only [Act.put, List.setIfInBounds_toArray, List.set_cons_zero, List.set_cons_succ, List.getElem_toArray, List.getElem_cons_succ, List.getElem_cons_zero]
    refine reg_on (i := 35) (v := .bool false) rfl (by kernel_rfl) (by kernel_rfl) (by kernel_rfl) (fun _ _ _ h => h) (by kernel_rfl) hHeld ?yq30 ?_
    case yq30 => (intro w hSw; (try dsimp only at hSw); skip; go_simp; first | done | with_reducible rfl)
    simp only [Act.put, List.setIfInBounds_toArray, List.set_cons_zero, List.set_cons_succ, List.getElem_toArray, List.getElem_cons_succ, List.getElem_cons_zero]
    refine reg_on (i := 36) (v := .bool false) rfl (by kernel_rfl) (by kernel_rfl) (by kernel_rfl) (fun _ _ _ h => h) (by kernel_rfl) hHeld ?yq31 ?_
    case yq31 => (intro w hSw; (try dsimp only at hSw); skip; go_simp; first | done | with_reducible rfl)
    simp only [Act.put, List.setIfInBounds_toArray, List.set_cons_zero, List.set_cons_succ, List.getElem_toArray, List.getElem_cons_succ, List.getElem_cons_zero]
    refine reg_on (i := 37) (v := ?vq32) rfl (by kernel_rfl) (by kernel_rfl) (by kernel_rfl) (fun _ _ _ h => h) (by kernel_rfl) hHeld ?yq32 ?_
    case yq32 => (intro w hSw; (try dsimp only at hSw); skip; go_simp; first | done | with_reducible rfl)
    simp only [Act.put, List.setIfInBounds_toArray, List.set_cons_zero, List.set_cons_succ, List.getElem_toArray, List.getElem_cons_succ, List.getElem_cons_zero]
    refine reg_step (i := 38) (by kernel_rfl) rfl (by kernel_rfl) (fun K hK => ?_)
    go_simp
    refine (up_any 11 1 _).mono ?_
    rintro e z14 ⟨rfl, hu⟩
    have HS32 := Lib.hid (HS31.out.upd0 hu)
    have HS : (fun X => Blk X xa datN.cells NT ∧ Blk X x4 ownN.cells NT ∧ Blk X xc ackN.cells NT) z14 := ⟨HS32.out.box 9 rfl, HS32.out.box 8 rfl, HS32.out.box 7 rfl⟩
    clear hu
    go_wp2_with fail
    refine hK.out _ _ HS (fun hHeld2 => ?_)
    clear hK hHeld2 hHeld
    have hHeld := HS
    clear HS
    try simp only [Act.put, List.setIfInBounds_toArray, List.set_cons_zero, List.set_cons_succ, List.getElem_toArray, List.getElem_cons_succ, List.getElem_cons_zero]
    refine reg_step (i := 39) (by kernel_rfl) rfl (by kernel_rfl) (fun K hK => ?_)
    go_simp
    refine (gives_none (Sep.pick HS32.out 0 rfl) HT.out (upN 11 1) (up_ok 11 1 (by omega)) k5).mono ?_
    rintro e z15 ⟨rfl, hs⟩
    have HS33 := Lib.hid hs
    have HS : (fun X => Blk X xa datN.cells NT ∧ Blk X x4 ownN.cells NT ∧ Blk X xc ackN.cells NT) z15 := ⟨HS33.out.box 9 rfl, HS33.out.box 8 rfl, HS33.out.box 7 rfl⟩
    clear hs
    go_wp2_with fail
    refine hK.out _ _ HS (fun hHeld2 => ?_)
    clear hK hHeld2 hHeld
    have hHeld := HS
    clear HS
    try simp only [Act.put, List.setIfInBounds_toArray, List.set_cons_zero, List.set_cons_succ, List.getElem_toArray, List.getElem_cons_succ, List.getElem_cons_zero]
    refine reg_on (i := 40) (v := .bool false) rfl (by kernel_rfl) (by kernel_rfl) (by kernel_rfl) (fun _ _ _ h => h) (by kernel_rfl) hHeld ?yq33 ?_
    case yq33 => (intro w hSw; (try dsimp only at hSw); skip; go_simp; first | done | with_reducible rfl)
    simp only [Act.put, List.setIfInBounds_toArray, List.set_cons_zero, List.set_cons_succ, List.getElem_toArray, List.getElem_cons_succ, List.getElem_cons_zero]
    refine reg_on (i := 41) (v := .bool false) rfl (by kernel_rfl) (by kernel_rfl) (by kernel_rfl) (fun _ _ _ h => h) (by kernel_rfl) hHeld ?yq34 ?_
    case yq34 => (intro w hSw; (try dsimp only at hSw); skip; go_simp; first | done | with_reducible rfl)
    simp only [Act.put, List.setIfInBounds_toArray, List.set_cons_zero, List.set_cons_succ, List.getElem_toArray, List.getElem_cons_succ, List.getElem_cons_zero]
    refine wpAnyH_done (by kernel_rfl) ?_ _
    clear hHeld
    go_upto_region 8 with fail
    have HS34 := Lib.hid (HS33.out.upd0 (Upd.drew NoF z15))
    refine wp_region_held_drew (S := (fun X => Blk X x8 (dnN 4 1).cells NT ∧ Blk X x6 refN.cells NT ∧ Blk X x7 nakN.cells NT)) (by kernel_rfl) (⟨HS34.out.box 4 rfl, HS34.out.box 6 rfl, HS34.out.box 5 rfl⟩) (fun hHeld => ?_)
    obtain ⟨z16, hX0⟩ : ∃ X, z15.drew = X := ⟨_, rfl⟩
    rw [hX0] at hHeld HS34 ⊢
    clear hX0
    refine reg_on (i := 0) (v := ?vq35) rfl (by kernel_rfl) (by kernel_rfl) (by kernel_rfl) (fun _ _ _ h => h) (by kernel_rfl) hHeld ?yq35 ?_
    case yq35 => (intro w hSw; (try dsimp only at hSw); skip; go_simp; first | done | with_reducible rfl)
    simp only [Act.put, List.setIfInBounds_toArray, List.set_cons_zero, List.set_cons_succ, List.getElem_toArray, List.getElem_cons_succ, List.getElem_cons_zero]
    refine reg_on (i := 2) (v := ?vq36) rfl (by kernel_rfl) (by kernel_rfl) (by kernel_rfl) (fun _ _ _ h => h) (by kernel_rfl) hHeld ?yq36 ?_
    case yq36 => (intro w hSw; (try dsimp only at hSw); have l0 := TNot.ld_at HAS.out hSw.1.whole; go_simp; first | done | with_reducible rfl)
    simp only [Act.put, List.setIfInBounds_toArray, List.set_cons_zero, List.set_cons_succ, List.getElem_toArray, List.getElem_cons_succ, List.getElem_cons_zero]
    refine reg_two (i := 1) (j := 3) (by kernel_rfl) rfl rfl (by kernel_rfl) (by kernel_rfl) (fun K hK => ?_) (fun K hK => ?_)
    · go_simp
      refine (up_any 1 0 _).mono ?_
      rintro e z17 ⟨rfl, hu⟩
      have HS35 := Lib.hid (HS34.out.upd0 hu)
      have HS : (fun X => Blk X x8 (dnN 4 1).cells NT ∧ Blk X x6 refN.cells NT ∧ Blk X x7 nakN.cells NT) z17 := ⟨HS35.out.box 4 rfl, HS35.out.box 6 rfl, HS35.out.box 5 rfl⟩
      clear hu
      go_wp2_with fail
      refine hK.out _ _ HS (fun hHeld2 => ?_)
      clear hK hHeld2 hHeld
      have hHeld := HS
      clear HS
      try simp only [Act.put, List.setIfInBounds_toArray, List.set_cons_zero, List.set_cons_succ, List.getElem_toArray, List.getElem_cons_succ, List.getElem_cons_zero]
      refine reg_step (i := 3) (by kernel_rfl) rfl (by kernel_rfl) (fun K hK => ?_)
      have bs := bsN_run (Nt.Ok.isN (dn_ok 4 1 (by omega)).isU).1 (z17)
      go_simp
      have hs := (HS35.out.alloc (dnN 4 1).cells NT).head (Φ' := outO (sl (z17).heap.size 1 1) [(dnN 4 1)]) (fun F hF => out_one (Nt.Ok.isN (dn_ok 4 1 (by omega)).isU).1 hF)
      obtain ⟨z18, hy⟩ : ∃ X, (z17).alloc (.cells (dnN 4 1).cells NT) = X := ⟨_, rfl⟩
      obtain ⟨gz18, hz⟩ : ∃ g, (z17).heap.size = g := ⟨_, rfl⟩
      rw [hy, hz] at hs
      have HS36 := Lib.hid hs
      have HS : (fun X => Blk X x8 (dnN 4 1).cells NT ∧ Blk X x6 refN.cells NT ∧ Blk X x7 nakN.cells NT) z18 := ⟨HS36.out.box 5 rfl, HS36.out.box 7 rfl, HS36.out.box 6 rfl⟩
      simp only [hy, hz]
      clear hs bs hy hz
      refine hK.out _ _ HS (fun hHeld2 => ?_)
      clear hK hHeld2 hHeld
      have hHeld := HS
      clear HS
      try simp only [Act.put, List.setIfInBounds_toArray, List.set_cons_zero, List.set_cons_succ, List.getElem_toArray, List.getElem_cons_succ, List.getElem_cons_zero]
      refine reg_step (i := 4) (by kernel_rfl) rfl (by kernel_rfl) (fun K hK => ?_)
      go_simp
      refine (gives_to (Sep.pick HS36.out 1 rfl) HT.out (upN 1 0) (up_ok 1 0 (by omega)) _ [dnN 4 1] 0 rfl (fun m hm => by simp at hm; subst hm; exact BU.isU_Z) k6).mono ?_
      rintro e z19 ⟨rfl, hs⟩
      have HS37 := Lib.hid hs
      have HS : (fun X => Blk X x8 (dnN 4 1).cells NT ∧ Blk X x6 refN.cells NT ∧ Blk X x7 nakN.cells NT) z19 := ⟨HS37.out.box 5 rfl, HS37.out.box 7 rfl, HS37.out.box 6 rfl⟩
      clear hs
      go_wp2_with fail
      refine hK.out _ _ HS (fun hHeld2 => ?_)
      clear hK hHeld2 hHeld
      have hHeld := HS
      clear HS
      try simp only [Act.put, List.setIfInBounds_toArray, List.set_cons_zero, List.set_cons_succ, List.getElem_toArray, List.getElem_cons_succ, List.getElem_cons_zero]
      refine reg_on (i := 5) (v := .bool false) rfl (by kernel_rfl) (by kernel_rfl) (by kernel_rfl) (fun _ _ _ h => h) (by kernel_rfl) hHeld ?yq37 ?_
      case yq37 => (intro w hSw; (try dsimp only at hSw); skip; go_simp; first | done | with_reducible rfl)
      simp only [Act.put, List.setIfInBounds_toArray, List.set_cons_zero, List.set_cons_succ, List.getElem_toArray, List.getElem_cons_succ, List.getElem_cons_zero]
      refine reg_on (i := 6) (v := .bool false) rfl (by kernel_rfl) (by kernel_rfl) (by kernel_rfl) (fun _ _ _ h => h) (by kernel_rfl) hHeld ?yq38 ?_
      case yq38 => (intro w hSw; (try dsimp only at hSw); skip; go_simp; first | done | with_reducible rfl)
      simp only [Act.put, List.setIfInBounds_toArray, List.set_cons_zero, List.set_cons_succ, List.getElem_toArray, List.getElem_cons_succ, List.getElem_cons_zero]
      refine reg_on (i := 7) (v := ?vq39) rfl (by kernel_rfl) (by kernel_rfl) (by kernel_rfl) (fun _ _ _ h => h) (by kernel_rfl) hHeld ?yq39 ?_
      case yq39 => (intro w hSw; (try dsimp only at hSw); skip; go_simp; first | done | with_reducible rfl)
      simp only [Act.put, List.setIfInBounds_toArray, List.set_cons_zero, List.set_cons_succ, List.getElem_toArray, List.getElem_cons_succ, List.getElem_cons_zero]
      refine reg_on (i := 8) (v := ?vq40) rfl (by kernel_rfl) (by kernel_rfl) (by kernel_rfl) (fun _ _ _ h => h) (by kernel_rfl) hHeld ?yq40 ?_
      case yq40 => (intro w hSw; (try dsimp only at hSw); have l0 := TNot.ld_at HRE.out hSw.2.1.whole; go_simp; first | done | with_reducible rfl)
      simp only [Act.put, List.setIfInBounds_toArray, List.set_cons_zero, List.set_cons_succ, List.getElem_toArray, List.getElem_cons_succ, List.getElem_cons_zero]
      refine reg_on (i := 9) (v := ?vq41) rfl (by kernel_rfl) (by kernel_rfl) (by kernel_rfl) (fun _ _ _ h => h) (by kernel_rfl) hHeld ?yq41 ?_
      case yq41 => (intro w hSw; (try dsimp only at hSw); have l0 := TNot.ld_at HNK.out hSw.2.2.whole; go_simp; first | done | with_reducible rfl)
      simp only [Act.put, List.setIfInBounds_toArray, List.set_cons_zero, List.set_cons_succ, List.getElem_toArray, List.getElem_cons_succ, List.getElem_cons_zero]
      refine reg_step (i := 10) (by kernel_rfl) rfl (by kernel_rfl) (fun K hK => ?_)
      have bs := bsN_run (Nt.Ok.isN nak_ok.isU).1 (z19)
      go_simp
      have hs := (HS37.out.alloc nakN.cells NT).head (Φ' := outO (sl (z19).heap.size 1 1) [nakN]) (fun F hF => out_one (Nt.Ok.isN nak_ok.isU).1 hF)
      obtain ⟨z20, hy⟩ : ∃ X, (z19).alloc (.cells nakN.cells NT) = X := ⟨_, rfl⟩
      obtain ⟨gz20, hz⟩ : ∃ g, (z19).heap.size = g := ⟨_, rfl⟩
      rw [hy, hz] at hs
      have HS38 := Lib.hid hs
      have HS : (fun X => Blk X x8 (dnN 4 1).cells NT ∧ Blk X x6 refN.cells NT ∧ Blk X x7 nakN.cells NT) z20 := ⟨HS38.out.box 6 rfl, HS38.out.box 8 rfl, HS38.out.box 7 rfl⟩
      simp only [hy, hz]
      clear hs bs hy hz
      refine hK.out _ _ HS (fun hHeld2 => ?_)
      clear hK hHeld2 hHeld
      have hHeld := HS
      clear HS
      try simp only [Act.put, List.setIfInBounds_toArray, List.set_cons_zero, List.set_cons_succ, List.getElem_toArray, List.getElem_cons_succ, List.getElem_cons_zero]
      refine reg_step (i := 11) (by kernel_rfl) rfl (by kernel_rfl) (fun K hK => ?_)
      go_simp
      refine (gives_to (Sep.pick HS38.out 1 rfl) HT.out refN ref_ok _ [nakN] 0 rfl (fun m hm => by simp at hm; subst hm; exact BU.isU_Z) k7).mono ?_
      rintro e z21 ⟨rfl, hs⟩
      have HS39 := Lib.hid hs
      have HS : (fun X => Blk X x8 (dnN 4 1).cells NT ∧ Blk X x6 refN.cells NT ∧ Blk X x7 nakN.cells NT) z21 := ⟨HS39.out.box 6 rfl, HS39.out.box 8 rfl, HS39.out.box 7 rfl⟩
      clear hs
      go_wp2_with fail
      refine hK.out _ _ HS (fun hHeld2 => ?_)
      clear hK hHeld2 hHeld
      have hHeld := HS
      clear HS
      try simp only [Act.put, List.setIfInBounds_toArray, List.set_cons_zero, List.set_cons_succ, List.getElem_toArray, List.getElem_cons_succ, List.getElem_cons_zero]
      refine reg_on (i := 12) (v := .bool false) rfl (by kernel_rfl) (by kernel_rfl) (by kernel_rfl) (fun _ _ _ h => h) (by kernel_rfl) hHeld ?yq42 ?_
      case yq42 => (intro w hSw; (try dsimp only at hSw); skip; go_simp; first | done | with_reducible rfl)
      simp only [Act.put, List.setIfInBounds_toArray, List.set_cons_zero, List.set_cons_succ, List.getElem_toArray, List.getElem_cons_succ, List.getElem_cons_zero]
      refine reg_on (i := 13) (v := .bool false) rfl (by kernel_rfl) (by kernel_rfl) (by kernel_rfl) (fun _ _ _ h => h) (by kernel_rfl) hHeld ?yq43 ?_
      case yq43 => (intro w hSw; (try dsimp only at hSw); skip; go_simp; first | done | with_reducible rfl)
      simp only [Act.put, List.setIfInBounds_toArray, List.set_cons_zero, List.set_cons_succ, List.getElem_toArray, List.getElem_cons_succ, List.getElem_cons_zero]
      refine reg_on (i := 14) (v := .bool false) rfl (by kernel_rfl) (by kernel_rfl) (by kernel_rfl) (fun _ _ _ h => h) (by kernel_rfl) hHeld ?yq44 ?_
      case yq44 => (intro w hSw; (try dsimp only at hSw); skip; go_simp; first | done | with_reducible rfl)
      simp only [Act.put, List.setIfInBounds_toArray, List.set_cons_zero, List.set_cons_succ, List.getElem_toArray, List.getElem_cons_succ, List.getElem_cons_zero]
      refine reg_on (i := 15) (v := ?vq45) rfl (by kernel_rfl) (by kernel_rfl) (by kernel_rfl) (fun _ _ _ h => h) (by kernel_rfl) hHeld ?yq45 ?_
      case yq45 => (intro w hSw; (try dsimp only at hSw); skip; go_simp; first | done | with_reducible rfl)
      simp only [Act.put, List.setIfInBounds_toArray, List.set_cons_zero, List.set_cons_succ, List.getElem_toArray, List.getElem_cons_succ, List.getElem_cons_zero]
      refine reg_step (i := 16) (by kernel_rfl) rfl (by kernel_rfl) (fun K hK => ?_)
      go_simp
      refine (busy_at HS39.out 0 rfl 5 (by omega) b7).mono ?_
      rintro e z22 ⟨rfl, hu⟩
      have HS40 := Lib.hid (HS39.out.upd0 hu)
      have HS : (fun X => Blk X x8 (dnN 4 1).cells NT ∧ Blk X x6 refN.cells NT ∧ Blk X x7 nakN.cells NT) z22 := ⟨HS40.out.box 6 rfl, HS40.out.box 8 rfl, HS40.out.box 7 rfl⟩
      clear hu
      go_wp2_with fail
      refine hK.out _ _ HS (fun hHeld2 => ?_)
      clear hK hHeld2 hHeld
      have hHeld := HS
      clear HS
      try simp only [Act.put, List.setIfInBounds_toArray, List.set_cons_zero, List.set_cons_succ, List.getElem_toArray, List.getElem_cons_succ, List.getElem_cons_zero]
      refine reg_on (i := 17) (v := .bool false) rfl (by kernel_rfl) (by kernel_rfl) (by kernel_rfl) (fun _ _ _ h => h) (by kernel_rfl) hHeld ?yq46 ?_
      case yq46 => (intro w hSw; (try dsimp only at hSw); skip; go_simp; first | done | with_reducible rfl)
      simp only [Act.put, List.setIfInBounds_toArray, List.set_cons_zero, List.set_cons_succ, List.getElem_toArray, List.getElem_cons_succ, List.getElem_cons_zero]
      refine wpAnyH_done (by kernel_rfl) ?_ _
      clear hHeld
      go_wp2_with fail
      refine (two_any _).mono ?_
      rintro e z23 ⟨rfl, hu⟩
      have HS41 := Lib.hid (HS40.out.upd0 hu)
      clear hu
      go_wp2_with fail
      refine (new_nil twoC _).mono ?_
      rintro e z24 ⟨rfl, hu⟩
      have HS42 := Lib.hid (HS41.out.upd0 hu)
      clear hu
      have l0 := TNot.ld_at HDA.out (HS42.out.box 11 rfl).whole
      go_wp2_with fail
      refine (take_nil datN dat_ok _).mono ?_
      rintro e z25 ⟨rfl, hu⟩
      have HS43 := Lib.hid (HS42.out.upd0 hu)
      clear hu
      clear l0
      go_wp2_with fail
      refine (entry_nil 0 _).mono ?_
      rintro e z26 ⟨rfl, hu⟩
      have HS44 := Lib.hid (HS43.out.upd0 hu)
      clear hu
      have HS45 := Lib.hid (HS44.out.alloc #[.int .i64 0, .int .u32 0] ET')
      have l0 := TNot.ld_at HDA.out (HS45.out.box 12 rfl).whole
      go_wp2_with fail
      refine (ready_nil datN _).mono ?_
      rintro e z27 ⟨rfl, hu⟩
      have HS46 := Lib.hid (HS45.out.upd0 hu)
      clear hu
      clear l0
      go_wp2_with fail
      refine (busy_nil 0 _).mono ?_
      rintro e z28 ⟨rfl, hu⟩
      have HS47 := Lib.hid (HS46.out.upd0 hu)
      clear hu
      go_wp2_with fail
      refine (waits_nil _).mono ?_
      rintro e z29 ⟨rfl, hu⟩
      have HS48 := Lib.hid (HS47.out.upd0 hu)
      clear hu
      go_wp2_with fail
      refine (copy_nil _).mono ?_
      rintro e z30 ⟨rfl, hu⟩
      have HS49 := Lib.hid (HS48.out.upd0 hu)
      clear hu
      go_wp2
      go_ret
      have he := HS49.out
      refine ⟨rfl, he.upd, trivial⟩
    · have bs := bsN_run (Nt.Ok.isN (dn_ok 4 1 (by omega)).isU).1 (z16)
      go_simp
      have hs := (HS34.out.alloc (dnN 4 1).cells NT).head (Φ' := outO (sl (z16).heap.size 1 1) [(dnN 4 1)]) (fun F hF => out_one (Nt.Ok.isN (dn_ok 4 1 (by omega)).isU).1 hF)
      obtain ⟨z31, hy⟩ : ∃ X, (z16).alloc (.cells (dnN 4 1).cells NT) = X := ⟨_, rfl⟩
      obtain ⟨gz31, hz⟩ : ∃ g, (z16).heap.size = g := ⟨_, rfl⟩
      rw [hy, hz] at hs
      have HS35 := Lib.hid hs
      have HS : (fun X => Blk X x8 (dnN 4 1).cells NT ∧ Blk X x6 refN.cells NT ∧ Blk X x7 nakN.cells NT) z31 := ⟨HS35.out.box 5 rfl, HS35.out.box 7 rfl, HS35.out.box 6 rfl⟩
      simp only [hy, hz]
      clear hs bs hy hz
      refine hK.out _ _ HS (fun hHeld2 => ?_)
      clear hK hHeld2 hHeld
      have hHeld := HS
      clear HS
      try simp only [Act.put, List.setIfInBounds_toArray, List.set_cons_zero, List.set_cons_succ, List.getElem_toArray, List.getElem_cons_succ, List.getElem_cons_zero]
      refine reg_step (i := 1) (by kernel_rfl) rfl (by kernel_rfl) (fun K hK => ?_)
      go_simp
      refine (up_any 1 0 _).mono ?_
      rintro e z32 ⟨rfl, hu⟩
      have HS36 := Lib.hid (HS35.out.upd0 hu)
      have HS : (fun X => Blk X x8 (dnN 4 1).cells NT ∧ Blk X x6 refN.cells NT ∧ Blk X x7 nakN.cells NT) z32 := ⟨HS36.out.box 5 rfl, HS36.out.box 7 rfl, HS36.out.box 6 rfl⟩
      clear hu
      go_wp2_with fail
      refine hK.out _ _ HS (fun hHeld2 => ?_)
      clear hK hHeld2 hHeld
      have hHeld := HS
      clear HS
      try simp only [Act.put, List.setIfInBounds_toArray, List.set_cons_zero, List.set_cons_succ, List.getElem_toArray, List.getElem_cons_succ, List.getElem_cons_zero]
      refine reg_step (i := 4) (by kernel_rfl) rfl (by kernel_rfl) (fun K hK => ?_)
      go_simp
      refine (gives_to (Sep.pick HS36.out 1 rfl) HT.out (upN 1 0) (up_ok 1 0 (by omega)) _ [dnN 4 1] 0 rfl (fun m hm => by simp at hm; subst hm; exact BU.isU_Z) k6).mono ?_
      rintro e z33 ⟨rfl, hs⟩
      have HS37 := Lib.hid hs
      have HS : (fun X => Blk X x8 (dnN 4 1).cells NT ∧ Blk X x6 refN.cells NT ∧ Blk X x7 nakN.cells NT) z33 := ⟨HS37.out.box 5 rfl, HS37.out.box 7 rfl, HS37.out.box 6 rfl⟩
      clear hs
      go_wp2_with fail
      refine hK.out _ _ HS (fun hHeld2 => ?_)
      clear hK hHeld2 hHeld
      have hHeld := HS
      clear HS
      try simp only [Act.put, List.setIfInBounds_toArray, List.set_cons_zero, List.set_cons_succ, List.getElem_toArray, List.getElem_cons_succ, List.getElem_cons_zero]
      refine reg_on (i := 5) (v := .bool false) rfl (by kernel_rfl) (by kernel_rfl) (by kernel_rfl) (fun _ _ _ h => h) (by kernel_rfl) hHeld ?yq47 ?_
      case yq47 => (intro w hSw; (try dsimp only at hSw); skip; go_simp; first | done | with_reducible rfl)
      simp only [Act.put, List.setIfInBounds_toArray, List.set_cons_zero, List.set_cons_succ, List.getElem_toArray, List.getElem_cons_succ, List.getElem_cons_zero]
      refine reg_on (i := 6) (v := .bool false) rfl (by kernel_rfl) (by kernel_rfl) (by kernel_rfl) (fun _ _ _ h => h) (by kernel_rfl) hHeld ?yq48 ?_
      case yq48 => (intro w hSw; (try dsimp only at hSw); skip; go_simp; first | done | with_reducible rfl)
      simp only [Act.put, List.setIfInBounds_toArray, List.set_cons_zero, List.set_cons_succ, List.getElem_toArray, List.getElem_cons_succ, List.getElem_cons_zero]
      refine reg_on (i := 7) (v := ?vq49) rfl (by kernel_rfl) (by kernel_rfl) (by kernel_rfl) (fun _ _ _ h => h) (by kernel_rfl) hHeld ?yq49 ?_
      case yq49 => (intro w hSw; (try dsimp only at hSw); skip; go_simp; first | done | with_reducible rfl)
      simp only [Act.put, List.setIfInBounds_toArray, List.set_cons_zero, List.set_cons_succ, List.getElem_toArray, List.getElem_cons_succ, List.getElem_cons_zero]
      refine reg_on (i := 8) (v := ?vq50) rfl (by kernel_rfl) (by kernel_rfl) (by kernel_rfl) (fun _ _ _ h => h) (by kernel_rfl) hHeld ?yq50 ?_
      case yq50 => (intro w hSw; (try dsimp only at hSw); have l0 := TNot.ld_at HRE.out hSw.2.1.whole; go_simp; first | done | with_reducible rfl)
      simp only [Act.put, List.setIfInBounds_toArray, List.set_cons_zero, List.set_cons_succ, List.getElem_toArray, List.getElem_cons_succ, List.getElem_cons_zero]
      refine reg_on (i := 9) (v := ?vq51) rfl (by kernel_rfl) (by kernel_rfl) (by kernel_rfl) (fun _ _ _ h => h) (by kernel_rfl) hHeld ?yq51 ?_
      case yq51 => (intro w hSw; (try dsimp only at hSw); have l0 := TNot.ld_at HNK.out hSw.2.2.whole; go_simp; first | done | with_reducible rfl)
      simp only [Act.put, List.setIfInBounds_toArray, List.set_cons_zero, List.set_cons_succ, List.getElem_toArray, List.getElem_cons_succ, List.getElem_cons_zero]
      refine reg_step (i := 10) (by kernel_rfl) rfl (by kernel_rfl) (fun K hK => ?_)
      have bs := bsN_run (Nt.Ok.isN nak_ok.isU).1 (z33)
      go_simp
      have hs := (HS37.out.alloc nakN.cells NT).head (Φ' := outO (sl (z33).heap.size 1 1) [nakN]) (fun F hF => out_one (Nt.Ok.isN nak_ok.isU).1 hF)
      obtain ⟨z34, hy⟩ : ∃ X, (z33).alloc (.cells nakN.cells NT) = X := ⟨_, rfl⟩
      obtain ⟨gz34, hz⟩ : ∃ g, (z33).heap.size = g := ⟨_, rfl⟩
      rw [hy, hz] at hs
      have HS38 := Lib.hid hs
      have HS : (fun X => Blk X x8 (dnN 4 1).cells NT ∧ Blk X x6 refN.cells NT ∧ Blk X x7 nakN.cells NT) z34 := ⟨HS38.out.box 6 rfl, HS38.out.box 8 rfl, HS38.out.box 7 rfl⟩
      simp only [hy, hz]
      clear hs bs hy hz
      refine hK.out _ _ HS (fun hHeld2 => ?_)
      clear hK hHeld2 hHeld
      have hHeld := HS
      clear HS
      try simp only [Act.put, List.setIfInBounds_toArray, List.set_cons_zero, List.set_cons_succ, List.getElem_toArray, List.getElem_cons_succ, List.getElem_cons_zero]
      refine reg_step (i := 11) (by kernel_rfl) rfl (by kernel_rfl) (fun K hK => ?_)
      go_simp
      refine (gives_to (Sep.pick HS38.out 1 rfl) HT.out refN ref_ok _ [nakN] 0 rfl (fun m hm => by simp at hm; subst hm; exact BU.isU_Z) k7).mono ?_
      rintro e z35 ⟨rfl, hs⟩
      have HS39 := Lib.hid hs
      have HS : (fun X => Blk X x8 (dnN 4 1).cells NT ∧ Blk X x6 refN.cells NT ∧ Blk X x7 nakN.cells NT) z35 := ⟨HS39.out.box 6 rfl, HS39.out.box 8 rfl, HS39.out.box 7 rfl⟩
      clear hs
      go_wp2_with fail
      refine hK.out _ _ HS (fun hHeld2 => ?_)
      clear hK hHeld2 hHeld
      have hHeld := HS
      clear HS
      try simp only [Act.put, List.setIfInBounds_toArray, List.set_cons_zero, List.set_cons_succ, List.getElem_toArray, List.getElem_cons_succ, List.getElem_cons_zero]
      refine reg_on (i := 12) (v := .bool false) rfl (by kernel_rfl) (by kernel_rfl) (by kernel_rfl) (fun _ _ _ h => h) (by kernel_rfl) hHeld ?yq52 ?_
      case yq52 => (intro w hSw; (try dsimp only at hSw); skip; go_simp; first | done | with_reducible rfl)
      simp only [Act.put, List.setIfInBounds_toArray, List.set_cons_zero, List.set_cons_succ, List.getElem_toArray, List.getElem_cons_succ, List.getElem_cons_zero]
      refine reg_on (i := 13) (v := .bool false) rfl (by kernel_rfl) (by kernel_rfl) (by kernel_rfl) (fun _ _ _ h => h) (by kernel_rfl) hHeld ?yq53 ?_
      case yq53 => (intro w hSw; (try dsimp only at hSw); skip; go_simp; first | done | with_reducible rfl)
      simp only [Act.put, List.setIfInBounds_toArray, List.set_cons_zero, List.set_cons_succ, List.getElem_toArray, List.getElem_cons_succ, List.getElem_cons_zero]
      refine reg_on (i := 14) (v := .bool false) rfl (by kernel_rfl) (by kernel_rfl) (by kernel_rfl) (fun _ _ _ h => h) (by kernel_rfl) hHeld ?yq54 ?_
      case yq54 => (intro w hSw; (try dsimp only at hSw); skip; go_simp; first | done | with_reducible rfl)
      simp only [Act.put, List.setIfInBounds_toArray, List.set_cons_zero, List.set_cons_succ, List.getElem_toArray, List.getElem_cons_succ, List.getElem_cons_zero]
      refine reg_on (i := 15) (v := ?vq55) rfl (by kernel_rfl) (by kernel_rfl) (by kernel_rfl) (fun _ _ _ h => h) (by kernel_rfl) hHeld ?yq55 ?_
      case yq55 => (intro w hSw; (try dsimp only at hSw); skip; go_simp; first | done | with_reducible rfl)
      simp only [Act.put, List.setIfInBounds_toArray, List.set_cons_zero, List.set_cons_succ, List.getElem_toArray, List.getElem_cons_succ, List.getElem_cons_zero]
      refine reg_step (i := 16) (by kernel_rfl) rfl (by kernel_rfl) (fun K hK => ?_)
      go_simp
      refine (busy_at HS39.out 0 rfl 5 (by omega) b7).mono ?_
      rintro e z36 ⟨rfl, hu⟩
      have HS40 := Lib.hid (HS39.out.upd0 hu)
      have HS : (fun X => Blk X x8 (dnN 4 1).cells NT ∧ Blk X x6 refN.cells NT ∧ Blk X x7 nakN.cells NT) z36 := ⟨HS40.out.box 6 rfl, HS40.out.box 8 rfl, HS40.out.box 7 rfl⟩
      clear hu
      go_wp2_with fail
      refine hK.out _ _ HS (fun hHeld2 => ?_)
      clear hK hHeld2 hHeld
      have hHeld := HS
      clear HS
      try simp only [Act.put, List.setIfInBounds_toArray, List.set_cons_zero, List.set_cons_succ, List.getElem_toArray, List.getElem_cons_succ, List.getElem_cons_zero]
      refine reg_on (i := 17) (v := .bool false) rfl (by kernel_rfl) (by kernel_rfl) (by kernel_rfl) (fun _ _ _ h => h) (by kernel_rfl) hHeld ?yq56 ?_
      case yq56 => (intro w hSw; (try dsimp only at hSw); skip; go_simp; first | done | with_reducible rfl)
      simp only [Act.put, List.setIfInBounds_toArray, List.set_cons_zero, List.set_cons_succ, List.getElem_toArray, List.getElem_cons_succ, List.getElem_cons_zero]
      refine wpAnyH_done (by kernel_rfl) ?_ _
      clear hHeld
      go_wp2_with fail
      refine (two_any _).mono ?_
      rintro e z37 ⟨rfl, hu⟩
      have HS41 := Lib.hid (HS40.out.upd0 hu)
      clear hu
      go_wp2_with fail
      refine (new_nil twoC _).mono ?_
      rintro e z38 ⟨rfl, hu⟩
      have HS42 := Lib.hid (HS41.out.upd0 hu)
      clear hu
      have l0 := TNot.ld_at HDA.out (HS42.out.box 11 rfl).whole
      go_wp2_with fail
      refine (take_nil datN dat_ok _).mono ?_
      rintro e z39 ⟨rfl, hu⟩
      have HS43 := Lib.hid (HS42.out.upd0 hu)
      clear hu
      clear l0
      go_wp2_with fail
      refine (entry_nil 0 _).mono ?_
      rintro e z40 ⟨rfl, hu⟩
      have HS44 := Lib.hid (HS43.out.upd0 hu)
      clear hu
      have HS45 := Lib.hid (HS44.out.alloc #[.int .i64 0, .int .u32 0] ET')
      have l0 := TNot.ld_at HDA.out (HS45.out.box 12 rfl).whole
      go_wp2_with fail
      refine (ready_nil datN _).mono ?_
      rintro e z41 ⟨rfl, hu⟩
      have HS46 := Lib.hid (HS45.out.upd0 hu)
      clear hu
      clear l0
      go_wp2_with fail
      refine (busy_nil 0 _).mono ?_
      rintro e z42 ⟨rfl, hu⟩
      have HS47 := Lib.hid (HS46.out.upd0 hu)
      clear hu
      go_wp2_with fail
      refine (waits_nil _).mono ?_
      rintro e z43 ⟨rfl, hu⟩
      have HS48 := Lib.hid (HS47.out.upd0 hu)
      clear hu
      go_wp2_with fail
      refine (copy_nil _).mono ?_
      rintro e z44 ⟨rfl, hu⟩
      have HS49 := Lib.hid (HS48.out.upd0 hu)
      clear hu
      go_wp2
      go_ret
      have he := HS49.out
      refine ⟨rfl, he.upd, trivial⟩
  · have bs := bsN_run (Nt.Ok.isN dat_ok.isU).1 (z2)
    go_simp
    have hs := (HS20.out.alloc datN.cells NT).head (Φ' := outO (sl (z2).heap.size 1 1) [datN]) (fun F hF => out_one (Nt.Ok.isN dat_ok.isU).1 hF)
    obtain ⟨z45, hy⟩ : ∃ X, (z2).alloc (.cells datN.cells NT) = X := ⟨_, rfl⟩
    obtain ⟨gz45, hz⟩ : ∃ g, (z2).heap.size = g := ⟨_, rfl⟩
    rw [hy, hz] at hs
    have HS21 := Lib.hid hs
    have HS : (fun X => Blk X xa datN.cells NT ∧ Blk X x4 ownN.cells NT ∧ Blk X xc ackN.cells NT) z45 := ⟨HS21.out.box 6 rfl, HS21.out.box 5 rfl, HS21.out.box 4 rfl⟩
    simp only [hy, hz]
    clear hs bs hy hz
    refine hK.out _ _ HS (fun hHeld2 => ?_)
    clear hK hHeld2 hHeld
    have hHeld := HS
    clear HS
    try simp only [Act.put, List.setIfInBounds_toArray, List.set_cons_zero, List.set_cons_succ, List.getElem_toArray, List.getElem_cons_succ, List.getElem_cons_zero]
    refine reg_step (i := 8) (by kernel_rfl) rfl (by kernel_rfl) (fun K hK => ?_)
    go_simp
    refine (up_any 1 0 _).mono ?_
    rintro e z46 ⟨rfl, hu⟩
    have HS22 := Lib.hid (HS21.out.upd0 hu)
    have HS : (fun X => Blk X xa datN.cells NT ∧ Blk X x4 ownN.cells NT ∧ Blk X xc ackN.cells NT) z46 := ⟨HS22.out.box 6 rfl, HS22.out.box 5 rfl, HS22.out.box 4 rfl⟩
    clear hu
    go_wp2_with fail
    refine hK.out _ _ HS (fun hHeld2 => ?_)
    clear hK hHeld2 hHeld
    have hHeld := HS
    clear HS
    try simp only [Act.put, List.setIfInBounds_toArray, List.set_cons_zero, List.set_cons_succ, List.getElem_toArray, List.getElem_cons_succ, List.getElem_cons_zero]
    refine reg_step (i := 11) (by kernel_rfl) rfl (by kernel_rfl) (fun K hK => ?_)
    go_simp
    refine (gives_to (Sep.pick HS22.out 7 rfl) HT.out (upN 1 0) (up_ok 1 0 (by omega)) _ [datN] 0 rfl (fun m hm => by simp at hm; subst hm; exact BU.isU_Z) k1).mono ?_
    rintro e z47 ⟨rfl, hs⟩
    have HS23 := Lib.hid hs
    have HS : (fun X => Blk X xa datN.cells NT ∧ Blk X x4 ownN.cells NT ∧ Blk X xc ackN.cells NT) z47 := ⟨HS23.out.box 7 rfl, HS23.out.box 6 rfl, HS23.out.box 5 rfl⟩
    clear hs
    go_wp2_with fail
    refine hK.out _ _ HS (fun hHeld2 => ?_)
    clear hK hHeld2 hHeld
    have hHeld := HS
    clear HS
    try simp only [Act.put, List.setIfInBounds_toArray, List.set_cons_zero, List.set_cons_succ, List.getElem_toArray, List.getElem_cons_succ, List.getElem_cons_zero]
    refine reg_on (i := 12) (v := .bool false) rfl (by kernel_rfl) (by kernel_rfl) (by kernel_rfl) (fun _ _ _ h => h) (by kernel_rfl) hHeld ?yq57 ?_
    case yq57 => (intro w hSw; (try dsimp only at hSw); skip; go_simp; first | done | with_reducible rfl)
    simp only [Act.put, List.setIfInBounds_toArray, List.set_cons_zero, List.set_cons_succ, List.getElem_toArray, List.getElem_cons_succ, List.getElem_cons_zero]
    refine reg_on (i := 13) (v := .bool false) rfl (by kernel_rfl) (by kernel_rfl) (by kernel_rfl) (fun _ _ _ h => h) (by kernel_rfl) hHeld ?yq58 ?_
    case yq58 => (intro w hSw; (try dsimp only at hSw); skip; go_simp; first | done | with_reducible rfl)
    simp only [Act.put, List.setIfInBounds_toArray, List.set_cons_zero, List.set_cons_succ, List.getElem_toArray, List.getElem_cons_succ, List.getElem_cons_zero]
    refine reg_on (i := 14) (v := .bool false) rfl (by kernel_rfl) (by kernel_rfl) (by kernel_rfl) (fun _ _ _ h => h) (by kernel_rfl) hHeld ?yq59 ?_
    case yq59 => (intro w hSw; (try dsimp only at hSw); skip; go_simp; first | done | with_reducible rfl)
    simp only [Act.put, List.setIfInBounds_toArray, List.set_cons_zero, List.set_cons_succ, List.getElem_toArray, List.getElem_cons_succ, List.getElem_cons_zero]
    refine reg_on (i := 15) (v := ?vq60) rfl (by kernel_rfl) (by kernel_rfl) (by kernel_rfl) (fun _ _ _ h => h) (by kernel_rfl) hHeld ?yq60 ?_
    case yq60 => (intro w hSw; (try dsimp only at hSw); skip; go_simp; first | done | with_reducible rfl)
    simp only [Act.put, List.setIfInBounds_toArray, List.set_cons_zero, List.set_cons_succ, List.getElem_toArray, List.getElem_cons_succ, List.getElem_cons_zero]
    refine reg_step (i := 16) (by kernel_rfl) rfl (by kernel_rfl) (fun K hK => ?_)
    go_simp
    refine (up_any 2 1 _).mono ?_
    rintro e z48 ⟨rfl, hu⟩
    have HS24 := Lib.hid (HS23.out.upd0 hu)
    have HS : (fun X => Blk X xa datN.cells NT ∧ Blk X x4 ownN.cells NT ∧ Blk X xc ackN.cells NT) z48 := ⟨HS24.out.box 7 rfl, HS24.out.box 6 rfl, HS24.out.box 5 rfl⟩
    clear hu
    go_wp2_with fail
    refine hK.out _ _ HS (fun hHeld2 => ?_)
    clear hK hHeld2 hHeld
    have hHeld := HS
    clear HS
    try simp only [Act.put, List.setIfInBounds_toArray, List.set_cons_zero, List.set_cons_succ, List.getElem_toArray, List.getElem_cons_succ, List.getElem_cons_zero]
    refine reg_step (i := 17) (by kernel_rfl) rfl (by kernel_rfl) (fun K hK => ?_)
    go_simp
    refine (gives_none (Sep.pick HS24.out 0 rfl) HT.out (upN 2 1) (up_ok 2 1 (by omega)) k2).mono ?_
    rintro e z49 ⟨rfl, hs⟩
    have HS25 := Lib.hid hs
    have HS : (fun X => Blk X xa datN.cells NT ∧ Blk X x4 ownN.cells NT ∧ Blk X xc ackN.cells NT) z49 := ⟨HS25.out.box 7 rfl, HS25.out.box 6 rfl, HS25.out.box 5 rfl⟩
    clear hs
    go_wp2_with fail
    refine hK.out _ _ HS (fun hHeld2 => ?_)
    clear hK hHeld2 hHeld
    have hHeld := HS
    clear HS
    try simp only [Act.put, List.setIfInBounds_toArray, List.set_cons_zero, List.set_cons_succ, List.getElem_toArray, List.getElem_cons_succ, List.getElem_cons_zero]
    refine reg_on (i := 18) (v := .bool false) rfl (by kernel_rfl) (by kernel_rfl) (by kernel_rfl) (fun _ _ _ h => h) (by kernel_rfl) hHeld ?yq61 ?_
    case yq61 => (intro w hSw; (try dsimp only at hSw); skip; go_simp; first | done | with_reducible rfl)
    simp only [Act.put, List.setIfInBounds_toArray, List.set_cons_zero, List.set_cons_succ, List.getElem_toArray, List.getElem_cons_succ, List.getElem_cons_zero]
    refine reg_on (i := 19) (v := .bool false) rfl (by kernel_rfl) (by kernel_rfl) (by kernel_rfl) (fun _ _ _ h => h) (by kernel_rfl) hHeld ?yq62 ?_
    case yq62 => (intro w hSw; (try dsimp only at hSw); skip; go_simp; first | done | with_reducible rfl)
    simp only [Act.put, List.setIfInBounds_toArray, List.set_cons_zero, List.set_cons_succ, List.getElem_toArray, List.getElem_cons_succ, List.getElem_cons_zero]
    refine reg_on (i := 20) (v := .bool false) rfl (by kernel_rfl) (by kernel_rfl) (by kernel_rfl) (fun _ _ _ h => h) (by kernel_rfl) hHeld ?yq63 ?_
    case yq63 => (intro w hSw; (try dsimp only at hSw); skip; go_simp; first | done | with_reducible rfl)
    simp only [Act.put, List.setIfInBounds_toArray, List.set_cons_zero, List.set_cons_succ, List.getElem_toArray, List.getElem_cons_succ, List.getElem_cons_zero]
    refine reg_on (i := 21) (v := ?vq64) rfl (by kernel_rfl) (by kernel_rfl) (by kernel_rfl) (fun _ _ _ h => h) (by kernel_rfl) hHeld ?yq64 ?_
    case yq64 => (intro w hSw; (try dsimp only at hSw); skip; go_simp; first | done | with_reducible rfl)
    simp only [Act.put, List.setIfInBounds_toArray, List.set_cons_zero, List.set_cons_succ, List.getElem_toArray, List.getElem_cons_succ, List.getElem_cons_zero]
    refine reg_step (i := 22) (by kernel_rfl) rfl (by kernel_rfl) (fun K hK => ?_)
    go_simp
    refine (up_any 11 0 _).mono ?_
    rintro e z50 ⟨rfl, hu⟩
    have HS26 := Lib.hid (HS25.out.upd0 hu)
    have HS : (fun X => Blk X xa datN.cells NT ∧ Blk X x4 ownN.cells NT ∧ Blk X xc ackN.cells NT) z50 := ⟨HS26.out.box 7 rfl, HS26.out.box 6 rfl, HS26.out.box 5 rfl⟩
    clear hu
    go_wp2_with fail
    refine hK.out _ _ HS (fun hHeld2 => ?_)
    clear hK hHeld2 hHeld
    have hHeld := HS
    clear HS
    try simp only [Act.put, List.setIfInBounds_toArray, List.set_cons_zero, List.set_cons_succ, List.getElem_toArray, List.getElem_cons_succ, List.getElem_cons_zero]
    refine reg_step (i := 23) (by kernel_rfl) rfl (by kernel_rfl) (fun K hK => ?_)
    go_simp
    refine (dn_any 5 0 _).mono ?_
    rintro e z51 ⟨rfl, hu⟩
    have HS27 := Lib.hid (HS26.out.upd0 hu)
    have HS : (fun X => Blk X xa datN.cells NT ∧ Blk X x4 ownN.cells NT ∧ Blk X xc ackN.cells NT) z51 := ⟨HS27.out.box 7 rfl, HS27.out.box 6 rfl, HS27.out.box 5 rfl⟩
    clear hu
    go_wp2_with fail
    refine hK.out _ _ HS (fun hHeld2 => ?_)
    clear hK hHeld2 hHeld
    have hHeld := HS
    clear HS
    try simp only [Act.put, List.setIfInBounds_toArray, List.set_cons_zero, List.set_cons_succ, List.getElem_toArray, List.getElem_cons_succ, List.getElem_cons_zero]
    refine reg_step (i := 24) (by kernel_rfl) rfl (by kernel_rfl) (fun K hK => ?_)
    have bs := bsN_run (Nt.Ok.isN (dn_ok 5 0 (by omega)).isU).1 (z51)
    go_simp
    have hs := (HS27.out.alloc (dnN 5 0).cells NT).head (Φ' := outO (sl (z51).heap.size 1 1) [(dnN 5 0)]) (fun F hF => out_one (Nt.Ok.isN (dn_ok 5 0 (by omega)).isU).1 hF)
    obtain ⟨z52, hy⟩ : ∃ X, (z51).alloc (.cells (dnN 5 0).cells NT) = X := ⟨_, rfl⟩
    obtain ⟨gz52, hz⟩ : ∃ g, (z51).heap.size = g := ⟨_, rfl⟩
    rw [hy, hz] at hs
    have HS28 := Lib.hid hs
    have HS : (fun X => Blk X xa datN.cells NT ∧ Blk X x4 ownN.cells NT ∧ Blk X xc ackN.cells NT) z52 := ⟨HS28.out.box 8 rfl, HS28.out.box 7 rfl, HS28.out.box 6 rfl⟩
    simp only [hy, hz]
    clear hs bs hy hz
    refine hK.out _ _ HS (fun hHeld2 => ?_)
    clear hK hHeld2 hHeld
    have hHeld := HS
    clear HS
    try simp only [Act.put, List.setIfInBounds_toArray, List.set_cons_zero, List.set_cons_succ, List.getElem_toArray, List.getElem_cons_succ, List.getElem_cons_zero]
    refine reg_step (i := 25) (by kernel_rfl) rfl (by kernel_rfl) (fun K hK => ?_)
    go_simp
    refine (gives_to (Sep.pick HS28.out 1 rfl) HT.out (upN 11 0) (up_ok 11 0 (by omega)) _ [dnN 5 0] 0 rfl (fun m hm => by simp at hm; subst hm; exact BU.isU_Z) k3).mono ?_
    rintro e z53 ⟨rfl, hs⟩
    have HS29 := Lib.hid hs
    have HS : (fun X => Blk X xa datN.cells NT ∧ Blk X x4 ownN.cells NT ∧ Blk X xc ackN.cells NT) z53 := ⟨HS29.out.box 8 rfl, HS29.out.box 7 rfl, HS29.out.box 6 rfl⟩
    clear hs
    go_wp2_with fail
    refine hK.out _ _ HS (fun hHeld2 => ?_)
    clear hK hHeld2 hHeld
    have hHeld := HS
    clear HS
    try simp only [Act.put, List.setIfInBounds_toArray, List.set_cons_zero, List.set_cons_succ, List.getElem_toArray, List.getElem_cons_succ, List.getElem_cons_zero]
    refine reg_on (i := 26) (v := .bool false) rfl (by kernel_rfl) (by kernel_rfl) (by kernel_rfl) (fun _ _ _ h => h) (by kernel_rfl) hHeld ?yq65 ?_
    case yq65 => (intro w hSw; (try dsimp only at hSw); skip; go_simp; first | done | with_reducible rfl)
    simp only [Act.put, List.setIfInBounds_toArray, List.set_cons_zero, List.set_cons_succ, List.getElem_toArray, List.getElem_cons_succ, List.getElem_cons_zero]
    refine reg_on (i := 27) (v := .bool false) rfl (by kernel_rfl) (by kernel_rfl) (by kernel_rfl) (fun _ _ _ h => h) (by kernel_rfl) hHeld ?yq66 ?_
    case yq66 => (intro w hSw; (try dsimp only at hSw); skip; go_simp; first | done | with_reducible rfl)
    simp only [Act.put, List.setIfInBounds_toArray, List.set_cons_zero, List.set_cons_succ, List.getElem_toArray, List.getElem_cons_succ, List.getElem_cons_zero]
    refine reg_on (i := 28) (v := .bool false) rfl (by kernel_rfl) (by kernel_rfl) (by kernel_rfl) (fun _ _ _ h => h) (by kernel_rfl) hHeld ?yq67 ?_
    case yq67 => (intro w hSw; (try dsimp only at hSw); skip; go_simp; first | done | with_reducible rfl)
    simp only [Act.put, List.setIfInBounds_toArray, List.set_cons_zero, List.set_cons_succ, List.getElem_toArray, List.getElem_cons_succ, List.getElem_cons_zero]
    refine reg_on (i := 29) (v := ?vq68) rfl (by kernel_rfl) (by kernel_rfl) (by kernel_rfl) (fun _ _ _ h => h) (by kernel_rfl) hHeld ?yq68 ?_
    case yq68 => (intro w hSw; (try dsimp only at hSw); skip; go_simp; first | done | with_reducible rfl)
    simp only [Act.put, List.setIfInBounds_toArray, List.set_cons_zero, List.set_cons_succ, List.getElem_toArray, List.getElem_cons_succ, List.getElem_cons_zero]
    refine reg_on (i := 30) (v := ?vq69) rfl (by kernel_rfl) (by kernel_rfl) (by kernel_rfl) (fun _ _ _ h => h) (by kernel_rfl) hHeld ?yq69 ?_
    case yq69 => (intro w hSw; (try dsimp only at hSw); have l0 := TNot.ld_at HAC.out hSw.2.2.whole; go_simp; first | done | with_reducible rfl)
    simp only [Act.put, List.setIfInBounds_toArray, List.set_cons_zero, List.set_cons_succ, List.getElem_toArray, List.getElem_cons_succ, List.getElem_cons_zero]
    refine reg_on (i := 31) (v := ?vq70) rfl (by kernel_rfl) (by kernel_rfl) (by kernel_rfl) (fun _ _ _ h => h) (by kernel_rfl) hHeld ?yq70 ?_
    case yq70 => (intro w hSw; (try dsimp only at hSw); have l0 := TNot.ld_at HOW.out hSw.2.1.whole; go_simp; first | done | with_reducible rfl)
    simp only [Act.put, List.setIfInBounds_toArray, List.set_cons_zero, List.set_cons_succ, List.getElem_toArray, List.getElem_cons_succ, List.getElem_cons_zero]
    refine reg_step (i := 32) (by kernel_rfl) rfl (by kernel_rfl) (fun K hK => ?_)
    have bs := bsN_run (Nt.Ok.isN own_ok.isU).1 (z53)
    go_simp
    have hs := (HS29.out.alloc ownN.cells NT).head (Φ' := outO (sl (z53).heap.size 1 1) [ownN]) (fun F hF => out_one (Nt.Ok.isN own_ok.isU).1 hF)
    obtain ⟨z54, hy⟩ : ∃ X, (z53).alloc (.cells ownN.cells NT) = X := ⟨_, rfl⟩
    obtain ⟨gz54, hz⟩ : ∃ g, (z53).heap.size = g := ⟨_, rfl⟩
    rw [hy, hz] at hs
    have HS30 := Lib.hid hs
    have HS : (fun X => Blk X xa datN.cells NT ∧ Blk X x4 ownN.cells NT ∧ Blk X xc ackN.cells NT) z54 := ⟨HS30.out.box 9 rfl, HS30.out.box 8 rfl, HS30.out.box 7 rfl⟩
    simp only [hy, hz]
    clear hs bs hy hz
    refine hK.out _ _ HS (fun hHeld2 => ?_)
    clear hK hHeld2 hHeld
    have hHeld := HS
    clear HS
    try simp only [Act.put, List.setIfInBounds_toArray, List.set_cons_zero, List.set_cons_succ, List.getElem_toArray, List.getElem_cons_succ, List.getElem_cons_zero]
    refine reg_step (i := 33) (by kernel_rfl) rfl (by kernel_rfl) (fun K hK => ?_)
    go_simp
    refine (gives_to (Sep.pick HS30.out 1 rfl) HT.out ackN ack_ok _ [ownN] 0 rfl (fun m hm => by simp at hm; subst hm; exact isU_77) k4).mono ?_
    rintro e z55 ⟨rfl, hs⟩
    have HS31 := Lib.hid hs
    have HS : (fun X => Blk X xa datN.cells NT ∧ Blk X x4 ownN.cells NT ∧ Blk X xc ackN.cells NT) z55 := ⟨HS31.out.box 9 rfl, HS31.out.box 8 rfl, HS31.out.box 7 rfl⟩
    clear hs
    go_wp2_with fail
    refine hK.out _ _ HS (fun hHeld2 => ?_)
    clear hK hHeld2 hHeld
    have hHeld := HS
    clear HS
    try simp only [Act.put, List.setIfInBounds_toArray, List.set_cons_zero, List.set_cons_succ, List.getElem_toArray, List.getElem_cons_succ, List.getElem_cons_zero]
    refine reg_on (i := 34) (v := .bool false) rfl (by kernel_rfl) (by kernel_rfl) (by kernel_rfl) (fun _ _ _ h => h) (by kernel_rfl) hHeld ?yq71 ?_
    case yq71 => (intro w hSw; (try dsimp only at hSw); skip; go_simp; first | done | with_reducible rfl)
    simp only [Act.put, List.setIfInBounds_toArray, List.set_cons_zero, List.set_cons_succ, List.getElem_toArray, List.getElem_cons_succ, List.getElem_cons_zero]
    refine reg_on (i := 35) (v := .bool false) rfl (by kernel_rfl) (by kernel_rfl) (by kernel_rfl) (fun _ _ _ h => h) (by kernel_rfl) hHeld ?yq72 ?_
    case yq72 => (intro w hSw; (try dsimp only at hSw); skip; go_simp; first | done | with_reducible rfl)
    simp only [Act.put, List.setIfInBounds_toArray, List.set_cons_zero, List.set_cons_succ, List.getElem_toArray, List.getElem_cons_succ, List.getElem_cons_zero]
    refine reg_on (i := 36) (v := .bool false) rfl (by kernel_rfl) (by kernel_rfl) (by kernel_rfl) (fun _ _ _ h => h) (by kernel_rfl) hHeld ?yq73 ?_
    case yq73 => (intro w hSw; (try dsimp only at hSw); skip; go_simp; first | done | with_reducible rfl)
    simp only [Act.put, List.setIfInBounds_toArray, List.set_cons_zero, List.set_cons_succ, List.getElem_toArray, List.getElem_cons_succ, List.getElem_cons_zero]
    refine reg_on (i := 37) (v := ?vq74) rfl (by kernel_rfl) (by kernel_rfl) (by kernel_rfl) (fun _ _ _ h => h) (by kernel_rfl) hHeld ?yq74 ?_
    case yq74 => (intro w hSw; (try dsimp only at hSw); skip; go_simp; first | done | with_reducible rfl)
    simp only [Act.put, List.setIfInBounds_toArray, List.set_cons_zero, List.set_cons_succ, List.getElem_toArray, List.getElem_cons_succ, List.getElem_cons_zero]
    refine reg_step (i := 38) (by kernel_rfl) rfl (by kernel_rfl) (fun K hK => ?_)
    go_simp
    refine (up_any 11 1 _).mono ?_
    rintro e z56 ⟨rfl, hu⟩
    have HS32 := Lib.hid (HS31.out.upd0 hu)
    have HS : (fun X => Blk X xa datN.cells NT ∧ Blk X x4 ownN.cells NT ∧ Blk X xc ackN.cells NT) z56 := ⟨HS32.out.box 9 rfl, HS32.out.box 8 rfl, HS32.out.box 7 rfl⟩
    clear hu
    go_wp2_with fail
    refine hK.out _ _ HS (fun hHeld2 => ?_)
    clear hK hHeld2 hHeld
    have hHeld := HS
    clear HS
    try simp only [Act.put, List.setIfInBounds_toArray, List.set_cons_zero, List.set_cons_succ, List.getElem_toArray, List.getElem_cons_succ, List.getElem_cons_zero]
    refine reg_step (i := 39) (by kernel_rfl) rfl (by kernel_rfl) (fun K hK => ?_)
    go_simp
    refine (gives_none (Sep.pick HS32.out 0 rfl) HT.out (upN 11 1) (up_ok 11 1 (by omega)) k5).mono ?_
    rintro e z57 ⟨rfl, hs⟩
    have HS33 := Lib.hid hs
    have HS : (fun X => Blk X xa datN.cells NT ∧ Blk X x4 ownN.cells NT ∧ Blk X xc ackN.cells NT) z57 := ⟨HS33.out.box 9 rfl, HS33.out.box 8 rfl, HS33.out.box 7 rfl⟩
    clear hs
    go_wp2_with fail
    refine hK.out _ _ HS (fun hHeld2 => ?_)
    clear hK hHeld2 hHeld
    have hHeld := HS
    clear HS
    try simp only [Act.put, List.setIfInBounds_toArray, List.set_cons_zero, List.set_cons_succ, List.getElem_toArray, List.getElem_cons_succ, List.getElem_cons_zero]
    refine reg_on (i := 40) (v := .bool false) rfl (by kernel_rfl) (by kernel_rfl) (by kernel_rfl) (fun _ _ _ h => h) (by kernel_rfl) hHeld ?yq75 ?_
    case yq75 => (intro w hSw; (try dsimp only at hSw); skip; go_simp; first | done | with_reducible rfl)
    simp only [Act.put, List.setIfInBounds_toArray, List.set_cons_zero, List.set_cons_succ, List.getElem_toArray, List.getElem_cons_succ, List.getElem_cons_zero]
    refine reg_on (i := 41) (v := .bool false) rfl (by kernel_rfl) (by kernel_rfl) (by kernel_rfl) (fun _ _ _ h => h) (by kernel_rfl) hHeld ?yq76 ?_
    case yq76 => (intro w hSw; (try dsimp only at hSw); skip; go_simp; first | done | with_reducible rfl)
    simp only [Act.put, List.setIfInBounds_toArray, List.set_cons_zero, List.set_cons_succ, List.getElem_toArray, List.getElem_cons_succ, List.getElem_cons_zero]
    refine wpAnyH_done (by kernel_rfl) ?_ _
    clear hHeld
    go_upto_region 8 with fail
    have HS34 := Lib.hid (HS33.out.upd0 (Upd.drew NoF z57))
    refine wp_region_held_drew (S := (fun X => Blk X x8 (dnN 4 1).cells NT ∧ Blk X x6 refN.cells NT ∧ Blk X x7 nakN.cells NT)) (by kernel_rfl) (⟨HS34.out.box 4 rfl, HS34.out.box 6 rfl, HS34.out.box 5 rfl⟩) (fun hHeld => ?_)
    obtain ⟨z58, hX0⟩ : ∃ X, z57.drew = X := ⟨_, rfl⟩
    rw [hX0] at hHeld HS34 ⊢
    clear hX0
    refine reg_on (i := 0) (v := ?vq77) rfl (by kernel_rfl) (by kernel_rfl) (by kernel_rfl) (fun _ _ _ h => h) (by kernel_rfl) hHeld ?yq77 ?_
    case yq77 => (intro w hSw; (try dsimp only at hSw); skip; go_simp; first | done | with_reducible rfl)
    simp only [Act.put, List.setIfInBounds_toArray, List.set_cons_zero, List.set_cons_succ, List.getElem_toArray, List.getElem_cons_succ, List.getElem_cons_zero]
    refine reg_on (i := 2) (v := ?vq78) rfl (by kernel_rfl) (by kernel_rfl) (by kernel_rfl) (fun _ _ _ h => h) (by kernel_rfl) hHeld ?yq78 ?_
    case yq78 => (intro w hSw; (try dsimp only at hSw); have l0 := TNot.ld_at HAS.out hSw.1.whole; go_simp; first | done | with_reducible rfl)
    simp only [Act.put, List.setIfInBounds_toArray, List.set_cons_zero, List.set_cons_succ, List.getElem_toArray, List.getElem_cons_succ, List.getElem_cons_zero]
    refine reg_two (i := 1) (j := 3) (by kernel_rfl) rfl rfl (by kernel_rfl) (by kernel_rfl) (fun K hK => ?_) (fun K hK => ?_)
    · go_simp
      refine (up_any 1 0 _).mono ?_
      rintro e z59 ⟨rfl, hu⟩
      have HS35 := Lib.hid (HS34.out.upd0 hu)
      have HS : (fun X => Blk X x8 (dnN 4 1).cells NT ∧ Blk X x6 refN.cells NT ∧ Blk X x7 nakN.cells NT) z59 := ⟨HS35.out.box 4 rfl, HS35.out.box 6 rfl, HS35.out.box 5 rfl⟩
      clear hu
      go_wp2_with fail
      refine hK.out _ _ HS (fun hHeld2 => ?_)
      clear hK hHeld2 hHeld
      have hHeld := HS
      clear HS
      try simp only [Act.put, List.setIfInBounds_toArray, List.set_cons_zero, List.set_cons_succ, List.getElem_toArray, List.getElem_cons_succ, List.getElem_cons_zero]
      refine reg_step (i := 3) (by kernel_rfl) rfl (by kernel_rfl) (fun K hK => ?_)
      have bs := bsN_run (Nt.Ok.isN (dn_ok 4 1 (by omega)).isU).1 (z59)
      go_simp
      have hs := (HS35.out.alloc (dnN 4 1).cells NT).head (Φ' := outO (sl (z59).heap.size 1 1) [(dnN 4 1)]) (fun F hF => out_one (Nt.Ok.isN (dn_ok 4 1 (by omega)).isU).1 hF)
      obtain ⟨z60, hy⟩ : ∃ X, (z59).alloc (.cells (dnN 4 1).cells NT) = X := ⟨_, rfl⟩
      obtain ⟨gz60, hz⟩ : ∃ g, (z59).heap.size = g := ⟨_, rfl⟩
      rw [hy, hz] at hs
      have HS36 := Lib.hid hs
      have HS : (fun X => Blk X x8 (dnN 4 1).cells NT ∧ Blk X x6 refN.cells NT ∧ Blk X x7 nakN.cells NT) z60 := ⟨HS36.out.box 5 rfl, HS36.out.box 7 rfl, HS36.out.box 6 rfl⟩
      simp only [hy, hz]
      clear hs bs hy hz
      refine hK.out _ _ HS (fun hHeld2 => ?_)
      clear hK hHeld2 hHeld
      have hHeld := HS
      clear HS
      try simp only [Act.put, List.setIfInBounds_toArray, List.set_cons_zero, List.set_cons_succ, List.getElem_toArray, List.getElem_cons_succ, List.getElem_cons_zero]
      refine reg_step (i := 4) (by kernel_rfl) rfl (by kernel_rfl) (fun K hK => ?_)
      go_simp
      refine (gives_to (Sep.pick HS36.out 1 rfl) HT.out (upN 1 0) (up_ok 1 0 (by omega)) _ [dnN 4 1] 0 rfl (fun m hm => by simp at hm; subst hm; exact BU.isU_Z) k6).mono ?_
      rintro e z61 ⟨rfl, hs⟩
      have HS37 := Lib.hid hs
      have HS : (fun X => Blk X x8 (dnN 4 1).cells NT ∧ Blk X x6 refN.cells NT ∧ Blk X x7 nakN.cells NT) z61 := ⟨HS37.out.box 5 rfl, HS37.out.box 7 rfl, HS37.out.box 6 rfl⟩
      clear hs
      go_wp2_with fail
      refine hK.out _ _ HS (fun hHeld2 => ?_)
      clear hK hHeld2 hHeld
      have hHeld := HS
      clear HS
      try simp only [Act.put, List.setIfInBounds_toArray, List.set_cons_zero, List.set_cons_succ, List.getElem_toArray, List.getElem_cons_succ, List.getElem_cons_zero]
      refine reg_on (i := 5) (v := .bool false) rfl (by kernel_rfl) (by kernel_rfl) (by kernel_rfl) (fun _ _ _ h => h) (by kernel_rfl) hHeld ?yq79 ?_
      case yq79 => (intro w hSw; (try dsimp only at hSw); skip; go_simp; first | done | with_reducible rfl)
      simp only [Act.put, List.setIfInBounds_toArray, List.set_cons_zero, List.set_cons_succ, List.getElem_toArray, List.getElem_cons_succ, List.getElem_cons_zero]
      refine reg_on (i := 6) (v := .bool false) rfl (by kernel_rfl) (by kernel_rfl) (by kernel_rfl) (fun _ _ _ h => h) (by kernel_rfl) hHeld ?yq80 ?_
      case yq80 => (intro w hSw; (try dsimp only at hSw); skip; go_simp; first | done | with_reducible rfl)
      simp only [Act.put, List.setIfInBounds_toArray, List.set_cons_zero, List.set_cons_succ, List.getElem_toArray, List.getElem_cons_succ, List.getElem_cons_zero]
      refine reg_on (i := 7) (v := ?vq81) rfl (by kernel_rfl) (by kernel_rfl) (by kernel_rfl) (fun _ _ _ h => h) (by kernel_rfl) hHeld ?yq81 ?_
      case yq81 => (intro w hSw; (try dsimp only at hSw); skip; go_simp; first | done | with_reducible rfl)
      simp only [Act.put, List.setIfInBounds_toArray, List.set_cons_zero, List.set_cons_succ, List.getElem_toArray, List.getElem_cons_succ, List.getElem_cons_zero]
      refine reg_on (i := 8) (v := ?vq82) rfl (by kernel_rfl) (by kernel_rfl) (by kernel_rfl) (fun _ _ _ h => h) (by kernel_rfl) hHeld ?yq82 ?_
      case yq82 => (intro w hSw; (try dsimp only at hSw); have l0 := TNot.ld_at HRE.out hSw.2.1.whole; go_simp; first | done | with_reducible rfl)
      simp only [Act.put, List.setIfInBounds_toArray, List.set_cons_zero, List.set_cons_succ, List.getElem_toArray, List.getElem_cons_succ, List.getElem_cons_zero]
      refine reg_on (i := 9) (v := ?vq83) rfl (by kernel_rfl) (by kernel_rfl) (by kernel_rfl) (fun _ _ _ h => h) (by kernel_rfl) hHeld ?yq83 ?_
      case yq83 => (intro w hSw; (try dsimp only at hSw); have l0 := TNot.ld_at HNK.out hSw.2.2.whole; go_simp; first | done | with_reducible rfl)
      simp only [Act.put, List.setIfInBounds_toArray, List.set_cons_zero, List.set_cons_succ, List.getElem_toArray, List.getElem_cons_succ, List.getElem_cons_zero]
      refine reg_step (i := 10) (by kernel_rfl) rfl (by kernel_rfl) (fun K hK => ?_)
      have bs := bsN_run (Nt.Ok.isN nak_ok.isU).1 (z61)
      go_simp
      have hs := (HS37.out.alloc nakN.cells NT).head (Φ' := outO (sl (z61).heap.size 1 1) [nakN]) (fun F hF => out_one (Nt.Ok.isN nak_ok.isU).1 hF)
      obtain ⟨z62, hy⟩ : ∃ X, (z61).alloc (.cells nakN.cells NT) = X := ⟨_, rfl⟩
      obtain ⟨gz62, hz⟩ : ∃ g, (z61).heap.size = g := ⟨_, rfl⟩
      rw [hy, hz] at hs
      have HS38 := Lib.hid hs
      have HS : (fun X => Blk X x8 (dnN 4 1).cells NT ∧ Blk X x6 refN.cells NT ∧ Blk X x7 nakN.cells NT) z62 := ⟨HS38.out.box 6 rfl, HS38.out.box 8 rfl, HS38.out.box 7 rfl⟩
      simp only [hy, hz]
      clear hs bs hy hz
      refine hK.out _ _ HS (fun hHeld2 => ?_)
      clear hK hHeld2 hHeld
      have hHeld := HS
      clear HS
      try simp only [Act.put, List.setIfInBounds_toArray, List.set_cons_zero, List.set_cons_succ, List.getElem_toArray, List.getElem_cons_succ, List.getElem_cons_zero]
      refine reg_step (i := 11) (by kernel_rfl) rfl (by kernel_rfl) (fun K hK => ?_)
      go_simp
      refine (gives_to (Sep.pick HS38.out 1 rfl) HT.out refN ref_ok _ [nakN] 0 rfl (fun m hm => by simp at hm; subst hm; exact BU.isU_Z) k7).mono ?_
      rintro e z63 ⟨rfl, hs⟩
      have HS39 := Lib.hid hs
      have HS : (fun X => Blk X x8 (dnN 4 1).cells NT ∧ Blk X x6 refN.cells NT ∧ Blk X x7 nakN.cells NT) z63 := ⟨HS39.out.box 6 rfl, HS39.out.box 8 rfl, HS39.out.box 7 rfl⟩
      clear hs
      go_wp2_with fail
      refine hK.out _ _ HS (fun hHeld2 => ?_)
      clear hK hHeld2 hHeld
      have hHeld := HS
      clear HS
      try simp only [Act.put, List.setIfInBounds_toArray, List.set_cons_zero, List.set_cons_succ, List.getElem_toArray, List.getElem_cons_succ, List.getElem_cons_zero]
      refine reg_on (i := 12) (v := .bool false) rfl (by kernel_rfl) (by kernel_rfl) (by kernel_rfl) (fun _ _ _ h => h) (by kernel_rfl) hHeld ?yq84 ?_
      case yq84 => (intro w hSw; (try dsimp only at hSw); skip; go_simp; first | done | with_reducible rfl)
      simp only [Act.put, List.setIfInBounds_toArray, List.set_cons_zero, List.set_cons_succ, List.getElem_toArray, List.getElem_cons_succ, List.getElem_cons_zero]
      refine reg_on (i := 13) (v := .bool false) rfl (by kernel_rfl) (by kernel_rfl) (by kernel_rfl) (fun _ _ _ h => h) (by kernel_rfl) hHeld ?yq85 ?_
      case yq85 => (intro w hSw; (try dsimp only at hSw); skip; go_simp; first | done | with_reducible rfl)
      simp only [Act.put, List.setIfInBounds_toArray, List.set_cons_zero, List.set_cons_succ, List.getElem_toArray, List.getElem_cons_succ, List.getElem_cons_zero]
      refine reg_on (i := 14) (v := .bool false) rfl (by kernel_rfl) (by kernel_rfl) (by kernel_rfl) (fun _ _ _ h => h) (by kernel_rfl) hHeld ?yq86 ?_
      case yq86 => (intro w hSw; (try dsimp only at hSw); skip; go_simp; first | done | with_reducible rfl)
      simp only [Act.put, List.setIfInBounds_toArray, List.set_cons_zero, List.set_cons_succ, List.getElem_toArray, List.getElem_cons_succ, List.getElem_cons_zero]
      refine reg_on (i := 15) (v := ?vq87) rfl (by kernel_rfl) (by kernel_rfl) (by kernel_rfl) (fun _ _ _ h => h) (by kernel_rfl) hHeld ?yq87 ?_
      case yq87 => (intro w hSw; (try dsimp only at hSw); skip; go_simp; first | done | with_reducible rfl)
      simp only [Act.put, List.setIfInBounds_toArray, List.set_cons_zero, List.set_cons_succ, List.getElem_toArray, List.getElem_cons_succ, List.getElem_cons_zero]
      refine reg_step (i := 16) (by kernel_rfl) rfl (by kernel_rfl) (fun K hK => ?_)
      go_simp
      refine (busy_at HS39.out 0 rfl 5 (by omega) b7).mono ?_
      rintro e z64 ⟨rfl, hu⟩
      have HS40 := Lib.hid (HS39.out.upd0 hu)
      have HS : (fun X => Blk X x8 (dnN 4 1).cells NT ∧ Blk X x6 refN.cells NT ∧ Blk X x7 nakN.cells NT) z64 := ⟨HS40.out.box 6 rfl, HS40.out.box 8 rfl, HS40.out.box 7 rfl⟩
      clear hu
      go_wp2_with fail
      refine hK.out _ _ HS (fun hHeld2 => ?_)
      clear hK hHeld2 hHeld
      have hHeld := HS
      clear HS
      try simp only [Act.put, List.setIfInBounds_toArray, List.set_cons_zero, List.set_cons_succ, List.getElem_toArray, List.getElem_cons_succ, List.getElem_cons_zero]
      refine reg_on (i := 17) (v := .bool false) rfl (by kernel_rfl) (by kernel_rfl) (by kernel_rfl) (fun _ _ _ h => h) (by kernel_rfl) hHeld ?yq88 ?_
      case yq88 => (intro w hSw; (try dsimp only at hSw); skip; go_simp; first | done | with_reducible rfl)
      simp only [Act.put, List.setIfInBounds_toArray, List.set_cons_zero, List.set_cons_succ, List.getElem_toArray, List.getElem_cons_succ, List.getElem_cons_zero]
      refine wpAnyH_done (by kernel_rfl) ?_ _
      clear hHeld
      go_wp2_with fail
      refine (two_any _).mono ?_
      rintro e z65 ⟨rfl, hu⟩
      have HS41 := Lib.hid (HS40.out.upd0 hu)
      clear hu
      go_wp2_with fail
      refine (new_nil twoC _).mono ?_
      rintro e z66 ⟨rfl, hu⟩
      have HS42 := Lib.hid (HS41.out.upd0 hu)
      clear hu
      have l0 := TNot.ld_at HDA.out (HS42.out.box 11 rfl).whole
      go_wp2_with fail
      refine (take_nil datN dat_ok _).mono ?_
      rintro e z67 ⟨rfl, hu⟩
      have HS43 := Lib.hid (HS42.out.upd0 hu)
      clear hu
      clear l0
      go_wp2_with fail
      refine (entry_nil 0 _).mono ?_
      rintro e z68 ⟨rfl, hu⟩
      have HS44 := Lib.hid (HS43.out.upd0 hu)
      clear hu
      have HS45 := Lib.hid (HS44.out.alloc #[.int .i64 0, .int .u32 0] ET')
      have l0 := TNot.ld_at HDA.out (HS45.out.box 12 rfl).whole
      go_wp2_with fail
      refine (ready_nil datN _).mono ?_
      rintro e z69 ⟨rfl, hu⟩
      have HS46 := Lib.hid (HS45.out.upd0 hu)
      clear hu
      clear l0
      go_wp2_with fail
      refine (busy_nil 0 _).mono ?_
      rintro e z70 ⟨rfl, hu⟩
      have HS47 := Lib.hid (HS46.out.upd0 hu)
      clear hu
      go_wp2_with fail
      refine (waits_nil _).mono ?_
      rintro e z71 ⟨rfl, hu⟩
      have HS48 := Lib.hid (HS47.out.upd0 hu)
      clear hu
      go_wp2_with fail
      refine (copy_nil _).mono ?_
      rintro e z72 ⟨rfl, hu⟩
      have HS49 := Lib.hid (HS48.out.upd0 hu)
      clear hu
      go_wp2
      go_ret
      have he := HS49.out
      refine ⟨rfl, he.upd, trivial⟩
    · have bs := bsN_run (Nt.Ok.isN (dn_ok 4 1 (by omega)).isU).1 (z58)
      go_simp
      have hs := (HS34.out.alloc (dnN 4 1).cells NT).head (Φ' := outO (sl (z58).heap.size 1 1) [(dnN 4 1)]) (fun F hF => out_one (Nt.Ok.isN (dn_ok 4 1 (by omega)).isU).1 hF)
      obtain ⟨z73, hy⟩ : ∃ X, (z58).alloc (.cells (dnN 4 1).cells NT) = X := ⟨_, rfl⟩
      obtain ⟨gz73, hz⟩ : ∃ g, (z58).heap.size = g := ⟨_, rfl⟩
      rw [hy, hz] at hs
      have HS35 := Lib.hid hs
      have HS : (fun X => Blk X x8 (dnN 4 1).cells NT ∧ Blk X x6 refN.cells NT ∧ Blk X x7 nakN.cells NT) z73 := ⟨HS35.out.box 5 rfl, HS35.out.box 7 rfl, HS35.out.box 6 rfl⟩
      simp only [hy, hz]
      clear hs bs hy hz
      refine hK.out _ _ HS (fun hHeld2 => ?_)
      clear hK hHeld2 hHeld
      have hHeld := HS
      clear HS
      try simp only [Act.put, List.setIfInBounds_toArray, List.set_cons_zero, List.set_cons_succ, List.getElem_toArray, List.getElem_cons_succ, List.getElem_cons_zero]
      refine reg_step (i := 1) (by kernel_rfl) rfl (by kernel_rfl) (fun K hK => ?_)
      go_simp
      refine (up_any 1 0 _).mono ?_
      rintro e z74 ⟨rfl, hu⟩
      have HS36 := Lib.hid (HS35.out.upd0 hu)
      have HS : (fun X => Blk X x8 (dnN 4 1).cells NT ∧ Blk X x6 refN.cells NT ∧ Blk X x7 nakN.cells NT) z74 := ⟨HS36.out.box 5 rfl, HS36.out.box 7 rfl, HS36.out.box 6 rfl⟩
      clear hu
      go_wp2_with fail
      refine hK.out _ _ HS (fun hHeld2 => ?_)
      clear hK hHeld2 hHeld
      have hHeld := HS
      clear HS
      try simp only [Act.put, List.setIfInBounds_toArray, List.set_cons_zero, List.set_cons_succ, List.getElem_toArray, List.getElem_cons_succ, List.getElem_cons_zero]
      refine reg_step (i := 4) (by kernel_rfl) rfl (by kernel_rfl) (fun K hK => ?_)
      go_simp
      refine (gives_to (Sep.pick HS36.out 1 rfl) HT.out (upN 1 0) (up_ok 1 0 (by omega)) _ [dnN 4 1] 0 rfl (fun m hm => by simp at hm; subst hm; exact BU.isU_Z) k6).mono ?_
      rintro e z75 ⟨rfl, hs⟩
      have HS37 := Lib.hid hs
      have HS : (fun X => Blk X x8 (dnN 4 1).cells NT ∧ Blk X x6 refN.cells NT ∧ Blk X x7 nakN.cells NT) z75 := ⟨HS37.out.box 5 rfl, HS37.out.box 7 rfl, HS37.out.box 6 rfl⟩
      clear hs
      go_wp2_with fail
      refine hK.out _ _ HS (fun hHeld2 => ?_)
      clear hK hHeld2 hHeld
      have hHeld := HS
      clear HS
      try simp only [Act.put, List.setIfInBounds_toArray, List.set_cons_zero, List.set_cons_succ, List.getElem_toArray, List.getElem_cons_succ, List.getElem_cons_zero]
      refine reg_on (i := 5) (v := .bool false) rfl (by kernel_rfl) (by kernel_rfl) (by kernel_rfl) (fun _ _ _ h => h) (by kernel_rfl) hHeld ?yq89 ?_
      case yq89 => (intro w hSw; (try dsimp only at hSw); skip; go_simp; first | done | with_reducible rfl)
      simp only [Act.put, List.setIfInBounds_toArray, List.set_cons_zero, List.set_cons_succ, List.getElem_toArray, List.getElem_cons_succ, List.getElem_cons_zero]
      refine reg_on (i := 6) (v := .bool false) rfl (by kernel_rfl) (by kernel_rfl) (by kernel_rfl) (fun _ _ _ h => h) (by kernel_rfl) hHeld ?yq90 ?_
      case yq90 => (intro w hSw; (try dsimp only at hSw); skip; go_simp; first | done | with_reducible rfl)
      simp only [Act.put, List.setIfInBounds_toArray, List.set_cons_zero, List.set_cons_succ, List.getElem_toArray, List.getElem_cons_succ, List.getElem_cons_zero]
      refine reg_on (i := 7) (v := ?vq91) rfl (by kernel_rfl) (by kernel_rfl) (by kernel_rfl) (fun _ _ _ h => h) (by kernel_rfl) hHeld ?yq91 ?_
      case yq91 => (intro w hSw; (try dsimp only at hSw); skip; go_simp; first | done | with_reducible rfl)
      simp only [Act.put, List.setIfInBounds_toArray, List.set_cons_zero, List.set_cons_succ, List.getElem_toArray, List.getElem_cons_succ, List.getElem_cons_zero]
      refine reg_on (i := 8) (v := ?vq92) rfl (by kernel_rfl) (by kernel_rfl) (by kernel_rfl) (fun _ _ _ h => h) (by kernel_rfl) hHeld ?yq92 ?_
      case yq92 => (intro w hSw; (try dsimp only at hSw); have l0 := TNot.ld_at HRE.out hSw.2.1.whole; go_simp; first | done | with_reducible rfl)
      simp only [Act.put, List.setIfInBounds_toArray, List.set_cons_zero, List.set_cons_succ, List.getElem_toArray, List.getElem_cons_succ, List.getElem_cons_zero]
      refine reg_on (i := 9) (v := ?vq93) rfl (by kernel_rfl) (by kernel_rfl) (by kernel_rfl) (fun _ _ _ h => h) (by kernel_rfl) hHeld ?yq93 ?_
      case yq93 => (intro w hSw; (try dsimp only at hSw); have l0 := TNot.ld_at HNK.out hSw.2.2.whole; go_simp; first | done | with_reducible rfl)
      simp only [Act.put, List.setIfInBounds_toArray, List.set_cons_zero, List.set_cons_succ, List.getElem_toArray, List.getElem_cons_succ, List.getElem_cons_zero]
      refine reg_step (i := 10) (by kernel_rfl) rfl (by kernel_rfl) (fun K hK => ?_)
      have bs := bsN_run (Nt.Ok.isN nak_ok.isU).1 (z75)
      go_simp
      have hs := (HS37.out.alloc nakN.cells NT).head (Φ' := outO (sl (z75).heap.size 1 1) [nakN]) (fun F hF => out_one (Nt.Ok.isN nak_ok.isU).1 hF)
      obtain ⟨z76, hy⟩ : ∃ X, (z75).alloc (.cells nakN.cells NT) = X := ⟨_, rfl⟩
      obtain ⟨gz76, hz⟩ : ∃ g, (z75).heap.size = g := ⟨_, rfl⟩
      rw [hy, hz] at hs
      have HS38 := Lib.hid hs
      have HS : (fun X => Blk X x8 (dnN 4 1).cells NT ∧ Blk X x6 refN.cells NT ∧ Blk X x7 nakN.cells NT) z76 := ⟨HS38.out.box 6 rfl, HS38.out.box 8 rfl, HS38.out.box 7 rfl⟩
      simp only [hy, hz]
      clear hs bs hy hz
      refine hK.out _ _ HS (fun hHeld2 => ?_)
      clear hK hHeld2 hHeld
      have hHeld := HS
      clear HS
      try simp only [Act.put, List.setIfInBounds_toArray, List.set_cons_zero, List.set_cons_succ, List.getElem_toArray, List.getElem_cons_succ, List.getElem_cons_zero]
      refine reg_step (i := 11) (by kernel_rfl) rfl (by kernel_rfl) (fun K hK => ?_)
      go_simp
      refine (gives_to (Sep.pick HS38.out 1 rfl) HT.out refN ref_ok _ [nakN] 0 rfl (fun m hm => by simp at hm; subst hm; exact BU.isU_Z) k7).mono ?_
      rintro e z77 ⟨rfl, hs⟩
      have HS39 := Lib.hid hs
      have HS : (fun X => Blk X x8 (dnN 4 1).cells NT ∧ Blk X x6 refN.cells NT ∧ Blk X x7 nakN.cells NT) z77 := ⟨HS39.out.box 6 rfl, HS39.out.box 8 rfl, HS39.out.box 7 rfl⟩
      clear hs
      go_wp2_with fail
      refine hK.out _ _ HS (fun hHeld2 => ?_)
      clear hK hHeld2 hHeld
      have hHeld := HS
      clear HS
      try simp only [Act.put, List.setIfInBounds_toArray, List.set_cons_zero, List.set_cons_succ, List.getElem_toArray, List.getElem_cons_succ, List.getElem_cons_zero]
      refine reg_on (i := 12) (v := .bool false) rfl (by kernel_rfl) (by kernel_rfl) (by kernel_rfl) (fun _ _ _ h => h) (by kernel_rfl) hHeld ?yq94 ?_
      case yq94 => (intro w hSw; (try dsimp only at hSw); skip; go_simp; first | done | with_reducible rfl)
      simp only [Act.put, List.setIfInBounds_toArray, List.set_cons_zero, List.set_cons_succ, List.getElem_toArray, List.getElem_cons_succ, List.getElem_cons_zero]
      refine reg_on (i := 13) (v := .bool false) rfl (by kernel_rfl) (by kernel_rfl) (by kernel_rfl) (fun _ _ _ h => h) (by kernel_rfl) hHeld ?yq95 ?_
      case yq95 => (intro w hSw; (try dsimp only at hSw); skip; go_simp; first | done | with_reducible rfl)
      simp only [Act.put, List.setIfInBounds_toArray, List.set_cons_zero, List.set_cons_succ, List.getElem_toArray, List.getElem_cons_succ, List.getElem_cons_zero]
      refine reg_on (i := 14) (v := .bool false) rfl (by kernel_rfl) (by kernel_rfl) (by kernel_rfl) (fun _ _ _ h => h) (by kernel_rfl) hHeld ?yq96 ?_
      case yq96 => (intro w hSw; (try dsimp only at hSw); skip; go_simp; first | done | with_reducible rfl)
      simp only [Act.put, List.setIfInBounds_toArray, List.set_cons_zero, List.set_cons_succ, List.getElem_toArray, List.getElem_cons_succ, List.getElem_cons_zero]
      refine reg_on (i := 15) (v := ?vq97) rfl (by kernel_rfl) (by kernel_rfl) (by kernel_rfl) (fun _ _ _ h => h) (by kernel_rfl) hHeld ?yq97 ?_
      case yq97 => (intro w hSw; (try dsimp only at hSw); skip; go_simp; first | done | with_reducible rfl)
      simp only [Act.put, List.setIfInBounds_toArray, List.set_cons_zero, List.set_cons_succ, List.getElem_toArray, List.getElem_cons_succ, List.getElem_cons_zero]
      refine reg_step (i := 16) (by kernel_rfl) rfl (by kernel_rfl) (fun K hK => ?_)
      go_simp
      refine (busy_at HS39.out 0 rfl 5 (by omega) b7).mono ?_
      rintro e z78 ⟨rfl, hu⟩
      have HS40 := Lib.hid (HS39.out.upd0 hu)
      have HS : (fun X => Blk X x8 (dnN 4 1).cells NT ∧ Blk X x6 refN.cells NT ∧ Blk X x7 nakN.cells NT) z78 := ⟨HS40.out.box 6 rfl, HS40.out.box 8 rfl, HS40.out.box 7 rfl⟩
      clear hu
      go_wp2_with fail
      refine hK.out _ _ HS (fun hHeld2 => ?_)
      clear hK hHeld2 hHeld
      have hHeld := HS
      clear HS
      try simp only [Act.put, List.setIfInBounds_toArray, List.set_cons_zero, List.set_cons_succ, List.getElem_toArray, List.getElem_cons_succ, List.getElem_cons_zero]
      refine reg_on (i := 17) (v := .bool false) rfl (by kernel_rfl) (by kernel_rfl) (by kernel_rfl) (fun _ _ _ h => h) (by kernel_rfl) hHeld ?yq98 ?_
      case yq98 => (intro w hSw; (try dsimp only at hSw); skip; go_simp; first | done | with_reducible rfl)
      simp only [Act.put, List.setIfInBounds_toArray, List.set_cons_zero, List.set_cons_succ, List.getElem_toArray, List.getElem_cons_succ, List.getElem_cons_zero]
      refine wpAnyH_done (by kernel_rfl) ?_ _
      clear hHeld
      go_wp2_with fail
      refine (two_any _).mono ?_
      rintro e z79 ⟨rfl, hu⟩
      have HS41 := Lib.hid (HS40.out.upd0 hu)
      clear hu
      go_wp2_with fail
      refine (new_nil twoC _).mono ?_
      rintro e z80 ⟨rfl, hu⟩
      have HS42 := Lib.hid (HS41.out.upd0 hu)
      clear hu
      have l0 := TNot.ld_at HDA.out (HS42.out.box 11 rfl).whole
      go_wp2_with fail
      refine (take_nil datN dat_ok _).mono ?_
      rintro e z81 ⟨rfl, hu⟩
      have HS43 := Lib.hid (HS42.out.upd0 hu)
      clear hu
      clear l0
      go_wp2_with fail
      refine (entry_nil 0 _).mono ?_
      rintro e z82 ⟨rfl, hu⟩
      have HS44 := Lib.hid (HS43.out.upd0 hu)
      clear hu
      have HS45 := Lib.hid (HS44.out.alloc #[.int .i64 0, .int .u32 0] ET')
      have l0 := TNot.ld_at HDA.out (HS45.out.box 12 rfl).whole
      go_wp2_with fail
      refine (ready_nil datN _).mono ?_
      rintro e z83 ⟨rfl, hu⟩
      have HS46 := Lib.hid (HS45.out.upd0 hu)
      clear hu
      clear l0
      go_wp2_with fail
      refine (busy_nil 0 _).mono ?_
      rintro e z84 ⟨rfl, hu⟩
      have HS47 := Lib.hid (HS46.out.upd0 hu)
      clear hu
      go_wp2_with fail
      refine (waits_nil _).mono ?_
      rintro e z85 ⟨rfl, hu⟩
      have HS48 := Lib.hid (HS47.out.upd0 hu)
      clear hu
      go_wp2_with fail
      refine (copy_nil _).mono ?_
      rintro e z86 ⟨rfl, hu⟩
      have HS49 := Lib.hid (HS48.out.upd0 hu)
      clear hu
      go_wp2
      go_ret
      have he := HS49.out
      refine ⟨rfl, he.upd, trivial⟩
theorem known_law (w : World) (lt : Tab w) : Calls Tryd.prog 7 #[] w fun e w' => e = .returned (.bool true) ∧ Below w.heap.size w w' :=
  (known_is (Sep.zero NoF w) lt).mono (fun _ _ ⟨he, hs⟩ => ⟨he, hs.below⟩)
end
end Go.Proofs.YtlhbnndnkcpomaaDoor.HO
