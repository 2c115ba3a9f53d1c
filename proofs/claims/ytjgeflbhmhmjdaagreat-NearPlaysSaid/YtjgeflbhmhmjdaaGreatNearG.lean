/- A core's side: somebody wants a block. -/
import Derived.Test.YtjgeflbhmhmjdaaGreatNearF
import Derived.Deep.RegionHeld3
set_option linter.unusedSimpArgs false
set_option linter.unusedVariables false
namespace Go.Proofs.YtjgeflbhmhmjdaaGreat.NR
open Go.RowKit
open BU (IsU words)
open PL (Cfg CC CV May)
open KA (Kp CIs OkA LT UT KT)
open DL (DS CD stampE)
attribute [local go_sem] Oper.semAt_some
attribute [local go_sem ↓] TNot.ld_eq TNot.st_eq TNot.al_eq TNot.bx_eq TBlk.ld_eq TBlk.st_eq TBlk.al_eq TBlk.bx_eq TLin.ld_eq TLin.st_eq TLin.al_eq TLin.bx_eq bdN_eq bsN_eq bdL_eq
attribute [local go_sem] TNot.al_run TNot.bx_run TBlk.al_run TBlk.bx_run TLin.al_run TLin.bx_run
theorem set_stamp (n : Nt) (s : Int) : n.cells.setIfInBounds 4 (.int .u64 s) = ({ n with stamp := s } : Nt).cells := by
  unfold Nt.cells
  rw [Array.setIfInBounds_append_left (by simp [Nt.head])]
  rfl
theorem set_kind (n : Nt) (s : Int) : n.cells.setIfInBounds 0 (.int .u8 s) = ({ n with kind := s } : Nt).cells := by
  unfold Nt.cells
  rw [Array.setIfInBounds_append_left (by simp [Nt.head])]
  rfl
theorem set_has (n : Nt) (s : Bool) : n.cells.setIfInBounds 6 (.bool s) = ({ n with has := s } : Nt).cells := by
  unfold Nt.cells
  rw [Array.setIfInBounds_append_left (by simp [Nt.head])]
  rfl
theorem set_stick (n : Nt) (s : Bool) : n.cells.setIfInBounds 7 (.bool s) = ({ n with stick := s } : Nt).cells := by
  unfold Nt.cells
  rw [Array.setIfInBounds_append_left (by simp [Nt.head])]
  rfl
theorem set_data (n : Nt) {D : Array Value} (h : n.D.size = 16) (hD : D.size = 16) : setMany n.cells 8 D.toList = ({ n with D := D } : Nt).cells := by
  unfold Nt.cells
  exact setMany_tail (A := n.head) (B := n.D) rfl (hD.trans h.symm)
def meetsB (S : Ns) (n : Nt) : Bool := MK.meetB n.kind (S.f n.blk)
def askedS1 (S : Ns) (n : Nt) : Ns := { S with d := DL.askedS S.d (meetsB S n) n.stamp }
def refuseN (S : Ns) (n : Nt) : Nt := { noteP S 10 n.blk with stamp := stampE S.d }
section
variable {w0 W W' V : World} {a : Ad} {S : Ns} {L : List Obj}
theorem NIs.setL {g : Nat} {cs : Array Value} {T : TypeId} (h : NIs w0 W a S (boxO g cs T :: L)) (j : Nat) (v : Value) : NIs w0 (W.setCell ⟨g, j, none⟩ v) a S (boxO g (cs.setIfInBounds j v) T :: L) := ⟨h.sep.set 8 rfl j v, h.ok⟩
set_option maxRecDepth 100000 in
set_option maxHeartbeats 2000000 in
theorem asked_no (h : NIs w0 W a S L) (n : Nt) (hn : n.Ok) (hb : MM.fit n.blk) (hno : DL.askedB S.d (meetsB S n) = true) : Calls Tryz.prog 55 #[ptr a.nb, .agg n.cells] W fun e W' =>
    ∃ v, e = .returned (retV v false 0) ∧ NIs w0 W' a (askedS1 S n) (outO v [refuseN S n] :: L) := by
  have hnN := Nt.Ok.isN hn.isU
  have h1 := h.alloc n.cells NT
  obtain ⟨V, hV⟩ : ∃ V, W.alloc (.cells n.cells NT) = V := ⟨_, rfl⟩
  rw [hV] at h1
  have HV := Lib.hid hV; have HN := Lib.hid hn
  have hd := h1.upd0 (Upd.drew NoF V)
  have HF : Hid (∀ (X : World) (S' : Ns), NIs w0 X a S' (boxO W.heap.size n.cells NT :: L) → S'.head a = S.head a → (fun X => X.cell? ⟨a.nb, 11, none⟩ = some (ptr a.xk) ∧ X.cell? ⟨a.nb, 12, none⟩ = some (ptr a.db) ∧ X.cell? ⟨W.heap.size, 0, none⟩ = some (.int .u8 n.kind) ∧ X.cell? ⟨W.heap.size, 3, none⟩ = some (.int .i64 n.blk) ∧ X.cell? ⟨W.heap.size, 4, none⟩ = some (.int .u64 n.stamp)) X) :=
    Lib.hid (fun X S' hx e => ⟨(hx.hd (i := 11) (by decide)).trans (by rw [e]; rfl), (hx.hd (i := 12) (by decide)).trans (by rw [e]; rfl), (hx.lb.cell 0).trans n.get0, (hx.lb.cell 3).trans n.get3, (hx.lb.cell 4).trans n.get4⟩)
  have hS0 : (fun X => X.cell? ⟨a.nb, 11, none⟩ = some (ptr a.xk) ∧ X.cell? ⟨a.nb, 12, none⟩ = some (ptr a.db) ∧ X.cell? ⟨W.heap.size, 0, none⟩ = some (.int .u8 n.kind) ∧ X.cell? ⟨W.heap.size, 3, none⟩ = some (.int .i64 n.blk) ∧ X.cell? ⟨W.heap.size, 4, none⟩ = some (.int .u64 n.stamp)) V.drew := HF.out _ S hd rfl
  have HM := Lib.hid (MK.meets_any hd.marks n.kind n.blk hb)
  have HC := Lib.hid (fun X (hX : Upd NoF V.drew X) => dasked_is (hd.upd0 hX) (meetsB S n) n.stamp)
  have HD := Lib.hid hd
  have em : MK.meetB n.kind (S.f n.blk) = meetsB S n := rfl
  rw [em] at HM
  rw [hno] at HC
  have est : stampE (askedS1 S n).d = stampE S.d := rfl
  have HE := Lib.hid est
  have e1 : ({ S with d := DL.askedS S.d (meetsB S n) n.stamp } : Ns) = askedS1 S n := rfl
  have eh : (askedS1 S n).head a = S.head a := rfl
  have EH := Lib.hid eh
  have ec : (askedS1 S n).core = S.core := rfl
  have EC := Lib.hid ec
  rw [e1] at HC
  clear h h1 hn hnN hV hd em hno est e1 eh ec hb
  generalize askedS1 S n = S1 at *
  generalize meetsB S n = mt at *
  go_enter Tryz.func55, Tryz.ntmps55
  go_upto_region 1 with fail
  rw [HV.out]
  go_region_held3 (fun X => X.cell? ⟨a.nb, 11, none⟩ = some (ptr a.xk) ∧ X.cell? ⟨a.nb, 12, none⟩ = some (ptr a.db) ∧ X.cell? ⟨W.heap.size, 0, none⟩ = some (.int .u8 n.kind) ∧ X.cell? ⟨W.heap.size, 3, none⟩ = some (.int .i64 n.blk) ∧ X.cell? ⟨W.heap.size, 4, none⟩ = some (.int .u64 n.stamp)) (first | assumption | exact hS0) (first | (go_at_call 97; refine HM.out.mono ?_; rintro e wa ⟨rfl, hu⟩; have HUa := Lib.hid hu; have hS' : (fun X => X.cell? ⟨a.nb, 11, none⟩ = some (ptr a.xk) ∧ X.cell? ⟨a.nb, 12, none⟩ = some (ptr a.db) ∧ X.cell? ⟨W.heap.size, 0, none⟩ = some (.int .u8 n.kind) ∧ X.cell? ⟨W.heap.size, 3, none⟩ = some (.int .i64 n.blk) ∧ X.cell? ⟨W.heap.size, 4, none⟩ = some (.int .u64 n.stamp)) wa := HF.out _ S (HD.out.upd0 hu) rfl; clear hu) | (go_at_call 96; refine (HC.out _ HUa.out).mono ?_; rintro e wb ⟨rfl, hN2⟩; have hS' : (fun X => X.cell? ⟨a.nb, 11, none⟩ = some (ptr a.xk) ∧ X.cell? ⟨a.nb, 12, none⟩ = some (ptr a.db) ∧ X.cell? ⟨W.heap.size, 0, none⟩ = some (.int .u8 n.kind) ∧ X.cell? ⟨W.heap.size, 3, none⟩ = some (.int .i64 n.blk) ∧ X.cell? ⟨W.heap.size, 4, none⟩ = some (.int .u64 n.stamp)) wb := HF.out _ _ hN2 EH.out; have HN2 := Lib.hid hN2; clear hN2))
  all_goals
    clear hS' hS0 HM HC HD HF
    have c8 := (HN2.out.hd (i := 8) (by decide)).trans (show (S1.head a)[8]? = some (.int .i64 S.core) by rw [EH.out]; rfl)
    have k3 := (HN2.out.lb.cell 3).trans n.get3
    have HNA := Lib.hid (note_any 10 n.blk S.core a.nb S rfl _ c8)
    clear c8
    go_wp2_with fail
    refine HNA.out.mono ?_
    rintro e w4 ⟨rfl, hu⟩
    have s1 := TNot.st_new (Nt.Ok.isN (noteP_isU S 10 n.blk)) w4
    have hN3 := HN2.out.upd0 hu
    have hN4 := hN3.alloc (noteP S 10 n.blk).cells NT
    clear hu HNA HN2
    have c12 := (hN4.hd (i := 12) (by decide)).trans (show (S1.head a)[12]? = some (ptr a.db) by rw [EH.out]; rfl)
    have HST := DL.stamp_any a.db S1.c.nest S1.d _ hN4.deal
    rw [HE.out] at HST
    have HST' := Lib.hid HST
    have c4 := (hN4.lb.cell 4).trans (noteP S 10 n.blk).get4
    have f4 : _ = false := hN4.lb.frozen 4
    have hN5 := hN3.alloc ((noteP S 10 n.blk).cells.setIfInBounds 4 (.int .u64 (stampE S.d))) NT
    have hrn : IsU (refuseN S n).D := isUZ
    have es : (noteP S 10 n.blk).cells.setIfInBounds 4 (.int .u64 (stampE S.d)) = (refuseN S n).cells := set_stamp _ _
    have hsn : IsN 24 ((noteP S 10 n.blk).cells.setIfInBounds 4 (.int .u64 (stampE S.d))) := by rw [es]; exact Nt.Ok.isN hrn
    have l5 := TNot.ld_at hsn hN5.lb.whole
    have y3 := fun w => bsN_run hsn.1 w
    have HRN := Lib.hid hrn
    have HN5 := Lib.hid hN5
    have ES := Lib.hid es
    clear hN3 hN4 hN5 HST hrn es hsn
    generalize (noteP S 10 n.blk).cells = x at *
    generalize stampE S.d = st at *
    go_wp2_with (go_at_call 25; refine HST'.out.mono ?_; rintro e w6 ⟨rfl, rfl⟩)
    go_ret3
    have hfin := HN5.out.alloc (x.setIfInBounds 4 (.int .u64 st)) NT
    rw [ES.out] at hfin ⊢
    have hfin2 := (hfin.toOut HRN.out).pop2.pop2
    have e9 : (w4.alloc (.cells (refuseN S n).cells NT)).heap.size = w4.heap.size + 1 := by simp
    rw [e9] at hfin2
    exact ⟨sl (w4.heap.size + 1) 1 1, rfl, hfin2⟩
end
end Go.Proofs.YtjgeflbhmhmjdaaGreat.NR
