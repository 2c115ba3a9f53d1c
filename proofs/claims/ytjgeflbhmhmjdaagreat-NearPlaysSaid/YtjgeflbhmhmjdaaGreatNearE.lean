/- A core's side: what the other packages do, beside the rest of it. -/
import Derived.Test.YtjgeflbhmhmjdaaGreatNearD
set_option linter.unusedSimpArgs false
set_option linter.unusedVariables false
namespace Go.Proofs.YtjgeflbhmhmjdaaGreat.NR
open Go.RowKit
open BU (IsU words)
open PL (Cfg CC CV May)
open KA (Kp CIs OkA LT UT KT)
open DL (DS CD stampE)
def AllU (zs : List BK.Bk) : Prop := ∀ z ∈ zs, IsU z.D
theorem allU_drop {zs : List BK.Bk} (h : AllU zs) (b : Int) : AllU (BK.dropS zs b) := fun z hz => by
  unfold BK.dropS at hz
  cases hx : BK.ixB zs b with
  | none => rw [hx] at hz; exact h z hz
  | some i => rw [hx] at hz; exact h z (List.mem_of_mem_eraseIdx hz)
theorem allU_put {data room : Int} {zs : List BK.Bk} (h : AllU zs) (b : Int) {D : Array Value} (hD : IsU D) : AllU (BK.putS data room zs b D) := fun z hz => by
  unfold BK.putS at hz
  split at hz
  · rcases List.mem_append.1 hz with hz | hz
    · exact h z hz
    · simp at hz; subst hz; exact hD
  · exact h z hz
theorem allU_kill {zs : List BK.Bk} (h : AllU zs) (b : Int) : AllU (BK.killS zs b) := fun z hz => by
  unfold BK.killS at hz
  cases hx : BK.findB zs b with
  | none => rw [hx] at hz; exact h z hz
  | some y =>
    rw [hx] at hz
    obtain ⟨i, h1, h2, h3⟩ := BK.find_of hx
    replace hz : z ∈ (if y.live then BK.dropS zs b ++ [⟨b, y.D, false⟩] else zs) := hz
    split at hz
    · rcases List.mem_append.1 hz with hz | hz
      · exact allU_drop h b z hz
      · simp at hz; subst hz; exact h y (List.mem_of_getElem? h2)
    · exact h z hz
def bdL (parts : Array (Nat × Value)) : Sem Value := Instr.build LT parts
theorem bdL_eq (parts : Array (Nat × Value)) : Instr.build LT parts = bdL parts := rfl
set_option maxRecDepth 100000 in
theorem lnPl (w : World) : ((Tryz.prog.fieldsOf LT).mapM fun (f : Field) => do pure (f.offset, ← sizeOf f.type) : Sem (Array (Nat × Nat))).run Tryz.prog w = .ok #[(0, 1), (1, 1), (2, 16)] w := by
  have hf : ((Tryz.prog.fieldsOf LT).toList.map fun f => (f.offset, f.type)) = [(0, 3), (1, 32), (2, 35)] := by kernel_rfl
  have e : Tryz.prog.fieldsOf LT = (Tryz.prog.fieldsOf LT).toList.toArray := by simp
  rw [e]
  generalize (Tryz.prog.fieldsOf LT).toList = l at *
  match l, hf with
  | [f0, f1, f2], hf =>
    simp only [List.map_cons, List.map_nil, List.cons.injEq, Prod.mk.injEq, and_true] at hf
    obtain ⟨⟨a0, b0⟩, ⟨a1, b1⟩, a2, b2⟩ := hf
    simp [a0, a1, a2, b0, b1, b2, Tryz.sizeOf3, Tryz.sizeOf32, Tryz.sizeOf35]
set_option maxRecDepth 100000 in
theorem bd_line {D : Array Value} (hD : D.size = 16) (b st : Int) (w : World) : (bdL #[(0, .int .i64 b), (1, .int .u8 st), (2, .agg D)]).run Tryz.prog w = .ok (.agg (Ln.mk b st D).cells) w := by
  refine build_run (pl := [(0, 1), (1, 1), (2, 16)]) Tryz.underlying50 TLin.infoZ lnPl _ _ ?_ w
  rw [fill_step (off := 0) (size := 1) rfl rfl (by (repeat rw [size_setMany]); decide), fill_step (off := 1) (size := 1) rfl rfl (by (repeat rw [size_setMany]); decide), fill_step (v := .agg D) (off := 2) (size := 16) rfl hD (by (repeat rw [size_setMany]); decide), fill_nil]
  have e1 : setMany (setMany TLin.Z 0 (Value.int .i64 b).cells.toList) 1 (Value.int .u8 st).cells.toList = #[.int .i64 b, .int .u8 st] ++ TBlk.Z := by kernel_rfl
  rw [e1]
  exact congrArg some (setMany_tail (A := #[.int .i64 b, .int .u8 st]) (B := TBlk.Z) rfl hD)
section
variable {w0 W W' : World} {a : Ad} {S : Ns} {L : List Obj}
theorem Ns.Ok.room {p : Kp} (h : S.Ok p) : S.c.backs ≤ 65536 := by have := h.dataR; omega
theorem Ns.Ok.bk {p : Kp} (h : S.Ok p) {zs : List BK.Bk} (hi : BK.Inv S.data S.c.backs zs) (hu : AllU zs) : Ns.Ok { S with zs := zs } p := ⟨h.fits, h.okA, hi, hu, h.dep, h.ca, h.st, h.q⟩
theorem bput_is (h : NIs w0 W a S L) (b : Int) (D : Array Value) (hD : IsU D) : Calls Tryz.prog 47 #[ptr a.bb, .int .i64 b, .agg D] W fun e W' =>
    e = .returned (.int .i64 (BK.putE S.data S.c.backs S.zs b)) ∧ NIs w0 W' a { S with zs := BK.putS S.data S.c.backs S.zs b D } L :=
  (BK.s_put h.sep 4 rfl h.ok.inv h.ok.room b D (isU_N hD)).mono fun e W' ⟨he, hs⟩ => ⟨he, hs, h.ok.bk (h.ok.inv.put b (isU_N hD)) (allU_put h.ok.allU b hD)⟩
theorem bdrop_is (h : NIs w0 W a S L) (b : Int) : Calls Tryz.prog 103 #[ptr a.bb, .int .i64 b] W fun e W' =>
    e = .returned (.bool (BK.dropB S.zs b)) ∧ NIs w0 W' a { S with zs := BK.dropS S.zs b } L :=
  (BK.s_drop h.sep 4 rfl h.ok.inv h.ok.room b).mono fun e W' ⟨he, hs⟩ => ⟨he, hs, h.ok.bk (h.ok.inv.drop b) (allU_drop h.ok.allU b)⟩
theorem bkill_is (h : NIs w0 W a S L) (b : Int) : Calls Tryz.prog 98 #[ptr a.bb, .int .i64 b] W fun e W' =>
    e = .returned (.bool (BK.killB S.zs b)) ∧ NIs w0 W' a { S with zs := BK.killS S.zs b } L :=
  (BK.s_kill h.sep 4 rfl h.ok.inv h.ok.room b).mono fun e W' ⟨he, hs⟩ => ⟨he, hs, h.ok.bk (h.ok.inv.kill b) (allU_kill h.ok.allU b)⟩
theorem broom_is (h : NIs w0 W a S L) : Calls Tryz.prog 46 #[ptr a.bb] W fun e W' => e = .returned (.int .i64 (S.c.backs - S.zs.length)) ∧ Upd NoF W W' := by
  obtain ⟨F, hF⟩ := h.sep.has 4 rfl
  have h1 := h.ok.dataR
  exact BK.room_any W F a.bb S.data S.zs S.c.backs hF (by omega) (by omega) h.ok.inv.few
theorem cput_is (h : NIs w0 W a S L) (x : Ln) (hx : x.Ok) : Calls Tryz.prog 101 #[ptr a.p.kb, .agg x.cells] W fun e W' =>
    e = .returned (.int .i64 (a.p.putE S.A x)) ∧ NIs w0 W' a { S with A := a.p.putA S.A x, M := a.p.putM S.A S.M x } L :=
  (KA.put_is h.cache x hx).mono fun e W' ⟨he, hc, _⟩ => ⟨he, h.ofCache hc⟩
theorem cdrop_is (h : NIs w0 W a S L) (b : Int) : Calls Tryz.prog 50 #[ptr a.p.kb, .int .i64 b] W fun e W' =>
    e = .returned (.bool (a.p.place S.A b).isSome) ∧ NIs w0 W' a { S with A := a.p.drpA S.A b } L :=
  (KA.drop_is h.cache b).mono fun e W' ⟨he, hc, _⟩ => ⟨he, h.ofCache hc⟩
theorem cuse_is (h : NIs w0 W a S L) (b : Int) : Calls Tryz.prog 52 #[ptr a.p.kb, .int .i64 b] W fun e W' =>
    e = .returned (.bool (a.p.place S.A b).isSome) ∧ NIs w0 W' a { S with M := a.p.useM S.A S.M b } L :=
  (KA.kUse_is h.cache b).mono fun e W' ⟨he, hc, _⟩ => ⟨he, h.ofCache hc⟩
theorem cturn_is (h : NIs w0 W a S L) (b s : Int) (hs : 0 ≤ s ∧ s ≤ 255) : Calls Tryz.prog 99 #[ptr a.p.kb, .int .i64 b, .int .u8 s] W fun e W' =>
    e = .returned (.int .i64 (a.p.trnE S.A b s)) ∧ NIs w0 W' a { S with A := a.p.trnA S.A b s } L :=
  (KA.turn_is h.cache b s hs).mono fun e W' ⟨he, hc, _⟩ => ⟨he, h.ofCache hc⟩
theorem cwrite_is (h : NIs w0 W a S L) (b w z : Int) : Calls Tryz.prog 40 #[ptr a.p.kb, .int .i64 b, .int .i64 w, .int .u32 z] W fun e W' =>
    e = .returned (.int .i64 (a.p.wrE S.A b w)) ∧ NIs w0 W' a { S with A := a.p.wrA S.A b w z, M := a.p.wrM S.A S.M b w } L :=
  (KA.write_is h.cache b w z).mono fun e W' ⟨he, hc, _⟩ => ⟨he, h.ofCache hc⟩
theorem mread_is (h : NIs w0 W a S L) (hn : S.n < 65536) (b : Int) (hb : MM.fit b) : Calls Tryz.prog 53 #[ptr a.xk, .int .i64 b] W fun e W' =>
    e = .returned (.int .i64 (MK.putE S.data b)) ∧ NIs w0 W' a { S with n := S.n + 1, f := MK.putF S.data S.f b true false } L :=
  (MK.read_any h.marks hn b hb).mono fun e W' ⟨he, hc⟩ => ⟨he, h.ofMarks hc⟩
theorem mwrite_is (h : NIs w0 W a S L) (hn : S.n < 65536) (b : Int) (hb : MM.fit b) : Calls Tryz.prog 42 #[ptr a.xk, .int .i64 b] W fun e W' =>
    e = .returned (.int .i64 (MK.putE S.data b)) ∧ NIs w0 W' a { S with n := S.n + 1, f := MK.putF S.data S.f b false true } L :=
  (MK.write_any h.marks hn b hb).mono fun e W' ⟨he, hc⟩ => ⟨he, h.ofMarks hc⟩
theorem NIs.ofDeal (h : NIs w0 W a S L) {d : DS} (hb : DL.DAt W' a.db S.c.nest d) (hu : Upd (OnlyAt a.db) W W') (h1 : 0 ≤ d.depth ∧ d.depth ≤ S.c.nest) (h2 : 0 ≤ d.ca ∧ d.ca ≤ 4294967295) (h3 : 0 ≤ d.st ∧ d.st ≤ 18446744073709551615) : NIs w0 W' a { S with d := d } L := by
  obtain ⟨F, hF, hs⟩ := h.sep.step 7 rfl
  refine ⟨hs (boxO a.db (CD S.c.nest d) DT) W' (hu.mono (fun k _ (hk : k = a.db) => hk ▸ hF.2)) ⟨hb, .inl hF.2⟩, ⟨h.ok.fits, h.ok.okA, h.ok.inv, h.ok.allU, h1, h2, h3, h.ok.q⟩⟩
theorem dasked_is (h : NIs w0 W a S L) (m : Bool) (s : Int) : Calls Tryz.prog 96 #[ptr a.db, .bool m, .int .u64 s] W fun e W' =>
    e = .returned (.bool (DL.askedB S.d m)) ∧ NIs w0 W' a { S with d := DL.askedS S.d m s } L :=
  (DL.dasked_any a.db S.c.nest S.d m s W h.deal).mono fun e W' ⟨he, hb, hu⟩ => ⟨he, h.ofDeal hb hu h.ok.dep h.ok.ca h.ok.st⟩
end
end Go.Proofs.YtjgeflbhmhmjdaaGreat.NR
