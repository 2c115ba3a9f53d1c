/- undertowlaw17's does: one call on a near and on the reference. -/
import Derived.Test.YtjgeflbhmhmjdaaGreatNearRJ
import Derived.Test.YtjgeflbhmhmjdaaGreatNearRI
import Derived.Test.YtjgeflbhmhmjdaaGreatRowN
set_option linter.unusedSimpArgs false
set_option linter.unusedVariables false
namespace Go.Proofs.YtjgeflbhmhmjdaaGreat.NR
open Go.RowKit
open BU (IsU words)
open PL (Cfg CC CV May)
open KA (Kp CIs OkA LT UT Like)
open DL (DS CD SV stampE beginE beginS endB openE endS failS overV overS)
abbrev OT : TypeId := 65
attribute [local go_sem] Oper.semAt_some
attribute [local go_sem ↓] TNot.ld_eq TNot.st_eq TNot.al_eq TNot.bx_eq TBlk.ld_eq TBlk.st_eq TBlk.al_eq TBlk.bx_eq TLin.ld_eq TLin.st_eq TLin.al_eq TLin.bx_eq TOpN.ld_eq TOpN.st_eq TOpN.al_eq TOpN.bx_eq TSav.ld_eq TSav.st_eq TSav.al_eq TSav.bx_eq bdS_eq
attribute [local go_sem] TNot.al_run TNot.bx_run TBlk.al_run TBlk.bx_run TLin.al_run TLin.bx_run TOpN.al_run TOpN.bx_run TSav.al_run TSav.bx_run
section
variable {p r : Kp} {S : Ns}
theorem like_all (h : Like p r) : (∀ b wr, askR r S b wr = askR p S b wr) ∧ (∀ n, takeR r S n = takeR p S n) ∧ (∀ b w, loadX r S b w = loadX p S b w) ∧ (∀ b w, loadE r S b w = loadE p S b w) ∧ (∀ b w, loadS r S b w = loadS p S b w) ∧
    (∀ b w, storeX r S b w = storeX p S b w) ∧ (∀ b w, r.wrE S.A b w = p.wrE S.A b w) ∧ (∀ b w z, storeS r S b w z = storeS p S b w z) ∧ (∀ b, lnO r S.A b = lnO p S.A b) ∧ (∀ b, r.fnd S.A b = p.fnd S.A b) ∧ (∀ b, (r.place S.A b).isSome = (p.place S.A b).isSome) := by
  obtain ⟨h1, h2⟩ := h
  cases r; cases p
  dsimp only at h1 h2
  subst h1 h2
  exact ⟨fun _ _ => rfl, fun _ => rfl, fun _ _ => rfl, fun _ _ => rfl, fun _ _ => rfl, fun _ _ => rfl, fun _ _ => rfl, fun _ _ _ => rfl, fun _ => rfl, fun _ => rfl, fun _ => rfl⟩
structure JV (p r : Kp) (S : Ns) : Prop where
  like : Like p r
  nv : NV p S
  qk : S.wa = true → S.q.kind = 1 ∨ S.q.kind = 2
  core : 0 ≤ S.core ∧ S.core < S.c.cores
  ind : ∀ b, ((S.f b).1 || (S.f b).2) = true → 0 ≤ b ∧ b < S.data
  fits : r.Fits S.c
theorem askN_kind (S : Ns) (b : Int) (wr : Bool) : (askN S b wr).kind = 1 ∨ (askN S b wr).kind = 2 := by
  cases wr
  · exact .inl rfl
  · exact .inr rfl
theorem ask_same (p : Kp) (S : Ns) (b : Int) (wr : Bool) : (askR p S b wr).S.f = S.f ∧ (askR p S b wr).S.c = S.c ∧ (askR p S b wr).S.core = S.core ∧ ((askR p S b wr).S.wa = true → (S.wa = true ∧ (askR p S b wr).S.q = S.q) ∨ ((askR p S b wr).S.q.kind = 1 ∨ (askR p S b wr).S.q.kind = 2)) := by
  rcases ask_cases p S b wr with e | ⟨h0, e⟩ | ⟨h0, e⟩ | ⟨h0, e⟩ | ⟨hwa, hb, hbd, _, ⟨_, e⟩ | ⟨hg, _, e⟩ | ⟨hg, _, _, e⟩⟩ <;> rw [e]
  · exact ⟨rfl, rfl, rfl, fun h => .inl ⟨h, rfl⟩⟩
  · exact ⟨rfl, rfl, rfl, fun h => .inl ⟨h, rfl⟩⟩
  · exact ⟨rfl, rfl, rfl, fun h => .inl ⟨h, rfl⟩⟩
  · exact ⟨rfl, rfl, rfl, fun h => .inl ⟨h, rfl⟩⟩
  · exact ⟨rfl, rfl, rfl, fun _ => .inr (askN_kind _ _ _)⟩
  · exact ⟨rfl, rfl, rfl, fun _ => .inr (askN_kind _ _ _)⟩
  · exact ⟨rfl, rfl, rfl, fun _ => .inr (askN_kind _ _ _)⟩
theorem take_same (p : Kp) (S : Ns) (n : Nt) : (takeR p S n).S.f = S.f ∧ (takeR p S n).S.c = S.c ∧ (takeR p S n).S.core = S.core := by
  unfold takeR
  split
  · split
    · unfold dataR dataS
      split
      · split <;> exact ⟨rfl, rfl, rfl⟩
      · exact ⟨rfl, rfl, rfl⟩
    · split
      · unfold nackR nackS
        split <;> exact ⟨rfl, rfl, rfl⟩
      · split
        · exact ⟨rfl, rfl, rfl⟩
        · unfold askedR
          split <;> exact ⟨rfl, rfl, rfl⟩
  · exact ⟨rfl, rfl, rfl⟩
theorem mark_same (S : Ns) (b : Int) (x y : Bool) : (markS S b x y).c = S.c ∧ (markS S b x y).core = S.core ∧ (markS S b x y).q = S.q ∧ (markS S b x y).wa = S.wa := by
  unfold markS
  split <;> exact ⟨rfl, rfl, rfl, rfl⟩
theorem load_c (p : Kp) (S : Ns) (b w : Int) : (loadS p S b w).c = S.c := by
  unfold loadS
  split
  · exact (mark_same { S with M := p.useM S.A S.M b } b true false).1
  · rfl
theorem store_c (p : Kp) (S : Ns) (b w z : Int) : (storeS p S b w z).c = S.c := by
  unfold storeS
  split
  · exact (mark_same (wroteS p S b w z) b false true).1
  · rfl
theorem mark_ind {S : Ns} (h : ∀ b, ((S.f b).1 || (S.f b).2) = true → 0 ≤ b ∧ b < S.data) (x : Int) (u v : Bool) : ∀ b, (((markS S x u v).f b).1 || ((markS S x u v).f b).2) = true → 0 ≤ b ∧ b < (markS S x u v).data := by
  unfold markS
  split
  · intro b hb
    replace hb : ((MK.putF S.data S.f x u v b).1 || (MK.putF S.data S.f x u v b).2) = true := hb
    rw [putF_1, putF_2] at hb
    by_cases e : MK.mayB S.data x = true ∧ b = x
    · obtain ⟨e1, rfl⟩ := e
      unfold MK.mayB at e1
      have : 0 ≤ b ∧ b < S.data := by simpa using e1
      exact this
    · rw [if_neg e, if_neg e] at hb
      exact h b hb
  · exact h
theorem JV.ask (h : JV p r S) (ho : S.Ok p) (b : Int) (wr : Bool) : JV p r (askR p S b wr).S := by
  obtain ⟨e1, e2, e3, e4⟩ := ask_same p S b wr
  refine ⟨h.like, h.nv.ask ho b wr, fun hw => ?_, by rw [e2, e3]; exact h.core, fun x hx => ?_, by rw [e2]; exact h.fits⟩
  · rcases e4 hw with ⟨k1, k2⟩ | k
    · rw [k2]; exact h.qk k1
    · exact k
  · rw [e1] at hx
    have := h.ind x hx
    unfold Ns.data at this ⊢
    rw [e2]; exact this
theorem JV.take (h : JV p r S) (ho : S.Ok p) (n : Nt) : JV p r (takeR p S n).S := by
  obtain ⟨e1, e2, e3⟩ := take_same p S n
  refine ⟨h.like, h.nv.take ho n, fun hw => ?_, by rw [e2, e3]; exact h.core, fun x hx => ?_, by rw [e2]; exact h.fits⟩
  · rcases take_wa p S n with ⟨k1, k2⟩ | ⟨_, k2, _⟩
    · rw [k2]; exact h.qk (by rw [← k1]; exact hw)
    · rw [k2] at hw; cases hw
  · rw [e1] at hx
    have := h.ind x hx
    unfold Ns.data at this ⊢
    rw [e2]; exact this
theorem JV.load (h : JV p r S) (b w : Int) : JV p r (loadS p S b w) := by
  refine ⟨h.like, h.nv.load b w, ?_, ?_, ?_, by rw [load_c]; exact h.fits⟩
  all_goals
    unfold loadS
    split
  · obtain ⟨k1, k2, k3, k4⟩ := mark_same { S with M := p.useM S.A S.M b } b true false
    rw [k3, k4]; exact h.qk
  · exact h.qk
  · obtain ⟨k1, k2, k3, k4⟩ := mark_same { S with M := p.useM S.A S.M b } b true false
    rw [k1, k2]; exact h.core
  · exact h.core
  · exact mark_ind (S := { S with M := p.useM S.A S.M b }) h.ind b true false
  · exact h.ind
theorem JV.store (h : JV p r S) (ho : S.Ok p) (b w z : Int) : JV p r (storeS p S b w z) := by
  refine ⟨h.like, h.nv.store ho b w z, ?_, ?_, ?_, by rw [store_c]; exact h.fits⟩
  all_goals
    unfold storeS
    split
  · obtain ⟨k1, k2, k3, k4⟩ := mark_same (wroteS p S b w z) b false true
    rw [k3, k4]; exact h.qk
  · exact h.qk
  · obtain ⟨k1, k2, k3, k4⟩ := mark_same (wroteS p S b w z) b false true
    rw [k1, k2]; exact h.core
  · exact h.core
  · exact mark_ind (S := wroteS p S b w z) h.ind b false true
  · exact h.ind
theorem JV.clear (h : JV p r S) : JV p r { S with n := 0, f := MK.none2 } := ⟨h.like, h.nv.clear, h.qk, h.core, fun b hb => (by cases hb), h.fits⟩
theorem JV.deal (h : JV p r S) {d : DS} (hn : NV p { S with d := d }) : JV p r { S with d := d } := ⟨h.like, hn, h.qk, h.core, h.ind, h.fits⟩
theorem over_form (d : DS) : ∃ m ca er, overV d = .tuple #[SV m, .int .u32 ca, .int .i64 er] := by
  unfold overV
  split
  · exact ⟨_, _, _, rfl⟩
  · exact ⟨_, _, _, rfl⟩
theorem ask_isU (h : JV p r S) (ho : S.Ok p) (b : Int) (wr : Bool) : ∀ m ∈ (askR p S b wr).out, IsU m.D := fun m hm => ((ask_keeps h.nv ho b wr).all m hm).isU
end
section
variable {w0 W W' V : World} {a : Ad} {r : Rd} {S R : Ns} {L : List Obj}
structure Js (w0 W : World) (a : Ad) (r : Rd) (S : Ns) (L : List Obj) : Prop where
  n : NIs w0 W a S (r.objs S L)
  v : JV a.p r.p S
theorem rok (hv : JV a.p r.p S) (ho : S.Ok a.p) : ROk r.p S := by
  have hl := (KA.Like.all hv.like).2.2.2.2.2.2.2.2.2.2.2.2.2.2
  exact ⟨⟨hv.fits, ho.okA, ho.inv, ho.allU, ho.dep, ho.ca, ho.st, ho.q⟩, (hl.1 _).2 hv.nv.good, (hl.2 _).2 hv.nv.uniq, hv.ind⟩
theorem NIs.toR1 {Φ : Obj} (h : NIs w0 W a S (Φ :: r.objs R L)) (ok : ROk r.p R) : RIs w0 W r R (a.objs S (Φ :: L)) :=
  ⟨((((((((h.sep.pickN 17 rfl).pickN 17 rfl).pickN 17 rfl).pickN 17 rfl).pickN 17 rfl).pickN 17 rfl).pickN 17 rfl).pickN 17 rfl).pickN 17 rfl, ok⟩
theorem RIs.toN1 {Φ : Obj} (h : RIs w0 W r R (Φ :: a.objs S L)) (ok : S.Ok a.p) : NIs w0 W a S (r.objs R (Φ :: L)) :=
  ⟨(((((((h.sep.pickN 17 rfl).pickN 17 rfl).pickN 17 rfl).pickN 17 rfl).pickN 17 rfl).pickN 17 rfl).pickN 17 rfl).pickN 17 rfl, ok⟩
theorem NIs.popR {Φ : Obj} (h : NIs w0 W a S (r.objs R (Φ :: L))) : NIs w0 W a S (r.objs R L) := ⟨h.sep.drop 17 (by simp), h.ok⟩
theorem NIs.allocR (h : NIs w0 W a S (r.objs R L)) (cs : Array Value) (T : TypeId) : NIs w0 (W.alloc (.cells cs T)) a S (r.objs R (boxO W.heap.size cs T :: L)) := ⟨(h.sep.alloc cs T).sink 17, h.ok⟩
theorem nv_like {p q : Kp} (h : Like p q) (hv : NV p S) : NV q S := by
  have h0 := KA.Like.all h
  have hl := h0.2.2.2.2.2.2.2.2.2.2.2.2.2.2
  exact ⟨(hl.1 _).2 hv.good, (hl.2 _).2 hv.uniq, hv.st, fun b hb => ((like_all (S := S) h).2.2.2.2.2.2.2.2.1 b).trans (hv.apart b hb), hv.wait⟩
set_option maxRecDepth 100000 in
set_option maxHeartbeats 4000000 in
theorem does_0 (h : Js w0 W a r S L) (o : OpN) (ho : o.Ok) (hn : S.n < 65536) (hk : o.kind = 0) : Calls Tryz.prog 24 #[ptr a.nb, ptr r.nb, .agg o.cells] W fun e W' =>
    ∃ (a' : Ad) (r' : Rd) (S' : Ns), e = .returned (.tuple #[ptr a'.nb, .bool true]) ∧ r'.nb = r.nb ∧ S'.n ≤ S.n + 1 ∧ S'.c = S.c ∧ Js w0 W' a' r' S' L := by
  have HOK := Lib.hid ho
  have hj := h.n.allocR o.cells OT
  have HV := Lib.hid h.v
  obtain ⟨xo, hxo⟩ : ∃ x, W.heap.size = x := ⟨_, rfl⟩
  obtain ⟨V, hV⟩ : ∃ V, W.alloc (.cells o.cells OT) = V := ⟨_, rfl⟩
  rw [hxo, hV] at hj
  have p0 : V.cell? ⟨xo, 0, none⟩ = some (.int .i64 0) := ((hj.sep.box 17 rfl).cell 0).trans (o.get0.trans (by rw [hk]))
  have HJ := Lib.hid hj
  clear h hj ho
  have HA := Lib.hid (show Calls Tryz.prog 13 #[ptr a.nb, .int .i64 o.b, .bool o.yes] V (AEnds w0 a (askR a.p S o.b o.yes) _) from ask_is HJ.out o.b o.yes (fun hs => gone_fit HV.out.nv HJ.out.ok hs))
  have HR := Lib.hid (fun (X : World) (L' : List Obj) (hx : RIs w0 X r S L') => (show Calls Tryz.prog 67 #[ptr r.nb, .int .i64 o.b, .bool o.yes] X (RAEnds w0 r (askR a.p S o.b o.yes) L') from (like_all HV.out.like).1 o.b o.yes ▸ rask_is hx o.b o.yes))
  have HJV := Lib.hid (HV.out.ask HJ.out.ok o.b o.yes)
  have HSM := Lib.hid (And.intro (askR_n a.p S o.b o.yes) (ask_same a.p S o.b o.yes).2.1)
  have HIU := Lib.hid (ask_isU HV.out HJ.out.ok o.b o.yes)
  have HRO := Lib.hid (rok HV.out HJ.out.ok)
  obtain ⟨⟨rd, out, te, S'⟩, ht⟩ : ∃ t, askR a.p S o.b o.yes = t := ⟨_, rfl⟩
  rw [ht] at HA HR HJV HSM HIU
  clear ht
  have hA : Calls Tryz.prog 13 #[ptr a.nb, .int .i64 o.b, .bool o.yes] V fun e W' => ∃ v, e = .returned (.tuple #[.bool rd, v, .int .i64 te]) ∧ NIs w0 W' a S' (outO v out :: r.objs S (boxO xo o.cells OT :: L)) := HA.out
  have HA2 := Lib.hid hA
  clear hA HA
  have p1 : V.cell? ⟨xo, 1, none⟩ = some (.int .i64 o.b) := ((HJ.out.sep.box 17 rfl).cell 1).trans o.get1
  have p3 : V.cell? ⟨xo, 3, none⟩ = some (.bool o.yes) := ((HJ.out.sep.box 17 rfl).cell 3).trans o.get3
  go_enter Tryz.func24, Tryz.ntmps24
  go_upto_region 1 with fail
  clear hxo hV
  go_wp2_with fail
  refine HA2.out.mono ?_
  rintro e V1 ⟨v1, rfl, hs⟩
  have HN1 := Lib.hid (hs.toR1 HRO.out)
  have HOK1 := Lib.hid hs.ok
  clear hs HA2 p1 p3
  have p1 : V1.cell? ⟨xo, 1, none⟩ = some (.int .i64 o.b) := ((HN1.out.sep.box 18 rfl).cell 1).trans o.get1
  have p3 : V1.cell? ⟨xo, 3, none⟩ = some (.bool o.yes) := ((HN1.out.sep.box 18 rfl).cell 3).trans o.get3
  have hR : Calls Tryz.prog 67 #[ptr r.nb, .int .i64 o.b, .bool o.yes] V1 fun e W' => ∃ v, e = .returned (.tuple #[.bool rd, v, .int .i64 te]) ∧ RIs w0 W' r S' (outO v out :: a.objs S' (outO v1 out :: boxO xo o.cells OT :: L)) := HR.out _ _ HN1.out
  have HR2 := Lib.hid hR
  clear hR HR HN1
  go_wp2_with fail
  refine HR2.out.mono ?_
  rintro e V2 ⟨v2, rfl, hs⟩
  have HN2 := Lib.hid (hs.toN1 HOK1.out)
  clear hs HR2
  have HE := Lib.hid (NQ.equal_same V2 v1 v2 out HIU.out (HN2.out.sep.row (i := 18) rfl) (HN2.out.sep.row (i := 17) rfl))
  go_wp2_with fail
  refine HE.out.mono ?_
  rintro e V3 ⟨rfl, hu⟩
  have HN3 := Lib.hid (HN2.out.upd0 hu)
  clear hu HE
  go_wp2_with fail
  go_ret2
  exact ⟨a, r, S', rfl, rfl, by rw [HSM.out.1]; exact Nat.le_succ _, HSM.out.2, ⟨HN3.out.popR.popR.popR, HJV.out⟩⟩
set_option maxRecDepth 100000 in
set_option maxHeartbeats 4000000 in
theorem does_1 (h : Js w0 W a r S L) (o : OpN) (ho : o.Ok) (hn : S.n < 65536) (hk : o.kind = 1) : Calls Tryz.prog 24 #[ptr a.nb, ptr r.nb, .agg o.cells] W fun e W' =>
    ∃ (a' : Ad) (r' : Rd) (S' : Ns), e = .returned (.tuple #[ptr a'.nb, .bool true]) ∧ r'.nb = r.nb ∧ S'.n ≤ S.n + 1 ∧ S'.c = S.c ∧ Js w0 W' a' r' S' L := by
  have HOK := Lib.hid ho
  have hj := h.n.allocR o.cells OT
  have HV := Lib.hid h.v
  obtain ⟨xo, hxo⟩ : ∃ x, W.heap.size = x := ⟨_, rfl⟩
  obtain ⟨V, hV⟩ : ∃ V, W.alloc (.cells o.cells OT) = V := ⟨_, rfl⟩
  rw [hxo, hV] at hj
  have p0 : V.cell? ⟨xo, 0, none⟩ = some (.int .i64 1) := ((hj.sep.box 17 rfl).cell 0).trans (o.get0.trans (by rw [hk]))
  have HJ := Lib.hid hj
  clear h hj ho
  have hfb : MM.fit o.b := HOK.out.b
  have hlk := like_all (S := S) HV.out.like
  have HA := Lib.hid (load_is HJ.out hn o.b o.wd hfb)
  have HR := Lib.hid (fun (X : World) (L' : List Obj) (hx : RIs w0 X r S L') => rload_is hx o.b o.wd)
  rw [hlk.2.2.1, hlk.2.2.2.1, hlk.2.2.2.2.1] at HR
  have HJV := Lib.hid (HV.out.load o.b o.wd)
  have HNL := Lib.hid (loadS_n a.p S o.b o.wd)
  have HCC := Lib.hid (load_c a.p S o.b o.wd)
  have HRO := Lib.hid (rok HV.out HJ.out.ok)
  obtain ⟨x, hx⟩ : ∃ x, loadX a.p S o.b o.wd = x := ⟨_, rfl⟩
  obtain ⟨te, hte⟩ : ∃ x, loadE a.p S o.b o.wd = x := ⟨_, rfl⟩
  obtain ⟨S', hS'⟩ : ∃ x, loadS a.p S o.b o.wd = x := ⟨_, rfl⟩
  rw [hx, hte, hS'] at HA
  rw [hx, hte, hS'] at HR
  rw [hS'] at HJV HNL HCC
  clear hx hte hS' hlk hfb
  have p1 : V.cell? ⟨xo, 1, none⟩ = some (.int .i64 o.b) := ((HJ.out.sep.box 17 rfl).cell 1).trans o.get1
  have p2 : V.cell? ⟨xo, 2, none⟩ = some (.int .i64 o.wd) := ((HJ.out.sep.box 17 rfl).cell 2).trans o.get2
  go_enter Tryz.func24, Tryz.ntmps24
  go_upto_region 1 with fail
  clear hxo hV
  go_wp2_with fail
  refine HA.out.mono ?_
  rintro e V1 ⟨rfl, hs⟩
  have HN1 := Lib.hid (hs.toR HRO.out)
  have HOK1 := Lib.hid hs.ok
  clear hs HA p1 p2
  have p1 : V1.cell? ⟨xo, 1, none⟩ = some (.int .i64 o.b) := ((HN1.out.sep.box 17 rfl).cell 1).trans o.get1
  have p2 : V1.cell? ⟨xo, 2, none⟩ = some (.int .i64 o.wd) := ((HN1.out.sep.box 17 rfl).cell 2).trans o.get2
  have HR2 := Lib.hid (HR.out _ _ HN1.out)
  clear HR HN1
  go_wp2_with fail
  refine HR2.out.mono ?_
  rintro e V2 ⟨rfl, hs⟩
  have HN2 := Lib.hid (hs.toN HOK1.out)
  clear hs HR2
  go_wp2_with fail
  go_ret2
  exact ⟨a, r, S', rfl, rfl, HNL.out, HCC.out, ⟨HN2.out.popR, HJV.out⟩⟩
set_option maxRecDepth 100000 in
set_option maxHeartbeats 4000000 in
theorem does_2 (h : Js w0 W a r S L) (o : OpN) (ho : o.Ok) (hn : S.n < 65536) (hk : o.kind = 2) : Calls Tryz.prog 24 #[ptr a.nb, ptr r.nb, .agg o.cells] W fun e W' =>
    ∃ (a' : Ad) (r' : Rd) (S' : Ns), e = .returned (.tuple #[ptr a'.nb, .bool true]) ∧ r'.nb = r.nb ∧ S'.n ≤ S.n + 1 ∧ S'.c = S.c ∧ Js w0 W' a' r' S' L := by
  have HOK := Lib.hid ho
  have hj := h.n.allocR o.cells OT
  have HV := Lib.hid h.v
  obtain ⟨xo, hxo⟩ : ∃ x, W.heap.size = x := ⟨_, rfl⟩
  obtain ⟨V, hV⟩ : ∃ V, W.alloc (.cells o.cells OT) = V := ⟨_, rfl⟩
  rw [hxo, hV] at hj
  have p0 : V.cell? ⟨xo, 0, none⟩ = some (.int .i64 2) := ((hj.sep.box 17 rfl).cell 0).trans (o.get0.trans (by rw [hk]))
  have HJ := Lib.hid hj
  clear h hj ho
  have hfb : MM.fit o.b := HOK.out.b
  have hlk := like_all (S := S) HV.out.like
  have HA := Lib.hid (store_is HJ.out hn o.b o.wd o.x hfb)
  have HR := Lib.hid (fun (X : World) (L' : List Obj) (hx : RIs w0 X r S L') => rstore_is hx o.b o.wd o.x)
  rw [hlk.2.2.2.2.2.1, hlk.2.2.2.2.2.2.1, hlk.2.2.2.2.2.2.2.1] at HR
  have HJV := Lib.hid (HV.out.store HJ.out.ok o.b o.wd o.x)
  have HNL := Lib.hid (storeS_n a.p S o.b o.wd o.x)
  have HCC := Lib.hid (store_c a.p S o.b o.wd o.x)
  have HRO := Lib.hid (rok HV.out HJ.out.ok)
  obtain ⟨x, hx⟩ : ∃ x, storeX a.p S o.b o.wd = x := ⟨_, rfl⟩
  obtain ⟨te, hte⟩ : ∃ x, a.p.wrE S.A o.b o.wd = x := ⟨_, rfl⟩
  obtain ⟨S', hS'⟩ : ∃ x, storeS a.p S o.b o.wd o.x = x := ⟨_, rfl⟩
  rw [hx, hte, hS'] at HA
  rw [hx, hte, hS'] at HR
  rw [hS'] at HJV HNL HCC
  clear hx hte hS' hlk hfb
  have p1 : V.cell? ⟨xo, 1, none⟩ = some (.int .i64 o.b) := ((HJ.out.sep.box 17 rfl).cell 1).trans o.get1
  have p2 : V.cell? ⟨xo, 2, none⟩ = some (.int .i64 o.wd) := ((HJ.out.sep.box 17 rfl).cell 2).trans o.get2
  have p4 : V.cell? ⟨xo, 4, none⟩ = some (.int .u32 o.x) := ((HJ.out.sep.box 17 rfl).cell 4).trans o.get4
  go_enter Tryz.func24, Tryz.ntmps24
  go_upto_region 1 with fail
  clear hxo hV
  go_wp2_with fail
  refine HA.out.mono ?_
  rintro e V1 ⟨rfl, hs⟩
  have HN1 := Lib.hid (hs.toR HRO.out)
  have HOK1 := Lib.hid hs.ok
  clear hs HA p1 p2 p4
  have p1 : V1.cell? ⟨xo, 1, none⟩ = some (.int .i64 o.b) := ((HN1.out.sep.box 17 rfl).cell 1).trans o.get1
  have p2 : V1.cell? ⟨xo, 2, none⟩ = some (.int .i64 o.wd) := ((HN1.out.sep.box 17 rfl).cell 2).trans o.get2
  have p4 : V1.cell? ⟨xo, 4, none⟩ = some (.int .u32 o.x) := ((HN1.out.sep.box 17 rfl).cell 4).trans o.get4
  have HR2 := Lib.hid (HR.out _ _ HN1.out)
  clear HR HN1
  go_wp2_with fail
  refine HR2.out.mono ?_
  rintro e V2 ⟨rfl, hs⟩
  have HN2 := Lib.hid (hs.toN HOK1.out)
  clear hs HR2
  go_wp2_with fail
  go_ret2
  exact ⟨a, r, S', rfl, rfl, HNL.out, HCC.out, ⟨HN2.out.popR, HJV.out⟩⟩
set_option maxRecDepth 100000 in
set_option maxHeartbeats 4000000 in
theorem does_3 (h : Js w0 W a r S L) (o : OpN) (ho : o.Ok) (hn : S.n < 65536) (hk : o.kind = 3) : Calls Tryz.prog 24 #[ptr a.nb, ptr r.nb, .agg o.cells] W fun e W' =>
    ∃ (a' : Ad) (r' : Rd) (S' : Ns), e = .returned (.tuple #[ptr a'.nb, .bool true]) ∧ r'.nb = r.nb ∧ S'.n ≤ S.n + 1 ∧ S'.c = S.c ∧ Js w0 W' a' r' S' L := by
  have HOK := Lib.hid ho
  have hj := h.n.allocR o.cells OT
  have HV := Lib.hid h.v
  obtain ⟨xo, hxo⟩ : ∃ x, W.heap.size = x := ⟨_, rfl⟩
  obtain ⟨V, hV⟩ : ∃ V, W.alloc (.cells o.cells OT) = V := ⟨_, rfl⟩
  rw [hxo, hV] at hj
  have p0 : V.cell? ⟨xo, 0, none⟩ = some (.int .i64 3) := ((hj.sep.box 17 rfl).cell 0).trans (o.get0.trans (by rw [hk]))
  have HJ := Lib.hid hj
  clear h hj ho
  have hnb : MM.fit o.n.blk := HOK.out.nb
  have hlk := (like_all (S := S) HV.out.like).2.2.2.2.2.2.2.2.1
  have HA := Lib.hid (show Calls Tryz.prog 17 #[ptr a.nb, .agg o.n.cells] V (Ends w0 a (takeR a.p S o.n) _) from take_is HJ.out o.n HOK.out.n hnb)
  have HR := Lib.hid (fun (X : World) (L' : List Obj) (hx : RIs w0 X r S L') => (show Calls Tryz.prog 70 #[ptr r.nb, .agg o.n.cells] X (REnds w0 r (takeR a.p S o.n) L') from (like_all HV.out.like).2.1 o.n ▸ rtake_is hx o.n HOK.out.n HV.out.core (fun b hb => (hlk b).trans (HV.out.nv.apart b hb)) HV.out.qk))
  have HJV := Lib.hid (HV.out.take HJ.out.ok o.n)
  have HSM := Lib.hid (And.intro (takeR_n a.p S o.n) (take_same a.p S o.n).2.1)
  have HIU : Hid (∀ m ∈ (takeR a.p S o.n).out, IsU m.D) := Lib.hid (fun m hm => ((take_keeps HV.out.nv HJ.out.ok HV.out.core.1 HOK.out.n).all m hm).isU)
  have HRO := Lib.hid (rok HV.out HJ.out.ok)
  obtain ⟨⟨out, rd, te, S'⟩, ht⟩ : ∃ t, takeR a.p S o.n = t := ⟨_, rfl⟩
  rw [ht] at HA HR HJV HSM HIU
  clear ht hlk hnb
  have hA : Calls Tryz.prog 17 #[ptr a.nb, .agg o.n.cells] V fun e W' => ∃ v, e = .returned (.tuple #[v, .bool rd, .int .i64 te]) ∧ NIs w0 W' a S' (outO v out :: r.objs S (boxO xo o.cells OT :: L)) := HA.out
  have HA2 := Lib.hid hA
  have HNN := Lib.hid (Nt.Ok.isN HOK.out.n.isU)
  clear hA HA
  have l5 : (TNot.ld (.pointer (some ⟨xo, 5, none⟩))).run Tryz.prog V = .ok (.agg o.n.cells) V := TNot.ld_at HNN.out ((HJ.out.sep.box 17 rfl).range 5 _ (fun j v hv => (o.getN j).trans (by simpa using hv)))
  go_enter Tryz.func24, Tryz.ntmps24
  go_upto_region 1 with fail
  clear hxo hV
  go_wp2_with fail
  refine HA2.out.mono ?_
  rintro e V1 ⟨v1, rfl, hs⟩
  have HN1 := Lib.hid (hs.toR1 HRO.out)
  have HOK1 := Lib.hid hs.ok
  clear hs HA2 l5
  have l5 : (TNot.ld (.pointer (some ⟨xo, 5, none⟩))).run Tryz.prog V1 = .ok (.agg o.n.cells) V1 := TNot.ld_at HNN.out ((HN1.out.sep.box 18 rfl).range 5 _ (fun j v hv => (o.getN j).trans (by simpa using hv)))
  have hR : Calls Tryz.prog 70 #[ptr r.nb, .agg o.n.cells] V1 fun e W' => ∃ v, e = .returned (.tuple #[v, .bool rd, .int .i64 te]) ∧ RIs w0 W' r S' (outO v out :: a.objs S' (outO v1 out :: boxO xo o.cells OT :: L)) := HR.out _ _ HN1.out
  have HR2 := Lib.hid hR
  clear hR HR HN1
  go_wp2_with fail
  refine HR2.out.mono ?_
  rintro e V2 ⟨v2, rfl, hs⟩
  have HN2 := Lib.hid (hs.toN1 HOK1.out)
  clear hs HR2
  have HE := Lib.hid (NQ.equal_same V2 v1 v2 out HIU.out (HN2.out.sep.row (i := 18) rfl) (HN2.out.sep.row (i := 17) rfl))
  go_wp2_with fail
  refine HE.out.mono ?_
  rintro e V3 ⟨rfl, hu⟩
  have HN3 := Lib.hid (HN2.out.upd0 hu)
  clear hu HE
  go_wp2_with fail
  go_ret2
  exact ⟨a, r, S', rfl, rfl, by rw [HSM.out.1]; exact Nat.le_succ _, HSM.out.2, ⟨HN3.out.popR.popR.popR, HJV.out⟩⟩
set_option maxRecDepth 100000 in
set_option maxHeartbeats 4000000 in
theorem does_4 (h : Js w0 W a r S L) (o : OpN) (ho : o.Ok) (hn : S.n < 65536) (hk : o.kind = 4) : Calls Tryz.prog 24 #[ptr a.nb, ptr r.nb, .agg o.cells] W fun e W' =>
    ∃ (a' : Ad) (r' : Rd) (S' : Ns), e = .returned (.tuple #[ptr a'.nb, .bool true]) ∧ r'.nb = r.nb ∧ S'.n ≤ S.n + 1 ∧ S'.c = S.c ∧ Js w0 W' a' r' S' L := by
  have HOK := Lib.hid ho
  have hj := h.n.allocR o.cells OT
  have HV := Lib.hid h.v
  obtain ⟨xo, hxo⟩ : ∃ x, W.heap.size = x := ⟨_, rfl⟩
  obtain ⟨V, hV⟩ : ∃ V, W.alloc (.cells o.cells OT) = V := ⟨_, rfl⟩
  rw [hxo, hV] at hj
  have p0 : V.cell? ⟨xo, 0, none⟩ = some (.int .i64 4) := ((hj.sep.box 17 rfl).cell 0).trans (o.get0.trans (by rw [hk]))
  have HJ := Lib.hid hj
  clear h hj ho
  have HRO := Lib.hid (rok HV.out HJ.out.ok)
  have HD := Lib.hid (HJ.out.upd0 (Upd.drew NoF V))
  have y3 := fun w => bdS_run w
  have HWR : Hid (IntKind.u64.wrap (o.x + 1) = o.x + 1 ∧ IntKind.u64.wrap o.x = o.x) := Lib.hid ⟨IntWalk.u64_in _ (by have := HOK.out.x; omega), IntWalk.u64_in _ (by have := HOK.out.x; omega)⟩
  go_enter Tryz.func24, Tryz.ntmps24
  go_upto_region 1 with fail
  clear hxo hV
  go_upto_region 19 with fail
  refine wp_region_held_drew (S := (fun X : World => X.cell? ⟨xo, 4, none⟩ = some (.int .u32 o.x) ∧ X.cell? ⟨r.nb, 12, none⟩ = some (ptr r.db))) (by kernel_rfl) (⟨((HD.out.sep.box 17 rfl).cell 4).trans o.get4, ((HD.out.sep.box 11 rfl).cell 12).trans (rcells_head S r (by decide))⟩) (fun hHeld => ?_)
  obtain ⟨X0, hX0⟩ : ∃ X, V.drew = X := ⟨_, rfl⟩
  rw [hX0] at hHeld HD ⊢
  clear hX0
  refine rgn 0 (v := ?vq1) hHeld ?yq1 ?_
  case yq1 => (intro w hSw; obtain ⟨k0, k1⟩ := hSw; have e1 := HWR.out.1; have e2 := HWR.out.2; go_simp; try with_reducible rfl)
  simp only [Act.put, rns]
  refine rgn 1 (v := ?vq2) hHeld ?yq2 ?_
  case yq2 => (intro w hSw; obtain ⟨k0, k1⟩ := hSw; have e1 := HWR.out.1; have e2 := HWR.out.2; go_simp; try with_reducible rfl)
  simp only [Act.put, rns]
  refine rgn 3 (v := ?vq3) hHeld ?yq3 ?_
  case yq3 => (intro w hSw; obtain ⟨k0, k1⟩ := hSw; have e1 := HWR.out.1; have e2 := HWR.out.2; go_simp; try with_reducible rfl)
  simp only [Act.put, rns]
  refine rgn 4 (v := ?vq4) hHeld ?yq4 ?_
  case yq4 => (intro w hSw; obtain ⟨k0, k1⟩ := hSw; have e1 := HWR.out.1; have e2 := HWR.out.2; go_simp; try with_reducible rfl)
  simp only [Act.put, rns]
  refine rgn 5 (v := ?vq5) hHeld ?yq5 ?_
  case yq5 => (intro w hSw; obtain ⟨k0, k1⟩ := hSw; have e1 := HWR.out.1; have e2 := HWR.out.2; go_simp; try with_reducible rfl)
  simp only [Act.put, rns]
  refine rgn 6 (v := .int .u64 o.x) hHeld ?yq6 ?_
  case yq6 => (intro w hSw; obtain ⟨k0, k1⟩ := hSw; have e1 := HWR.out.1; have e2 := HWR.out.2; go_simp; try with_reducible rfl)
  simp only [Act.put, rns]
  refine rgn 7 (v := .int .u64 (o.x + 1)) hHeld ?yq7 ?_
  case yq7 => (intro w hSw; obtain ⟨k0, k1⟩ := hSw; have e1 := HWR.out.1; have e2 := HWR.out.2; go_simp; try with_reducible rfl)
  simp only [Act.put, rns]
  refine rgn 9 (v := ?vq8) hHeld ?yq8 ?_
  case yq8 => (intro w hSw; obtain ⟨k0, k1⟩ := hSw; have e1 := HWR.out.1; have e2 := HWR.out.2; go_simp; try with_reducible rfl)
  simp only [Act.put, rns]
  refine rgn 10 (v := ?vq9) hHeld ?yq9 ?_
  case yq9 => (intro w hSw; obtain ⟨k0, k1⟩ := hSw; have e1 := HWR.out.1; have e2 := HWR.out.2; go_simp; try with_reducible rfl)
  simp only [Act.put, rns]
  refine rgn 11 (v := ?vq10) hHeld ?yq10 ?_
  case yq10 => (intro w hSw; obtain ⟨k0, k1⟩ := hSw; have e1 := HWR.out.1; have e2 := HWR.out.2; go_simp; try with_reducible rfl)
  simp only [Act.put, rns]
  refine rgn 12 (v := ?vq11) hHeld ?yq11 ?_
  case yq11 => (intro w hSw; obtain ⟨k0, k1⟩ := hSw; have e1 := HWR.out.1; have e2 := HWR.out.2; go_simp; try with_reducible rfl)
  simp only [Act.put, rns]
  refine rgn 13 (v := ?vq12) hHeld ?yq12 ?_
  case yq12 => (intro w hSw; obtain ⟨k0, k1⟩ := hSw; have e1 := HWR.out.1; have e2 := HWR.out.2; go_simp; try with_reducible rfl)
  simp only [Act.put, rns]
  refine rgn 14 (v := ?vq13) hHeld ?yq13 ?_
  case yq13 => (intro w hSw; obtain ⟨k0, k1⟩ := hSw; have e1 := HWR.out.1; have e2 := HWR.out.2; go_simp; try with_reducible rfl)
  simp only [Act.put, rns]
  refine rgn 15 (v := ?vq14) hHeld ?yq14 ?_
  case yq14 => (intro w hSw; obtain ⟨k0, k1⟩ := hSw; have e1 := HWR.out.1; have e2 := HWR.out.2; go_simp; try with_reducible rfl)
  simp only [Act.put, rns]
  refine rgn 16 (v := .int .u64 o.x) hHeld ?yq15 ?_
  case yq15 => (intro w hSw; obtain ⟨k0, k1⟩ := hSw; have e1 := HWR.out.1; have e2 := HWR.out.2; go_simp; try with_reducible rfl)
  simp only [Act.put, rns]
  refine rgn 17 (v := .int .u64 (o.x + 1)) hHeld ?yq16 ?_
  case yq16 => (intro w hSw; obtain ⟨k0, k1⟩ := hSw; have e1 := HWR.out.1; have e2 := HWR.out.2; go_simp; try with_reducible rfl)
  simp only [Act.put, rns]
  refine reg_step (i := 2) (by kernel_rfl) rfl (by kernel_rfl) (fun K hK => ?_)
  go_simp
  refine (deal_is HD.out).mono ?_
  rintro e X1 ⟨rfl, rfl⟩
  have HS := hHeld
  go_wp2_with fail
  refine hK.out _ _ HS (fun hHeld2 => ?_)
  clear hK hHeld2 hHeld; have hHeld := HS; clear HS
  try simp only [Act.put, rns]
  refine reg_step (i := 8) (by kernel_rfl) rfl (by kernel_rfl) (fun K hK => ?_)
  go_simp
  refine (dbegin_is HD.out 0 (o.x + 1) (by have := HOK.out.x; omega)).mono ?_
  rintro e X2 ⟨rfl, hs⟩
  have HS : (fun X : World => X.cell? ⟨xo, 4, none⟩ = some (.int .u32 o.x) ∧ X.cell? ⟨r.nb, 12, none⟩ = some (ptr r.db)) X2 := ⟨((hs.sep.box 17 rfl).cell 4).trans o.get4, ((hs.sep.box 11 rfl).cell 12).trans (rcells_head S r (by decide))⟩
  have HN1 := Lib.hid (hs.toR HRO.out)
  have HOK1 := Lib.hid hs.ok
  clear hs
  go_wp2_with fail
  refine hK.out _ _ HS (fun hHeld2 => ?_)
  clear hK hHeld2 hHeld; have hHeld := HS; clear HS
  try simp only [Act.put, rns]
  refine reg_step (i := 18) (by kernel_rfl) rfl (by kernel_rfl) (fun K hK => ?_)
  go_simp
  refine (rdbegin_is HN1.out 0 (o.x + 1) (by have := HOK.out.x; omega)).mono ?_
  rintro e X3 ⟨rfl, hs⟩
  have HS : (fun X : World => X.cell? ⟨xo, 4, none⟩ = some (.int .u32 o.x) ∧ X.cell? ⟨r.nb, 12, none⟩ = some (ptr r.db)) X3 := ⟨((hs.sep.box 17 rfl).cell 4).trans o.get4, hs.hd (by decide)⟩
  have HN2 := Lib.hid (hs.toN HOK1.out)
  clear hs
  go_wp2_with fail
  refine hK.out _ _ HS (fun hHeld2 => ?_)
  clear hK hHeld2 hHeld; have hHeld := HS; clear HS
  try simp only [Act.put, rns]
  refine rgn 19 (v := .bool true) hHeld ?yq17 ?_
  case yq17 => (intro w hSw; go_simp; try with_reducible rfl)
  simp only [Act.put, rns]
  refine rgn 20 (v := ?vq18) hHeld ?yq18 ?_
  case yq18 => (intro w hSw; go_simp; try with_reducible rfl)
  simp only [Act.put, rns]
  refine rgn 21 (v := ?vq19) hHeld ?yq19 ?_
  case yq19 => (intro w hSw; go_simp; try with_reducible rfl)
  simp only [Act.put, rns]
  refine wpAnyH_done (by kernel_rfl) ?_ _
  clear hHeld
  go_wp2_with fail
  go_ret2
  exact ⟨a, r, { S with d := beginS S.c.nest S.d 0 (o.x + 1) }, rfl, rfl, Nat.le_succ _, rfl, ⟨HN2.out.popR, HV.out.deal (HV.out.nv.begin (st := o.x + 1) (by have := HOK.out.x; omega) HJ.out.ok)⟩⟩
set_option maxRecDepth 100000 in
set_option maxHeartbeats 4000000 in
theorem does_5 (h : Js w0 W a r S L) (o : OpN) (ho : o.Ok) (hn : S.n < 65536) (hk : o.kind = 5) : Calls Tryz.prog 24 #[ptr a.nb, ptr r.nb, .agg o.cells] W fun e W' =>
    ∃ (a' : Ad) (r' : Rd) (S' : Ns), e = .returned (.tuple #[ptr a'.nb, .bool true]) ∧ r'.nb = r.nb ∧ S'.n ≤ S.n + 1 ∧ S'.c = S.c ∧ Js w0 W' a' r' S' L := by
  have HOK := Lib.hid ho
  have hj := h.n.allocR o.cells OT
  have HV := Lib.hid h.v
  obtain ⟨xo, hxo⟩ : ∃ x, W.heap.size = x := ⟨_, rfl⟩
  obtain ⟨V, hV⟩ : ∃ V, W.alloc (.cells o.cells OT) = V := ⟨_, rfl⟩
  rw [hxo, hV] at hj
  have p0 : V.cell? ⟨xo, 0, none⟩ = some (.int .i64 5) := ((hj.sep.box 17 rfl).cell 0).trans (o.get0.trans (by rw [hk]))
  have HJ := Lib.hid hj
  clear h hj ho
  have HRO := Lib.hid (rok HV.out HJ.out.ok)
  go_enter Tryz.func24, Tryz.ntmps24
  go_upto_region 1 with fail
  clear hxo hV
  go_wp2_with fail
  refine (deal_is HJ.out).mono ?_
  rintro e X1 ⟨rfl, rfl⟩
  go_wp2_with fail
  refine (dend_is HJ.out).mono ?_
  rintro e X2 ⟨rfl, hs⟩
  have HN1 := Lib.hid (hs.toR HRO.out)
  have HOK1 := Lib.hid hs.ok
  clear hs
  have c12 : X2.cell? ⟨r.nb, 12, none⟩ = some (ptr r.db) := HN1.out.hd (by decide)
  go_wp2_with fail
  refine (rdend_is HN1.out).mono ?_
  rintro e X3 ⟨rfl, hs⟩
  have HN2 := Lib.hid (hs.toN HOK1.out)
  clear hs c12
  generalize endB S.d = eb
  go_wp2_with fail
  go_ret2
  exact ⟨a, r, { S with d := endS S.d }, rfl, rfl, Nat.le_succ _, rfl, ⟨HN2.out.popR, HV.out.deal HV.out.nv.end_⟩⟩
set_option maxRecDepth 100000 in
set_option maxHeartbeats 4000000 in
theorem does_6 (h : Js w0 W a r S L) (o : OpN) (ho : o.Ok) (hn : S.n < 65536) (hk : o.kind = 6) : Calls Tryz.prog 24 #[ptr a.nb, ptr r.nb, .agg o.cells] W fun e W' =>
    ∃ (a' : Ad) (r' : Rd) (S' : Ns), e = .returned (.tuple #[ptr a'.nb, .bool true]) ∧ r'.nb = r.nb ∧ S'.n ≤ S.n + 1 ∧ S'.c = S.c ∧ Js w0 W' a' r' S' L := by
  have HOK := Lib.hid ho
  have hj := h.n.allocR o.cells OT
  have HV := Lib.hid h.v
  obtain ⟨xo, hxo⟩ : ∃ x, W.heap.size = x := ⟨_, rfl⟩
  obtain ⟨V, hV⟩ : ∃ V, W.alloc (.cells o.cells OT) = V := ⟨_, rfl⟩
  rw [hxo, hV] at hj
  have p0 : V.cell? ⟨xo, 0, none⟩ = some (.int .i64 6) := ((hj.sep.box 17 rfl).cell 0).trans (o.get0.trans (by rw [hk]))
  have HJ := Lib.hid hj
  clear h hj ho
  have HRO := Lib.hid (rok HV.out HJ.out.ok)
  have HD := Lib.hid (HJ.out.upd0 (Upd.drew NoF V))
  go_enter Tryz.func24, Tryz.ntmps24
  go_upto_region 1 with fail
  clear hxo hV
  go_upto_region 25 with fail
  refine wp_region_held_drew (S := (fun X : World => X.cell? ⟨xo, 4, none⟩ = some (.int .u32 o.x) ∧ X.cell? ⟨r.nb, 12, none⟩ = some (ptr r.db))) (by kernel_rfl) (⟨((HD.out.sep.box 17 rfl).cell 4).trans o.get4, ((HD.out.sep.box 11 rfl).cell 12).trans (rcells_head S r (by decide))⟩) (fun hHeld => ?_)
  obtain ⟨X0, hX0⟩ : ∃ X, V.drew = X := ⟨_, rfl⟩
  rw [hX0] at hHeld HD ⊢
  clear hX0
  refine rgn 0 (v := ?vq20) hHeld ?yq20 ?_
  case yq20 => (intro w hSw; obtain ⟨k0, k1⟩ := hSw; go_simp; try with_reducible rfl)
  simp only [Act.put, rns]
  refine rgn 1 (v := ?vq21) hHeld ?yq21 ?_
  case yq21 => (intro w hSw; obtain ⟨k0, k1⟩ := hSw; go_simp; try with_reducible rfl)
  simp only [Act.put, rns]
  refine rgn 3 (v := ?vq22) hHeld ?yq22 ?_
  case yq22 => (intro w hSw; obtain ⟨k0, k1⟩ := hSw; go_simp; try with_reducible rfl)
  simp only [Act.put, rns]
  refine rgn 4 (v := ?vq23) hHeld ?yq23 ?_
  case yq23 => (intro w hSw; obtain ⟨k0, k1⟩ := hSw; go_simp; try with_reducible rfl)
  simp only [Act.put, rns]
  refine rgn 6 (v := ?vq24) hHeld ?yq24 ?_
  case yq24 => (intro w hSw; obtain ⟨k0, k1⟩ := hSw; go_simp; try with_reducible rfl)
  simp only [Act.put, rns]
  refine rgn 7 (v := ?vq25) hHeld ?yq25 ?_
  case yq25 => (intro w hSw; obtain ⟨k0, k1⟩ := hSw; go_simp; try with_reducible rfl)
  simp only [Act.put, rns]
  refine rgn 8 (v := ?vq26) hHeld ?yq26 ?_
  case yq26 => (intro w hSw; obtain ⟨k0, k1⟩ := hSw; go_simp; try with_reducible rfl)
  simp only [Act.put, rns]
  refine rgn 9 (v := ?vq27) hHeld ?yq27 ?_
  case yq27 => (intro w hSw; obtain ⟨k0, k1⟩ := hSw; go_simp; try with_reducible rfl)
  simp only [Act.put, rns]
  refine rgn 10 (v := ?vq28) hHeld ?yq28 ?_
  case yq28 => (intro w hSw; obtain ⟨k0, k1⟩ := hSw; go_simp; try with_reducible rfl)
  simp only [Act.put, rns]
  refine rgn 11 (v := ?vq29) hHeld ?yq29 ?_
  case yq29 => (intro w hSw; obtain ⟨k0, k1⟩ := hSw; go_simp; try with_reducible rfl)
  simp only [Act.put, rns]
  refine reg_step (i := 2) (by kernel_rfl) rfl (by kernel_rfl) (fun K hK => ?_)
  go_simp
  refine (deal_is HD.out).mono ?_
  rintro e X1 ⟨rfl, rfl⟩
  have HS := hHeld
  go_wp2_with fail
  refine hK.out _ _ HS (fun hHeld2 => ?_)
  clear hK hHeld2 hHeld; have hHeld := HS; clear HS
  try simp only [Act.put, rns]
  refine reg_step (i := 5) (by kernel_rfl) rfl (by kernel_rfl) (fun K hK => ?_)
  go_simp
  refine (dfail_is HD.out o.x HOK.out.x).mono ?_
  rintro e X2 ⟨rfl, hs⟩
  have HS : (fun X : World => X.cell? ⟨xo, 4, none⟩ = some (.int .u32 o.x) ∧ X.cell? ⟨r.nb, 12, none⟩ = some (ptr r.db)) X2 := ⟨((hs.sep.box 17 rfl).cell 4).trans o.get4, ((hs.sep.box 11 rfl).cell 12).trans (rcells_head S r (by decide))⟩
  have HN1 := Lib.hid (hs.toR HRO.out)
  have HOK1 := Lib.hid hs.ok
  clear hs
  go_wp2_with fail
  refine hK.out _ _ HS (fun hHeld2 => ?_)
  clear hK hHeld2 hHeld; have hHeld := HS; clear HS
  try simp only [Act.put, rns]
  refine reg_step (i := 12) (by kernel_rfl) rfl (by kernel_rfl) (fun K hK => ?_)
  go_simp
  refine (rdfail_is HN1.out o.x HOK.out.x).mono ?_
  rintro e X3 ⟨rfl, hs⟩
  have HS : (fun X : World => X.cell? ⟨xo, 4, none⟩ = some (.int .u32 o.x) ∧ X.cell? ⟨r.nb, 12, none⟩ = some (ptr r.db)) X3 := ⟨((hs.sep.box 17 rfl).cell 4).trans o.get4, hs.hd (by decide)⟩
  have HN2 := Lib.hid (hs.toN HOK1.out)
  clear hs
  go_wp2_with fail
  refine hK.out _ _ HS (fun hHeld2 => ?_)
  clear hK hHeld2 hHeld; have hHeld := HS; clear HS
  try simp only [Act.put, rns]
  refine rgn 13 (v := .bool true) hHeld ?yq30 ?_
  case yq30 => (intro w hSw; go_simp; try with_reducible rfl)
  simp only [Act.put, rns]
  refine rgn 14 (v := ?vq31) hHeld ?yq31 ?_
  case yq31 => (intro w hSw; go_simp; try with_reducible rfl)
  simp only [Act.put, rns]
  refine rgn 15 (v := ?vq32) hHeld ?yq32 ?_
  case yq32 => (intro w hSw; go_simp; try with_reducible rfl)
  simp only [Act.put, rns]
  refine wpAnyH_done (by kernel_rfl) ?_ _
  clear hHeld
  go_wp2_with fail
  go_ret2
  exact ⟨a, r, { S with d := failS S.d o.x }, rfl, rfl, Nat.le_succ _, rfl, ⟨HN2.out.popR, HV.out.deal (HV.out.nv.fail _)⟩⟩
set_option maxRecDepth 100000 in
set_option maxHeartbeats 4000000 in
theorem does_7 (h : Js w0 W a r S L) (o : OpN) (ho : o.Ok) (hn : S.n < 65536) (hk : o.kind = 7) : Calls Tryz.prog 24 #[ptr a.nb, ptr r.nb, .agg o.cells] W fun e W' =>
    ∃ (a' : Ad) (r' : Rd) (S' : Ns), e = .returned (.tuple #[ptr a'.nb, .bool true]) ∧ r'.nb = r.nb ∧ S'.n ≤ S.n + 1 ∧ S'.c = S.c ∧ Js w0 W' a' r' S' L := by
  have HOK := Lib.hid ho
  have hj := h.n.allocR o.cells OT
  have HV := Lib.hid h.v
  obtain ⟨xo, hxo⟩ : ∃ x, W.heap.size = x := ⟨_, rfl⟩
  obtain ⟨V, hV⟩ : ∃ V, W.alloc (.cells o.cells OT) = V := ⟨_, rfl⟩
  rw [hxo, hV] at hj
  have p0 : V.cell? ⟨xo, 0, none⟩ = some (.int .i64 7) := ((hj.sep.box 17 rfl).cell 0).trans (o.get0.trans (by rw [hk]))
  have HJ := Lib.hid hj
  clear h hj ho
  have HRO := Lib.hid (rok HV.out HJ.out.ok)
  obtain ⟨m, ca, er, hov⟩ := over_form S.d
  have HOV := Lib.hid (dover_is HJ.out)
  have HRV := Lib.hid (fun (X : World) (L' : List Obj) (hx : RIs w0 X r S L') => rdover_is hx)
  rw [hov] at HOV HRV
  clear hov
  go_enter Tryz.func24, Tryz.ntmps24
  go_upto_region 1 with fail
  clear hxo hV
  go_wp2_with fail
  refine (deal_is HJ.out).mono ?_
  rintro e X1 ⟨rfl, rfl⟩
  go_wp2_with fail
  refine HOV.out.mono ?_
  rintro e X2 ⟨rfl, hs⟩
  have s1 := TSav.st_new (SC_isN m) X2
  have hs3 := hs.allocR (DL.SC m) SVT
  have HOK1 := Lib.hid hs.ok
  obtain ⟨X3, hX3⟩ : ∃ X, X2.alloc (.cells (DL.SC m) SVT) = X := ⟨_, rfl⟩
  rw [hX3] at s1 hs3
  have HN1 := Lib.hid (hs3.toR HRO.out)
  clear hs hs3
  go_upto_region 28 with fail
  clear s1 hX3
  have c12 : X3.cell? ⟨r.nb, 12, none⟩ = some (ptr r.db) := HN1.out.hd (by decide)
  go_wp2_with fail
  refine (HRV.out _ _ HN1.out).mono ?_
  rintro e X4 ⟨rfl, hs⟩
  have s1 := TSav.st_new (SC_isN m) X4
  have hs3 := (hs.toN HOK1.out).allocR (DL.SC m) SVT
  obtain ⟨X5, hX5⟩ : ∃ X, X4.alloc (.cells (DL.SC m) SVT) = X := ⟨_, rfl⟩
  rw [hX5] at s1 hs3
  have HX : Hid (NIs w0 X5 a { S with d := overS S.d } (r.objs { S with d := overS S.d } L)) := Lib.hid hs3.popR.popR.popR
  have HJ2 := Lib.hid (HV.out.deal HV.out.nv.over)
  have HRY := Lib.hid (rok HJ2.out HX.out.ok)
  clear hs hs3 c12
  go_upto_region 29 with fail
  clear s1 hX5
  go_wp2_with fail
  refine (clear_is HX.out).mono ?_
  rintro e Y1 ⟨rfl, hs⟩
  have HY1 := Lib.hid (hs.toR HRY.out)
  have HOKY := Lib.hid hs.ok
  clear hs
  have c11 : Y1.cell? ⟨r.nb, 11, none⟩ = some (ptr r.rb) := HY1.out.hd (by decide)
  go_wp2_with fail
  refine (rmclear_is HY1.out 0).mono ?_
  rintro e Y2 ⟨rfl, g1, g2, hs⟩
  have HY2 := Lib.hid (hs.toN HOKY.out)
  clear hs c11
  go_wp2_with fail
  go_ret2
  exact ⟨a, { r with gr := g1, gw := g2 }, { S with d := overS S.d, n := 0, f := MK.none2 }, rfl, rfl, Nat.zero_le _, rfl, ⟨HY2.out, HJ2.out.clear⟩⟩
set_option maxRecDepth 100000 in
set_option maxHeartbeats 4000000 in
theorem does_8 (h : Js w0 W a r S L) (o : OpN) (ho : o.Ok) (hn : S.n < 65536) (hk : o.kind = 8) : Calls Tryz.prog 24 #[ptr a.nb, ptr r.nb, .agg o.cells] W fun e W' =>
    ∃ (a' : Ad) (r' : Rd) (S' : Ns), e = .returned (.tuple #[ptr a'.nb, .bool true]) ∧ r'.nb = r.nb ∧ S'.n ≤ S.n + 1 ∧ S'.c = S.c ∧ Js w0 W' a' r' S' L := by
  have HOK := Lib.hid ho
  have hj := h.n.allocR o.cells OT
  have HV := Lib.hid h.v
  obtain ⟨xo, hxo⟩ : ∃ x, W.heap.size = x := ⟨_, rfl⟩
  obtain ⟨V, hV⟩ : ∃ V, W.alloc (.cells o.cells OT) = V := ⟨_, rfl⟩
  rw [hxo, hV] at hj
  have p0 : V.cell? ⟨xo, 0, none⟩ = some (.int .i64 8) := ((hj.sep.box 17 rfl).cell 0).trans (o.get0.trans (by rw [hk]))
  have HJ := Lib.hid hj
  clear h hj ho
  have HX := Lib.hid HJ.out.popR
  have HRY := Lib.hid (rok HV.out HJ.out.ok)
  go_enter Tryz.func24, Tryz.ntmps24
  go_upto_region 1 with fail
  clear hxo hV
  go_wp2_with fail
  refine (clear_is HX.out).mono ?_
  rintro e Y1 ⟨rfl, hs⟩
  have HY1 := Lib.hid (hs.toR HRY.out)
  have HOKY := Lib.hid hs.ok
  clear hs
  have c11 : Y1.cell? ⟨r.nb, 11, none⟩ = some (ptr r.rb) := HY1.out.hd (by decide)
  go_wp2_with fail
  refine (rmclear_is HY1.out 0).mono ?_
  rintro e Y2 ⟨rfl, g1, g2, hs⟩
  have HY2 := Lib.hid (hs.toN HOKY.out)
  clear hs c11
  go_wp2_with fail
  go_ret2
  exact ⟨a, { r with gr := g1, gw := g2 }, { S with n := 0, f := MK.none2 }, rfl, rfl, Nat.zero_le _, rfl, ⟨HY2.out, HV.out.clear⟩⟩
set_option maxRecDepth 100000 in
set_option maxHeartbeats 4000000 in
theorem does_9 (h : Js w0 W a r S L) (o : OpN) (ho : o.Ok) (hn : S.n < 65536) (hk : o.kind = 9) : Calls Tryz.prog 24 #[ptr a.nb, ptr r.nb, .agg o.cells] W fun e W' =>
    ∃ (a' : Ad) (r' : Rd) (S' : Ns), e = .returned (.tuple #[ptr a'.nb, .bool true]) ∧ r'.nb = r.nb ∧ S'.n ≤ S.n + 1 ∧ S'.c = S.c ∧ Js w0 W' a' r' S' L := by
  have HOK := Lib.hid ho
  have hj := h.n.allocR o.cells OT
  have HV := Lib.hid h.v
  obtain ⟨xo, hxo⟩ : ∃ x, W.heap.size = x := ⟨_, rfl⟩
  obtain ⟨V, hV⟩ : ∃ V, W.alloc (.cells o.cells OT) = V := ⟨_, rfl⟩
  rw [hxo, hV] at hj
  have p0 : V.cell? ⟨xo, 0, none⟩ = some (.int .i64 9) := ((hj.sep.box 17 rfl).cell 0).trans (o.get0.trans (by rw [hk]))
  have HJ := Lib.hid hj
  clear h hj ho
  have hnb : MM.fit o.n.blk := HOK.out.nb
  have HFB := Lib.hid hnb
  clear hnb
  have HNN := Lib.hid (Nt.Ok.isN HOK.out.n.isU)
  go_enter Tryz.func24, Tryz.ntmps24
  go_upto_region 1 with fail
  clear hxo hV
  go_wp2_with fail
  refine (ncopy_is HJ.out).mono ?_
  rintro e X1 ⟨a2, rfl, hs, hp1, hp2⟩
  have HPP := Lib.hid (And.intro hp1 hp2)
  have HOK2 := Lib.hid hs.ok
  have HB : Hid (NIs w0 X1 a S (a2.objs S (r.objs S (boxO xo o.cells OT :: L)))) := Lib.hid ⟨(((((((hs.sep.pickN 15 rfl).pickN 15 rfl).pickN 15 rfl).pickN 15 rfl).pickN 15 rfl).pickN 15 rfl).pickN 15 rfl).pickN 15 rfl, HJ.out.ok⟩
  clear hs hp1 hp2
  go_wp2_with fail
  refine (clear_is HB.out).mono ?_
  rintro e X2 ⟨rfl, hs⟩
  have HB2 := Lib.hid hs
  have l5 : (TNot.ld (.pointer (some ⟨xo, 5, none⟩))).run Tryz.prog X2 = .ok (.agg o.n.cells) X2 := TNot.ld_at HNN.out ((hs.sep.box 25 rfl).range 5 _ (fun j v hv => (o.getN j).trans (by simpa using hv)))
  have HTK := Lib.hid (take_is hs o.n HOK.out.n HFB.out)
  clear hs
  go_wp2_with fail
  refine HTK.out.mono ?_
  rintro e X3 ⟨v, rfl, hs⟩
  have HB3 := Lib.hid hs.pop.objs
  clear hs l5 HTK
  unfold retV
  go_wp2_with fail
  go_ret2
  have hx : NIs w0 X3 a2 S (r.objs S (boxO xo o.cells OT :: L)) := ⟨HB3.out, HOK2.out⟩
  exact ⟨a2, r, S, rfl, rfl, Nat.le_succ _, rfl, ⟨hx.popR, ⟨⟨HV.out.like.1.trans HPP.out.1.symm, HV.out.like.2.trans HPP.out.2.symm⟩, nv_like ⟨HPP.out.1, HPP.out.2⟩ HV.out.nv, HV.out.qk, HV.out.core, HV.out.ind, HV.out.fits⟩⟩⟩
set_option maxRecDepth 100000 in
set_option maxHeartbeats 4000000 in
theorem does_x (h : Js w0 W a r S L) (o : OpN) (ho : o.Ok) (hn : S.n < 65536) (hk : o.kind < 0 ∨ 9 < o.kind) : Calls Tryz.prog 24 #[ptr a.nb, ptr r.nb, .agg o.cells] W fun e W' =>
    ∃ (a' : Ad) (r' : Rd) (S' : Ns), e = .returned (.tuple #[ptr a'.nb, .bool true]) ∧ r'.nb = r.nb ∧ S'.n ≤ S.n + 1 ∧ S'.c = S.c ∧ Js w0 W' a' r' S' L := by
  have HOK := Lib.hid ho
  have hj := h.n.allocR o.cells OT
  have HV := Lib.hid h.v
  obtain ⟨xo, hxo⟩ : ∃ x, W.heap.size = x := ⟨_, rfl⟩
  obtain ⟨V, hV⟩ : ∃ V, W.alloc (.cells o.cells OT) = V := ⟨_, rfl⟩
  rw [hxo, hV] at hj
  have p0 : V.cell? ⟨xo, 0, none⟩ = some (.int .i64 o.kind) := ((hj.sep.box 17 rfl).cell 0).trans (o.get0)
  have HJ := Lib.hid hj
  clear h hj ho
  have q0 : (o.kind == 0) = false := by simp; omega
  have q1 : (o.kind == 1) = false := by simp; omega
  have q2 : (o.kind == 2) = false := by simp; omega
  have q3 : (o.kind == 3) = false := by simp; omega
  have q4 : (o.kind == 4) = false := by simp; omega
  have q5 : (o.kind == 5) = false := by simp; omega
  have q6 : (o.kind == 6) = false := by simp; omega
  have q7 : (o.kind == 7) = false := by simp; omega
  have q8 : (o.kind == 8) = false := by simp; omega
  have q9 : (o.kind == 9) = false := by simp; omega
  obtain ⟨kk, hkk⟩ : ∃ x, o.kind = x := ⟨_, rfl⟩
  rw [hkk] at p0 q0 q1 q2 q3 q4 q5 q6 q7 q8 q9
  clear hkk hk
  go_enter Tryz.func24, Tryz.ntmps24
  go_upto_region 1 with fail
  clear hxo hV
  go_wp2_with fail
  go_ret2
  exact ⟨a, r, S, rfl, rfl, Nat.le_succ _, rfl, ⟨HJ.out.popR, HV.out⟩⟩
theorem does_is (h : Js w0 W a r S L) (o : OpN) (ho : o.Ok) (hn : S.n < 65536) : Calls Tryz.prog 24 #[ptr a.nb, ptr r.nb, .agg o.cells] W fun e W' =>
    ∃ (a' : Ad) (r' : Rd) (S' : Ns), e = .returned (.tuple #[ptr a'.nb, .bool true]) ∧ r'.nb = r.nb ∧ S'.n ≤ S.n + 1 ∧ S'.c = S.c ∧ Js w0 W' a' r' S' L := by
  by_cases k0 : o.kind = 0
  · exact does_0 h o ho hn k0
  by_cases k1 : o.kind = 1
  · exact does_1 h o ho hn k1
  by_cases k2 : o.kind = 2
  · exact does_2 h o ho hn k2
  by_cases k3 : o.kind = 3
  · exact does_3 h o ho hn k3
  by_cases k4 : o.kind = 4
  · exact does_4 h o ho hn k4
  by_cases k5 : o.kind = 5
  · exact does_5 h o ho hn k5
  by_cases k6 : o.kind = 6
  · exact does_6 h o ho hn k6
  by_cases k7 : o.kind = 7
  · exact does_7 h o ho hn k7
  by_cases k8 : o.kind = 8
  · exact does_8 h o ho hn k8
  by_cases k9 : o.kind = 9
  · exact does_9 h o ho hn k9
  exact does_x h o ho hn (by omega)
end
end Go.Proofs.YtjgeflbhmhmjdaaGreat.NR
