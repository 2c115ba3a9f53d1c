/- A core's side: loads, stores. -/
import Derived.Test.YtjgeflbhmhmjdaaGreatNearG
import Derived.Test.YtjgeflbhmhmjdaaGreatNearH
set_option linter.unusedSimpArgs false
set_option linter.unusedVariables false
namespace Go.Proofs.YtjgeflbhmhmjdaaGreat.NR
open Go.RowKit
open BU (IsU words)
open PL (Cfg CC CV May)
open KA (Kp CIs OkA LT UT KT)
open DL (DS CD stampE)
attribute [local go_sem] Oper.semAt_some
attribute [local go_sem ↓] TNot.ld_eq TNot.st_eq TNot.al_eq TNot.bx_eq TBlk.ld_eq TBlk.st_eq TBlk.al_eq TBlk.bx_eq TLin.ld_eq TLin.st_eq TLin.al_eq TLin.bx_eq bdN_eq bsN_eq bdL_eq
attribute [local go_sem] TNot.al_run TNot.bx_run TBlk.al_run TBlk.bx_run TLin.al_run TLin.bx_run
def wordZ (D : Array Value) (w : Int) : Int := match D[w.toNat]? with | some (.int _ z) => z | _ => 0
theorem wordZ_get {D : Array Value} (h : IsU D) {w : Int} (h0 : 0 ≤ w) (h1 : w < 16) : D[w.toNat]? = some (.int .u32 (wordZ D w)) := by
  obtain ⟨d, hd⟩ := KA.isU_get h (k := w.toNat) (by omega)
  unfold wordZ
  rw [hd]
def markS (S : Ns) (b : Int) (r q : Bool) : Ns := if 0 < S.d.depth then { S with n := S.n + 1, f := MK.putF S.data S.f b r q } else S
def loadE (p : Kp) (S : Ns) (b w : Int) : Int := if (p.place S.A b).isSome then (if 0 ≤ w ∧ w < 16 then 0 else 5) else 4
def loadX (p : Kp) (S : Ns) (b w : Int) : Int := if loadE p S b w = 0 then wordZ (p.fnd S.A b).D w else 0
def loadS (p : Kp) (S : Ns) (b w : Int) : Ns := if loadE p S b w = 0 then markS { S with M := p.useM S.A S.M b } b true false else S
section
variable {w0 W W' V : World} {a : Ad} {S : Ns} {L : List Obj}
set_option maxRecDepth 100000 in
set_option maxHeartbeats 1000000 in
theorem load_is (h : NIs w0 W a S L) (hm : S.n < 65536) (b w : Int) (hb : MM.fit b) : Calls Tryz.prog 16 #[ptr a.nb, .int .i64 b, .int .i64 w] W fun e W' =>
    e = .returned (.tuple #[.int .u32 (loadX a.p S b w), .int .i64 (loadE a.p S b w)]) ∧ NIs w0 W' a (loadS a.p S b w) L := by
  have c9 : W.cell? ⟨a.nb, 9, none⟩ = some (ptr a.p.kb) := h.hd (by decide)
  have HF := Lib.hid (KA.find_is h.cache b)
  have hlO := KA.fnd_ok (p := a.p) h.ok.okA b
  have HLN := Lib.hid (Ln.Ok.isN hlO.isU)
  have HH := Lib.hid h
  have HE := Lib.hid (show loadE a.p S b w = if (a.p.place S.A b).isSome then (if 0 ≤ w ∧ w < 16 then 0 else 5) else 4 from rfl)
  have HX := Lib.hid (show loadX a.p S b w = if loadE a.p S b w = 0 then wordZ (a.p.fnd S.A b).D w else 0 from rfl)
  have HS := Lib.hid (show loadS a.p S b w = if loadE a.p S b w = 0 then markS { S with M := a.p.useM S.A S.M b } b true false else S from rfl)
  have HW := Lib.hid (fun (h0 : 0 ≤ w) (h1 : w < 16) => wordZ_get hlO.isU h0 h1)
  have HB := Lib.hid hb
  have HM := Lib.hid hm
  clear h hlO hb hm
  generalize loadE a.p S b w = le at *
  generalize loadX a.p S b w = lx at *
  generalize loadS a.p S b w = ls at *
  generalize a.p.fnd S.A b = l at *
  go_enter Tryz.func16, Tryz.ntmps16
  go_wp2_with fail
  refine HF.out.mono ?_
  rintro e W2 ⟨rfl, hu⟩
  have s1 := TLin.st_new HLN.out W2
  have HH2 := Lib.hid ((HH.out.upd0 hu).alloc l.cells LT)
  clear hu HH HF
  generalize hy : (a.p.place S.A b).isSome = y at HE ⊢
  clear hy c9
  cases y
  · have e4 : le = 4 := by rw [HE.out]; rfl
    subst e4
    have ex : lx = 0 := by rw [HX.out]; rfl
    subst ex
    have es : ls = S := by rw [HS.out]; rfl
    go_wp2_with fail
    go_ret2
    rw [es]
    exact ⟨rfl, HH2.out.pop⟩
  · by_cases hw : 0 ≤ w ∧ w < 16
    · have e0 : le = 0 := by rw [HE.out]; simp [hw]
      subst e0
      have ex : lx = wordZ l.D w := by rw [HX.out]; rfl
      subst ex
      have es : ls = markS { S with M := a.p.useM S.A S.M b } b true false := by rw [HS.out]; rfl
      subst es
      obtain ⟨hw0, hw1⟩ := hw
      have c9 : (W2.alloc (.cells l.cells LT)).cell? ⟨a.nb, 9, none⟩ = some (ptr a.p.kb) := HH2.out.hd (by decide)
      have HUS := Lib.hid (cuse_is HH2.out b)
      have HWV := Lib.hid (HW.out hw0 hw1)
      clear HH2 HE HX HS
      go_wp2_with fail
      refine HUS.out.mono ?_
      rintro e W3 ⟨rfl, hN3⟩
      have c12 : W3.cell? ⟨a.nb, 12, none⟩ = some (ptr a.db) := hN3.hd (by decide)
      have HD := Lib.hid (DL.depth_any a.db S.c.nest S.d W3 hN3.deal)
      have HN3 := Lib.hid hN3
      clear hN3 HUS s1 c9
      go_wp2_with fail
      refine HD.out.mono ?_
      rintro e W4 ⟨rfl, rfl⟩
      obtain ⟨wn, rfl⟩ : ∃ wn : Nat, w = wn := ⟨w.toNat, by omega⟩
      have hwn : wn < 16 := by omega
      by_cases hd : 0 < S.d.depth
      · have em : markS { S with M := a.p.useM S.A S.M b } b true false = { S with M := a.p.useM S.A S.M b, n := S.n + 1, f := MK.putF S.data S.f b true false } := if_pos hd
        have HEM := Lib.hid em
        have HMR := Lib.hid (mread_is HN3.out HM.out b HB.out)
        have c11 : W3.cell? ⟨a.nb, 11, none⟩ = some (ptr a.xk) := HN3.out.hd (by decide)
        clear em
        go_wp2_with fail
        refine HMR.out.mono ?_
        rintro e W5 ⟨rfl, hN5⟩
        have cw := (hN5.lb.cell (2 + wn)).trans ((l.getD wn).trans HWV.out)
        have HN5 := Lib.hid hN5
        clear hN5 HMR c11
        go_wp2_with fail
        go_ret2
        rw [HEM.out]
        exact ⟨rfl, HN5.out.pop⟩
      · have em : markS { S with M := a.p.useM S.A S.M b } b true false = { S with M := a.p.useM S.A S.M b } := if_neg hd
        have HEM := Lib.hid em
        have cw := (HN3.out.lb.cell (2 + wn)).trans ((l.getD wn).trans HWV.out)
        clear em
        go_wp2_with fail
        go_ret2
        rw [HEM.out]
        exact ⟨rfl, HN3.out.pop⟩
    · have e5 : le = 5 := by rw [HE.out]; simp [hw]
      subst e5
      have ex : lx = 0 := by rw [HX.out]; rfl
      subst ex
      have es : ls = S := by rw [HS.out]; rfl
      by_cases h0 : w < 0
      · go_wp2_with fail
        go_ret2
        rw [es]
        exact ⟨rfl, HH2.out.pop⟩
      · have h1 : 16 ≤ w := by omega
        go_wp2_with fail
        go_ret2
        rw [es]
        exact ⟨rfl, HH2.out.pop⟩
def storeX (p : Kp) (S : Ns) (b w : Int) : Int := if p.wrE S.A b w = 0 then wordZ (p.fnd S.A b).D w else 0
def wroteS (p : Kp) (S : Ns) (b w z : Int) : Ns := { S with A := p.wrA S.A b w z, M := p.wrM S.A S.M b w }
def storeS (p : Kp) (S : Ns) (b w z : Int) : Ns := if p.wrE S.A b w = 0 then markS (wroteS p S b w z) b false true else wroteS p S b w z
theorem wrE_word {p : Kp} {A : Nat → Ln} {b w : Int} (h : p.wrE A b w = 0) : 0 ≤ w ∧ w < 16 := by
  unfold KA.Kp.wrE at h
  cases hp : p.place A b with
  | none => rw [hp] at h; simp at h
  | some i =>
    rw [hp] at h
    simp only at h
    by_cases hm : KA.mayW w = true
    · unfold KA.mayW at hm; simpa using hm
    · rw [if_neg hm] at h; simp at h
set_option maxRecDepth 100000 in
set_option maxHeartbeats 1000000 in
theorem store_is (h : NIs w0 W a S L) (hm : S.n < 65536) (b w z : Int) (hb : MM.fit b) : Calls Tryz.prog 12 #[ptr a.nb, .int .i64 b, .int .i64 w, .int .u32 z] W fun e W' =>
    e = .returned (.tuple #[.int .u32 (storeX a.p S b w), .int .i64 (a.p.wrE S.A b w)]) ∧ NIs w0 W' a (storeS a.p S b w z) L := by
  have c9 : W.cell? ⟨a.nb, 9, none⟩ = some (ptr a.p.kb) := h.hd (by decide)
  have HF := Lib.hid (KA.find_is h.cache b)
  have hlO := KA.fnd_ok (p := a.p) h.ok.okA b
  have HLN := Lib.hid (Ln.Ok.isN hlO.isU)
  have HH := Lib.hid h
  have HX := Lib.hid (show storeX a.p S b w = if a.p.wrE S.A b w = 0 then wordZ (a.p.fnd S.A b).D w else 0 from rfl)
  have HS := Lib.hid (show storeS a.p S b w z = if a.p.wrE S.A b w = 0 then markS (wroteS a.p S b w z) b false true else wroteS a.p S b w z from rfl)
  have HW := Lib.hid (fun (h0 : 0 ≤ w) (h1 : w < 16) => wordZ_get hlO.isU h0 h1)
  have HWE := Lib.hid (fun h => wrE_word (p := a.p) (A := S.A) (b := b) (w := w) h)
  have HB := Lib.hid hb
  have HM := Lib.hid hm
  have HWR := Lib.hid (fun X (L' : List Obj) (hx : NIs w0 X a S L') => (show Calls Tryz.prog 40 #[ptr a.p.kb, .int .i64 b, .int .i64 w, .int .u32 z] X fun e W' => e = .returned (.int .i64 (a.p.wrE S.A b w)) ∧ NIs w0 W' a (wroteS a.p S b w z) L' from cwrite_is hx b w z))
  have EH := Lib.hid (show (wroteS a.p S b w z).head a = S.head a from rfl)
  have ED := Lib.hid (show (wroteS a.p S b w z).d = S.d from rfl)
  have EC := Lib.hid (show (wroteS a.p S b w z).c = S.c from rfl)
  have EN := Lib.hid (show (wroteS a.p S b w z).n = S.n from rfl)
  clear h hlO hb hm
  generalize wroteS a.p S b w z = S1 at *
  generalize a.p.wrE S.A b w = le at *
  generalize storeX a.p S b w = lx at *
  generalize storeS a.p S b w z = ls at *
  generalize a.p.fnd S.A b = l at *
  generalize (a.p.place S.A b).isSome = y at *
  go_enter Tryz.func12, Tryz.ntmps12
  go_wp2_with fail
  refine HF.out.mono ?_
  rintro e W2 ⟨rfl, hu⟩
  have s1 := TLin.st_new HLN.out W2
  have HH2 := Lib.hid ((HH.out.upd0 hu).alloc l.cells LT)
  clear hu HH HF c9
  have c9 : (W2.alloc (.cells l.cells LT)).cell? ⟨a.nb, 9, none⟩ = some (ptr a.p.kb) := HH2.out.hd (by decide)
  have HWC := Lib.hid (HWR.out _ _ HH2.out)
  clear HH2 HWR
  go_wp2_with fail
  refine HWC.out.mono ?_
  rintro e W3 ⟨rfl, hN3⟩
  have HN3 := Lib.hid hN3
  clear hN3 HWC c9 s1
  by_cases h0 : le = 0
  · have ew : 0 ≤ w ∧ w < 16 := HWE.out h0
    subst h0
    obtain ⟨hw0, hw1⟩ := ew
    have HWV := Lib.hid (HW.out hw0 hw1)
    have EX : Hid (lx = wordZ l.D w) := Lib.hid (HX.out.trans (if_pos rfl))
    have ES : Hid (ls = markS S1 b false true) := Lib.hid (HS.out.trans (if_pos rfl))
    have c12 : W3.cell? ⟨a.nb, 12, none⟩ = some (ptr a.db) := (HN3.out.hd (by decide)).trans (show (S1.head a)[12]? = some (ptr a.db) by rw [EH.out]; rfl)
    have HD := Lib.hid (DL.depth_any a.db S1.c.nest S1.d W3 HN3.out.deal)
    clear HX HS HW HWE
    go_wp2_with fail
    refine HD.out.mono ?_
    rintro e W4 ⟨rfl, rfl⟩
    obtain ⟨wn, rfl⟩ : ∃ wn : Nat, w = wn := ⟨w.toNat, by omega⟩
    have hwn : wn < 16 := by omega
    by_cases hd : 0 < S1.d.depth
    · have em : markS S1 b false true = { S1 with n := S1.n + 1, f := MK.putF S1.data S1.f b false true } := if_pos hd
      have HEM := Lib.hid em
      have HMR := Lib.hid (mwrite_is HN3.out (by rw [EN.out]; exact HM.out) b HB.out)
      have c11 : W3.cell? ⟨a.nb, 11, none⟩ = some (ptr a.xk) := (HN3.out.hd (by decide)).trans (show (S1.head a)[11]? = some (ptr a.xk) by rw [EH.out]; rfl)
      clear em
      go_wp2_with fail
      refine HMR.out.mono ?_
      rintro e W5 ⟨rfl, hN5⟩
      have cw := (hN5.lb.cell (2 + wn)).trans ((l.getD wn).trans HWV.out)
      have HN5 := Lib.hid hN5
      clear hN5 HMR c11
      go_wp2_with fail
      go_ret2
      rw [ES.out, HEM.out, EX.out]
      exact ⟨rfl, HN5.out.pop⟩
    · have em : markS S1 b false true = S1 := if_neg hd
      have HEM := Lib.hid em
      have cw := (HN3.out.lb.cell (2 + wn)).trans ((l.getD wn).trans HWV.out)
      clear em
      go_wp2_with fail
      go_ret2
      rw [ES.out, HEM.out, EX.out]
      exact ⟨rfl, HN3.out.pop⟩
  · have EX : Hid (lx = 0) := Lib.hid (HX.out.trans (if_neg h0))
    have ES : Hid (ls = S1) := Lib.hid (HS.out.trans (if_neg h0))
    have hb0 : (le != 0) = true := by simp [h0]
    clear h0 HX HS
    go_wp2_with fail
    go_ret2
    rw [ES.out, EX.out]
    exact ⟨rfl, HN3.out.pop⟩
end
end Go.Proofs.YtjgeflbhmhmjdaaGreat.NR
namespace Go.Proofs.YtjgeflbhmhmjdaaGreat.NR
open Go.RowKit
open BU (IsU words)
open PL (Cfg CC CV May)
open KA (Kp CIs OkA LT UT KT)
open DL (DS CD stampE)
attribute [local go_sem] Oper.semAt_some
attribute [local go_sem ↓] TNot.ld_eq TNot.st_eq TNot.al_eq TNot.bx_eq TBlk.ld_eq TBlk.st_eq TBlk.al_eq TBlk.bx_eq TLin.ld_eq TLin.st_eq TLin.al_eq TLin.bx_eq bdN_eq bsN_eq bdL_eq
attribute [local go_sem] TNot.al_run TNot.bx_run TBlk.al_run TBlk.bx_run TLin.al_run TLin.bx_run
structure Tk where
  out : List Nt
  g : Bool
  e : Int
  S : Ns
def askedR (p : Kp) (S : Ns) (n : Nt) : Tk := if DL.askedB S.d (meetsB S n) then ⟨[refuseN S n], false, 0, askedS1 S n⟩ else ⟨[ackN2 p (askedS1 S n) n], false, 0, askedS2 p (askedS1 S n) n⟩
def dataR (p : Kp) (S : Ns) (n : Nt) : Tk := ⟨dataO p S n, false, dataE p S n, dataS p S n⟩
def nackR (S : Ns) (n : Nt) : Tk := ⟨[], nackG S n, nackE S n, nackS S n⟩
def backR (S : Ns) (n : Nt) : Tk := ⟨[], false, backE S n, { S with zs := BK.dropS S.zs n.blk }⟩
def takeR (p : Kp) (S : Ns) (n : Nt) : Tk := if fitsB S n then (if n.kind = 6 then dataR p S n else if n.kind = 7 then nackR S n else if n.kind = 8 then backR S n else askedR p S n) else ⟨[], false, 2, S⟩
abbrev Ends (w0 : World) (a : Ad) (t : Tk) (L : List Obj) (e : Ending) (W' : World) : Prop := ∃ v, e = .returned (retV v t.g t.e) ∧ NIs w0 W' a t.S (outO v t.out :: L)
section
variable {w0 W W' V : World} {a : Ad} {S : Ns} {L : List Obj}
theorem asked_is (h : NIs w0 W a S L) (n : Nt) (hn : n.Ok) (hb : MM.fit n.blk) : Calls Tryz.prog 55 #[ptr a.nb, .agg n.cells] W (Ends w0 a (askedR a.p S n) L) := by
  unfold askedR
  cases hc : DL.askedB S.d (meetsB S n)
  · exact asked_yes h n hn hb hc
  · exact asked_no h n hn hb hc
set_option maxRecDepth 100000 in
set_option maxHeartbeats 1000000 in
theorem take_is (h : NIs w0 W a S L) (n : Nt) (hn : n.Ok) (hb : MM.fit n.blk) : Calls Tryz.prog 17 #[ptr a.nb, .agg n.cells] W (Ends w0 a (takeR a.p S n) L) := by
  have hnN := Nt.Ok.isN hn.isU
  have h1 := h.alloc n.cells NT
  obtain ⟨V, hV⟩ : ∃ V, W.alloc (.cells n.cells NT) = V := ⟨_, rfl⟩
  rw [hV] at h1
  have HV := Lib.hid hV
  have l3 : ∀ X, Upd NoF V X → (TNot.ld (.pointer (some ⟨W.heap.size, 0, none⟩))).run Tryz.prog X = .ok (.agg n.cells) X := fun X hX => TNot.ld_at hnN (h1.upd0 hX).lb.whole
  have c0 : ∀ X, Upd NoF V X → X.cell? ⟨W.heap.size, 0, none⟩ = some (.int .u8 n.kind) := fun X hX => ((h1.upd0 hX).lb.cell 0).trans n.get0
  have HL := Lib.hid l3
  have HC0 := Lib.hid c0
  have HFI := Lib.hid (fits_is h1 n hn)
  have HA := Lib.hid (fun X (hX : Upd NoF V X) => asked_is (h1.upd0 hX).pop n hn hb)
  have HD := Lib.hid (fun X (hX : Upd NoF V X) => (show Calls Tryz.prog 56 #[ptr a.nb, .agg n.cells] X (Ends w0 a (dataR a.p S n) L) from data_is (h1.upd0 hX).pop n hn))
  have HK := Lib.hid (fun X (hX : Upd NoF V X) => (show Calls Tryz.prog 57 #[ptr a.nb, .agg n.cells] X (Ends w0 a (nackR S n) L) from (nack_is (h1.upd0 hX).pop n hn).mono fun e W' ⟨he, hs⟩ => ⟨nilV, he, hs.outNil⟩))
  have HB := Lib.hid (fun X (hX : Upd NoF V X) => (show Calls Tryz.prog 58 #[ptr a.nb, .agg n.cells] X (Ends w0 a (backR S n) L) from (nback_is (h1.upd0 hX).pop n hn).mono fun e W' ⟨he, hs⟩ => ⟨nilV, he, hs.outNil⟩))
  have HH := Lib.hid h1
  have l0 := l3 V (Upd.refl _ _)
  have HT := Lib.hid (show takeR a.p S n = if fitsB S n then (if n.kind = 6 then dataR a.p S n else if n.kind = 7 then nackR S n else if n.kind = 8 then backR S n else askedR a.p S n) else ⟨[], false, 2, S⟩ from rfl)
  clear h h1 hn hnN hb hV l3 c0
  generalize takeR a.p S n = tk at *
  cases hf : fitsB S n
  · rw [hf] at HFI HT
    clear hf
    have ht : Hid (tk = ⟨[], false, 2, S⟩) := Lib.hid HT.out
    go_enter Tryz.func17, Tryz.ntmps17
    go_upto_region 1 with fail
    rw [HV.out]
    clear HT
    go_wp2_with fail
    refine HFI.out.mono ?_
    rintro e W2 ⟨rfl, hu⟩
    have HU := Lib.hid hu
    clear hu
    go_wp2_with fail
    go_ret3
    rw [ht.out]
    exact ⟨nilV, rfl, (HH.out.upd0 HU.out).pop.outNil⟩
  · rw [hf] at HFI HT
    clear hf
    have HT6 := Lib.hid (fun (k : n.kind = 6) => (show tk = dataR a.p S n by rw [HT.out]; simp [k]))
    have HT7 := Lib.hid (fun (k : n.kind = 7) => (show tk = nackR S n by rw [HT.out]; simp [k]))
    have HT8 := Lib.hid (fun (k : n.kind = 8) => (show tk = backR S n by rw [HT.out]; simp [k]))
    have HT0 := Lib.hid (fun (k6 : ¬ n.kind = 6) (k7 : ¬ n.kind = 7) (k8 : ¬ n.kind = 8) => (show tk = askedR a.p S n by rw [HT.out]; simp [k6, k7, k8]))
    clear HT
    go_enter Tryz.func17, Tryz.ntmps17
    go_upto_region 1 with fail
    rw [HV.out]
    go_wp2_with fail
    refine HFI.out.mono ?_
    rintro e W2 ⟨rfl, hu⟩
    have l2 := HL.out _ hu
    have c2 := HC0.out _ hu
    have HU := Lib.hid hu
    clear hu l0
    by_cases k6 : n.kind = 6
    · have hc := HD.out _ HU.out
      rw [← HT6.out k6] at hc
      rw [k6] at c2
      have HCC := Lib.hid hc
      clear hc k6 HA HD HK HB HT6 HT7 HT8 HT0
      go_wp2_with fail
      refine HCC.out.mono ?_
      rintro e W3 ⟨v, rfl, hN3⟩
      unfold retV
      go_wp2_with fail
      go_ret3
      exact ⟨v, rfl, hN3⟩
    · by_cases k7 : n.kind = 7
      · have hc := HK.out _ HU.out
        rw [← HT7.out k7] at hc
        rw [k7] at c2
        have HCC := Lib.hid hc
        clear hc k6 k7 HA HD HK HB HT6 HT7 HT8 HT0
        go_wp2_with fail
        refine HCC.out.mono ?_
        rintro e W3 ⟨v, rfl, hN3⟩
        unfold retV
        go_wp2_with fail
        go_ret3
        exact ⟨v, rfl, hN3⟩
      · by_cases k8 : n.kind = 8
        · have hc := HB.out _ HU.out
          rw [← HT8.out k8] at hc
          rw [k8] at c2
          have HCC := Lib.hid hc
          clear hc k6 k7 k8 HA HD HK HB HT6 HT7 HT8 HT0
          go_wp2_with fail
          refine HCC.out.mono ?_
          rintro e W3 ⟨v, rfl, hN3⟩
          unfold retV
          go_wp2_with fail
          go_ret3
          exact ⟨v, rfl, hN3⟩
        · have hc := HA.out _ HU.out
          rw [← HT0.out k6 k7 k8] at hc
          have b6 : (n.kind == 6) = false := by simp [k6]
          have b7 : (n.kind == 7) = false := by simp [k7]
          have b8 : (n.kind == 8) = false := by simp [k8]
          have HCC := Lib.hid hc
          clear hc k6 k7 k8 HA HD HK HB HT6 HT7 HT8 HT0
          go_wp2_with fail
          refine HCC.out.mono ?_
          rintro e W3 ⟨v, rfl, hN3⟩
          unfold retV
          go_wp2_with fail
          go_ret3
          exact ⟨v, rfl, hN3⟩
end
end Go.Proofs.YtjgeflbhmhmjdaaGreat.NR
