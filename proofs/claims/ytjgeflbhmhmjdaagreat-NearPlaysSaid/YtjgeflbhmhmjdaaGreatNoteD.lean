/- Package note: May. -/
import Derived.Test.YtjgeflbhmhmjdaaGreatNoteC
import Derived.Test.YtjgeflbhmhmjdaaGreatGen
import Derived.Deep.RegionHeld3
import Derived.Test.YtjgeflbhmhmjdaaGreatCacheH
import Derived.Test.YtjgeflbhmhmjdaaGreatBacksC
import Derived.Test.YtjgeflbhmhmjdaaGreatMarkS
import Derived.Test.YtjgeflbhmhmjdaaGreatDealBegin
import Derived.Test.YtjgeflbhmhmjdaaGreatDealOps
import Derived.Deep.CutBlock
set_option linter.unusedSimpArgs false
set_option linter.unusedVariables false
namespace Go.Proofs.YtjgeflbhmhmjdaaGreat.NC
open Go.RowKit
open BU (IsU words)
attribute [local go_sem] Oper.semAt_some
attribute [local go_sem ↓] TNot.ld_eq TNot.st_eq TNot.al_eq TNot.bx_eq
attribute [local go_sem] TNot.al_run TNot.bx_run
set_option maxRecDepth 100000 in
theorem may_any (n : Nt) (hn : n.Ok) (w : World) : Calls Tryz.prog 130 #[.agg n.cells] w fun e w' => e = .returned (.bool (MayN n)) ∧ Upd NoF w w' := by
  have HK := kind_any n.kind
  by_cases hk : 1 ≤ n.kind ∧ n.kind ≤ 11
  · by_cases hb : 0 ≤ n.blk ∧ n.blk ≤ 255
    · have hf := finN_may (n := n) (by simp [kindB, hk.1, hk.2]) hb hn
      rw [← hf]
      have hu : usesN n.kind = 3 ∨ usesN n.kind = 41 ∨ usesN n.kind = 2 ∨ usesN n.kind = 12 ∨ usesN n.kind = 0 ∨ usesN n.kind = 17 ∨ usesN n.kind = 1 := by
        unfold usesN; split; · simp
        split; · simp
        split; · simp
        split; · simp
        split; · simp
        split <;> simp
      rcases hu with hu | hu | hu | hu | hu | hu | hu
      · rw [hu]; exact may_3 n hn.isU hk hb hu w
      · rw [hu]; exact may_41 n hn.isU hk hb hu w
      · rw [hu]; exact may_2 n hn.isU hk hb hu w
      · rw [hu]; exact may_12 n hn.isU hk hb hu w
      · rw [hu]; exact may_0 n hn.isU hk hb hu w
      · rw [hu]; exact may_17 n hn.isU hk hb hu w
      · rw [hu]; exact may_1 n hn.isU hk hb hu w
    · have hf : MayN n = false := by unfold MayN; rw [show (decide (0 ≤ n.blk) && decide (n.blk ≤ 255)) = false by simp; omega]; simp
      have hkb : kindB n.kind = true := by simp [kindB, hk.1, hk.2]
      rw [hkb] at HK
      rw [hf]
      have e0 := n.get0; have e3 := n.get3
      have HKh := Lib.hid HK
      have HU := Lib.hid (Upd.alloc NoF w (.cells n.cells 37))
      have f3 : (w.alloc (.cells n.cells 37)).cell? ⟨w.heap.size, 3, none⟩ = some (.int .i64 n.blk) := ((Blk.new w n.cells _).cell 3).trans n.get3
      clear HK hf hkb hk
      by_cases h0 : n.blk < 0
      · have g0 : decide (n.blk < 0) = true := by simp; omega
        go_enter Tryz.func130, Tryz.ntmps130
        go_wp2_with fail
        refine (HKh.out _).mono ?_
        rintro e w2 ⟨rfl, rfl⟩
        go_wp2
        go_ret
        exact ⟨rfl, HU.out⟩
      · have g0 : decide (n.blk < 0) = false := by simp; omega
        have g1 : decide (256 ≤ n.blk) = true := by simp; omega
        go_enter Tryz.func130, Tryz.ntmps130
        go_wp2_with fail
        refine (HKh.out _).mono ?_
        rintro e w2 ⟨rfl, rfl⟩
        go_wp2
        go_ret
        exact ⟨rfl, HU.out⟩
  · have hkb : kindB n.kind = false := by unfold kindB; by_cases h1 : 1 ≤ n.kind <;> simp_all <;> omega
    have hf : MayN n = false := by unfold MayN; rw [hkb]; simp
    rw [hkb] at HK
    rw [hf]
    have e0 := n.get0
    have HKh := Lib.hid HK
    have HU := Lib.hid (Upd.alloc NoF w (.cells n.cells 37))
    clear HK hf hkb hk
    go_enter Tryz.func130, Tryz.ntmps130
    go_wp2_with fail
    refine (HKh.out _).mono ?_
    rintro e w2 ⟨rfl, rfl⟩
    go_wp2
    go_ret
    exact ⟨rfl, HU.out⟩
set_option maxRecDepth 100000 in
theorem May_any (n : Nt) (hn : n.Ok) (w : World) : Calls Tryz.prog 95 #[.agg n.cells] w fun e w' => e = .returned (.int .i64 (if MayN n then 0 else 2)) ∧ Upd NoF w w' := by
  have HM := Lib.hid (may_any n hn (w.alloc (.cells n.cells 37)))
  have l1 := TNot.ld_new (Nt.Ok.isN hn.isU) w
  have HU := Lib.hid (Upd.alloc NoF w (.cells n.cells 37))
  cases hm : MayN n
  · rw [hm] at HM
    go_enter Tryz.func95, Tryz.ntmps95
    go_wp2_with fail
    refine (HM.out).mono ?_
    rintro e w2 ⟨rfl, hu⟩
    have HU2 := Lib.hid (HU.out.trans hu (fun _ _ h => h))
    clear hu
    go_wp2
    go_ret
    exact ⟨rfl, HU2.out⟩
  · rw [hm] at HM
    go_enter Tryz.func95, Tryz.ntmps95
    go_wp2_with fail
    refine (HM.out).mono ?_
    rintro e w2 ⟨rfl, hu⟩
    have HU2 := Lib.hid (HU.out.trans hu (fun _ _ h => h))
    clear hu
    go_wp2
    go_ret
    exact ⟨rfl, HU2.out⟩
end Go.Proofs.YtjgeflbhmhmjdaaGreat.NC
namespace Go.Proofs.YtjgeflbhmhmjdaaGreat
/- Short names for the rules that put a slot's value in its place. -/
theorem rn1 {α : Type} {l : List α} {i : Nat} {a : α} : l.toArray.setIfInBounds i a = (l.set i a).toArray := by simp
theorem rn2 {α : Type} {x : α} {xs : List α} {a : α} : (x :: xs).set 0 a = a :: xs := rfl
theorem rn3 {α : Type} {x : α} {xs : List α} {n : Nat} {a : α} : (x :: xs).set (n + 1) a = x :: xs.set n a := rfl
theorem rn4 {α : Type} {xs : List α} {i : Nat} (h : i < xs.toArray.size) : xs.toArray[i] = xs[i]'(by simpa using h) := rfl
theorem rn5 {α : Type} {a : α} {xs : List α} {i : Nat} (h : i + 1 < (a :: xs).length) : (a :: xs)[i + 1] = xs[i]'(Nat.lt_of_succ_lt_succ h) := rfl
theorem rn6 {α : Type} {a : α} {xs : List α} (h : 0 < (a :: xs).length) : (a :: xs)[0] = a := rfl
theorem rns {α : Type} : (∀ {l : List α} {i : Nat} {a : α}, l.toArray.setIfInBounds i a = (l.set i a).toArray) ∧ (∀ {x : α} {xs : List α} {a : α}, (x :: xs).set 0 a = a :: xs) ∧ (∀ {x : α} {xs : List α} {n : Nat} {a : α}, (x :: xs).set (n + 1) a = x :: xs.set n a) ∧ (∀ {xs : List α} {i : Nat} (h : i < xs.toArray.size), xs.toArray[i] = xs[i]'(by simpa using h)) ∧
  (∀ {a : α} {xs : List α} {i : Nat} (h : i + 1 < (a :: xs).length), (a :: xs)[i + 1] = xs[i]'(Nat.lt_of_succ_lt_succ h)) ∧ ∀ {a : α} {xs : List α} (h : 0 < (a :: xs).length), (a :: xs)[0] = a := ⟨rn1, rn2, rn3, rn4, rn5, rn6⟩
section
variable {P : Program} {ops : Array Oper} {Q : Exit → Act → World → Prop} {md : Region.Mode} {S : World → Prop}
theorem reg_off {i : Nat} {oi : Oper} {fuel : Nat} {listed : Array Bool} {a : Act} {w : World} (hi : ops[i]? = some oi)
    (hs : Region.noSelect ops = true) (hf : Region.free md ops listed i = true) (hr : (Region.ready md ops listed).contains i = true)
    (hQ : ∀ c a w, Q (.panic c) (a.put oi.dst undef) w → Q (.panic c) a w) (hw : Region.wanted oi (yielded ops a.tmps) = false) (hS : S w)
    (h : wpAnyH P md ops Q S fuel (listed.setIfInBounds i true) (a.put oi.dst undef) w) : wpAnyH P md ops Q S (fuel + 1) listed a w :=
  wpAnyH_take hi hs hf hr hQ (.inr ⟨hw, rfl⟩) hS h
theorem rgn (i : Nat) {oi : Oper} {v : Value} {fuel : Nat} {listed : Array Bool} {a : Act} {w : World} (hS : S w)
    (hy : ∀ w, S w → (execOp a.eval oi).run P w = .ok (.value v) w)
    (h : wpAnyH P md ops Q S fuel (listed.setIfInBounds i true) (a.put oi.dst v) w) (hi : ops[i]? = some oi := by rfl)
    (hs : Region.noSelect ops = true := by kernel_rfl) (hf : Region.free md ops listed i = true := by kernel_rfl) (hr : (Region.ready md ops listed).contains i = true := by kernel_rfl)
    (hQ : ∀ c a w, Q (.panic c) (a.put oi.dst v) w → Q (.panic c) a w := by exact fun _ _ _ h => h) (hw : Region.wanted oi (yielded ops a.tmps) = true := by kernel_rfl) : wpAnyH P md ops Q S (fuel + 1) listed a w :=
  wpAnyH_take hi hs hf hr hQ (.inl ⟨hw, hy⟩) hS h
theorem reg_step {i : Nat} {o : Oper} {fuel : Nat} {listed : Array Bool} {a : Act} {w : World} (hr : Region.ready md ops listed = [i]) (ho : ops[i]? = some o) (hw : Region.wanted o (yielded ops a.tmps) = true)
    (h : ∀ K' : Act → World → Prop, Shut (∀ a w, S w → (S w → wpAnyH P md ops Q S fuel (listed.setIfInBounds i true) a w) → K' a w) → Oper.wp P o a w K' Q) : wpAnyH P md ops Q S (fuel + 1) listed a w :=
  wpAnyH_ready hr (by simp) (AllReadyH.cons ho (fun K hK => by rw [if_pos hw]; exact h K hK) AllReadyH.nil)
theorem reg_two {i j : Nat} {o o' : Oper} {fuel : Nat} {listed : Array Bool} {a : Act} {w : World} (hr : Region.ready md ops listed = [i, j]) (ho : ops[i]? = some o) (ho' : ops[j]? = some o') (hw : Region.wanted o (yielded ops a.tmps) = true) (hw' : Region.wanted o' (yielded ops a.tmps) = true)
    (h : ∀ K' : Act → World → Prop, Shut (∀ a w, S w → (S w → wpAnyH P md ops Q S fuel (listed.setIfInBounds i true) a w) → K' a w) → Oper.wp P o a w K' Q)
    (h' : ∀ K' : Act → World → Prop, Shut (∀ a w, S w → (S w → wpAnyH P md ops Q S fuel (listed.setIfInBounds j true) a w) → K' a w) → Oper.wp P o' a w K' Q) : wpAnyH P md ops Q S (fuel + 1) listed a w :=
  wpAnyH_ready hr (by simp) (AllReadyH.cons ho (fun K hK => by rw [if_pos hw]; exact h K hK) (AllReadyH.cons ho' (fun K hK => by rw [if_pos hw']; exact h' K hK) AllReadyH.nil))
end
end Go.Proofs.YtjgeflbhmhmjdaaGreat
namespace Go.Proofs.YtjgeflbhmhmjdaaGreat
theorem Sep.pickN {G : Nat → Prop} {w0 W : World} {L : List Obj} {Φ : Obj} (h : Sep G w0 W L) (i : Nat) (hi : L[i]? = some Φ) : Sep G w0 W (Φ :: L.eraseIdx i) := by
  obtain ⟨F, h1, h2, h3, _⟩ := h.own.at i hi h.newM
  exact ⟨h.upd, F, h1, h2, h3⟩
end Go.Proofs.YtjgeflbhmhmjdaaGreat
namespace Go.Proofs.YtjgeflbhmhmjdaaGreat.NR
open Go.RowKit
open BU (IsU words)
open PL (Cfg CC CV May)
open KA (Kp CIs OkA LT UT KT)
open DL (DS CD stampE)
abbrev ptr (b : Nat) : Value := .pointer (some ⟨b, 0, none⟩)
abbrev NrT : TypeId := 88
abbrev NT : TypeId := 37
abbrev DT : TypeId := 120
structure Ad where
  p : Kp
  nb : Nat
  bb : Nat
  xk : Nat
  mb : Nat
  db : Nat
structure Ns where
  c : Cfg
  core : Int
  A : Nat → Ln
  M : Nat → Int
  zs : List BK.Bk
  n : Nat
  f : Int → Bool × Bool
  d : DS
  q : Nt
  wa : Bool
def Ns.data (S : Ns) : Int := S.c.blocks - S.c.cores * S.c.logs
def Ns.head (S : Ns) (a : Ad) : Array Value := #[.int .i64 S.c.cores, .int .i64 S.c.sets, .int .i64 S.c.ways, .int .i64 S.c.blocks, .int .i64 S.c.logs, .int .i64 S.c.backs, .int .i64 S.c.nest, .int .i64 S.c.tries,
  .int .i64 S.core, ptr a.p.kb, ptr a.bb, ptr a.xk, ptr a.db]
def Ns.cells (S : Ns) (a : Ad) : Array Value := S.head a ++ (S.q.cells ++ #[.bool S.wa])
abbrev Ad.objs (a : Ad) (S : Ns) (L : List Obj) : List Obj :=
  boxO a.p.kb (a.p.cells S.c) KT :: boxO a.p.gl (lnRow (a.p.s * a.p.y) S.A ++ a.p.tl) LT :: boxO a.p.gm (rowU a.p.s S.M ++ a.p.tm) UT :: boxO a.nb (S.cells a) NrT ::
    BK.Bo a.bb S.data S.zs S.c.backs :: MK.marksO a.xk a.mb S.data :: MK.mmO a.mb S.n S.f :: boxO a.db (CD S.c.nest S.d) DT :: L
structure Ns.Ok (S : Ns) (p : Kp) : Prop where
  fits : p.Fits S.c
  okA : OkA S.A S.M
  inv : BK.Inv S.data S.c.backs S.zs
  allU : ∀ z ∈ S.zs, IsU z.D
  dep : 0 ≤ S.d.depth ∧ S.d.depth ≤ S.c.nest
  ca : 0 ≤ S.d.ca ∧ S.d.ca ≤ 4294967295
  st : 0 ≤ S.d.st ∧ S.d.st ≤ 18446744073709551615
  q : S.q.Ok
structure NIs (w0 W : World) (a : Ad) (S : Ns) (L : List Obj) : Prop where
  sep : Sep NoF w0 W (a.objs S L)
  ok : S.Ok a.p
section
variable {w0 W W' : World} {a : Ad} {S : Ns} {L : List Obj}
theorem Ns.Ok.may {p : Kp} (h : S.Ok p) : May S.c := h.fits.may
theorem Ns.Ok.dataR {p : Kp} (h : S.Ok p) : 1 ≤ S.data ∧ S.data ≤ 256 ∧ 1 ≤ S.c.backs ∧ S.c.backs ≤ 4 ∧ 1 ≤ S.c.nest ∧ S.c.nest ≤ 8 := by
  have h := h.may
  unfold Ns.data
  obtain ⟨h1, h2, h3, h4, h5, h6, h7, h8, h9⟩ := h
  have hp : 0 ≤ S.c.cores * S.c.logs := Int.mul_nonneg (by omega) (by omega)
  refine ⟨?_, ?_, ?_⟩ <;> omega
theorem Ns.Ok.dep8 {p : Kp} (h : S.Ok p) : 0 ≤ S.d.depth ∧ S.d.depth ≤ 8 := by
  have := h.dataR; have := h.dep; omega
theorem head_size (S : Ns) (a : Ad) : (S.head a).size = 13 := rfl
theorem cells_head (S : Ns) (a : Ad) {i : Nat} (hi : i < 13) : (S.cells a)[i]? = (S.head a)[i]? := by
  unfold Ns.cells
  rw [Array.getElem?_append_left (by rw [head_size]; exact hi)]
theorem cells_q (S : Ns) (a : Ad) {i : Nat} {v : Value} (h : S.q.cells[i]? = some v) : (S.cells a)[13 + i]? = some v := by
  unfold Ns.cells
  have hl := (Array.getElem?_eq_some_iff.1 h).1
  rw [Array.getElem?_append_right (by rw [head_size]; omega), head_size, show 13 + i - 13 = i by omega, Array.getElem?_append_left hl]
  exact h
theorem cells_wa {p : Kp} (h : S.Ok p) (a : Ad) : (S.cells a)[37]? = some (.bool S.wa) := by
  unfold Ns.cells
  have hq := (Nt.Ok.isN h.q.isU).1
  rw [Array.getElem?_append_right (by rw [head_size]; omega), head_size, Array.getElem?_append_right (by omega), hq]
  rfl
theorem NIs.box (h : NIs w0 W a S L) : Blk W a.nb (S.cells a) NrT := h.sep.box 3 rfl
theorem NIs.deal (h : NIs w0 W a S L) : Blk W a.db (CD S.c.nest S.d) DT := h.sep.box 7 rfl
theorem NIs.upd0 (h : NIs w0 W a S L) (hu : Upd NoF W W') : NIs w0 W' a S L := ⟨h.sep.upd0 hu, h.ok⟩
theorem NIs.hd (h : NIs w0 W a S L) {i : Nat} (hi : i < 13) : W.cell? ⟨a.nb, i, none⟩ = (S.head a)[i]? := (h.box.cell i).trans (cells_head S a hi)
theorem NIs.qc (h : NIs w0 W a S L) {i : Nat} {v : Value} (hv : S.q.cells[i]? = some v) : W.cell? ⟨a.nb, 13 + i, none⟩ = some v := (h.box.cell _).trans (cells_q S a hv)
theorem NIs.wc (h : NIs w0 W a S L) : W.cell? ⟨a.nb, 37, none⟩ = some (.bool S.wa) := (h.box.cell _).trans (cells_wa h.ok a)
theorem NIs.ldq (h : NIs w0 W a S L) : (TNot.ld (.pointer (some ⟨a.nb, 13, none⟩))).run Tryz.prog W = .ok (.agg S.q.cells) W :=
  TNot.ld_at (Nt.Ok.isN h.ok.q.isU) (h.box.range 13 _ (fun j v hv => cells_q S a (by simpa using hv)))
theorem NIs.cache (h : NIs w0 W a S L) : CIs KT w0 W a.p S.c S.A S.M (boxO a.nb (S.cells a) NrT :: BK.Bo a.bb S.data S.zs S.c.backs :: MK.marksO a.xk a.mb S.data :: MK.mmO a.mb S.n S.f :: boxO a.db (CD S.c.nest S.d) DT :: L) := ⟨h.sep, h.ok.fits, h.ok.okA⟩
theorem NIs.ofCache (h : NIs w0 W a S L) {A : Nat → Ln} {M : Nat → Int} (hc : CIs KT w0 W' a.p S.c A M (boxO a.nb (S.cells a) NrT :: BK.Bo a.bb S.data S.zs S.c.backs :: MK.marksO a.xk a.mb S.data :: MK.mmO a.mb S.n S.f :: boxO a.db (CD S.c.nest S.d) DT :: L)) :
    NIs w0 W' a { S with A := A, M := M } L := ⟨hc.sep, ⟨hc.fits, hc.ok, h.ok.inv, h.ok.allU, h.ok.dep, h.ok.ca, h.ok.st, h.ok.q⟩⟩
abbrev Ad.rest (a : Ad) (S : Ns) (L : List Obj) : List Obj :=
  boxO a.p.kb (a.p.cells S.c) KT :: boxO a.p.gl (lnRow (a.p.s * a.p.y) S.A ++ a.p.tl) LT :: boxO a.p.gm (rowU a.p.s S.M ++ a.p.tm) UT :: boxO a.nb (S.cells a) NrT :: BK.Bo a.bb S.data S.zs S.c.backs :: boxO a.db (CD S.c.nest S.d) DT :: L
theorem NIs.marks (h : NIs w0 W a S L) : MK.KIs w0 W a.xk a.mb S.n S.data S.f (a.rest S L) := ⟨(h.sep.pickN 6 rfl).pickN 6 rfl⟩
theorem NIs.ofMarks (h : NIs w0 W a S L) {n : Nat} {f : Int → Bool × Bool} (hc : MK.KIs w0 W' a.xk a.mb n S.data f (a.rest S L)) : NIs w0 W' a { S with n := n, f := f } L :=
  ⟨(hc.sep.sink 6).sink 6, ⟨h.ok.fits, h.ok.okA, h.ok.inv, h.ok.allU, h.ok.dep, h.ok.ca, h.ok.st, h.ok.q⟩⟩
end
end Go.Proofs.YtjgeflbhmhmjdaaGreat.NR
namespace Go.Proofs.YtjgeflbhmhmjdaaGreat.NR
open Go.RowKit
open BU (IsU words)
open PL (Cfg CC CV May)
open KA (Kp CIs OkA LT UT KT)
open DL (DS CD stampE)
attribute [local go_sem] Oper.semAt_some
abbrev sl (g n c : Nat) : Value := .slice (some ⟨g, 0, none⟩) n c
theorem fill_step {place : Nat → Option (Nat × Nat)} {cells : Array Value} {i off size : Nat} {v : Value} {rest : List (Nat × Value)} (hp : place i = some (off, size)) (hs : v.cells.size = size) (hl : off + size ≤ cells.size) :
    Instr.fill place cells ((i, v) :: rest) = Instr.fill place (setMany cells off v.cells.toList) rest := by
  have e := fold_zip off v.cells.toList 0 cells
  simp only [Nat.add_zero] at e
  have e2 : v.cells.zipIdx.foldl (fun cs (p : Value × Nat) => cs.setIfInBounds (off + p.2) p.1) cells = setMany cells off v.cells.toList := by
    rw [← Array.foldl_toList, Array.toList_zipIdx]
    exact e
  have h2 : ¬ (v.cells.size ≠ size ∨ off + v.cells.size > cells.size) := by rw [hs]; rintro (h | h); exact h rfl; omega
  have h3 : (decide (v.cells.size ≠ size) || decide (off + v.cells.size > cells.size)) = false := by simp; omega
  show (match place i with | none => none | some (off, size) => if (decide (v.cells.size ≠ size) || decide (off + v.cells.size > cells.size)) = true then none else Instr.fill place (v.cells.zipIdx.foldl (fun cs (p : Value × Nat) => cs.setIfInBounds (off + p.2) p.1) cells) rest) = _
  rw [hp]
  simp only [h3, Bool.false_eq_true, if_false]
  rw [e2]
theorem fill_nil {place : Nat → Option (Nat × Nat)} {cells : Array Value} : Instr.fill place cells [] = some cells := rfl
theorem setMany_tail {A B D : Array Value} {k : Nat} (hA : A.size = k) (h : D.size = B.size) : setMany (A ++ B) k D.toList = A ++ D := by
  subst hA
  apply Array.ext_getElem?
  intro j
  rw [get_setMany, Array.size_append, Array.length_toList, h]
  by_cases h1 : j < A.size
  · rw [if_neg (by omega), Array.getElem?_append_left h1, Array.getElem?_append_left h1]
  · by_cases h2 : j < A.size + B.size
    · rw [if_pos ⟨by omega, by omega, h2⟩, Array.getElem?_append_right (by omega), Array.getElem?_toList]
    · rw [if_neg (by omega), Array.getElem?_eq_none (by rw [Array.size_append]; omega), Array.getElem?_eq_none (by rw [Array.size_append]; omega)]
theorem setMany_front {A B D : Array Value} (h : D.size = A.size) : setMany (A ++ B) 0 D.toList = D ++ B := by
  apply Array.ext_getElem?
  intro j
  rw [get_setMany, Array.size_append, Array.length_toList, h]
  by_cases h1 : j < A.size
  · rw [if_pos ⟨by omega, by omega, by omega⟩, Array.getElem?_append_left (by omega), Array.getElem?_toList, Nat.sub_zero]
  · rw [if_neg (by omega), Array.getElem?_append_right (by omega), Array.getElem?_append_right (by omega), h]
def bdN (parts : Array (Nat × Value)) : Sem Value := Instr.build NT parts
theorem bdN_eq (parts : Array (Nat × Value)) : Instr.build NT parts = bdN parts := rfl
def bsN (parts : Array (Nat × Value)) : Sem Value := Instr.buildSlice 43 1 parts
theorem bsN_eq (parts : Array (Nat × Value)) : Instr.buildSlice 43 1 parts = bsN parts := rfl
theorem bsN_run {x : Array Value} (hx : x.size = 24) (w : World) : (bsN #[(0, .agg x)]).run Tryz.prog w = .ok (.slice (some ⟨w.heap.size, 0, none⟩) 1 1) (w.alloc (.cells x NT)) :=
  agg_bs Tryz.underlying43 TNot.infoZ TNot.size_Z (by decide) (by decide) hx w
theorem build_run {P : Program} {T : TypeId} {Z : Array Value} {fs : Array Field} {pl : List (Nat × Nat)} (hu : P.underlying T = some (.struct fs)) {n : Nat} (hz : (P.info? T).map (fun i => (i.zero, i.size)) = some (some (.agg Z), n))
    (hpl : ∀ w, (fs.mapM fun (f : Field) => do pure (f.offset, ← sizeOf f.type) : Sem (Array (Nat × Nat))).run P w = .ok pl.toArray w) (parts : Array (Nat × Value)) (cs : Array Value)
    (hf : Instr.fill (fun i => pl.toArray[i]?) Z parts.toList = some cs) (w : World) : (Instr.build T parts).run P w = .ok (.agg cs) w := by
  have h0 := agg_zero hz w
  unfold Instr.build
  simp only [Sem.run_bind, h0, Result.andThen_ok, run_underlying hu, hpl, Value.cells]
  rw [hf]
  rfl
set_option maxRecDepth 100000 in
theorem ntPl (w : World) : ((Tryz.prog.fieldsOf 37).mapM fun (f : Field) => do pure (f.offset, ← sizeOf f.type) : Sem (Array (Nat × Nat))).run Tryz.prog w = .ok #[(0, 1), (1, 1), (2, 1), (3, 1), (4, 1), (5, 1), (6, 1), (7, 1), (8, 16)] w := by
  have hf : (Tryz.prog.fieldsOf 37).toList = [{ name := "Kind", type := 5, offset := 0, embedded := false, tag := "", pkgPath := "", byteOffset := 0 },
        { name := "From", type := 3, offset := 1, embedded := false, tag := "", pkgPath := "", byteOffset := 8 },
        { name := "To", type := 3, offset := 2, embedded := false, tag := "", pkgPath := "", byteOffset := 16 },
        { name := "Block", type := 3, offset := 3, embedded := false, tag := "", pkgPath := "", byteOffset := 24 },
        { name := "Stamp", type := 31, offset := 4, embedded := false, tag := "", pkgPath := "", byteOffset := 32 },
        { name := "State", type := 32, offset := 5, embedded := false, tag := "", pkgPath := "", byteOffset := 40 },
        { name := "Has", type := 4, offset := 6, embedded := false, tag := "", pkgPath := "", byteOffset := 41 },
        { name := "Stick", type := 4, offset := 7, embedded := false, tag := "", pkgPath := "", byteOffset := 42 },
        { name := "Data", type := 35, offset := 8, embedded := false, tag := "", pkgPath := "", byteOffset := 44 }] := by kernel_rfl
  have e : Tryz.prog.fieldsOf 37 = (Tryz.prog.fieldsOf 37).toList.toArray := by simp
  rw [e, hf]
  simp [Tryz.sizeOf5, Tryz.sizeOf3, Tryz.sizeOf31, Tryz.sizeOf32, Tryz.sizeOf4, Tryz.sizeOf35]
def noteP (S : Ns) (k b : Int) : Nt := ⟨k, S.core, -1, b, 0, 0, false, false, TBlk.Z⟩
set_option maxRecDepth 100000 in
theorem bd_note (S : Ns) (k b : Int) (w : World) : (bdN #[(0, .int .u8 k), (1, .int .i64 S.core), (2, .int .i64 (-1)), (3, .int .i64 b)]).run Tryz.prog w = .ok (.agg (noteP S k b).cells) w := by
  refine build_run (pl := [(0, 1), (1, 1), (2, 1), (3, 1), (4, 1), (5, 1), (6, 1), (7, 1), (8, 16)]) Tryz.underlying37 TNot.infoZ ntPl _ _ ?_ w
  rw [fill_step (off := 0) (size := 1) rfl rfl (by (repeat rw [size_setMany]); decide), fill_step (off := 1) (size := 1) rfl rfl (by (repeat rw [size_setMany]); decide), fill_step (off := 2) (size := 1) rfl rfl (by (repeat rw [size_setMany]); decide), fill_step (off := 3) (size := 1) rfl rfl (by (repeat rw [size_setMany]); decide), fill_nil]
  exact congrArg some (by kernel_rfl)
theorem isUZ : IsU TBlk.Z := Nt.nil_ok.isU
theorem noteP_isU (S : Ns) (k b : Int) : IsU (noteP S k b).D := isUZ
theorem noteP_ok (S : Ns) (k b : Int) (h : 0 ≤ k ∧ k ≤ 255) : (noteP S k b).Ok := ⟨h, ⟨Int.le_refl 0, (by decide : (0 : Int) ≤ 18446744073709551615)⟩, ⟨Int.le_refl 0, (by decide : (0 : Int) ≤ 255)⟩, isUZ⟩
def outO (v : Value) (ns : List Nt) : Obj := rowO NT 24 v ns.length (rowsOf (ns.map Nt.cells)).flatten
theorem out_one {W : World} {F : Nat → Prop} {g : Nat} {n : Nt} (hn : n.cells.size = 24) (h : (boxO g n.cells NT).is W F) : (outO (sl g 1 1) [n]).is W F := by
  refine ⟨⟨by simp [rowsOf, hn], .inr ⟨g, 1, n.cells, rfl, h.1, Nat.le_refl _, by unfold maxLen; omega, by omega, by simp [rowsOf]; rw [List.take_of_length_le (by simp [hn])]⟩⟩, fun k hk => ?_⟩
  simp [Value.ownBlock] at hk
  subst hk; exact h.2
attribute [local go_sem ↓] TNot.ld_eq TNot.st_eq TNot.al_eq TNot.bx_eq TBlk.ld_eq TBlk.st_eq TBlk.al_eq TBlk.bx_eq TLin.ld_eq TLin.st_eq TLin.al_eq TLin.bx_eq bdN_eq bsN_eq
attribute [local go_sem] TNot.al_run TNot.bx_run TBlk.al_run TBlk.bx_run TLin.al_run TLin.bx_run
section
variable {w0 W W' : World} {a : Ad} {S : Ns} {L : List Obj}
theorem note_any (k b core : Int) (nb : Nat) (S : Ns) (hS : S.core = core) (W : World) (c8 : W.cell? ⟨nb, 8, none⟩ = some (.int .i64 core)) : Calls Tryz.prog 49 #[ptr nb, .int .u8 k, .int .i64 b] W fun e W' =>
    e = .returned (.agg (noteP S k b).cells) ∧ Upd NoF W W' := by
  subst hS
  have y := fun w => bd_note S k b w
  have hN := Nt.Ok.isN (noteP_isU S k b)
  generalize (noteP S k b).cells = x at *
  generalize S.core = core at *
  have s1 := TNot.st_new hN W
  have q1 := TNot.ldV_at hN (Blk.new W x NT).whole
  have HU := Lib.hid (Upd.alloc NoF W (.cells x NT))
  have c8' := (Upd.alloc NoF W (.cells TNot.Z NT)).cell c8 (fun h => h)
  generalize hX : W.alloc (.cells x NT) = X at *
  have HQ := Lib.hid q1
  clear q1 hX hN c8
  go_enter Tryz.func49, Tryz.ntmps49
  go_wp2
  have hv := HQ.out
  refine bodyPost_ret (v := .agg x) ?_ ?_ ?_
  · simp [results, Tryz.f49, asAddr, hv]
  · rfl
  exact ⟨rfl, HU.out⟩
end
end Go.Proofs.YtjgeflbhmhmjdaaGreat.NR
namespace Go.Proofs.YtjgeflbhmhmjdaaGreat.NR
open Go.RowKit
open BU (IsU words)
open PL (Cfg CC CV May)
open KA (Kp CIs OkA LT UT KT)
open DL (DS CD stampE)
attribute [local go_sem] Oper.semAt_some
attribute [local go_sem ↓] TNot.ld_eq TNot.st_eq TNot.al_eq TNot.bx_eq TBlk.ld_eq TBlk.st_eq TBlk.al_eq TBlk.bx_eq TLin.ld_eq TLin.st_eq TLin.al_eq TLin.bx_eq bdN_eq bsN_eq
attribute [local go_sem] TNot.al_run TNot.bx_run TBlk.al_run TBlk.bx_run TLin.al_run TLin.bx_run
abbrev BT : TypeId := 35
def bkD (zs : List BK.Bk) (b : Int) : Array Value := match BK.findB zs b with | some z => z.D | none => TBlk.Z
def bkL (zs : List BK.Bk) (b : Int) : Bool := match BK.findB zs b with | some z => z.live | none => false
def bkI (zs : List BK.Bk) (b : Int) : Bool := (BK.findB zs b).isSome
theorem findV_eq (zs : List BK.Bk) (b : Int) : BK.findV zs b = .tuple #[.agg (bkD zs b), .bool (bkL zs b), .bool (bkI zs b)] := by
  unfold BK.findV bkD bkL bkI
  cases BK.findB zs b <;> rfl
theorem bkD_isU {zs : List BK.Bk} (h : ∀ z ∈ zs, IsU z.D) (b : Int) : IsU (bkD zs b) := by
  unfold bkD
  cases hf : BK.findB zs b with
  | none => exact isUZ
  | some z => obtain ⟨i, _, h2, _⟩ := BK.find_of hf; exact h z (List.mem_of_getElem? h2)
theorem isU_N {D : Array Value} (h : IsU D) : IsN 16 D := ⟨h.1, fun u hu => by obtain ⟨z, rfl⟩ := h.2 u hu; rfl⟩
set_option maxRecDepth 100000 in
theorem bd_nil (w : World) : (bdN #[]).run Tryz.prog w = .ok (.agg Nt.nil.cells) w := by
  refine build_run (pl := [(0, 1), (1, 1), (2, 1), (3, 1), (4, 1), (5, 1), (6, 1), (7, 1), (8, 16)]) Tryz.underlying37 TNot.infoZ ntPl _ _ ?_ w
  rw [fill_nil]
  exact congrArg some (by kernel_rfl)
section
variable {w0 W W' : World} {a : Ad} {S : Ns} {L : List Obj}
theorem s_findN (h : NIs w0 W a S L) (b : Int) : Calls Tryz.prog 44 #[ptr a.bb, .int .i64 b] W fun e W' => e = .returned (.tuple #[.agg (bkD S.zs b), .bool (bkL S.zs b), .bool (bkI S.zs b)]) ∧ Upd NoF W W' := by
  obtain ⟨F, hF⟩ := h.sep.has 4 rfl
  rw [← findV_eq]
  unfold BK.findV
  cases hx : BK.findB S.zs b with
  | none => exact BK.find_no W F a.bb S.data S.zs S.c.backs b hF (BK.ix_none (BK.find_none_of hx)).1
  | some z =>
    obtain ⟨j, h1, h2, h3⟩ := BK.find_of hx
    exact BK.find_yes W F a.bb S.data S.zs S.c.backs b j z hF (BK.ix_some h1).1 h2
set_option maxRecDepth 100000 in
theorem line_is (h : NIs w0 W a S L) (b : Int) : Calls Tryz.prog 18 #[ptr a.nb, .int .i64 b] W fun e W' => e = .returned (.tuple #[.agg (a.p.fnd S.A b).cells, .bool (a.p.place S.A b).isSome]) ∧ Upd NoF W W' := by
  have hu1 := Upd.alloc NoF W (.cells TLin.Z LT)
  have h1 := h.upd0 hu1
  have c9 : (W.alloc (.cells TLin.Z LT)).cell? ⟨a.nb, 9, none⟩ = some (ptr a.p.kb) := h1.hd (by decide)
  have HF := Lib.hid (KA.find_is h1.cache b)
  have hN := Ln.Ok.isN (KA.fnd_ok (p := a.p) h.ok.okA b).isU
  have HQ := Lib.hid (Blk.new W TLin.Z LT)
  have HU1 := Lib.hid hu1
  have HN := Lib.hid hN
  clear h h1 hu1 hN
  generalize (a.p.fnd S.A b).cells = x at *
  generalize (a.p.place S.A b).isSome = y at *
  go_enter Tryz.func18, Tryz.ntmps18
  go_wp2_with fail
  refine HF.out.mono ?_
  rintro e W2 ⟨rfl, hu⟩
  obtain ⟨s1, q2⟩ := TLin.st_at TLin.isZ HN.out (HQ.out.upd hu (fun h => h))
  have HV := Lib.hid (TLin.ldV_at HN.out q2.whole)
  have HU := Lib.hid ((HU1.out.trans hu (fun _ _ h => h)).trans (upd_setCells (b := W.heap.size) x.toList 0 _) (fun i hi h => by have : i = W.heap.size := h; omega))
  clear q2 hu
  go_wp2
  have hv := HV.out
  refine bodyPost_ret (v := .tuple #[.agg x, .bool y]) ?_ ?_ ?_
  · simp [results, Tryz.f18, asAddr, hv]
  · rfl
  exact ⟨rfl, HU.out⟩
set_option maxRecDepth 100000 in
theorem back_is (h : NIs w0 W a S L) (b : Int) : Calls Tryz.prog 20 #[ptr a.nb, .int .i64 b] W fun e W' => e = .returned (.tuple #[.agg (bkD S.zs b), .bool (bkL S.zs b), .bool (bkI S.zs b)]) ∧ Upd NoF W W' := by
  have hu1 := Upd.alloc NoF W (.cells TBlk.Z BT)
  have h1 := h.upd0 hu1
  have c10 : (W.alloc (.cells TBlk.Z BT)).cell? ⟨a.nb, 10, none⟩ = some (ptr a.bb) := h1.hd (by decide)
  have HF := Lib.hid (s_findN h1 b)
  have hN := isU_N (bkD_isU h.ok.allU b)
  have HQ := Lib.hid (Blk.new W TBlk.Z BT)
  have HU1 := Lib.hid hu1
  have HN := Lib.hid hN
  clear h h1 hu1 hN
  generalize bkD S.zs b = x at *
  generalize bkL S.zs b = y at *
  generalize bkI S.zs b = z at *
  go_enter Tryz.func20, Tryz.ntmps20
  go_wp2_with fail
  refine HF.out.mono ?_
  rintro e W2 ⟨rfl, hu⟩
  obtain ⟨s1, q2⟩ := TBlk.st_at TBlk.isZ HN.out (HQ.out.upd hu (fun h => h))
  have HV := Lib.hid (TBlk.ldV_at HN.out q2.whole)
  have HU := Lib.hid ((HU1.out.trans hu (fun _ _ h => h)).trans (upd_setCells (b := W.heap.size) x.toList 0 _) (fun i hi h => by have : i = W.heap.size := h; omega))
  clear q2 hu
  go_wp2
  have hv := HV.out
  refine bodyPost_ret (v := .tuple #[.agg x, .bool y, .bool z]) ?_ ?_ ?_
  · simp [results, Tryz.f20, asAddr, hv]
  · rfl
  exact ⟨rfl, HU.out⟩
theorem deal_is (h : NIs w0 W a S L) : Calls Tryz.prog 21 #[ptr a.nb] W fun e W' => e = .returned (ptr a.db) ∧ W = W' := by
  have c12 : W.cell? ⟨a.nb, 12, none⟩ = some (ptr a.db) := h.hd (by decide)
  clear h
  go_enter Tryz.func21, Tryz.ntmps21
  go_wp2
  go_ret
  exact ⟨rfl, rfl⟩
theorem marked_is (h : NIs w0 W a S L) (b : Int) (hb : MM.fit b) : Calls Tryz.prog 31 #[ptr a.nb, .int .i64 b] W fun e W' => e = .returned (.tuple #[.bool (S.f b).1, .bool (S.f b).2]) ∧ Upd NoF W W' := by
  have c11 : W.cell? ⟨a.nb, 11, none⟩ = some (ptr a.xk) := h.hd (by decide)
  have HF := Lib.hid (MK.has_any h.marks b hb)
  clear h hb
  go_enter Tryz.func31, Tryz.ntmps31
  go_wp2_with fail
  refine HF.out.mono ?_
  rintro e W2 ⟨rfl, hu⟩
  have HU := Lib.hid hu
  clear hu
  go_wp2
  go_ret2
  exact ⟨rfl, HU.out⟩
theorem clear_is (h : NIs w0 W a S L) : Calls Tryz.prog 15 #[ptr a.nb] W fun e W' => e = .returned (.tuple #[]) ∧ NIs w0 W' a { S with n := 0, f := MK.none2 } L := by
  have c11 : W.cell? ⟨a.nb, 11, none⟩ = some (ptr a.xk) := h.hd (by decide)
  have HF := Lib.hid (MK.clear_any h.marks)
  have HN := Lib.hid h
  clear h
  go_enter Tryz.func15, Tryz.ntmps15
  go_wp2_with fail
  refine HF.out.mono ?_
  rintro e W2 ⟨rfl, hu⟩
  have HU := Lib.hid (HN.out.ofMarks hu)
  clear hu
  go_wp2
  go_end0
  exact ⟨rfl, HU.out⟩
def awaitsB (S : Ns) (b : Int) : Bool := S.wa && (S.q.blk == b)
theorem awaits_is (h : NIs w0 W a S L) (b : Int) : Calls Tryz.prog 100 #[ptr a.nb, .int .i64 b] W fun e W' => e = .returned (.bool (awaitsB S b)) ∧ W = W' := by
  have c37 : W.cell? ⟨a.nb, 37, none⟩ = some (.bool S.wa) := h.wc
  have c16 : W.cell? ⟨a.nb, 16, none⟩ = some (.int .i64 S.q.blk) := h.qc (i := 3) S.q.get3
  have e : awaitsB S b = (S.wa && (S.q.blk == b)) := rfl
  rw [e]
  clear h e
  generalize S.q.blk = qb at *
  cases hw : S.wa
  · rw [hw] at c37
    clear hw
    go_enter Tryz.func100, Tryz.ntmps100
    go_wp2
    go_ret
    exact ⟨rfl, rfl⟩
  · rw [hw] at c37
    clear hw
    go_enter Tryz.func100, Tryz.ntmps100
    go_wp2
    go_ret
    exact ⟨by simp, rfl⟩
set_option maxRecDepth 100000 in
theorem waits_is (h : NIs w0 W a S L) : Calls Tryz.prog 19 #[ptr a.nb] W fun e W' => e = .returned (.tuple #[.agg (if S.wa then S.q else Nt.nil).cells, .bool S.wa]) ∧ Upd NoF W W' := by
  have hu1 := Upd.alloc NoF W (.cells TNot.Z NT)
  have h1 := h.upd0 hu1
  have c37 : (W.alloc (.cells TNot.Z NT)).cell? ⟨a.nb, 37, none⟩ = some (.bool S.wa) := h1.wc
  have l13 := h1.ldq
  have hN : IsN 24 (if S.wa then S.q else Nt.nil).cells := by split; exact Nt.Ok.isN h.ok.q.isU; exact Nt.Ok.isN Nt.nil_ok.isU
  obtain ⟨s1, q2⟩ := TNot.st_at TNot.isZ hN (Blk.new W TNot.Z NT)
  have HV := Lib.hid (TNot.ldV_at hN q2.whole)
  have HU := Lib.hid (hu1.trans (upd_setCells (b := W.heap.size) (if S.wa then S.q else Nt.nil).cells.toList 0 _) (fun i hi h => by have : i = W.heap.size := h; omega))
  clear h h1 hu1 hN q2
  cases hw : S.wa
  · rw [hw] at c37 s1 HV HU
    simp only [Bool.false_eq_true, if_false] at s1 HV HU ⊢
    have y := fun w => bd_nil w
    generalize hX : (W.alloc (.cells TNot.Z NT)).setCells W.heap.size 0 Nt.nil.cells.toList = X at *
    generalize Nt.nil.cells = x at *
    clear hX hw l13
    go_enter Tryz.func19, Tryz.ntmps19
    go_wp2
    have hv := HV.out
    refine bodyPost_ret (v := .tuple #[.agg x, .bool false]) ?_ ?_ ?_
    · simp [results, Tryz.f19, asAddr, hv]
    · rfl
    exact ⟨rfl, HU.out⟩
  · rw [hw] at c37 s1 HV HU
    simp only [if_true] at s1 HV HU ⊢
    generalize S.q.cells = x at *
    generalize hX : (W.alloc (.cells TNot.Z NT)).setCells W.heap.size 0 x.toList = X at *
    clear hX hw
    go_enter Tryz.func19, Tryz.ntmps19
    go_wp2
    have hv := HV.out
    refine bodyPost_ret (v := .tuple #[.agg x, .bool true]) ?_ ?_ ?_
    · simp [results, Tryz.f19, asAddr, hv]
    · rfl
    exact ⟨rfl, HU.out⟩
end
end Go.Proofs.YtjgeflbhmhmjdaaGreat.NR
