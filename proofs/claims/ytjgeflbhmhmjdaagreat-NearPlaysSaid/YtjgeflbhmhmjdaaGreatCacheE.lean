/- The contracts of package cache: Put, Drop, Use, Turn, Write, Goes (printed by tools/mkcachee.py). -/
import Derived.Test.YtjgeflbhmhmjdaaGreatCacheD
set_option linter.unusedSimpArgs false
set_option linter.unusedVariables false
namespace Go.Proofs.YtjgeflbhmhmjdaaGreat.KA
open Go.RowKit
open BU (IsU words)
open PL (Cfg CC CV May)
attribute [local go_sem] Oper.semAt_some
attribute [local go_sem ↓] TLin.ld_eq TLin.st_eq TLin.al_eq TLin.bx_eq
attribute [local go_sem] TLin.al_run TLin.bx_run
section
variable {w0 W W' : World} {p : Kp} {T : TypeId} {c : Cfg} {A : Nat → Ln} {M : Nat → Int} {L : List Obj}
def Kp.used (p : Kp) (M : Nat → Int) (i : Nat) : Nat → Int := updM M (i / p.y) (useV (M (i / p.y)) p.y ((i % p.y : Nat) : Int))
theorem used_at {p : Kp} {M : Nat → Int} {q j : Nat} (hj : j < p.y) : p.used M (q * p.y + j) = updM M q (useV (M q) p.y j) := by
  unfold Kp.used
  have h1 : (q * p.y + j) / p.y = q := by rw [Nat.mul_comm, Nat.mul_add_div (by omega), Nat.div_eq_of_lt hj, Nat.add_zero]
  have h2 : (q * p.y + j) % p.y = j := by rw [Nat.mul_comm, Nat.mul_add_mod, Nat.mod_eq_of_lt hj]
  rw [h1, h2]
theorem used_is (h : CIs T w0 W p c A M L) (q : Nat) (hq : q < p.s) (j : Nat) (hj : j < p.y) : Calls Tryz.prog 85 #[ptr p.kb, .int .i64 q, .int .i64 j] W fun e W' =>
    e = .returned (.tuple #[]) ∧ CIs T w0 W' p c A (p.used M (q * p.y + j)) L ∧ KeepsRec W W' := by
  rw [used_at hj]
  exact use_is h q hq j hj
def Kp.fr (p : Kp) (A : Nat → Ln) (b : Int) : Int := firstW freeB A (p.set b * p.y) p.y
def Kp.slot (p : Kp) (A : Nat → Ln) (b : Int) : Option Nat := match p.place A b with | some i => some i | none => if p.fr A b < 0 then none else some (p.set b * p.y + (p.fr A b).toNat)
def mayX (x : Ln) : Bool := mayK x.blk && decide (1 ≤ x.st) && decide (x.st ≤ 3)
def Kp.putE (p : Kp) (A : Nat → Ln) (x : Ln) : Int := if mayX x then (match p.slot A x.blk with | none => 7 | some _ => 0) else 2
def Kp.putA (p : Kp) (A : Nat → Ln) (x : Ln) : Nat → Ln := if mayX x then (match p.slot A x.blk with | none => A | some i => updL A i x) else A
def Kp.putM (p : Kp) (A : Nat → Ln) (M : Nat → Int) (x : Ln) : Nat → Int := if mayX x then (match p.slot A x.blk with | none => M | some i => p.used M i) else M
theorem ways_free (h : CIs T w0 W p c A M L) (b : Int) : Calls Tryz.prog 90 #[p.ways (p.set b), .func (.func 91) #[] #[]] W fun e w' => e = .returned (.int .i64 (p.fr A b)) ∧ Upd NoF W w' := by
  have hrl := Kp.row_le (y := p.y) (h.fits.set_lt b)
  have hcl := h.fits.hcl
  exact free_way W p.gl (p.s * p.y) (p.set b * p.y) p.y (p.cl - p.set b * p.y) A p.tl h.ok.okA h.bl hrl (by omega) (by omega)
theorem find_later (h : CIs T w0 W p c A M L) {b : Int} (hm : mayK b = true) : Hid (∀ W1, Upd NoF W W1 → Calls Tryz.prog 84 #[ptr p.kb, .int .i64 b] W1 fun e W' =>
    e = .returned (.tuple #[.int .i64 (p.set b), p.ways (p.set b), .int .i64 (p.way A b)]) ∧ Upd NoF W1 W') := Lib.hid fun W1 hu => find_in (h.upd0 hu).bk (h.upd0 hu).bl h.fits h.ok.okA b (mayK_of hm)
theorem free_later (h : CIs T w0 W p c A M L) (b : Int) : Hid (∀ W1, Upd NoF W W1 → Calls Tryz.prog 90 #[p.ways (p.set b), .func (.func 91) #[] #[]] W1 fun e w' => e = .returned (.int .i64 (p.fr A b)) ∧ Upd NoF W1 w') :=
  Lib.hid fun W1 hu => ways_free (h.upd0 hu) b
theorem store_later (h : CIs T w0 W p c A M L) {q j : Nat} (hq : q < p.s) (hj : j < p.y) {x : Ln} (hx : x.Ok) : Hid (∀ W1, Upd NoF W W1 → (TLin.st (.pointer (some ⟨p.gl, q * p.y * 18 + j * 18, none⟩)) (.agg x.cells)).run Tryz.prog W1 = .ok () (W1.setCells p.gl (q * p.y * 18 + j * 18) x.cells.toList) ∧
    CIs T w0 (W1.setCells p.gl (q * p.y * 18 + j * 18) x.cells.toList) p c (updL A (q * p.y + j) x) M L ∧ KeepsRec W (W1.setCells p.gl (q * p.y * 18 + j * 18) x.cells.toList)) := Lib.hid fun W1 hu => by
  have hlt : q * p.y + j < p.s * p.y := by have := Kp.row_le (y := p.y) hq; omega
  rw [show q * p.y * 18 + j * 18 = (q * p.y + j) * 18 by omega]
  refine ⟨st_mid (Ln.Ok.isN hx.isU) (h.upd0 hu).bl (by rw [Array.size_append, lnRow_size]; omega), (h.upd0 hu).line hlt hx, ?_⟩
  exact ((hu.mono (G := fun _ => True) (fun _ _ _ => trivial)).trans (Upd.setCells _ _ _ _) (fun _ _ h => h)).others
theorem use_later {w1 : World} (h : CIs T w0 W p c A M L) (hk : KeepsRec w1 W) {q j : Nat} (hq : q < p.s) (hj : j < p.y) : Hid (Calls Tryz.prog 85 #[ptr p.kb, .int .i64 q, .int .i64 j] W fun e W' =>
    e = .returned (.tuple #[]) ∧ CIs T w0 W' p c A (p.used M (q * p.y + j)) L ∧ KeepsRec w1 W') := Lib.hid ((used_is h q hq j hj).mono fun e W' ⟨he, hc, ho⟩ => ⟨he, hc, hk.trans ho⟩)
set_option maxRecDepth 100000 in
set_option maxHeartbeats 1000000 in
theorem put_is (h : CIs T w0 W p c A M L) (x : Ln) (hx : x.Ok) : Calls Tryz.prog 101 #[ptr p.kb, .agg x.cells] W fun e W' =>
    e = .returned (.int .i64 (p.putE A x)) ∧ CIs T w0 W' p c (p.putA A x) (p.putM A M x) L ∧ KeepsRec W W' := by
  have hu1 := Upd.alloc NoF W (.cells x.cells LT)
  have h1 := h.upd0 hu1
  have q0 := Blk.new W x.cells LT
  have k1 := hu1.others
  obtain ⟨W1, hW1⟩ : ∃ W1, W.alloc (.cells x.cells LT) = W1 := ⟨_, rfl⟩
  rw [hW1] at h1 q0 hu1 k1
  have f0 : W1.cell? ⟨W.heap.size, 0, none⟩ = some (.int .i64 x.blk) := (q0.cell 0).trans x.get0
  have f1 : W1.cell? ⟨W.heap.size, 1, none⟩ = some (.int .u8 x.st) := (q0.cell 1).trans x.get1
  have HW := Lib.hid hW1; have HI := Lib.hid h1; have HK := Lib.hid k1
  have hxN := Ln.Ok.isN hx.isU
  have HL := Lib.hid (fun W2 (hu : Upd NoF W1 W2) => TLin.ld_at hxN ((q0.upd hu (fun h => h)).whole))
  have hst := hx.st
  have HM := Lib.hid (mayK_any x.blk W1)
  have HXO := Lib.hid hx
  clear h hu1 q0 hW1 k1 hxN hx
  cases hm : mayK x.blk
  · have e0 : mayX x = false := by unfold mayX; rw [hm]; rfl
    unfold Kp.putE Kp.putA Kp.putM
    simp only [e0, Bool.false_eq_true, if_false]
    rw [hm] at HM
    clear h1 hm e0
    go_enter Tryz.func101, Tryz.ntmps101
    go_upto_region 1 with fail
    rw [HW.out]
    go_wp2_with fail
    refine HM.out.mono ?_
    rintro e W2 ⟨rfl, rfl⟩
    go_wp2
    go_ret
    exact ⟨rfl, HI.out, HK.out⟩
  · by_cases clo : x.st < 1
    · have g1 : decide (x.st < 1) = true := by simp; omega
      have e0 : mayX x = false := by unfold mayX; rw [show decide (1 ≤ x.st) = false by simp; omega]; simp
      unfold Kp.putE Kp.putA Kp.putM
      simp only [e0, Bool.false_eq_true, if_false]
      rw [hm] at HM
      clear h1 hm e0 clo hst
      go_enter Tryz.func101, Tryz.ntmps101
      go_upto_region 1 with fail
      rw [HW.out]
      go_wp2_with fail
      refine HM.out.mono ?_
      rintro e W2 ⟨rfl, rfl⟩
      go_wp2
      go_ret
      exact ⟨rfl, HI.out, HK.out⟩
    · by_cases chi : 3 < x.st
      · have g1 : decide (x.st < 1) = false := by simp; omega
        have g2 : decide (3 < x.st) = true := by simp; omega
        have e0 : mayX x = false := by unfold mayX; rw [show decide (x.st ≤ 3) = false by simp; omega]; simp
        unfold Kp.putE Kp.putA Kp.putM
        simp only [e0, Bool.false_eq_true, if_false]
        rw [hm] at HM
        clear h1 hm e0 clo chi hst
        go_enter Tryz.func101, Tryz.ntmps101
        go_upto_region 1 with fail
        rw [HW.out]
        go_wp2_with fail
        refine HM.out.mono ?_
        rintro e W2 ⟨rfl, rfl⟩
        go_wp2
        go_ret
        exact ⟨rfl, HI.out, HK.out⟩
      · have g1 : decide (x.st < 1) = false := by simp; omega
        have g2 : decide (3 < x.st) = false := by simp; omega
        have e0 : mayX x = true := by unfold mayX; rw [hm]; simp; omega
        have hq := h1.fits.set_lt x.blk
        have HFI := find_later h1 hm
        have HFR := free_later h1 x.blk
        rw [hm] at HM
        unfold Kp.putE Kp.putA Kp.putM Kp.slot
        simp only [e0, if_true]
        clear e0 clo chi hst
        rcases find_cases p A x.blk with ⟨h9, -⟩ | ⟨-, hw, hp, -⟩ | ⟨j, -, hj, hw, hp, -⟩
        · rw [hm] at h9; cases h9
        · rw [hw] at HFI
          rw [hp]
          clear hw hp hm
          rcases firstW_cases freeB A (p.set x.blk * p.y) p.y with ⟨hf, -⟩ | ⟨j, hj, hf, -⟩
          · have hf : p.fr A x.blk = -1 := hf
            rw [hf] at HFR
            rw [hf]
            have HF := Lib.hid h1
            clear h1 hf hq
            have hgen := Lib.hid (rfl : p.ways (p.set x.blk) = p.ways (p.set x.blk))
            generalize p.ways (p.set x.blk) = v at *
            generalize p.set x.blk = q at *
            go_enter Tryz.func101, Tryz.ntmps101
            go_upto_region 1 with fail
            rw [HW.out]
            go_wp2_with fail
            refine HM.out.mono ?_
            rintro e W2 ⟨rfl, rfl⟩
            go_wp2_with fail
            refine (HFI.out W1 (Upd.refl _ _)).mono ?_
            rintro e W2 ⟨rfl, hu⟩
            have HU2 := Lib.hid hu
            clear hu
            go_wp2_with fail
            refine (HFR.out W2 HU2.out).mono ?_
            rintro e W3 ⟨rfl, hu⟩
            have HU2 := Lib.hid (HU2.out.trans hu (fun _ _ h => h))
            clear hu
            have HF2 := Lib.hid (And.intro (HF.out.upd0 HU2.out) (HK.out.trans HU2.out.others))
            go_wp2
            go_ret
            exact ⟨rfl, HF2.out⟩
          · have hf : p.fr A x.blk = j := hf
            rw [hf] at HFR
            have HST := store_later h1 hq hj HXO.out
            rw [hf]
            have e9 : ¬ ((j : Int) < 0) := by omega
            rw [if_neg e9]
            simp only [Int.toNat_natCast]
            clear h1 hf e9
            go_enter Tryz.func101, Tryz.ntmps101
            go_upto_region 1 with fail
            rw [HW.out]
            go_wp2_with fail
            refine HM.out.mono ?_
            rintro e W2 ⟨rfl, rfl⟩
            go_wp2_with fail
            refine (HFI.out W1 (Upd.refl _ _)).mono ?_
            rintro e W2 ⟨rfl, hu⟩
            have HU2 := Lib.hid hu
            clear hu
            go_wp2_with fail
            refine (HFR.out W2 HU2.out).mono ?_
            rintro e W3 ⟨rfl, hu⟩
            have HU2 := Lib.hid (HU2.out.trans hu (fun _ _ h => h))
            clear hu
            have l1 := HL.out _ HU2.out
            obtain ⟨s1, hc, hk⟩ := HST.out _ HU2.out
            have HC := Lib.hid (And.intro hc (HK.out.trans hk))
            have hj1 : (j : Int) < (p.y : Int) := by omega
            generalize hX : W3.setCells p.gl (p.set x.blk * p.y * 18 + j * 18) x.cells.toList = X at *
            have HUS := use_later HC.out.1 HC.out.2 hq hj
            clear hX hc hk hq hj
            unfold Kp.ways at *
            go_wp2_with fail
            refine HUS.out.mono ?_
            rintro e W4 ⟨rfl, hc, hk⟩
            have HD := Lib.hid (And.intro hc hk)
            clear hc hk HC HUS
            go_wp2
            go_ret
            exact ⟨rfl, HD.out⟩
        · rw [hw] at HFI
          rw [hp]
          have HST := store_later h1 hq hj HXO.out
          clear hw hp hm h1 HFR
          go_enter Tryz.func101, Tryz.ntmps101
          go_upto_region 1 with fail
          rw [HW.out]
          go_wp2_with fail
          refine HM.out.mono ?_
          rintro e W2 ⟨rfl, rfl⟩
          go_wp2_with fail
          refine (HFI.out W1 (Upd.refl _ _)).mono ?_
          rintro e W3 ⟨rfl, hu⟩
          have HU2 := Lib.hid hu
          clear hu
          have l1 := HL.out _ HU2.out
          obtain ⟨s1, hc, hk⟩ := HST.out _ HU2.out
          have HC := Lib.hid (And.intro hc (HK.out.trans hk))
          have hj1 : (j : Int) < (p.y : Int) := by omega
          generalize hX : W3.setCells p.gl (p.set x.blk * p.y * 18 + j * 18) x.cells.toList = X at *
          have HUS := use_later HC.out.1 HC.out.2 hq hj
          clear hX hc hk hq hj
          unfold Kp.ways at *
          go_wp2_with fail
          refine HUS.out.mono ?_
          rintro e W4 ⟨rfl, hc, hk⟩
          have HD := Lib.hid (And.intro hc hk)
          clear hc hk HC HUS
          go_wp2
          go_ret
          exact ⟨rfl, HD.out⟩
def Kp.drpA (p : Kp) (A : Nat → Ln) (b : Int) : Nat → Ln := match p.place A b with | none => A | some i => updL A i Ln.nil
set_option maxRecDepth 100000 in
theorem drop_is (h : CIs T w0 W p c A M L) (b : Int) : Calls Tryz.prog 50 #[ptr p.kb, .int .i64 b] W fun e W' =>
    e = .returned (.bool (p.place A b).isSome) ∧ CIs T w0 W' p c (p.drpA A b) M L ∧ KeepsRec W W' := by
  have HI := Lib.hid h
  unfold Kp.drpA
  have HFI := fun hm => find_later h (b := b) hm
  have HFO := fun hm => Lib.hid (find_out p.kb b (mayK_not hm) W)
  rcases find_cases p A b with ⟨hm, hp⟩ | ⟨hm, hw, hp, -⟩ | ⟨j, hm, hj, hw, hp, -⟩
  · have HFO := HFO hm
    clear HFI
    rw [hp]
    clear hp hm
    clear h
    go_enter Tryz.func50, Tryz.ntmps50
    go_wp2_with fail
    refine HFO.out.mono ?_
    rintro e W2 ⟨rfl, rfl⟩
    go_wp2
    go_ret
    exact ⟨rfl, HI.out, KeepsRec.refl _⟩
  · have HFI := HFI hm
    clear HFO
    rw [hw] at HFI
    rw [hp]
    clear hp hm hw
    clear h
    go_enter Tryz.func50, Tryz.ntmps50
    go_wp2_with fail
    refine (HFI.out W (Upd.refl _ _)).mono ?_
    rintro e W2 ⟨rfl, hu⟩
    have HU2 := Lib.hid hu
    clear hu
    have HF := Lib.hid (And.intro (HI.out.upd0 HU2.out) HU2.out.others)
    go_wp2
    go_ret
    exact ⟨rfl, HF.out⟩
  · have HFI := HFI hm
    clear HFO
    have hq := h.fits.set_lt b
    rw [hw] at HFI
    rw [hp]
    clear hp hm hw
    have HST := store_later h hq hj Ln.nil_ok
    rw [Ln.nil_cells, zlit] at HST
    have hj1 : (j : Int) < (p.y : Int) := by omega
    clear h hq hj
    unfold Kp.ways at *
    go_enter Tryz.func50, Tryz.ntmps50
    go_wp2_with fail
    refine (HFI.out W (Upd.refl _ _)).mono ?_
    rintro e W2 ⟨rfl, hu⟩
    have HU2 := Lib.hid hu
    clear hu
    obtain ⟨s1, hc, hk⟩ := HST.out _ HU2.out
    have HC := Lib.hid (And.intro hc hk)
    clear hc hk
    go_wp2
    go_ret
    exact ⟨rfl, HC.out⟩
def Kp.useM (p : Kp) (A : Nat → Ln) (M : Nat → Int) (b : Int) : Nat → Int := match p.place A b with | none => M | some i => p.used M i
set_option maxRecDepth 100000 in
theorem kUse_is (h : CIs T w0 W p c A M L) (b : Int) : Calls Tryz.prog 52 #[ptr p.kb, .int .i64 b] W fun e W' =>
    e = .returned (.bool (p.place A b).isSome) ∧ CIs T w0 W' p c A (p.useM A M b) L ∧ KeepsRec W W' := by
  have HI := Lib.hid h
  unfold Kp.useM
  have HFI := fun hm => find_later h (b := b) hm
  have HFO := fun hm => Lib.hid (find_out p.kb b (mayK_not hm) W)
  rcases find_cases p A b with ⟨hm, hp⟩ | ⟨hm, hw, hp, -⟩ | ⟨j, hm, hj, hw, hp, -⟩
  · have HFO := HFO hm
    clear HFI
    rw [hp]
    clear hp hm
    clear h
    go_enter Tryz.func52, Tryz.ntmps52
    go_wp2_with fail
    refine HFO.out.mono ?_
    rintro e W2 ⟨rfl, rfl⟩
    go_wp2
    go_ret
    exact ⟨rfl, HI.out, KeepsRec.refl _⟩
  · have HFI := HFI hm
    clear HFO
    rw [hw] at HFI
    rw [hp]
    clear hp hm hw
    clear h
    go_enter Tryz.func52, Tryz.ntmps52
    go_wp2_with fail
    refine (HFI.out W (Upd.refl _ _)).mono ?_
    rintro e W2 ⟨rfl, hu⟩
    have HU2 := Lib.hid hu
    clear hu
    have HF := Lib.hid (And.intro (HI.out.upd0 HU2.out) HU2.out.others)
    go_wp2
    go_ret
    exact ⟨rfl, HF.out⟩
  · have HFI := HFI hm
    clear HFO
    have hq := h.fits.set_lt b
    rw [hw] at HFI
    rw [hp]
    clear hp hm hw
    have hj1 : (j : Int) < (p.y : Int) := by omega
    clear h
    unfold Kp.ways at *
    go_enter Tryz.func52, Tryz.ntmps52
    go_wp2_with fail
    refine (HFI.out W (Upd.refl _ _)).mono ?_
    rintro e W2 ⟨rfl, hu⟩
    have HU2 := Lib.hid hu
    clear hu
    have HUS := use_later (HI.out.upd0 HU2.out) HU2.out.others hq hj
    clear hq hj
    go_wp2_with fail
    refine HUS.out.mono ?_
    rintro e W3 ⟨rfl, hc, hk⟩
    have HD := Lib.hid (And.intro hc hk)
    clear hc hk HUS
    go_wp2
    go_ret
    exact ⟨rfl, HD.out⟩
def maySt (s : Int) : Bool := decide (1 ≤ s) && decide (s ≤ 3)
def Kp.trnE (p : Kp) (A : Nat → Ln) (b s : Int) : Int := match p.place A b with | none => 4 | some _ => if maySt s then 0 else 2
def Kp.trnA (p : Kp) (A : Nat → Ln) (b s : Int) : Nat → Ln := match p.place A b with | none => A | some i => if maySt s then updL A i { A i with st := s } else A
theorem cells_st (x : Ln) (s : Int) : ({ x with st := s } : Ln).cells = x.cells.setIfInBounds 1 (.int .u8 s) := by
  unfold Ln.cells; rw [set_app (by simp)]; rfl
set_option maxRecDepth 100000 in
theorem turn_is (h : CIs T w0 W p c A M L) (b s : Int) (hs : 0 ≤ s ∧ s ≤ 255) : Calls Tryz.prog 99 #[ptr p.kb, .int .i64 b, .int .u8 s] W fun e W' =>
    e = .returned (.int .i64 (p.trnE A b s)) ∧ CIs T w0 W' p c (p.trnA A b s) M L ∧ KeepsRec W W' := by
  have HI := Lib.hid h
  unfold Kp.trnE Kp.trnA
  have HFI := fun hm => find_later h (b := b) hm
  have HFO := fun hm => Lib.hid (find_out p.kb b (mayK_not hm) W)
  rcases find_cases p A b with ⟨hm, hp⟩ | ⟨hm, hw, hp, -⟩ | ⟨j, hm, hj, hw, hp, -⟩
  · have HFO := HFO hm
    clear HFI
    rw [hp]
    clear hp hm
    clear h hs
    go_enter Tryz.func99, Tryz.ntmps99
    go_wp2_with fail
    refine HFO.out.mono ?_
    rintro e W2 ⟨rfl, rfl⟩
    go_wp2
    go_ret
    exact ⟨rfl, HI.out, KeepsRec.refl _⟩
  · have HFI := HFI hm
    clear HFO
    rw [hw] at HFI
    rw [hp]
    clear hp hm hw
    clear h hs
    go_enter Tryz.func99, Tryz.ntmps99
    go_wp2_with fail
    refine (HFI.out W (Upd.refl _ _)).mono ?_
    rintro e W2 ⟨rfl, hu⟩
    have HU2 := Lib.hid hu
    clear hu
    have HF := Lib.hid (And.intro (HI.out.upd0 HU2.out) HU2.out.others)
    go_wp2
    go_ret
    exact ⟨rfl, HF.out⟩
  · have HFI := HFI hm
    clear HFO
    have hq := h.fits.set_lt b
    rw [hw] at HFI
    rw [hp]
    clear hp hm hw
    have hlt := h.fits.idx_lt (b := b) hj
    have hj1 : (j : Int) < (p.y : Int) := by omega
    have hoff : (p.set b * p.y + j) * 18 + 1 = p.set b * p.y * 18 + j * 18 + 1 := by omega
    have HC := Lib.hid (fun W2 (hu : Upd NoF W W2) => (h.upd0 hu).cell hlt (x := { A (p.set b * p.y + j) with st := s }) ⟨hs, (h.ok.okA _).isU⟩ (by omega) (cells_st _ s))
    rw [hoff] at HC
    have HB := Lib.hid (fun W2 (hu : Upd NoF W W2) => And.intro (((h.upd0 hu).bl.cell _).trans ((lnX_get (h.ok.okA _).isU hlt (show 1 < 18 by omega)).trans (Ln.get1 _))) ((h.upd0 hu).bl.frozen ((p.set b * p.y + j) * 18 + 1)))
    rw [hoff] at HB
    clear h hq hlt hoff hj
    unfold Kp.ways at *
    generalize p.set b * p.y = o at *
    by_cases c1 : s < 1
    · have g1 : decide (s < 1) = true := by simp; omega
      have e0 : maySt s = false := by unfold maySt; simp; omega
      simp only [e0, Bool.false_eq_true, if_false]
      clear hs c1 e0
      go_enter Tryz.func99, Tryz.ntmps99
      go_wp2_with fail
      refine (HFI.out W (Upd.refl _ _)).mono ?_
      rintro e W2 ⟨rfl, hu⟩
      have HU2 := Lib.hid hu
      clear hu
      have HF := Lib.hid (And.intro (HI.out.upd0 HU2.out) HU2.out.others)
      go_wp2
      go_ret
      exact ⟨rfl, HF.out⟩
    · by_cases c2 : 3 < s
      · have g1 : decide (s < 1) = false := by simp; omega
        have g2 : decide (3 < s) = true := by simp; omega
        have e0 : maySt s = false := by unfold maySt; simp; omega
        simp only [e0, Bool.false_eq_true, if_false]
        clear hs c1 c2 e0
        go_enter Tryz.func99, Tryz.ntmps99
        go_wp2_with fail
        refine (HFI.out W (Upd.refl _ _)).mono ?_
        rintro e W2 ⟨rfl, hu⟩
        have HU2 := Lib.hid hu
        clear hu
        have HF := Lib.hid (And.intro (HI.out.upd0 HU2.out) HU2.out.others)
        go_wp2
        go_ret
        exact ⟨rfl, HF.out⟩
      · have g1 : decide (s < 1) = false := by simp; omega
        have g2 : decide (3 < s) = false := by simp; omega
        have e0 : maySt s = true := by unfold maySt; simp; omega
        simp only [e0, if_true]
        clear hs c1 c2 e0
        go_enter Tryz.func99, Tryz.ntmps99
        go_wp2_with fail
        refine (HFI.out W (Upd.refl _ _)).mono ?_
        rintro e W2 ⟨rfl, hu⟩
        have HU2 := Lib.hid hu
        clear hu
        obtain ⟨s1, s2⟩ := HB.out _ HU2.out
        have HD := Lib.hid (And.intro (HC.out _ HU2.out) ((HU2.out.mono (G := fun _ => True) (fun _ _ _ => trivial)).trans (Upd.setCell (F := fun _ => True) _ (p := ⟨p.gl, o * 18 + j * 18 + 1, none⟩) trivial (.int .u8 s)) (fun _ _ h => h)).others)
        clear HB HC
        go_wp2
        go_ret
        exact ⟨rfl, HD.out⟩
def mayW (w : Int) : Bool := decide (0 ≤ w) && decide (w < 16)
def wrL (x : Ln) (w z : Int) : Ln := { x with st := 3, D := x.D.setIfInBounds w.toNat (.int .u32 z) }
def Kp.wrE (p : Kp) (A : Nat → Ln) (b w : Int) : Int := match p.place A b with | none => 4 | some i => if mayW w then (if (A i).st = 1 then 8 else 0) else 5
def Kp.wrA (p : Kp) (A : Nat → Ln) (b w z : Int) : Nat → Ln := match p.place A b with | none => A | some i => if mayW w then (if (A i).st = 1 then A else updL A i (wrL (A i) w z)) else A
def Kp.wrM (p : Kp) (A : Nat → Ln) (M : Nat → Int) (b w : Int) : Nat → Int := match p.place A b with | none => M | some i => if mayW w then (if (A i).st = 1 then M else p.used M i) else M
theorem isU_set {D : Array Value} (h : IsU D) (k : Nat) (z : Int) : IsU (D.setIfInBounds k (.int .u32 z)) := by
  refine ⟨by simpa using h.1, fun u hu => ?_⟩
  rw [Array.mem_iff_getElem?] at hu
  obtain ⟨i, hi⟩ := hu
  rw [Array.getElem?_setIfInBounds] at hi
  split at hi
  · split at hi
    · exact ⟨z, by simpa using hi.symm⟩
    · cases hi
  · exact h.2 u (Array.mem_of_getElem? hi)
theorem cells_D (x : Ln) (k : Nat) (v : Value) : ({ x with D := x.D.setIfInBounds k v } : Ln).cells = x.cells.setIfInBounds (2 + k) v := by
  apply Array.ext_getElem?
  intro i
  rw [Array.getElem?_setIfInBounds]
  unfold Ln.cells
  by_cases h : i < 2
  · rw [Array.getElem?_append_left (by simpa using h), if_neg (by omega), Array.getElem?_append_left (by simpa using h)]
  · rw [Array.getElem?_append_right (by simp; omega), Array.getElem?_append_right (by simp; omega), Array.getElem?_setIfInBounds]
    simp only [List.size_toArray, List.length_cons, List.length_nil, Array.size_append]
    by_cases e : 2 + k = i
    · subst e; simp
    · rw [if_neg (by omega), if_neg e]
theorem isU_get {D : Array Value} (h : IsU D) {k : Nat} (hk : k < 16) : ∃ d, D[k]? = some (.int .u32 d) := by
  have hlt : k < D.size := by rw [h.1]; exact hk
  obtain ⟨z, hz⟩ := h.2 D[k] (Array.getElem_mem hlt)
  exact ⟨z, by rw [Array.getElem?_eq_getElem hlt, hz]⟩
theorem updL_updL (A : Nat → Ln) (i : Nat) (x y : Ln) : updL (updL A i x) i y = updL A i y := by funext j; unfold updL; split <;> rfl
theorem updL_self (A : Nat → Ln) (i : Nat) (x : Ln) : updL A i x i = x := by unfold updL; simp
theorem wr_later (h : CIs T w0 W p c A M L) {q j k : Nat} (hq : q < p.s) (hj : j < p.y) (hk : k < 16) (z : Int) : Hid (∀ W1, Upd NoF W W1 →
    CIs T w0 ((W1.setCell ⟨p.gl, q * p.y * 18 + j * 18 + 2 + k, none⟩ (.int .u32 z)).setCell ⟨p.gl, q * p.y * 18 + j * 18 + 1, none⟩ (.int .u8 3)) p c (updL A (q * p.y + j) (wrL (A (q * p.y + j)) k z)) M L ∧
    KeepsRec W ((W1.setCell ⟨p.gl, q * p.y * 18 + j * 18 + 2 + k, none⟩ (.int .u32 z)).setCell ⟨p.gl, q * p.y * 18 + j * 18 + 1, none⟩ (.int .u8 3))) := Lib.hid fun W1 hu => by
  have hlt : q * p.y + j < p.s * p.y := by have := Kp.row_le (y := p.y) hq; omega
  rw [show q * p.y * 18 + j * 18 + 2 + k = (q * p.y + j) * 18 + (2 + k) by omega, show q * p.y * 18 + j * 18 + 1 = (q * p.y + j) * 18 + 1 by omega]
  have hok := h.ok.okA (q * p.y + j)
  have a1 := (h.upd0 hu).cell hlt (x := { A (q * p.y + j) with D := (A (q * p.y + j)).D.setIfInBounds k (.int .u32 z) }) ⟨hok.st, isU_set hok.isU k z⟩ (show 2 + k < 18 by omega) (cells_D _ k _)
  have a2 := a1.cell hlt (x := wrL (A (q * p.y + j)) k z) ⟨⟨by unfold wrL; simp, by unfold wrL; simp⟩, isU_set hok.isU k z⟩ (show 1 < 18 by omega) (by rw [updL_self]; exact cells_st { A (q * p.y + j) with D := (A (q * p.y + j)).D.setIfInBounds k (.int .u32 z) } 3)
  rw [updL_updL] at a2
  exact ⟨a2, (((hu.mono (G := fun _ => True) (fun _ _ _ => trivial)).trans (Upd.setCell (F := fun _ => True) _ (p := ⟨p.gl, (q * p.y + j) * 18 + (2 + k), none⟩) trivial (.int .u32 z)) (fun _ _ h => h)).trans (Upd.setCell (F := fun _ => True) _ (p := ⟨p.gl, (q * p.y + j) * 18 + 1, none⟩) trivial (.int .u8 3)) (fun _ _ h => h)).others⟩
set_option maxRecDepth 100000 in
set_option maxHeartbeats 1000000 in
theorem write_is (h : CIs T w0 W p c A M L) (b w z : Int) : Calls Tryz.prog 40 #[ptr p.kb, .int .i64 b, .int .i64 w, .int .u32 z] W fun e W' =>
    e = .returned (.int .i64 (p.wrE A b w)) ∧ CIs T w0 W' p c (p.wrA A b w z) (p.wrM A M b w) L ∧ KeepsRec W W' := by
  have HI := Lib.hid h
  unfold Kp.wrE Kp.wrA Kp.wrM
  have HFI := fun hm => find_later h (b := b) hm
  have HFO := fun hm => Lib.hid (find_out p.kb b (mayK_not hm) W)
  rcases find_cases p A b with ⟨hm, hp⟩ | ⟨hm, hw, hp, -⟩ | ⟨j, hm, hj, hw, hp, -⟩
  · have HFO := HFO hm
    clear HFI
    rw [hp]
    clear hp hm
    clear h
    go_enter Tryz.func40, Tryz.ntmps40
    go_wp2_with fail
    refine HFO.out.mono ?_
    rintro e W2 ⟨rfl, rfl⟩
    go_wp2
    go_ret
    exact ⟨rfl, HI.out, KeepsRec.refl _⟩
  · have HFI := HFI hm
    clear HFO
    rw [hw] at HFI
    rw [hp]
    clear hp hm hw
    clear h
    go_enter Tryz.func40, Tryz.ntmps40
    go_wp2_with fail
    refine (HFI.out W (Upd.refl _ _)).mono ?_
    rintro e W2 ⟨rfl, hu⟩
    have HU2 := Lib.hid hu
    clear hu
    have HF := Lib.hid (And.intro (HI.out.upd0 HU2.out) HU2.out.others)
    go_wp2
    go_ret
    exact ⟨rfl, HF.out⟩
  · have HFI := HFI hm
    clear HFO
    have hq := h.fits.set_lt b
    rw [hw] at HFI
    rw [hp]
    clear hp hm hw
    have hlt := h.fits.idx_lt (b := b) hj
    have hj1 : (j : Int) < (p.y : Int) := by omega
    by_cases c1 : w < 0
    · have g1 : decide (w < 0) = true := by simp; omega
      have e0 : mayW w = false := by unfold mayW; simp; omega
      simp only [e0, Bool.false_eq_true, if_false]
      clear h c1 e0 hlt hq hj
      go_enter Tryz.func40, Tryz.ntmps40
      go_wp2_with fail
      refine (HFI.out W (Upd.refl _ _)).mono ?_
      rintro e W2 ⟨rfl, hu⟩
      have HU2 := Lib.hid hu
      clear hu
      have HF := Lib.hid (And.intro (HI.out.upd0 HU2.out) HU2.out.others)
      go_wp2
      go_ret
      exact ⟨rfl, HF.out⟩
    · by_cases c2 : 16 ≤ w
      · have g1 : decide (w < 0) = false := by simp; omega
        have g2 : decide (16 ≤ w) = true := by simp; omega
        have e0 : mayW w = false := by unfold mayW; simp; omega
        simp only [e0, Bool.false_eq_true, if_false]
        clear h c1 c2 e0 hlt hq hj
        go_enter Tryz.func40, Tryz.ntmps40
        go_wp2_with fail
        refine (HFI.out W (Upd.refl _ _)).mono ?_
        rintro e W2 ⟨rfl, hu⟩
        have HU2 := Lib.hid hu
        clear hu
        have HF := Lib.hid (And.intro (HI.out.upd0 HU2.out) HU2.out.others)
        go_wp2
        go_ret
        exact ⟨rfl, HF.out⟩
      · have g1 : decide (w < 0) = false := by simp; omega
        have g2 : decide (16 ≤ w) = false := by simp; omega
        have e0 : mayW w = true := by unfold mayW; simp; omega
        simp only [e0, if_true]
        obtain ⟨k, rfl⟩ : ∃ k : Nat, w = k := ⟨w.toNat, by omega⟩
        have hk : k < 16 := by omega
        have hWR := wr_later h hq hj hk z
        have HB := Lib.hid (fun W2 (hu : Upd NoF W W2) => And.intro (((h.upd0 hu).bl.cell _).trans ((lnX_get (h.ok.okA _).isU hlt (show 1 < 18 by omega)).trans (Ln.get1 _))) ((h.upd0 hu).bl.frozen ((p.set b * p.y + j) * 18 + 1)))
        obtain ⟨d, hd⟩ := isU_get (h.ok.okA (p.set b * p.y + j)).isU hk
        have HB2 := Lib.hid (fun W2 (hu : Upd NoF W W2) => And.intro (((h.upd0 hu).bl.cell ((p.set b * p.y + j) * 18 + (2 + k))).trans ((lnX_get (h.ok.okA _).isU hlt (show 2 + k < 18 by omega)).trans ((Ln.getD _ k).trans hd))) ((h.upd0 hu).bl.frozen ((p.set b * p.y + j) * 18 + (2 + k))))
        rw [show (p.set b * p.y + j) * 18 + 1 = p.set b * p.y * 18 + j * 18 + 1 by omega] at HB
        rw [show (p.set b * p.y + j) * 18 + (2 + k) = p.set b * p.y * 18 + j * 18 + 2 + k by omega] at HB2
        have hk1 : (k : Int) < 16 := by omega
        clear h c1 c2 e0 hlt hd
        by_cases c3 : (A (p.set b * p.y + j)).st = 1
        · rw [c3] at HB
          simp only [c3, if_true]
          clear hq hj hk HB2 hWR
          unfold Kp.ways at *
          go_enter Tryz.func40, Tryz.ntmps40
          go_wp2_with fail
          refine (HFI.out W (Upd.refl _ _)).mono ?_
          rintro e W2 ⟨rfl, hu⟩
          have HU2 := Lib.hid hu
          clear hu
          obtain ⟨s1, -⟩ := HB.out _ HU2.out
          have HF := Lib.hid (And.intro (HI.out.upd0 HU2.out) HU2.out.others)
          go_wp2
          go_ret
          exact ⟨rfl, HF.out⟩
        · have g3 : ((A (p.set b * p.y + j)).st == 1) = false := by simpa using c3
          simp only [if_neg c3]
          generalize (A (p.set b * p.y + j)).st = st at HB g3
          clear c3 hk
          unfold Kp.ways at *
          go_enter Tryz.func40, Tryz.ntmps40
          go_wp2_with fail
          refine (HFI.out W (Upd.refl _ _)).mono ?_
          rintro e W2 ⟨rfl, hu⟩
          have HU2 := Lib.hid hu
          clear hu
          obtain ⟨s1, s2⟩ := HB.out _ HU2.out
          obtain ⟨s3, s4⟩ := HB2.out _ HU2.out
          have HC := hWR
          obtain ⟨c5, c6⟩ := hWR.out _ HU2.out
          have HUS := use_later c5 c6 hq hj
          clear c5 c6 hWR HC HB HB2 HI hq hj
          go_wp2_with fail
          refine HUS.out.mono ?_
          rintro e W3 ⟨rfl, hc, hk⟩
          have HD := Lib.hid (And.intro hc hk)
          clear hc hk HUS
          go_wp2
          go_ret
          exact ⟨rfl, HD.out⟩
end
end Go.Proofs.YtjgeflbhmhmjdaaGreat.KA
