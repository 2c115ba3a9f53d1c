/- The contracts of package cache: Find, Put, Drop, Use, Goes, Write, Turn. -/
import Derived.Test.YtjgeflbhmhmjdaaGreatCacheU
set_option linter.unusedSimpArgs false
set_option linter.unusedVariables false
namespace Go.Proofs.YtjgeflbhmhmjdaaGreat.KA
open Go.RowKit
open BU (IsU words)
open PL (Cfg CC CV May)
attribute [local go_sem] Oper.semAt_some
attribute [local go_sem ↓] TLin.ld_eq TLin.st_eq TLin.al_eq TLin.bx_eq
attribute [local go_sem] TLin.al_run TLin.bx_run
theorem firstW_cases (f : Ln → Bool) (A : Nat → Ln) (lo k : Nat) : (firstW f A lo k = -1 ∧ ∀ j, j < k → f (A (lo + j)) = false) ∨ ∃ j, j < k ∧ firstW f A lo k = j ∧ f (A (lo + j)) = true := by
  unfold firstW
  cases h : (List.range k).find? (fun i => f (A (lo + i))) with
  | none =>
    refine .inl ⟨rfl, fun j hj => ?_⟩
    have := List.find?_eq_none.1 h j (by simpa using hj)
    simpa using this
  | some i =>
    obtain ⟨h1, h2, _⟩ := List.find?_range_eq_some.1 h
    exact .inr ⟨i, by simpa using h2, rfl, h1⟩
theorem st_mid {x X : Array Value} (hx : IsN 18 x) {w : World} {b o : Nat} {T : TypeId} (h : Blk w b X T) (ho : o + 18 ≤ X.size) : (TLin.st (.pointer (some ⟨b, o, none⟩)) (.agg x)).run Tryz.prog w = .ok () (w.setCells b o x.toList) :=
  run_storeAt_mid w b o LT x (there_of h (by rw [hx.1]; exact ho)) (by rw [TLin.infoS, hx.1]) hx.all
theorem zlit : Value.agg TLin.Z = Value.agg #[.int .i64 0, .int .u8 0, .int .u32 0, .int .u32 0, .int .u32 0, .int .u32 0, .int .u32 0, .int .u32 0, .int .u32 0, .int .u32 0, .int .u32 0, .int .u32 0, .int .u32 0, .int .u32 0, .int .u32 0, .int .u32 0, .int .u32 0, .int .u32 0] := by kernel_rfl
theorem Upd.setCells (w : World) (b o : Nat) (vs : List Value) : Upd (fun _ => True) w (w.setCells b o vs) := (upd_setCells vs o w).mono (fun _ _ _ => trivial)
section
variable {w0 W W' : World} {p : Kp} {T : TypeId} {c : Cfg} {A : Nat → Ln} {M : Nat → Int} {L : List Obj}
def Kp.place (p : Kp) (A : Nat → Ln) (b : Int) : Option Nat := if mayK b then (if p.way A b < 0 then none else some (p.set b * p.y + (p.way A b).toNat)) else none
theorem mayK_of {b : Int} (h : mayK b = true) : 0 ≤ b ∧ b < 256 := by unfold mayK at h; simpa using h
theorem mayK_not {b : Int} (h : mayK b = false) : ¬ (0 ≤ b ∧ b < 256) := by unfold mayK at h; simp at h; omega
theorem find_cases (p : Kp) (A : Nat → Ln) (b : Int) : (mayK b = false ∧ p.place A b = none) ∨ (mayK b = true ∧ p.way A b = -1 ∧ p.place A b = none ∧ ∀ j, j < p.y → hasB b (A (p.set b * p.y + j)) = false) ∨
    ∃ j, mayK b = true ∧ j < p.y ∧ p.way A b = j ∧ p.place A b = some (p.set b * p.y + j) ∧ hasB b (A (p.set b * p.y + j)) = true := by
  cases hm : mayK b
  · exact .inl ⟨rfl, by unfold Kp.place; rw [hm]; rfl⟩
  · rcases firstW_cases (hasB b) A (p.set b * p.y) p.y with ⟨h1, h2⟩ | ⟨j, h1, h2, h3⟩
    · have h1 : p.way A b = -1 := h1
      exact .inr (.inl ⟨rfl, h1, by unfold Kp.place; rw [hm, h1]; rfl, h2⟩)
    · have h2 : p.way A b = j := h2
      refine .inr (.inr ⟨j, rfl, h1, h2, ?_, h3⟩)
      unfold Kp.place; rw [hm, h2]; simp
theorem Kp.Fits.idx_lt {p : Kp} {c : Cfg} (h : p.Fits c) {b : Int} {j : Nat} (hj : j < p.y) : p.set b * p.y + j < p.s * p.y := by
  have := Kp.row_le (y := p.y) (h.set_lt b)
  omega
def Kp.fnd (p : Kp) (A : Nat → Ln) (b : Int) : Ln := match p.place A b with | some i => A i | none => Ln.nil
theorem fnd_ok {p : Kp} {A : Nat → Ln} {M : Nat → Int} (h : OkA A M) (b : Int) : (p.fnd A b).Ok := by unfold Kp.fnd; split; exact h.okA _; exact Ln.nil_ok
set_option maxRecDepth 100000 in
theorem find_is (h : CIs T w0 W p c A M L) (b : Int) : Calls Tryz.prog 39 #[ptr p.kb, .int .i64 b] W fun e W' =>
    e = .returned (.tuple #[.agg (p.fnd A b).cells, .bool (p.place A b).isSome]) ∧ Upd NoF W W' := by
  have hu1 := Upd.alloc NoF W (.cells TLin.Z LT)
  have h1 := h.upd0 hu1
  have HI := fun h9 => Lib.hid (find_in (p := p) (A := A) h1.bk h1.bl h.fits h.ok.okA b h9)
  have HO := fun h => Lib.hid (find_out p.kb b h (W.alloc (.cells TLin.Z LT)))
  have s0 := Lib.hid (fun W2 (hu : Upd NoF (W.alloc (.cells TLin.Z LT)) W2) => TLin.st_at TLin.isZ TLin.isZ ((Blk.new W TLin.Z LT).upd hu (fun h => h)))
  have HU1 := Lib.hid hu1
  have hub : ∀ (X Y : World) (vs : List Value), Upd NoF W X → X.setCells W.heap.size 0 vs = Y → Upd NoF W Y := fun X Y vs hX e => by
    rw [← e]; exact hX.trans (upd_setCells vs 0 _) (fun k hk e => by have e : k = W.heap.size := e; omega)
  have HB := Lib.hid hub
  clear hub hu1
  rcases find_cases p A b with ⟨hm, hp⟩ | ⟨hm, hw, hp, -⟩ | ⟨j, hm, hj, hw, hp, -⟩
  · have HO := HO (mayK_not hm)
    have e1 : p.fnd A b = Ln.nil := by unfold Kp.fnd; rw [hp]
    rw [e1, hp, Ln.nil_cells]
    clear h h1 hp hm HI e1
    obtain ⟨s1, q1⟩ := s0.out _ (Upd.refl _ _)
    rw [zlit] at s1
    have HV := Lib.hid (TLin.ldV_at TLin.isZ q1.whole)
    generalize hX : (W.alloc (.cells TLin.Z LT)).setCells W.heap.size 0 TLin.Z.toList = X at *
    have HF := Lib.hid (HB.out _ _ _ HU1.out hX)
    clear hX q1 s0
    go_enter Tryz.func39, Tryz.ntmps39
    go_wp2_with fail
    refine HO.out.mono ?_
    rintro e W2 ⟨rfl, rfl⟩
    go_wp2
    have hv := HV.out
    refine bodyPost_ret (v := .tuple #[.agg TLin.Z, .bool false]) ?_ ?_ ?_
    · simp [results, Tryz.f39, asAddr, hv]
    · rfl
    exact ⟨rfl, HF.out⟩
  · have HI := HI (mayK_of hm)
    have e1 : p.fnd A b = Ln.nil := by unfold Kp.fnd; rw [hp]
    rw [e1, hp, Ln.nil_cells]
    rw [hw] at HI
    clear h h1 hp hm HO e1 hw
    generalize p.ways (p.set b) = v at *
    generalize p.set b = q at *
    go_enter Tryz.func39, Tryz.ntmps39
    go_wp2_with fail
    refine HI.out.mono ?_
    rintro e W2 ⟨rfl, hu⟩
    obtain ⟨s1, q1⟩ := s0.out _ hu
    rw [zlit] at s1
    have HV := Lib.hid (TLin.ldV_at TLin.isZ q1.whole)
    generalize hX : W2.setCells W.heap.size 0 TLin.Z.toList = X at *
    have HF := Lib.hid (HB.out _ _ _ (HU1.out.trans hu (fun _ _ h => h)) hX)
    clear hX q1 s0 hu HI HB HU1
    go_wp2
    have hv := HV.out
    refine bodyPost_ret (v := .tuple #[.agg TLin.Z, .bool false]) ?_ ?_ ?_
    · simp [results, Tryz.f39, asAddr, hv]
    · rfl
    exact ⟨rfl, HF.out⟩
  · have HI := HI (mayK_of hm)
    have e1 : p.fnd A b = A (p.set b * p.y + j) := by unfold Kp.fnd; rw [hp]
    rw [e1, hp]
    rw [hw] at HI
    have hlt := h.fits.idx_lt (b := b) hj
    have hx := h.ok.okA (p.set b * p.y + j)
    have hr := Lib.hid (fun W2 (hu : Upd NoF (W.alloc (.cells TLin.Z LT)) W2) => TLin.ld_at (Ln.Ok.isN hx.isU) (lnRow_range (h1.bl.upd hu (fun h => h)) hx.isU hlt))
    have s2 := Lib.hid (fun W2 (hu : Upd NoF (W.alloc (.cells TLin.Z LT)) W2) => TLin.st_at TLin.isZ (Ln.Ok.isN hx.isU) ((Blk.new W TLin.Z LT).upd hu (fun h => h)))
    have hxN := Lib.hid (Ln.Ok.isN hx.isU)
    have hj1 : (j : Int) < (p.y : Int) := by omega
    have hoff : (p.set b * p.y + j) * 18 = p.set b * p.y * 18 + j * 18 := by omega
    rw [hoff] at hr
    unfold Kp.ways at HI
    clear h h1 hp hm HO e1 hw hx hlt hj hoff s0
    generalize A (p.set b * p.y + j) = x at *
    generalize p.set b * p.y = o at *
    generalize p.set b = q at *
    go_enter Tryz.func39, Tryz.ntmps39
    go_wp2_with fail
    refine HI.out.mono ?_
    rintro e W2 ⟨rfl, hu⟩
    have l1 := hr.out _ hu
    obtain ⟨s1, q1⟩ := s2.out _ hu
    have HV := Lib.hid (TLin.ldV_at hxN.out q1.whole)
    generalize hX : W2.setCells W.heap.size 0 x.cells.toList = X at *
    have HF := Lib.hid (HB.out _ _ _ (HU1.out.trans hu (fun _ _ h => h)) hX)
    clear hX q1 s2 hu HI HB HU1 hr
    go_wp2
    have hv := HV.out
    refine bodyPost_ret (v := .tuple #[.agg x.cells, .bool true]) ?_ ?_ ?_
    · simp [results, Tryz.f39, asAddr, hv]
    · rfl
    exact ⟨rfl, HF.out⟩
end
end Go.Proofs.YtjgeflbhmhmjdaaGreat.KA
