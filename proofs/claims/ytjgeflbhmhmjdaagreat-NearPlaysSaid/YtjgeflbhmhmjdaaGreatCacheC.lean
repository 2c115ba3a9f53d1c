/- The contracts of package cache: set, find, use. -/
import Derived.Test.YtjgeflbhmhmjdaaGreatCacheIdx
set_option linter.unusedSimpArgs false
set_option linter.unusedVariables false
namespace Go.Proofs.YtjgeflbhmhmjdaaGreat.KA
open Go.RowKit
open BU (IsU words)
open PL (Cfg CC CV May)
attribute [local go_sem] Oper.semAt_some
attribute [local go_sem ↓] TLin.ld_eq TLin.st_eq TLin.al_eq TLin.bx_eq
attribute [local go_sem] TLin.al_run TLin.bx_run
abbrev LT : TypeId := 50
abbrev UT : TypeId := 5
structure Kp where
  kb : Nat
  gl : Nat
  gm : Nat
  cl : Nat
  cm : Nat
  tl : Array Value
  tm : Array Value
  s : Nat
  y : Nat
def Kp.cells (p : Kp) (c : Cfg) : Array Value := #[.int .i64 c.cores, .int .i64 c.sets, .int .i64 c.ways, .int .i64 c.blocks, .int .i64 c.logs, .int .i64 c.backs, .int .i64 c.nest, .int .i64 c.tries,
  .slice (some ⟨p.gl, 0, none⟩) (p.s * p.y) p.cl, .slice (some ⟨p.gm, 0, none⟩) p.s p.cm]
def Kp.objs (p : Kp) (T : TypeId) (c : Cfg) (A : Nat → Ln) (M : Nat → Int) : List Obj := [boxO p.kb (p.cells c) T, boxO p.gl (lnRow (p.s * p.y) A ++ p.tl) LT, boxO p.gm (rowU p.s M ++ p.tm) UT]
structure Kp.Fits (p : Kp) (c : Cfg) : Prop where
  may : May c
  es : c.sets = p.s
  ew : c.ways = p.y
  hcl : p.s * p.y ≤ p.cl ∧ p.cl ≤ maxLen
  hcm : p.s ≤ p.cm ∧ p.cm ≤ maxLen
  hsl : p.cl * 18 ≤ p.s * p.y * 18 + p.tl.size
  hsm : p.cm ≤ p.s + p.tm.size
structure OkA (A : Nat → Ln) (M : Nat → Int) : Prop where
  okA : ∀ i, (A i).Ok
  okM : ∀ i, 0 ≤ M i ∧ M i ≤ 255
def updM (M : Nat → Int) (i : Nat) (x : Int) : Nat → Int := fun j => if j = i then x else M j
theorem OkA.line {A : Nat → Ln} {M : Nat → Int} (h : OkA A M) (i : Nat) {x : Ln} (hx : x.Ok) : OkA (updL A i x) M := ⟨fun j => by unfold updL; split; exact hx; exact h.okA j, h.okM⟩
theorem OkA.mem {A : Nat → Ln} {M : Nat → Int} (h : OkA A M) (i : Nat) {x : Int} (hx : 0 ≤ x ∧ x ≤ 255) : OkA A (updM M i x) := ⟨h.okA, fun j => by unfold updM; split; exact hx; exact h.okM j⟩
theorem Kp.Fits.sy {p : Kp} {c : Cfg} (h : p.Fits c) : (p.s = 1 ∨ p.s = 2 ∨ p.s = 4 ∨ p.s = 8 ∨ p.s = 16) ∧ (p.y = 1 ∨ p.y = 2 ∨ p.y = 4) := by
  have h1 := h.may.2.2.2.2.2.2.1; have h2 := h.may.2.2.2.2.2.2.2.1
  rw [h.es] at h1; rw [h.ew] at h2
  omega
def Kp.set (p : Kp) (b : Int) : Nat := (b % p.s).toNat
theorem Kp.Fits.set_lt {p : Kp} {c : Cfg} (h : p.Fits c) (b : Int) : p.set b < p.s := by
  have h0 : 0 < p.s := by have := h.sy.1; omega
  have := Int.emod_lt_of_pos b (show (0 : Int) < p.s by omega)
  have := Int.emod_nonneg b (show (p.s : Int) ≠ 0 by omega)
  unfold Kp.set; omega
theorem Kp.row_le {s y q : Nat} (h : q < s) : q * y + y ≤ s * y := by
  have : (q + 1) * y ≤ s * y := Nat.mul_le_mul_right y h
  rw [Nat.add_mul, Nat.one_mul] at this
  exact this
theorem Kp.small {p : Kp} {c : Cfg} (h : p.Fits c) : p.s ≤ 16 ∧ p.y ≤ 4 ∧ 1 ≤ p.y ∧ 1 ≤ p.s ∧ p.s * p.y ≤ 64 ∧ 1 ≤ p.s * p.y := by
  obtain ⟨h1, h2⟩ := h.sy
  rcases h1 with e | e | e | e | e <;> rcases h2 with e2 | e2 | e2 <;> rw [e, e2] <;> omega
def Kp.ways (p : Kp) (q : Nat) : Value := .slice (some ⟨p.gl, q * p.y * 18, none⟩) p.y (p.cl - q * p.y)
section
variable {w0 W W' : World} {p : Kp} {T : TypeId} {c : Cfg} {A : Nat → Ln} {M : Nat → Int} {L : List Obj}
set_option maxRecDepth 100000 in
set_option maxHeartbeats 1000000 in
theorem kset_any (hb : Blk W p.kb (p.cells c) T) (hf : p.Fits c) (b : Int) (hbb : 0 ≤ b ∧ b < 256) : Calls Tryz.prog 124 #[ptr p.kb, .int .i64 b] W fun e W' =>
    e = .returned (.tuple #[.int .i64 (p.set b), p.ways (p.set b)]) ∧ Upd NoF W W' := by
  have hq := hf.set_lt b
  have hsm := Kp.small hf
  have HS := Lib.hid (set_any c hf.may b hbb W)
  have e0 : b % c.sets = (p.set b : Int) := by
    rw [hf.es]; unfold Kp.set
    have := Int.emod_nonneg b (show (p.s : Int) ≠ 0 by omega)
    omega
  rw [e0] at HS
  have hrl := Kp.row_le (y := p.y) hq
  have hcl := hf.hcl
  have HB := Lib.hid hb
  have hew := hf.ew
  have k0 : W.cell? ⟨p.kb, 0, none⟩ = some (.int .i64 c.cores) := hb.cell 0
  have k1 : W.cell? ⟨p.kb, 1, none⟩ = some (.int .i64 c.sets) := hb.cell 1
  have k2 : W.cell? ⟨p.kb, 2, none⟩ = some (.int .i64 c.ways) := hb.cell 2
  have k3 : W.cell? ⟨p.kb, 3, none⟩ = some (.int .i64 c.blocks) := hb.cell 3
  have k4 : W.cell? ⟨p.kb, 4, none⟩ = some (.int .i64 c.logs) := hb.cell 4
  have k5 : W.cell? ⟨p.kb, 5, none⟩ = some (.int .i64 c.backs) := hb.cell 5
  have k6 : W.cell? ⟨p.kb, 6, none⟩ = some (.int .i64 c.nest) := hb.cell 6
  have k7 : W.cell? ⟨p.kb, 7, none⟩ = some (.int .i64 c.tries) := hb.cell 7
  have k8 : W.cell? ⟨p.kb, 8, none⟩ = some (.slice (some ⟨p.gl, 0, none⟩) (p.s * p.y) p.cl) := hb.cell 8
  clear hf
  unfold Kp.ways
  generalize p.set b = q at *
  have hsy : ((p.s * p.y : Nat) : Int) ≤ 64 := by omega
  have w1 : IntKind.i64.wrap ((q : Int) * (p.y : Int)) = ((q * p.y : Nat) : Int) := by
    rw [show ((q * p.y : Nat) : Int) = (q : Int) * p.y by simp] at *
    exact IntWalk.i64_in _ (by omega)
  have w2 : IntKind.i64.wrap ((q : Int) + 1) = (q : Int) + 1 := IntWalk.i64_in _ (by omega)
  have w3 : IntKind.i64.wrap (((q : Int) + 1) * (p.y : Int)) = ((q * p.y + p.y : Nat) : Int) := by
    have e : ((q * p.y + p.y : Nat) : Int) = ((q : Int) + 1) * p.y := by simp [Int.add_mul]
    rw [← e]; exact IntWalk.i64_in _ (by omega)
  have s1 : ((q * p.y : Nat) : Int) ≤ ((q * p.y + p.y : Nat) : Int) := by omega
  have s2 : ((q * p.y + p.y : Nat) : Int) ≤ (p.cl : Int) := by omega
  have s3 : (0 : Int) ≤ ((q * p.y : Nat) : Int) := by omega
  generalize ha : q * p.y = a at *
  generalize p.s * p.y = n at *
  have s4 : a ≤ a + p.y := by omega
  have s5 : a + p.y ≤ p.cl := by omega
  have s6 : ¬ p.cl = a := by omega
  have s7 : a + p.y - a = p.y := by omega
  generalize a + p.y = m at *
  have HX := Lib.hid (And.intro w1 (And.intro w2 w3))
  have HX2 := Lib.hid (And.intro s1 (And.intro s2 (And.intro s3 (And.intro s4 (And.intro s5 (And.intro s6 s7))))))
  have h2 : Hid (∀ W2, Upd NoF W W2 → W2.cell? ⟨p.kb, 2, none⟩ = some (.int .i64 p.y)) := Lib.hid fun W2 hu => by rw [← hew]; exact hu.cell k2 (fun h => h)
  clear hb hbb e0 hq hsm hrl hcl hew w1 w2 w3 s1 s2 s3 s4 s5 s6 s7 hsy ha
  go_enter Tryz.func124, Tryz.ntmps124
  go_wp2_with fail
  refine HS.out.mono ?_
  rintro e W2 ⟨rfl, hu⟩
  have h2 := h2.out W2 hu
  have h8 : W2.cell? ⟨p.kb, 8, none⟩ = some (.slice (some ⟨p.gl, 0, none⟩) n p.cl) := hu.cell k8 (fun h => h)
  have HU := Lib.hid hu
  obtain ⟨w1, w2, w3⟩ := HX.out
  obtain ⟨s1, s2, s3, s4, s5, s6, s7⟩ := HX2.out
  clear k0 k1 k2 k3 k4 k5 k6 k7 k8 hu HS HB HX HX2
  go_wp2
  go_quiet (fail)
  go_wp2
  go_ret2
  exact ⟨rfl, HU.out.trans (Upd.drewN NoF _ _) (fun _ _ h => h)⟩
def Kp.way (p : Kp) (A : Nat → Ln) (b : Int) : Int := firstW (hasB b) A (p.set b * p.y) p.y
set_option maxRecDepth 100000 in
theorem find_in (hb : Blk W p.kb (p.cells c) T) (hl : Blk W p.gl (lnRow (p.s * p.y) A ++ p.tl) LT) (hf : p.Fits c) (hA : ∀ i, (A i).Ok) (b : Int) (hbb : 0 ≤ b ∧ b < 256) : Calls Tryz.prog 84 #[ptr p.kb, .int .i64 b] W fun e W' =>
    e = .returned (.tuple #[.int .i64 (p.set b), p.ways (p.set b), .int .i64 (p.way A b)]) ∧ Upd NoF W W' := by
  have hq := hf.set_lt b
  have hrl := Kp.row_le (y := p.y) hq
  have hcl := hf.hcl
  have HS := Lib.hid (kset_any hb hf b hbb)
  have hm : mayK b = true := by unfold mayK; simp; omega
  have HM := Lib.hid (mayK_any b W)
  rw [hm] at HM
  have hwy := has_way (k := p.y) (lo := p.set b * p.y) (cap := p.cl - p.set b * p.y) (gl := p.gl) (n := p.s * p.y) (A := A) (tl := p.tl) (b := b)
  have HW := Lib.hid (show ∀ w2 hb2, Upd NoF W w2 → w2.cell? ⟨hb2, 0, none⟩ = some (.int .i64 b) → Calls Tryz.prog 90 #[p.ways (p.set b), .func (.func 148) #[] #[ptr hb2]] w2 fun e w' => e = .returned (.int .i64 (p.way A b)) ∧ Upd NoF w2 w' from fun w2 hb2 hu hc =>
    hwy w2 hb2 hA (hl.upd hu (fun h => h)) hrl (by omega) (by omega) hc)
  generalize p.ways (p.set b) = v at *
  generalize p.way A b = z at *
  generalize p.set b = q at *
  clear hb hl hf hbb hq hrl hcl hm hA hwy
  go_enter Tryz.func84, Tryz.ntmps84
  go_wp2_with fail
  refine HM.out.mono ?_
  rintro e W2 ⟨rfl, rfl⟩
  go_wp2_with fail
  refine HS.out.mono ?_
  rintro e W2 ⟨rfl, hu⟩
  have HU := Lib.hid hu
  clear hu
  go_wp2_with fail
  refine (has_any b W2).mono ?_
  rintro e W3 ⟨rfl, hW3⟩
  have hu3 : Upd NoF W W3 := by rw [← hW3]; exact HU.out.trans (Upd.alloc NoF _ _) (fun _ _ h => h)
  have hc3 : W3.cell? ⟨W2.heap.size, 0, none⟩ = some (.int .i64 b) := by rw [← hW3]; exact (Blk.new W2 _ _).cell 0
  have HU3 := Lib.hid (And.intro hu3 hc3)
  clear hu3 hc3 hW3 HU
  go_wp2_with fail
  refine (HW.out _ _ HU3.out.1 HU3.out.2).mono ?_
  rintro e W4 ⟨rfl, hu⟩
  have HU4 := Lib.hid (HU3.out.1.trans hu (fun _ _ h => h))
  clear hu HU3
  go_wp2
  go_ret3
  exact ⟨rfl, HU4.out⟩
theorem find_out (k : Nat) (b : Int) (hbb : ¬ (0 ≤ b ∧ b < 256)) (W : World) : Calls Tryz.prog 84 #[ptr k, .int .i64 b] W fun e W' =>
    e = .returned (.tuple #[.int .i64 0, .slice none 0 0, .int .i64 (-1)]) ∧ W = W' := by
  have hm : mayK b = false := by unfold mayK; simp; omega
  have HM := Lib.hid (mayK_any b W)
  rw [hm] at HM
  clear hbb hm
  go_enter Tryz.func84, Tryz.ntmps84
  go_wp2_with fail
  refine HM.out.mono ?_
  rintro e W2 ⟨rfl, rfl⟩
  go_wp2
  go_ret3
  exact ⟨rfl, rfl⟩
end
end Go.Proofs.YtjgeflbhmhmjdaaGreat.KA
