/- The contracts of package marks: New, Read, Write, Has, Meets, Clear. -/
import Derived.Test.YtjgeflbhmhmjdaaGreatMarkMap
import Derived.Test.YtjgeflbhmhmjdaaGreatSep
import Derived.Shelf.SlMaps.Clone
import Derived.Ground.SlmcProg
import Derived.Test.YtjgeflbhmhmjdaaGreatPlan
import Derived.WalkLawsBesides
import Derived.Deep.RegionHeld3
import Derived.Deep.CutBlock
import Derived.BigQuiet
set_option linter.unusedSimpArgs false
set_option linter.unusedVariables false
namespace Go.Proofs
open Go.Shelf
def Tryz.cloneA_ren : Go.Shelf.Ren := ⟨fun | 5 => 107 | 7 => 135 | n => n, fun | 23 => 143 | 25 => 3 | 3 => 151 | 4 => 4 | 20 => 20 | n => n, fun | n => n⟩
theorem Tryz.cloneA : Go.Proofs.SlLaysW.n5 Tryz.prog Tryz.cloneA_ren := {
  mixed := by kernel_rfl
  f5 := ⟨Tryz.f107.name, by decide, Tryz.func107.trans (congrArg some (by kernel_rfl))⟩
  f7 := Tryz.func135.trans (congrArg some (by kernel_rfl))
  t4 := Tryz.underlying4
  a4 := Tryz.isAgg4
  z4 := Tryz.sizeOf4
  v4 := Tryz.zeroValue4
  t20 := Tryz.underlying20
  a20 := Tryz.isAgg20
  z20 := Tryz.sizeOf20
  v20 := Tryz.zeroValue20
  t23 := Tryz.underlying143
  a23 := Tryz.isAgg143
  z23 := Tryz.sizeOf143
  v23 := Tryz.zeroValue143 }
end Go.Proofs
namespace Go.Proofs.YtjgeflbhmhmjdaaGreat.MK
open Go.RowKit
open PL (Cfg CC CV May)
attribute [local go_sem] Oper.semAt_some
abbrev ptr (b : Nat) : Value := .pointer (some ⟨b, 0, none⟩)
abbrev VI (x : Int) : Value := .int .i64 x
abbrev marksO (kb mb : Nat) (data : Int) : Obj := boxO kb #[.int .i64 data, .map (some mb)] 145
def mmO (mb n : Nat) (f : Int → Bool × Bool) : Obj where
  is W F := MM.Is W mb n f ∧ F mb
  keep {W W' F} h k := by
    obtain ⟨D, ⟨es, clock, hb, r1⟩, r2⟩ := h.1
    exact ⟨h.1.kept ((k.cells mb _ h.2 hb rfl).trans hb.symm), h.2⟩
  mono h k := ⟨h.1, k mb h.2⟩
  tight {W F} h := ⟨fun k => k = mb, ⟨h.1, rfl⟩, fun k hk => by subst hk; exact ⟨h.2, h.1.lt⟩⟩
structure KIs (w0 W : World) (kb mb n : Nat) (data : Int) (f : Int → Bool × Bool) (L : List Obj) : Prop where
  sep : Sep NoF w0 W (marksO kb mb data :: mmO mb n f :: L)
abbrev none2 : Int → Bool × Bool := fun _ => (false, false)
section
variable {w0 W W' : World} {kb mb n : Nat} {data : Int} {f : Int → Bool × Bool} {L : List Obj}
theorem KIs.map (h : KIs w0 W kb mb n data f L) : MM.Is W mb n f := by
  obtain ⟨F, hF⟩ := h.sep.has 1 rfl
  exact hF.1
theorem KIs.upd0 (h : KIs w0 W kb mb n data f L) (hu : Upd NoF W W') : KIs w0 W' kb mb n data f L := ⟨h.sep.upd0 hu⟩
theorem KIs.mono (h : KIs w0 W kb mb n data f L) {m : Nat} (hm : n ≤ m) : KIs w0 W kb mb m data f L := by
  obtain ⟨F, hF, hS⟩ := h.sep.step 1 rfl
  exact ⟨hS (mmO mb m f) W (Upd.refl F W) ⟨hF.1.mono hm, .inl hF.2⟩⟩
theorem KIs.step (h : KIs w0 W kb mb n data f L) (hg : W.grownBy W' (some mb)) {m : Nat} {g : Int → Bool × Bool} (hm : MM.Is W' mb m g) : KIs w0 W' kb mb m data g L := by
  obtain ⟨F, hF, hS⟩ := h.sep.step 1 rfl
  obtain ⟨D, ⟨es, clock, hb, r1⟩, r2⟩ := h.map
  exact ⟨hS (mmO mb m g) W' (Upd.mapped hg hF.2 ⟨es, clock, hb⟩) ⟨hm, .inl hF.2⟩⟩

set_option maxRecDepth 100000 in
theorem new_yes (h : Sep NoF w0 W L) (c : Cfg) (hc : May c) : Calls Tryz.prog 36 #[CV c] W fun e W' =>
    ∃ kb mb, e = .returned (.tuple #[ptr kb, .int .i64 0]) ∧ KIs w0 W' kb mb 0 (c.blocks - c.cores * c.logs) none2 L := by
  have hmm := @run_makeMap Tryz.prog
  have HM := Lib.hid (PL.pMay_yes c hc)
  have HD := Lib.hid (PL.pData_yes c hc)
  have h1 := h.alloc (CC c) 27
  obtain ⟨W1, hW1⟩ : ∃ X, W.alloc (.cells (CC c) 27) = X := ⟨_, rfl⟩
  rw [hW1] at h1
  have HS := Lib.hid h1; have HW1 := Lib.hid hW1
  have hsz := h.size
  generalize hdata : c.blocks - c.cores * c.logs = data at HD ⊢
  clear hc hdata hW1 h h1
  go_enter Tryz.func36, Tryz.ntmps36
  go_wp2_with fail
  rw [HW1.out]
  refine (HM.out _).mono ?_
  rintro e W2 ⟨rfl, hu⟩
  have HS2 := Lib.hid (HS.out.upd0 hu)
  clear hu
  have d0 : W2.cell? ⟨W.heap.size, 0, none⟩ = some (.int .i64 c.cores) := (HS2.out.box 0 rfl).cell 0
  have d1 : W2.cell? ⟨W.heap.size, 1, none⟩ = some (.int .i64 c.sets) := (HS2.out.box 0 rfl).cell 1
  have d2 : W2.cell? ⟨W.heap.size, 2, none⟩ = some (.int .i64 c.ways) := (HS2.out.box 0 rfl).cell 2
  have d3 : W2.cell? ⟨W.heap.size, 3, none⟩ = some (.int .i64 c.blocks) := (HS2.out.box 0 rfl).cell 3
  have d4 : W2.cell? ⟨W.heap.size, 4, none⟩ = some (.int .i64 c.logs) := (HS2.out.box 0 rfl).cell 4
  have d5 : W2.cell? ⟨W.heap.size, 5, none⟩ = some (.int .i64 c.backs) := (HS2.out.box 0 rfl).cell 5
  have d6 : W2.cell? ⟨W.heap.size, 6, none⟩ = some (.int .i64 c.nest) := (HS2.out.box 0 rfl).cell 6
  have d7 : W2.cell? ⟨W.heap.size, 7, none⟩ = some (.int .i64 c.tries) := (HS2.out.box 0 rfl).cell 7
  go_wp2_with fail
  refine (HD.out _).mono ?_
  rintro e W3 ⟨rfl, hu⟩
  have hs3 := (HS2.out.drop 0 (Nat.succ_pos _)).upd0 hu
  have HS3 : Hid (Sep NoF w0 W3 L) := Lib.hid hs3
  have hsz3 := hs3.size
  clear hu hs3
  go_wp2
  go_ret2
  have hmk := MM.Is.made W3
  have hu := Upd.alloc NoF W3 (.map #[] 0)
  have hb := (HS3.out.push hu (Φ := mmO W3.heap.size 0 none2) ⟨hmk, Nat.le_refl _⟩).alloc #[.int .i64 data, .map (some W3.heap.size)] 145
  rw [World.size_alloc] at hb
  exact ⟨_, _, rfl, ⟨hb⟩⟩
def mayB (data x : Int) : Bool := decide (0 ≤ x) && decide (x < data)
def putE (data x : Int) : Int := if mayB data x then 0 else 2
def putF (data : Int) (f : Int → Bool × Bool) (x : Int) (r q : Bool) : Int → Bool × Bool := if mayB data x then MM.put f x ((f x).1 || r, (f x).2 || q) else f
set_option maxRecDepth 100000 in
set_option maxHeartbeats 1000000 in
theorem put_any (h : KIs w0 W kb mb n data f L) (hn : n < 65536) (x : Int) (hx : MM.fit x) (r q : Bool) (hrq : (r || q) = true) :
    Calls Tryz.prog 86 #[ptr kb, .int .i64 x, .agg #[.bool r, .bool q]] W fun e W' =>
      e = .returned (.int .i64 (putE data x)) ∧ KIs w0 W' kb mb (n + 1) data (putF data f x r q) L := by
  have hu1 := Upd.alloc NoF W (.cells #[.bool r, .bool q] 151)
  have h1 := h.upd0 hu1
  obtain ⟨W1, hW1⟩ : ∃ X, W.alloc (.cells #[.bool r, .bool q] 151) = X := ⟨_, rfl⟩
  have q5 : Blk W1 W.heap.size #[.bool r, .bool q] 151 := by rw [← hW1]; exact Blk.new W _ _
  rw [hW1] at h1
  have H1 := Lib.hid h1; have HW1 := Lib.hid hW1
  have k0 : W1.cell? ⟨kb, 0, none⟩ = some (.int .i64 data) := (h1.sep.box 0 rfl).cell 0
  have k1 : W1.cell? ⟨kb, 1, none⟩ = some (.map (some mb)) := (h1.sep.box 0 rfl).cell 1
  unfold putE putF mayB
  by_cases x0 : x < 0
  · have g0 : decide (x < 0) = true := by simp; omega
    have e0 : decide (0 ≤ x) = false := by simp; omega
    rw [e0]
    clear h h1 hW1 hu1 x0 e0
    go_enter Tryz.func86, Tryz.ntmps86
    go_upto_region 1 with fail
    rw [HW1.out]
    go_wp2
    go_ret
    exact ⟨rfl, by simpa using H1.out.mono (Nat.le_succ n)⟩
  · have g0 : decide (x < 0) = false := by simp; omega
    have e0 : decide (0 ≤ x) = true := by simp; omega
    by_cases x1 : data ≤ x
    · have g1 : decide (data ≤ x) = true := by simp; omega
      have e1 : decide (x < data) = false := by simp; omega
      rw [e0, e1]
      clear h h1 hW1 hu1 x0 e0 x1 e1
      go_enter Tryz.func86, Tryz.ntmps86
      go_upto_region 1 with fail
      rw [HW1.out]
      go_wp2
      go_ret
      exact ⟨rfl, by simpa using H1.out.mono (Nat.le_succ n)⟩
    · have g1 : decide (data ≤ x) = false := by simp; omega
      have e1 : decide (x < data) = true := by simp; omega
      rw [e0, e1]
      have hl := h1.map.look hx
      obtain ⟨W2, hW2⟩ : ∃ X, W1.alloc (.cells #[.bool (f x).1, .bool (f x).2] 151) = X := ⟨_, rfl⟩
      have hu2 : Upd NoF W1 W2 := by rw [← hW2]; exact Upd.alloc NoF W1 _
      have q7 : Blk W2 W1.heap.size #[.bool (f x).1, .bool (f x).2] 151 := by rw [← hW2]; exact Blk.new W1 _ _
      have q5b := q5.upd hu2 (fun h => h)
      have h2 := h1.upd0 hu2
      have h2d := h2.upd0 (Upd.drew NoF W2)
      have p1 : W2.drew.cell? ⟨kb, 1, none⟩ = some (.map (some mb)) := (h2d.sep.box 0 rfl).cell 1
      have a0 : W2.drew.cell? ⟨W1.heap.size, 0, none⟩ = some (.bool (f x).1) := (q7.upd (Upd.drew NoF W2) (fun h => h)).cell 0
      have a1 : W2.drew.cell? ⟨W1.heap.size, 1, none⟩ = some (.bool (f x).2) := (q7.upd (Upd.drew NoF W2) (fun h => h)).cell 1
      have b0 : W2.drew.cell? ⟨W.heap.size, 0, none⟩ = some (.bool r) := (q5b.upd (Upd.drew NoF W2) (fun h => h)).cell 0
      have b1 : W2.drew.cell? ⟨W.heap.size, 1, none⟩ = some (.bool q) := (q5b.upd (Upd.drew NoF W2) (fun h => h)).cell 1
      obtain ⟨W3, hmu, hI, hg⟩ := h2d.map.store (by unfold maxLen; omega) hx ((f x).1 || r, (f x).2 || q) (by revert hrq; cases (f x).1 <;> cases (f x).2 <;> cases r <;> cases q <;> simp)
      have HF := Lib.hid (h2d.step hg hI)
      have HW2 := Lib.hid hW2
      have s7 : W1.heap.size = W1.heap.size := rfl
      clear h h1 hW1 hu1 x0 e0 x1 e1 hu2 q7 q5b h2 h2d hI hg hW2 H1 hx hrq q5 s7
      generalize hfx : f x = fx at *
      obtain ⟨fa, fb⟩ := fx
      cases fa <;> cases fb
      all_goals
        simp only [MM.mk, Bool.true_or, Bool.false_or] at *
        go_enter Tryz.func86, Tryz.ntmps86
        go_upto_region 1 with fail
        rw [HW1.out]
        go_upto_region 6 with fail
        rw [HW2.out]
        go_region
        all_goals
          go_wp2
          go_ret
          exact ⟨rfl, HF.out⟩
theorem read_any (h : KIs w0 W kb mb n data f L) (hn : n < 65536) (x : Int) (hx : MM.fit x) :
    Calls Tryz.prog 53 #[ptr kb, .int .i64 x] W fun e W' => e = .returned (.int .i64 (putE data x)) ∧ KIs w0 W' kb mb (n + 1) data (putF data f x true false) L := by
  have HP := Lib.hid (put_any h hn x hx true false rfl)
  clear h
  go_enter Tryz.func53, Tryz.ntmps53
  go_wp2_with fail
  refine HP.out.mono ?_
  rintro e w' ⟨rfl, hk⟩
  have HK := Lib.hid hk
  clear hk
  go_wp2
  go_ret
  exact ⟨rfl, HK.out⟩
theorem write_any (h : KIs w0 W kb mb n data f L) (hn : n < 65536) (x : Int) (hx : MM.fit x) :
    Calls Tryz.prog 42 #[ptr kb, .int .i64 x] W fun e W' => e = .returned (.int .i64 (putE data x)) ∧ KIs w0 W' kb mb (n + 1) data (putF data f x false true) L := by
  have HP := Lib.hid (put_any h hn x hx false true rfl)
  clear h
  go_enter Tryz.func42, Tryz.ntmps42
  go_wp2_with fail
  refine HP.out.mono ?_
  rintro e w' ⟨rfl, hk⟩
  have HK := Lib.hid hk
  clear hk
  go_wp2
  go_ret
  exact ⟨rfl, HK.out⟩
set_option maxRecDepth 100000 in
theorem has_any (h : KIs w0 W kb mb n data f L) (x : Int) (hx : MM.fit x) :
    Calls Tryz.prog 48 #[ptr kb, .int .i64 x] W fun e W' => e = .returned (.tuple #[.bool (f x).1, .bool (f x).2]) ∧ Upd NoF W W' := by
  have k1 : W.cell? ⟨kb, 1, none⟩ = some (.map (some mb)) := (h.sep.box 0 rfl).cell 1
  have hl := h.map.look hx
  have hu := Upd.alloc NoF W (.cells #[.bool (f x).1, .bool (f x).2] 151)
  have q := Blk.new W #[.bool (f x).1, .bool (f x).2] 151
  obtain ⟨W1, hW1⟩ : ∃ X, W.alloc (.cells #[.bool (f x).1, .bool (f x).2] 151) = X := ⟨_, rfl⟩
  rw [hW1] at hu q
  have HU := Lib.hid hu; have HW1 := Lib.hid hW1
  have a0 : W1.cell? ⟨W.heap.size, 0, none⟩ = some (.bool (f x).1) := q.cell 0
  have a1 : W1.cell? ⟨W.heap.size, 1, none⟩ = some (.bool (f x).2) := q.cell 1
  clear h hu q hW1 hx
  generalize f x = fx at *
  go_enter Tryz.func48, Tryz.ntmps48
  go_upto_region 4 with fail
  rw [HW1.out]
  go_quiet (fail)
  go_wp2
  go_ret2
  exact ⟨rfl, HU.out.trans (Upd.drewN NoF _ _) (fun _ _ h => h)⟩
def meetB (k : Int) (m : Bool × Bool) : Bool := if k = 4 then m.2 else if k = 5 then m.1 || m.2 else false
set_option maxRecDepth 100000 in
theorem meets_any (h : KIs w0 W kb mb n data f L) (k : Int) (x : Int) (hx : MM.fit x) :
    Calls Tryz.prog 97 #[ptr kb, .int .u8 k, .int .i64 x] W fun e W' => e = .returned (.bool (meetB k (f x))) ∧ Upd NoF W W' := by
  have HH := Lib.hid (has_any h x hx)
  clear h hx
  generalize f x = fx at *
  obtain ⟨a, b⟩ := fx
  unfold meetB
  by_cases h4 : k = 4
  · have g4 : (k == 4) = true := by simpa using h4
    rw [if_pos h4]
    go_enter Tryz.func97, Tryz.ntmps97
    go_wp2_with fail
    refine HH.out.mono ?_
    rintro e w' ⟨rfl, hu⟩
    have HU := Lib.hid hu
    clear hu
    go_wp2
    go_ret
    exact ⟨rfl, HU.out⟩
  · have g4 : (k == 4) = false := by simpa using h4
    rw [if_neg h4]
    by_cases h5 : k = 5
    · have g5 : (k == 5) = true := by simpa using h5
      rw [if_pos h5]
      cases a
      all_goals
        go_enter Tryz.func97, Tryz.ntmps97
        go_wp2_with fail
        refine HH.out.mono ?_
        rintro e w' ⟨rfl, hu⟩
        have HU := Lib.hid hu
        clear hu
        go_wp2
        go_ret
        exact ⟨by simp, HU.out⟩
    · have g5 : (k == 5) = false := by simpa using h5
      rw [if_neg h5]
      go_enter Tryz.func97, Tryz.ntmps97
      go_wp2_with fail
      refine HH.out.mono ?_
      rintro e w' ⟨rfl, hu⟩
      have HU := Lib.hid hu
      clear hu
      go_wp2
      go_ret
      exact ⟨rfl, HU.out⟩
set_option maxRecDepth 100000 in
theorem clear_any (h : KIs w0 W kb mb n data f L) : Calls Tryz.prog 51 #[ptr kb] W fun e W' => e = .returned (.tuple #[]) ∧ KIs w0 W' kb mb 0 data none2 L := by
  have k1 : W.cell? ⟨kb, 1, none⟩ = some (.map (some mb)) := (h.sep.box 0 rfl).cell 1
  obtain ⟨W1, hrun, hI, hg⟩ := h.map.clear 0
  have HF := Lib.hid (h.step hg hI)
  clear h hI hg
  go_enter Tryz.func51, Tryz.ntmps51
  go_wp2
  go_end0
  exact ⟨rfl, HF.out⟩
theorem clone_any {W : World} {mb n : Nat} {f : Int → Bool × Bool} (h : MM.Is W mb n f) : Calls Tryz.prog 107 #[.map (some mb)] W fun e W' =>
    e = .returned (.map (some W.heap.size)) ∧ Upd NoF W W' ∧ MM.Is W' W.heap.size n f := by
  obtain ⟨D, ⟨es, clock, hb, F, hs, hD⟩, r⟩ := h
  have hc := AnyW.maps_Clone Tryz.cloneA mb es clock W hb
  change Calls Tryz.prog 107 _ _ _ at hc
  refine hc.mono fun e W' ⟨he, hw⟩ => ?_
  subst hw
  exact ⟨he, Upd.alloc NoF W _, D, ⟨es, clock, (MapKept.heap_alloc W _).1, F, hs, hD⟩, r⟩
set_option maxRecDepth 100000 in
theorem copy_any (h : KIs w0 W kb mb n data f L) : Calls Tryz.prog 61 #[ptr kb] W fun e W' =>
    ∃ kb2 mb2, e = .returned (ptr kb2) ∧ KIs w0 W' kb2 mb2 n data f (marksO kb mb data :: mmO mb n f :: L) := by
  have hd := h.upd0 (Upd.drew NoF W)
  have k0 : W.drew.cell? ⟨kb, 0, none⟩ = some (.int .i64 data) := (hd.sep.box 0 rfl).cell 0
  have k1 : W.drew.cell? ⟨kb, 1, none⟩ = some (.map (some mb)) := (hd.sep.box 0 rfl).cell 1
  have HC := Lib.hid (clone_any hd.map)
  have HD := Lib.hid hd
  have hlt := h.map.lt
  clear h hd
  go_enter Tryz.func61, Tryz.ntmps61
  go_wp2_with fail
  go_region_with (go_at_call 107; refine HC.out.mono ?_; rintro e w2 ⟨rfl, hu, hI⟩; have H2 := Lib.hid (And.intro hu hI); clear hu hI; have k0b : w2.cell? ⟨kb, 0, none⟩ = some (.int .i64 data) := H2.out.1.cell k0 (fun h => h))
  all_goals
    go_wp2
    go_ret
    have hs := (HD.out.sep.push H2.out.1 (Φ := mmO W.drew.heap.size n f) ⟨H2.out.2, Nat.le_refl _⟩).alloc #[.int .i64 data, .map (some W.heap.size)] 145
    exact ⟨_, W.heap.size, rfl, ⟨hs⟩⟩
end
end Go.Proofs.YtjgeflbhmhmjdaaGreat.MK
