/- The reference undertowref13: rows of bools. -/
import Derived.Test.YtkncijoclnjpoaaMarkAllIn
import Derived.Laws.MakeOwn
set_option linter.unusedSimpArgs false
set_option linter.unusedVariables false
namespace Go.Proofs.Ytkncijoclnjpoaa.MK
open Go.RowKit
open PL (Cfg CC CV May)
attribute [local go_sem] Oper.semAt_some
abbrev BT : TypeId := 4
abbrev RT : TypeId := 65
abbrev sl (g d : Nat) : Value := .slice (some ⟨g, 0, none⟩) d d
def rowB (d : Nat) (p : Int → Bool) : Array Value := Array.ofFn (n := d) (fun i => .bool (p ((i : Nat) : Int)))
theorem rowB_size (d : Nat) (p : Int → Bool) : (rowB d p).size = d := by simp [rowB]
theorem rowB_get {d k : Nat} (p : Int → Bool) (h : k < d) : (rowB d p)[k]? = some (.bool (p k)) := by
  rw [Array.getElem?_eq_getElem (by rw [rowB_size]; exact h)]
  simp [rowB]
theorem rowB_set {d : Nat} (p : Int → Bool) (k : Nat) (b : Bool) : (rowB d p).setIfInBounds k (.bool b) = rowB d (fun x => if x = (k : Int) then b else p x) := by
  apply Array.ext
  · simp [rowB]
  · intro i h1 h2
    rw [Array.getElem_setIfInBounds (by simpa [rowB] using h1)]
    by_cases e : k = i
    · subst e; simp [rowB]
    · have : ¬ ((i : Int) = (k : Int)) := by omega
      rw [if_neg e]
      simp [rowB, this]
theorem rowB_made (d : Nat) : madeCells #[.bool false] (d * 1) = rowB d (fun _ => false) := by
  apply Array.ext
  · simp [madeCells, rowB]
  · intro i h1 h2
    simp [madeCells, rowB, Nat.mod_one]
def mkB (l c : Value) : Sem Value := Instr.makeSlice 63 l c
theorem mkB_eq (l c : Value) : Instr.makeSlice 63 l c = mkB l c := rfl
attribute [local go_sem ↓] mkB_eq
theorem mkB_run (n : Nat) (hn : n ≤ 65536) (w : World) : (mkB (.int .i64 n) (.int .i64 n)).run Try.prog w = .ok (sl w.heap.size n) (w.alloc (.cells (rowB n (fun _ => false)) BT)) := by
  have hi : (Try.prog.info? BT).map (fun i => (i.zero, i.size, i.bytes)) = some (some (.bool false), 1, 1) := by kernel_rfl
  cases hq : Try.prog.info? BT with
  | none => rw [hq] at hi; cases hi
  | some i =>
    rw [hq] at hi
    simp at hi
    have := run_make (P := Try.prog) w 63 BT i (.bool false) Try.underlying63 hq hi.1 .i64 .i64 n n (by omega) (by omega) (by rw [hi.2.2]; omega) (by omega)
    rw [hi.2.1] at this
    rw [← rowB_made n]
    exact this
theorem swap23 {G : Nat → Prop} {w0 W : World} {A B C : Obj} {L : List Obj} (h : Sep G w0 W (A :: B :: C :: L)) : Sep G w0 W (A :: C :: B :: L) := ((h.sink 2).sink 2).swap
theorem set_self {L : List Obj} {i : Nat} {Φ : Obj} (h : L[i]? = some Φ) : L.set i Φ = L := by
  apply List.ext_getElem?
  intro j
  rw [List.getElem?_set]
  split
  · rename_i e; subst e; rw [h]; simp [(List.getElem?_eq_some_iff.1 h).1]
  · rfl
section
variable {w0 W W' : World} {rb gr gw d : Nat} {pr qr : Int → Bool} {L : List Obj}
set_option maxRecDepth 100000 in
theorem rnew_any (h : Sep NoF w0 W L) (c : Cfg) (hc : May c) (hd : c.blocks - c.cores * c.logs = (d : Nat)) : Calls Try.prog 20 #[CV c] W fun e W' =>
    ∃ rb gr gw, e = .returned (ptr rb) ∧ Sep NoF w0 W' (boxO rb #[sl gr d, sl gw d] RT :: boxO gr (rowB d (fun _ => false)) BT :: boxO gw (rowB d (fun _ => false)) BT :: L) ∧ Upd NoF W W' := by
  have hle := data_le hc
  have HD := Lib.hid (PL.rdata_any c hc.1 hc.2.2.1 hc.2.1)
  rw [hd] at HD hle
  have h1 := h.alloc (CC c) 23
  obtain ⟨W1, hW1⟩ : ∃ X, W.alloc (.cells (CC c) 23) = X := ⟨_, rfl⟩
  rw [hW1] at h1
  have hu1 : Upd NoF W W1 := by rw [← hW1]; exact Upd.alloc NoF W _
  have HU1 := Lib.hid hu1
  have HS := Lib.hid h1; have HW1 := Lib.hid hW1
  have mk := mkB_run d (by omega)
  clear hc hW1 h h1 hd hu1
  go_enter Try.func20, Try.ntmps20
  go_wp2_with fail
  rw [HW1.out]
  refine (HD.out _).mono ?_
  rintro e W2 ⟨rfl, hu⟩
  have HS2 := Lib.hid (((HS.out.drop 0 (Nat.succ_pos _)).upd0 hu))
  have HU2 := Lib.hid (HU1.out.trans hu (fun _ _ h => h))
  clear hu HD HS HW1 HU1
  go_wp2_with fail
  have h9 : ∀ x y, Sep NoF w0 (((W2.alloc (.cells (rowB d (fun _ => false)) BT)).alloc (.cells (rowB d (fun _ => false)) BT)).alloc (.cells #[x, y] RT)).drew (boxO (W2.heap.size + 1 + 1) #[x, y] RT :: boxO (W2.heap.size + 1) (rowB d (fun _ => false)) BT :: boxO W2.heap.size (rowB d (fun _ => false)) BT :: L) ∧ Upd NoF W (((W2.alloc (.cells (rowB d (fun _ => false)) BT)).alloc (.cells (rowB d (fun _ => false)) BT)).alloc (.cells #[x, y] RT)).drew := fun x y => by
    have a1 := ((HS2.out.alloc (rowB d (fun _ => false)) BT).alloc (rowB d (fun _ => false)) BT).alloc #[x, y] RT
    rw [World.size_alloc, World.size_alloc] at a1
    exact ⟨a1.upd0 (Upd.drew NoF _), (((HU2.out.trans (Upd.alloc NoF _ _) (fun _ _ h => h)).trans (Upd.alloc NoF _ _) (fun _ _ h => h)).trans (Upd.alloc NoF _ _) (fun _ _ h => h)).trans (Upd.drew NoF _) (fun _ _ h => h)⟩
  have H9 := Lib.hid h9
  clear h9
  go_region
  · go_wp2
    go_ret
    exact ⟨_, rfl, ⟨_, _, swap23 (H9.out _ _).1⟩, (H9.out _ _).2⟩
  · go_wp2
    go_ret
    exact ⟨_, rfl, ⟨_, _, (H9.out _ _).1⟩, (H9.out _ _).2⟩
set_option maxRecDepth 100000 in
theorem rread_any (h : Sep NoF w0 W L) (i : Nat) (h0 : L[i]? = some (boxO rb #[sl gr d, sl gw d] RT)) (h1 : L[i + 1]? = some (boxO gr (rowB d pr) BT)) (x : Int) : Calls Try.prog 21 #[ptr rb, .int .i64 x] W fun e W' =>
    e = .returned (.int .i64 (putE d x)) ∧ Sep NoF w0 W' (L.set (i + 1) (boxO gr (rowB d (fun j => if mayB d x ∧ j = x then true else pr j)) BT)) ∧ KeepsOthers W W' := by
  have k0 : W.cell? ⟨rb, 0, none⟩ = some (sl gr d) := (h.box i h0).cell 0
  have k1 : W.cell? ⟨rb, 1, none⟩ = some (sl gw d) := (h.box i h0).cell 1
  unfold putE
  by_cases x0 : x < 0
  · have g0 : decide (x < 0) = true := by simp; omega
    have hm : mayB d x = false := by simp [mayB]; omega
    have HS := Lib.hid h
    rw [hm]
    simp only [Bool.false_eq_true, if_false, false_and, set_self h1]
    clear h hm
    go_enter Try.func21, Try.ntmps21
    go_wp2
    go_ret
    exact ⟨rfl, HS.out, KeepsOthers.refl _⟩
  · have g0 : decide (x < 0) = false := by simp; omega
    obtain ⟨k, rfl⟩ : ∃ k : Nat, x = k := ⟨x.toNat, by omega⟩
    by_cases x1 : d ≤ k
    · have g1 : decide ((d : Int) ≤ (k : Int)) = true := by simp; omega
      have hm : mayB d k = false := by simp [mayB]; omega
      have HS := Lib.hid h
      rw [hm]
      simp only [Bool.false_eq_true, if_false, false_and, set_self h1]
      clear h hm
      go_enter Try.func21, Try.ntmps21
      go_wp2
      go_ret
      exact ⟨rfl, HS.out, KeepsOthers.refl _⟩
    · have g1 : decide ((d : Int) ≤ (k : Int)) = false := by simp; omega
      have hm : mayB d k = true := by simp [mayB]; omega
      have hkd : k < d := by omega
      have hs := h.set (i + 1) h1 k (.bool true)
      rw [rowB_set] at hs
      have hz := (h.box (i + 1) h1).frozen k
      have hc : W.cell? ⟨gr, k, none⟩ = some (.bool (pr k)) := ((h.box (i + 1) h1).cell k).trans (rowB_get pr hkd)
      have HS := Lib.hid hs
      rw [hm]
      simp only [if_true, true_and]
      clear h hm hs x0 x1
      go_enter Try.func21, Try.ntmps21
      go_wp2
      go_ret
      exact ⟨rfl, HS.out, KeepsOthers.setCell _ _ _⟩
set_option maxRecDepth 100000 in
theorem rwrite_any (h : Sep NoF w0 W L) (i : Nat) (h0 : L[i]? = some (boxO rb #[sl gr d, sl gw d] RT)) (h1 : L[i + 2]? = some (boxO gw (rowB d qr) BT)) (x : Int) : Calls Try.prog 22 #[ptr rb, .int .i64 x] W fun e W' =>
    e = .returned (.int .i64 (putE d x)) ∧ Sep NoF w0 W' (L.set (i + 2) (boxO gw (rowB d (fun j => if mayB d x ∧ j = x then true else qr j)) BT)) ∧ KeepsOthers W W' := by
  have k0 : W.cell? ⟨rb, 0, none⟩ = some (sl gr d) := (h.box i h0).cell 0
  have k1 : W.cell? ⟨rb, 1, none⟩ = some (sl gw d) := (h.box i h0).cell 1
  unfold putE
  by_cases x0 : x < 0
  · have g0 : decide (x < 0) = true := by simp; omega
    have hm : mayB d x = false := by simp [mayB]; omega
    have HS := Lib.hid h
    rw [hm]
    simp only [Bool.false_eq_true, if_false, false_and, set_self h1]
    clear h hm
    go_enter Try.func22, Try.ntmps22
    go_wp2
    go_ret
    exact ⟨rfl, HS.out, KeepsOthers.refl _⟩
  · have g0 : decide (x < 0) = false := by simp; omega
    obtain ⟨k, rfl⟩ : ∃ k : Nat, x = k := ⟨x.toNat, by omega⟩
    by_cases x1 : d ≤ k
    · have g1 : decide ((d : Int) ≤ (k : Int)) = true := by simp; omega
      have hm : mayB d k = false := by simp [mayB]; omega
      have HS := Lib.hid h
      rw [hm]
      simp only [Bool.false_eq_true, if_false, false_and, set_self h1]
      clear h hm
      go_enter Try.func22, Try.ntmps22
      go_wp2
      go_ret
      exact ⟨rfl, HS.out, KeepsOthers.refl _⟩
    · have g1 : decide ((d : Int) ≤ (k : Int)) = false := by simp; omega
      have hm : mayB d k = true := by simp [mayB]; omega
      have hkd : k < d := by omega
      have hs := h.set (i + 2) h1 k (.bool true)
      rw [rowB_set] at hs
      have hz := (h.box (i + 2) h1).frozen k
      have hc : W.cell? ⟨gw, k, none⟩ = some (.bool (qr k)) := ((h.box (i + 2) h1).cell k).trans (rowB_get qr hkd)
      have HS := Lib.hid hs
      rw [hm]
      simp only [if_true, true_and]
      clear h hm hs x0 x1
      go_enter Try.func22, Try.ntmps22
      go_wp2
      go_ret
      exact ⟨rfl, HS.out, KeepsOthers.setCell _ _ _⟩
set_option maxRecDepth 100000 in
theorem rhas_any (h : Sep NoF w0 W L) (i : Nat) (h0 : L[i]? = some (boxO rb #[sl gr d, sl gw d] RT)) (h1 : L[i + 1]? = some (boxO gr (rowB d pr) BT)) (h2 : L[i + 2]? = some (boxO gw (rowB d qr) BT)) (x : Int) :
    Calls Try.prog 24 #[ptr rb, .int .i64 x] W fun e W' => e = .returned (.tuple #[.bool (mayB d x && pr x), .bool (mayB d x && qr x)]) ∧ Upd NoF W W' := by
  have k0 : W.cell? ⟨rb, 0, none⟩ = some (sl gr d) := (h.box i h0).cell 0
  have k1 : W.cell? ⟨rb, 1, none⟩ = some (sl gw d) := (h.box i h0).cell 1
  by_cases x0 : x < 0
  · have g0 : decide (x < 0) = true := by simp; omega
    have hm : mayB d x = false := by simp [mayB]; omega
    rw [hm]
    simp only [Bool.false_and]
    clear h hm
    go_enter Try.func24, Try.ntmps24
    go_wp2
    go_ret2
    exact ⟨rfl, Upd.refl _ _⟩
  · have g0 : decide (x < 0) = false := by simp; omega
    obtain ⟨k, rfl⟩ : ∃ k : Nat, x = k := ⟨x.toNat, by omega⟩
    by_cases x1 : d ≤ k
    · have g1 : decide ((d : Int) ≤ (k : Int)) = true := by simp; omega
      have hm : mayB d k = false := by simp [mayB]; omega
      rw [hm]
      simp only [Bool.false_and]
      clear h hm
      go_enter Try.func24, Try.ntmps24
      go_wp2
      go_ret2
      exact ⟨rfl, Upd.refl _ _⟩
    · have g1 : decide ((d : Int) ≤ (k : Int)) = false := by simp; omega
      have hm : mayB d k = true := by simp [mayB]; omega
      have hkd : k < d := by omega
      have hc : W.cell? ⟨gr, k, none⟩ = some (.bool (pr k)) := ((h.box (i + 1) h1).cell k).trans (rowB_get pr hkd)
      have hq : W.cell? ⟨gw, k, none⟩ = some (.bool (qr k)) := ((h.box (i + 2) h2).cell k).trans (rowB_get qr hkd)
      rw [hm]
      simp only [Bool.true_and]
      clear h hm x0 x1
      go_enter Try.func24, Try.ntmps24
      go_wp2
      go_quiet (fail)
      go_wp2
      go_ret2
      exact ⟨rfl, Upd.drewN NoF _ _⟩
set_option maxRecDepth 100000 in
theorem rmeets_any (h : Sep NoF w0 W L) (i : Nat) (h0 : L[i]? = some (boxO rb #[sl gr d, sl gw d] RT)) (h1 : L[i + 1]? = some (boxO gr (rowB d pr) BT)) (h2 : L[i + 2]? = some (boxO gw (rowB d qr) BT)) (k x : Int) :
    Calls Try.prog 25 #[ptr rb, .int .u8 k, .int .i64 x] W fun e W' => e = .returned (.bool (meetB k (mayB d x && pr x, mayB d x && qr x))) ∧ Upd NoF W W' := by
  have HH := Lib.hid (rhas_any h i h0 h1 h2 x)
  clear h h0 h1 h2
  generalize (mayB d x && pr x) = a at *
  generalize (mayB d x && qr x) = b at *
  unfold meetB
  by_cases h4 : k = 4
  · subst h4
    rw [if_pos rfl]
    cases b
    all_goals
      go_enter Try.func25, Try.ntmps25
      go_wp2_with fail
      refine HH.out.mono ?_
      rintro e w' ⟨rfl, hu⟩
      have HU := Lib.hid hu
      clear hu
      go_wp2
      go_ret
      exact ⟨rfl, HU.out⟩
  · have g4 : (k == 4) = false := by simpa using h4
    rw [if_neg h4]
    by_cases h5 : k = 5
    · subst h5
      rw [if_pos rfl]
      cases a
      all_goals
        go_enter Try.func25, Try.ntmps25
        go_wp2_with fail
        refine HH.out.mono ?_
        rintro e w' ⟨rfl, hu⟩
        have HU := Lib.hid hu
        clear hu
        go_wp2
        go_ret
        exact ⟨by simp, HU.out⟩
    · have g5 : (k == 5) = false := by simpa using h5
      rw [if_neg h5]
      go_enter Try.func25, Try.ntmps25
      go_wp2_with fail
      refine HH.out.mono ?_
      rintro e w' ⟨rfl, hu⟩
      have HU := Lib.hid hu
      clear hu
      go_wp2
      go_ret
      exact ⟨rfl, HU.out⟩
set_option maxRecDepth 100000 in
theorem rclear_any {A B : Obj} {L : List Obj} (h : Sep NoF w0 W (A :: B :: boxO rb #[sl gr d, sl gw d] RT :: boxO gr (rowB d pr) BT :: boxO gw (rowB d qr) BT :: L)) (hd : d ≤ 256) : Calls Try.prog 23 #[ptr rb] W fun e W' =>
    e = .returned (.tuple #[]) ∧ KeepsOthers W W' ∧ ∃ g1 g2, Sep NoF w0 W' (A :: B :: boxO rb #[sl g1 d, sl g2 d] RT :: boxO g1 (rowB d (fun _ => false)) BT :: boxO g2 (rowB d (fun _ => false)) BT :: L) := by
  have mk := mkB_run d (by omega)
  have k0 : W.cell? ⟨rb, 0, none⟩ = some (sl gr d) := (h.box 2 rfl).cell 0
  have a1 := (h.alloc (rowB d (fun _ => false)) BT).set 3 rfl 0 (sl W.heap.size d)
  have k0a : (W.alloc (.cells (rowB d (fun _ => false)) BT)).cell? ⟨rb, 0, none⟩ = some (sl gr d) := ((h.alloc (rowB d (fun _ => false)) BT).box 3 rfl).cell 0
  have z0a : (W.alloc (.cells (rowB d (fun _ => false)) BT)).frozen? ⟨rb, 0, none⟩ = false := ((h.alloc (rowB d (fun _ => false)) BT).box 3 rfl).frozen 0
  obtain ⟨W1, hW1⟩ : ∃ X, (W.alloc (.cells (rowB d (fun _ => false)) BT)).setCell ⟨rb, 0, none⟩ (sl W.heap.size d) = X := ⟨_, rfl⟩
  rw [hW1] at a1
  have b1 : Sep NoF w0 W1 (A :: B :: boxO rb #[sl W.heap.size d, sl gw d] RT :: boxO W.heap.size (rowB d (fun _ => false)) BT :: boxO gw (rowB d qr) BT :: L) := (a1.drop 4 (by simp)).sink 3
  have k1 : W1.cell? ⟨rb, 1, none⟩ = some (sl gw d) := (b1.box 2 rfl).cell 1
  have a2 := (b1.alloc (rowB d (fun _ => false)) BT).set 3 rfl 1 (sl W1.heap.size d)
  have k1a : (W1.alloc (.cells (rowB d (fun _ => false)) BT)).cell? ⟨rb, 1, none⟩ = some (sl gw d) := ((b1.alloc (rowB d (fun _ => false)) BT).box 3 rfl).cell 1
  have z1a : (W1.alloc (.cells (rowB d (fun _ => false)) BT)).frozen? ⟨rb, 1, none⟩ = false := ((b1.alloc (rowB d (fun _ => false)) BT).box 3 rfl).frozen 1
  have b2 : Sep NoF w0 ((W1.alloc (.cells (rowB d (fun _ => false)) BT)).setCell ⟨rb, 1, none⟩ (sl W1.heap.size d)) (A :: B :: boxO rb #[sl W.heap.size d, sl W1.heap.size d] RT :: boxO W.heap.size (rowB d (fun _ => false)) BT :: boxO W1.heap.size (rowB d (fun _ => false)) BT :: L) := (a2.drop 5 (by simp)).sink 4
  have ho1 : KeepsOthers W W1 := by rw [← hW1]; exact (KeepsOthers.alloc W _).trans (KeepsOthers.setCell _ _ _)
  have HO := Lib.hid (ho1.trans ((KeepsOthers.alloc W1 (.cells (rowB d (fun _ => false)) BT)).trans (KeepsOthers.setCell _ ⟨rb, 1, none⟩ (sl W1.heap.size d))))
  have HB := Lib.hid b2; have HW1 := Lib.hid hW1
  clear h a1 b1 a2 b2 hW1 ho1
  go_enter Try.func23, Try.ntmps23
  go_upto_region 1 with fail
  rw [HW1.out]
  go_wp2
  go_end0
  exact ⟨rfl, HO.out, _, _, HB.out⟩
theorem infoI : (Try.prog.info? 3).map (fun i => (i.zero, i.size, i.bytes)) = some (some (.int .i64 0), 1, 8) := by kernel_rfl
theorem s_appI {G : Nat → Prop} {w0 W : World} {L : List Obj} (h : Sep G w0 W L) (i : Nat) {v : Value} {xs : List Int} (hi : L[i]? = some (rowO 3 1 v xs.length (xs.map VI))) (x : Int) (hm : xs.length ≤ 65536) :
    ∃ v' W', (Builtin.append_ #[37, 37] 37 #[v, .slice (some ⟨W.heap.size, 0, none⟩) 1 1]).run Try.prog (W.alloc (.cells #[VI x] 3)) = .ok v' W' ∧ Sep G w0 W' (L.set i (rowO 3 1 v' (xs ++ [x]).length ((xs ++ [x]).map VI))) ∧ Upd (fun k => v.ownBlock = some k) W W' ∧ (v'.ownBlock = v.ownBlock ∨ ∃ g, v'.ownBlock = some g ∧ W.heap.size ≤ g) := by
  have h1 := h.upd0 (Upd.alloc NoF W (.cells #[VI x] 3))
  obtain ⟨F, hF, hS⟩ := h1.step i hi
  obtain ⟨i0, hi0, hz0, hz1, hz2⟩ := info_parts infoI
  obtain ⟨v9, w9, hrun, hrow9, hg, hf⟩ := run_append_row (P := Try.prog) (W.alloc (.cells #[VI x] 3)) 37 37 3 i0 (.int .i64 0) 1 8 Try.underlying37 hi0 hz0 hz1 hz2 rfl (by decide) v xs.length (xs.map VI)
    hF.1 ⟨W.heap.size, 0, none⟩ 1 1 [VI x] rfl (cell_one_new _ _ _) (by simp [Value.oneCell']) (by unfold maxLen; omega) (by omega)
  refine ⟨v9, w9, hrun, hS _ _ (Upd.grown (F := F) hg (fun k hk hlt => ⟨hF.2 k hk, hF.1.isCells k hk⟩)) ⟨?_, fun k hk => ?_⟩, (Upd.alloc _ W _).trans (Upd.grown (F := fun k => v.ownBlock = some k) hg (fun k hk _ => ⟨hk, hF.1.isCells k hk⟩)) (fun _ _ h => h), hf.imp id (fun ⟨g, e, hge⟩ => ⟨g, e, by rw [World.size_alloc] at hge; omega⟩)⟩
  · rw [List.map_append, List.length_append]
    exact hrow9
  · rcases hf with e | ⟨g, e, hge⟩
    · rw [e] at hk; exact .inl (hF.2 k hk)
    · rw [e] at hk; cases hk; exact .inr hge
set_option maxRecDepth 100000 in
set_option maxHeartbeats 1000000 in
theorem rall_any (h : Sep NoF w0 W L) (i : Nat) (h0 : L[i]? = some (boxO rb #[sl gr d, sl gw d] RT)) (h1 : L[i + 1]? = some (boxO gr (rowB d pr) BT)) (h2 : L[i + 2]? = some (boxO gw (rowB d qr) BT)) (hd : d ≤ 256) :
    Calls Try.prog 27 #[ptr rb] W fun e W' => ∃ (v : Value) (ss : List Int), e = .returned v ∧ ss.Pairwise (· < ·) ∧ (∀ a, a ∈ ss ↔ (0 ≤ a ∧ a < (d : Int)) ∧ (pr a || qr a) = true) ∧
      Sep NoF w0 W' (rowO 3 1 v ss.length (ss.map VI) :: L) ∧ Upd NoF W W' := by
  have H0 : Hid (Sep NoF w0 W (rowO 3 1 (.slice none 0 0) ([] : List Int).length (([] : List Int).map VI) :: L)) := Lib.hid (h.push (Upd.refl _ _) ⟨Row.nil _ _ _, fun k hk => by simp [Value.ownBlock] at hk⟩)
  clear h
  go_enter Try.func27, Try.ntmps27
  go_wp2
  go_loopw [3, 4] (fun ov i wr => ∃ (k : Nat) (ss : List Int), k ≤ d ∧ i = .int .i64 k ∧ ss.length ≤ k ∧ Hid (ss.Pairwise (· < ·) ∧ (∀ a, a ∈ ss ↔ (0 ≤ a ∧ a < (k : Int)) ∧ (pr a || qr a) = true) ∧ Sep NoF w0 wr (rowO 3 1 ov ss.length (ss.map VI) :: L) ∧ Upd NoF W wr ∧ ∀ j, ov.ownBlock = some j → W.heap.size ≤ j)) (fun _ i _ => d - (intOf i).toNat)
  case atStart => exact ⟨0, [], Nat.zero_le _, rfl, Nat.zero_le _, List.Pairwise.nil, fun a => ⟨fun h => by simp at h, fun h => by omega⟩, H0.out, Upd.refl _ _, fun j hj => by simp [Value.ownBlock] at hj⟩
  case round =>
    clear H0
    obtain ⟨k, ss, hk, rfl, hsl, HI⟩ := hrel
    have hS := HI.out.2.2.1
    have k0 : wr.cell? ⟨rb, 0, none⟩ = some (sl gr d) := (hS.box (i + 1) h0).cell 0
    have k1 : wr.cell? ⟨rb, 1, none⟩ = some (sl gw d) := (hS.box (i + 1) h0).cell 1
    obtain ⟨a9, cap9, rfl, hn9, hm9, r9⟩ := ints_at (hS.row 0 rfl)
    unfold maxLen at hm9
    clear r9
    by_cases hlt : k < d
    · have hc : wr.cell? ⟨gr, k, none⟩ = some (.bool (pr k)) := ((hS.box (i + 1 + 1) h1).cell k).trans (rowB_get pr hlt)
      have hq : wr.cell? ⟨gw, k, none⟩ = some (.bool (qr k)) := ((hS.box (i + 2 + 1) h2).cell k).trans (rowB_get qr hlt)
      obtain ⟨v', w7, hrun, hs7, hu7, hov⟩ := s_appI hS 0 rfl k (by omega)
      have HU7 : Hid (Upd NoF W w7 ∧ ∀ j, v'.ownBlock = some j → W.heap.size ≤ j) := Lib.hid ⟨HI.out.2.2.2.1.trans hu7 (fun j hj h => by have := HI.out.2.2.2.2 j h; omega), fun j hj => by
        rcases hov with e | ⟨g, e, hge⟩
        · exact HI.out.2.2.2.2 j (e ▸ hj)
        · rw [e] at hj; cases hj; have := HI.out.2.2.2.1.size; omega⟩
      clear hu7 hov
      have HR := Lib.hid hrun
      have HS7 := Lib.hid hs7
      clear hrun hs7 hS
      have hstep : ∀ b : Bool, (pr k || qr k) = b → (if b then ss ++ [(k : Int)] else ss).Pairwise (· < ·) ∧ (∀ a, a ∈ (if b then ss ++ [(k : Int)] else ss) ↔ (0 ≤ a ∧ a < ((k + 1 : Nat) : Int)) ∧ (pr a || qr a) = true) := fun b hb => by
        obtain ⟨hp, hmm, _⟩ := HI.out
        cases b
        · refine ⟨hp, fun a => (hmm a).trans ⟨fun h => ⟨⟨h.1.1, by omega⟩, h.2⟩, fun h => ⟨⟨h.1.1, ?_⟩, h.2⟩⟩⟩
          have : a ≠ k := fun e => by subst e; rw [hb] at h; cases h.2
          omega
        · refine ⟨?_, fun a => ?_⟩
          · rw [if_pos rfl, List.pairwise_append]
            exact ⟨hp, List.pairwise_singleton _ _, fun a ha b hb2 => by simp only [List.mem_singleton] at hb2; subst hb2; exact ((hmm a).1 ha).1.2⟩
          · rw [if_pos rfl, List.mem_append, List.mem_singleton, hmm a]
            constructor
            · rintro (h | rfl)
              · exact ⟨⟨h.1.1, by omega⟩, h.2⟩
              · exact ⟨⟨by omega, by omega⟩, hb⟩
            · intro h
              by_cases e : a = k
              · exact .inr e
              · exact .inl ⟨⟨h.1.1, by omega⟩, h.2⟩
      have HST := Lib.hid hstep
      clear hstep
      generalize hpk : pr k = pk at *
      generalize hqk : qr k = qk at *
      cases pk <;> cases qk
      · have h9 := HST.out false rfl
        have H9 := Lib.hid h9
        have HS0 := Lib.hid HI.out.2.2
        clear h9 HS7 HR
        go_wp2
        go_roundw
        case rel => exact ⟨k + 1, ss, by omega, by go_num, by omega, H9.out.1, H9.out.2, HS0.out⟩
        case measure => simp [intOf]; omega
      all_goals
        have h9 := HST.out true rfl
        have H9 := Lib.hid h9
        clear h9
        go_wp2_with (at_builtin; refine wpList_append_run (w := wr.alloc (.cells #[VI k] 3)) rfl _ _ 37 rfl rfl rfl HR.out ?_)
        first
          | (go_roundw
             case rel => exact ⟨k + 1, ss ++ [(k : Int)], by omega, by go_num, by simp; omega, H9.out.1, H9.out.2, HS7.out, HU7.out⟩
             case measure => simp [intOf]; omega)
          | exact ⟨⟨k + 1, ss ++ [(k : Int)], by omega, by go_num, by simp; omega, H9.out.1, H9.out.2, HS7.out, HU7.out⟩, by simp [intOf]; omega⟩
    · obtain rfl : d = k := by omega
      clear hS
      go_wp2
      go_ret
      exact ⟨_, ss, rfl, HI.out.1, HI.out.2.1, HI.out.2.2.1, HI.out.2.2.2.1⟩
end
end Go.Proofs.Ytkncijoclnjpoaa.MK
