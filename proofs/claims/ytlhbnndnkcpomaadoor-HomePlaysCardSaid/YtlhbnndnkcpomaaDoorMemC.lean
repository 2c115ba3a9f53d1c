/- The contracts of package mem. -/
import Derived.Test.YtlhbnndnkcpomaaDoorBlkU
import Derived.Test.YtlhbnndnkcpomaaDoorRowG
import Derived.Test.YtlhbnndnkcpomaaDoorNotePlain
set_option linter.unusedSimpArgs false
set_option linter.unusedVariables false
namespace Go.Proofs.YtlhbnndnkcpomaaDoor.ME
open Go.RowKit
open BU (IsU words)
attribute [local go_sem] Oper.semAt_some
attribute [local go_sem ↓] eqB_eq neB_eq TBlk.ld_eq TBlk.st_eq TBlk.al_eq TBlk.bx_eq
attribute [local go_sem] TBlk.al_run TBlk.bx_run
abbrev ptr (b : Nat) : Value := .pointer (some ⟨b, 0, none⟩)
abbrev BT : TypeId := 45
abbrev MT : TypeId := 94
abbrev sl (g n cap : Nat) : Value := .slice (some ⟨g, 0, none⟩) n cap
/-- A memory of n blocks. -/
def memO (mb n : Nat) (B : Nat → Array Value) : Obj :=
  exO fun q : Nat × Nat × Array Value => andO ((∀ i, IsU (B i)) ∧ n ≤ q.2.1 ∧ q.2.1 ≤ maxLen ∧ q.2.1 * 16 ≤ n * 16 + q.2.2.size) (starO (boxO mb #[sl q.1 n q.2.1] MT) (boxO q.1 (rowG 16 n B ++ q.2.2) BT))
section
variable {W W' : World} {F : Nat → Prop} {mb n : Nat} {B : Nat → Array Value}
theorem mem_open (h : (memO mb n B).is W F) : ∃ g cap tl, (∀ i, IsU (B i)) ∧ n ≤ cap ∧ cap ≤ maxLen ∧ cap * 16 ≤ n * 16 + tl.size ∧ Blk W mb #[sl g n cap] MT ∧ F mb ∧ Blk W g (rowG 16 n B ++ tl) BT ∧ F g ∧ g ≠ mb := by
  obtain ⟨⟨g, cap, tl⟩, ⟨h1, h2, h3, h4⟩, F1, F2, a1, a2, a3, ⟨b1, c1⟩, b2, c2⟩ := h
  exact ⟨g, cap, tl, h1, h2, h3, h4, b1, a1 _ c1, b2, a2 _ c2, fun e => a3 mb c1 (e ▸ c2)⟩
theorem mem_shut {g cap : Nat} {tl : Array Value} (h1 : ∀ i, IsU (B i)) (h2 : n ≤ cap) (h3 : cap ≤ maxLen) (h4 : cap * 16 ≤ n * 16 + tl.size) (b1 : Blk W mb #[sl g n cap] MT) (c1 : F mb) (b2 : Blk W g (rowG 16 n B ++ tl) BT) (c2 : F g) (hne : g ≠ mb) : (memO mb n B).is W F :=
  ⟨⟨g, cap, tl⟩, ⟨h1, h2, h3, h4⟩, fun k => k = mb, fun k => k = g, fun k e => by subst e; exact c1, fun k e => by subst e; exact c2, fun k e e2 => hne (e2.symm.trans e), ⟨b1, rfl⟩, b2, rfl⟩
/-- What of the blocks behind the n is said is nothing. -/
theorem mem_congr {B' : Nat → Array Value} (h : (memO mb n B).is W F) (hB : ∀ i, i < n → B i = B' i) (hU : ∀ i, IsU (B' i)) : (memO mb n B').is W F := by
  obtain ⟨g, cap, tl, h1, h2, h3, h4, b1, c1, b2, c2, hne⟩ := mem_open h
  rw [rowG_ext hB] at b2
  exact mem_shut hU h2 h3 h4 b1 c1 b2 c2 hne
theorem blocks_any (h : (memO mb n B).is W F) : Calls Tryd.prog 39 #[ptr mb] W fun e W' => e = .returned (.int .i64 n) ∧ W = W' := by
  obtain ⟨g, cap, tl, h1, h2, h3, h4, b1, c1, b2, c2, hne⟩ := mem_open h
  have m0 : W.cell? ⟨mb, 0, none⟩ = some (sl g n cap) := b1.cell 0
  clear h b1 b2
  go_enter Tryd.func39, Tryd.ntmps39
  go_wp2
  go_ret
  exact ⟨rfl, rfl⟩
theorem at_ok {g cap : Nat} (hb : Blk W mb #[sl g n cap] MT) (hn : n ≤ 256) (hc : n ≤ cap) (b : Nat) (h : b < n) : Calls Tryd.prog 55 #[ptr mb, .int .i64 b, .int .i64 0] W fun e W' => e = .returned (.tuple #[.pointer (some ⟨g, b * 16, none⟩), .int .i64 0]) ∧ Upd NoF W W' := by
  have m0 : W.cell? ⟨mb, 0, none⟩ = some (sl g n cap) := hb.cell 0
  have hlt : (b : Int) < (n : Int) := by omega
  clear hb
  go_enter Tryd.func55, Tryd.ntmps55
  go_wp2
  all_goals
    go_ret2
    exact ⟨rfl, Upd.refl _ _⟩
theorem at_out {g cap : Nat} (hb : Blk W mb #[sl g n cap] MT) (b : Int) (h : b < 0 ∨ (n : Int) ≤ b) : Calls Tryd.prog 55 #[ptr mb, .int .i64 b, .int .i64 0] W fun e W' => e = .returned (.tuple #[.pointer none, .int .i64 5]) ∧ Upd NoF W W' := by
  have m0 : W.cell? ⟨mb, 0, none⟩ = some (sl g n cap) := hb.cell 0
  clear hb
  have hx : (decide (b < 0) || decide ((n : Int) ≤ b)) = true := by simpa using h
  go_enter Tryd.func55, Tryd.ntmps55
  go_wp2
  all_goals
    go_ret2
    exact ⟨rfl, Upd.refl _ _⟩
/-- What Block tells. -/
def blkP (n : Nat) (B : Nat → Array Value) (b : Int) : Array Value := if 0 ≤ b ∧ b < n then B b.toNat else TBlk.Z
def errP (n : Nat) (b : Int) : Int := if 0 ≤ b ∧ b < n then 0 else 5
set_option maxRecDepth 100000 in
theorem block_any (h : (memO mb n B).is W F) (hn : n ≤ 256) (b : Int) : Calls Tryd.prog 23 #[ptr mb, .int .i64 b] W fun e W' => e = .returned (.tuple #[.agg (blkP n B b), .int .i64 (errP n b)]) ∧ Upd NoF W W' := by
  obtain ⟨g, cap, tl, h1, h2, h3, h4, b1, c1, b2, c2, hne⟩ := mem_open h
  have hu1 := Upd.alloc NoF W (.cells TBlk.Z BT)
  have d1 := b1.upd hu1 (fun h => h)
  have d2 := b2.upd hu1 (fun h => h)
  have q0 := Blk.new W TBlk.Z BT
  have hub : ∀ (X Y : World) (vs : List Value), Upd NoF W X → X.setCells W.heap.size 0 vs = Y → Upd NoF W Y := fun X Y vs hX e => by
    rw [← e]; exact hX.trans (upd_setCells vs 0 _) (fun k hk e => by have e : k = W.heap.size := e; omega)
  have HB := Lib.hid hub
  have HU1 := Lib.hid hu1
  clear hub hu1
  by_cases hb : 0 ≤ b ∧ b < n
  · obtain ⟨k, rfl⟩ : ∃ k : Nat, b = k := ⟨b.toNat, by omega⟩
    have hk : k < n := by omega
    have HA := Lib.hid (at_ok d1 hn h2 k hk)
    have e1 : blkP n B k = B k := by unfold blkP; rw [if_pos hb]; rfl
    have e2 : errP n k = 0 := by unfold errP; rw [if_pos hb]
    rw [e1, e2]
    have hx := (h1 k).isN
    have HR := Lib.hid (fun W2 (hu : Upd NoF (W.alloc (.cells TBlk.Z BT)) W2) => And.intro (TBlk.ld_at hx (rowG_range (d2.upd hu (fun h => h)) hx.1 hk)) (And.intro ((d1.upd hu (fun h => h)).cell 0) (TBlk.st_at TBlk.isZ hx (q0.upd hu (fun h => h)))))
    have HX := Lib.hid hx
    have hlt : (k : Int) < (n : Int) := by omega
    clear h h1 b1 b2 d1 d2 q0 e1 e2 hb c1 c2 hne h4 hx
    generalize B k = x at *
    go_enter Tryd.func23, Tryd.ntmps23
    go_wp2_with fail
    refine HA.out.mono ?_
    rintro e W2 ⟨rfl, hu⟩
    obtain ⟨l1, m0, s1, q1⟩ := HR.out W2 hu
    change W2.cell? ⟨mb, 0, none⟩ = some (sl g n cap) at m0
    have HV := Lib.hid (TBlk.ldV_at HX.out q1.whole)
    generalize hX : W2.setCells W.heap.size 0 x.toList = X at *
    have HF := Lib.hid (HB.out _ _ _ (HU1.out.trans hu (fun _ _ h => h)) hX)
    clear hX q1 hu HR HA HB HU1
    go_wp2
    have hv := HV.out
    refine bodyPost_ret (v := .tuple #[.agg x, .int .i64 0]) ?_ ?_ ?_
    · simp [results, Tryd.f23, asAddr, hv]
    · rfl
    exact ⟨rfl, HF.out⟩
  · have HA := Lib.hid (at_out d1 b (by omega))
    have e1 : blkP n B b = TBlk.Z := by unfold blkP; rw [if_neg hb]
    have e2 : errP n b = 5 := by unfold errP; rw [if_neg hb]
    rw [e1, e2]
    have HR := Lib.hid (fun W2 (hu : Upd NoF (W.alloc (.cells TBlk.Z BT)) W2) => TBlk.st_at TBlk.isZ TBlk.isZ (q0.upd hu (fun h => h)))
    clear h h1 b1 b2 d1 d2 q0 e1 e2 hb c1 c2 hne h4
    go_enter Tryd.func23, Tryd.ntmps23
    go_wp2_with fail
    refine HA.out.mono ?_
    rintro e W2 ⟨rfl, hu⟩
    obtain ⟨s1, q1⟩ := HR.out W2 hu
    have HV := Lib.hid (TBlk.ldV_at TBlk.isZ q1.whole)
    rw [show (Value.agg TBlk.Z) = Value.agg #[.int .u32 0, .int .u32 0, .int .u32 0, .int .u32 0, .int .u32 0, .int .u32 0, .int .u32 0, .int .u32 0, .int .u32 0, .int .u32 0, .int .u32 0, .int .u32 0, .int .u32 0, .int .u32 0, .int .u32 0, .int .u32 0] by kernel_rfl] at s1
    generalize hX : W2.setCells W.heap.size 0 TBlk.Z.toList = X at *
    have HF := Lib.hid (HB.out _ _ _ (HU1.out.trans hu (fun _ _ h => h)) hX)
    clear hX q1 hu HR HA HB HU1
    go_wp2
    have hv := HV.out
    refine bodyPost_ret (v := .tuple #[.agg TBlk.Z, .int .i64 5]) ?_ ?_ ?_
    · simp [results, Tryd.f23, asAddr, hv]
    · rfl
    exact ⟨rfl, HF.out⟩
theorem bst_mid {x X : Array Value} (hx : IsN 16 x) {w : World} {b o : Nat} {T : TypeId} (h : Blk w b X T) (ho : o + 16 ≤ X.size) : (TBlk.st (.pointer (some ⟨b, o, none⟩)) (.agg x)).run Tryd.prog w = .ok () (w.setCells b o x.toList) :=
  run_storeAt_mid w b o BT x (there_of h (by rw [hx.1]; exact ho)) (by rw [TBlk.infoS, hx.1]) hx.all
set_option maxRecDepth 100000 in
theorem setBlock_ok (h : (memO mb n B).is W F) (hn : n ≤ 256) (k : Nat) (hk : k < n) (D : Array Value) (hD : IsU D) : Calls Tryd.prog 49 #[ptr mb, .int .i64 k, .agg D] W fun e W' => e = .returned (.int .i64 0) ∧ Upd F W W' ∧ (memO mb n (updG B k D)).is W' (AndNew F W) := by
  have hu1 := Upd.alloc NoF W (.cells D BT)
  have h0 := (memO mb n B).keep h (hu1.kept (fun _ _ _ h => h))
  have HB := Lib.hid (block_any h0 hn k)
  have e1 : blkP n B k = B k := by unfold blkP; rw [if_pos (by omega)]; rfl
  have e2 : errP n k = 0 := by unfold errP; rw [if_pos (by omega)]
  rw [e1, e2] at HB
  have q0 := Blk.new W D BT
  have hx := (mem_open h).choose_spec.choose_spec.choose_spec.1 k
  have hxN := hx.isN
  have hDN := hD.isN
  have hne := fun w => neB_run hx hD w
  have HH := Lib.hid h
  have HQ := Lib.hid q0
  have HU1 := Lib.hid hu1
  have HX := Lib.hid (And.intro hx (And.intro hxN hDN))
  have hlt : (k : Int) < (n : Int) := by omega
  have HS := Lib.hid (fun W2 => TBlk.st_new hxN W2)
  clear h h0 hu1 q0 e1 e2
  generalize hB : B k = x at *
  go_enter Tryd.func49, Tryd.ntmps49
  go_wp2_with fail
  refine HB.out.mono ?_
  rintro e W2 ⟨rfl, hu⟩
  have s1 := HS.out W2
  obtain ⟨W3, hW3⟩ : ∃ W3, W2.alloc (.cells x BT) = W3 := ⟨_, rfl⟩
  have hu3 : Upd NoF (W.alloc (.cells D BT)) W3 := by rw [← hW3]; exact hu.trans (Upd.alloc NoF _ _) (fun _ _ h => h)
  have l1 : (TBlk.ld (.pointer (some ⟨W2.heap.size, 0, none⟩))).run Tryd.prog W3 = .ok (.agg x) W3 := by rw [← hW3]; exact TBlk.ld_new HX.out.2.1 W2
  have l2 := TBlk.ld_at HX.out.2.2 (HQ.out.upd hu3 (fun h => h)).whole
  rw [hW3] at s1
  have HU3 := Lib.hid (HU1.out.trans hu3 (fun _ _ h => h))
  have HL3 := Lib.hid (HQ.out.upd hu3 (fun h => h))
  have hxD := HX.out.1
  clear hu hu3 hW3 HB HS
  cases hw : (words x == words D)
  · obtain ⟨g, cap, tl, h1, h2, h3, h4, b1, c1, b2, c2, hne9⟩ := mem_open ((memO mb n B).keep HH.out ((HU3.out.trans (Upd.drew NoF W3) (fun _ _ h => h)).kept (fun _ _ _ h => h)))
    have hud := HU3.out.trans (Upd.drew NoF W3) (fun _ _ h => h)
    have l3 : (TBlk.ld (.pointer (some ⟨W.heap.size, 0, none⟩))).run Tryd.prog W3.drew = .ok (.agg D) W3.drew := TBlk.ld_at HX.out.2.2 (HL3.out.bk (Bk.of_upd (n := 0) (Upd.drew NoF W3)) (fun h => h)).whole
    have m0 : W3.drew.cell? ⟨mb, 0, none⟩ = some (sl g n cap) := b1.cell 0
    have s2 := bst_mid HX.out.2.2 b2 (o := k * 16) (by rw [Array.size_append, rowG_size]; have := idx_lt (k := 16) (r := 15) hk (by omega); omega)
    have hfin : Upd F W (W3.drew.setCells g (k * 16) D.toList) ∧ (memO mb n (updG B k D)).is (W3.drew.setCells g (k * 16) D.toList) (AndNew F W) := by
      refine ⟨(hud.mono (fun _ _ h => h.elim)).trans ((upd_setCells D.toList (k * 16) W3.drew).mono (fun i _ hi => by have e : i = g := hi; subst e; exact c2)) (fun _ _ h => h), ?_⟩
      have b2' := blk_setCells D.toList (k * 16) W3.drew _ b2
      rw [rowX_setG (fun j => (h1 j).isN.1) hDN.1 hk] at b2'
      exact mem_shut (fun i => by unfold updG; split; exact hD; exact h1 i) h2 h3 h4 (b1.upd (upd_setCells D.toList (k * 16) W3.drew) (fun e => hne9 e.symm)) (.inl c1) b2' (.inl c2) hne9
    have HF := Lib.hid hfin
    clear hfin b1 b2 c1 c2 h1 h4 hne9 HH hud
    go_wp2_with fail
    go_region_with (fail)
    all_goals
      go_wp2
      go_ret
      exact ⟨rfl, HF.out⟩
  · have e9 : B k = D := by rw [hB]; exact (BU.words_inj hxD hD).1 (by simpa using hw)
    have HF : Hid (Upd F W W3 ∧ (memO mb n (updG B k D)).is W3 (AndNew F W)) := Lib.hid (And.intro (HU3.out.mono (G := F) (fun _ _ h => h.elim)) (by rw [updG_self B e9]; exact (memO mb n B).mono ((memO mb n B).keep HH.out (HU3.out.kept (fun _ _ _ h => h))) (fun k hk => show AndNew F W k from .inl hk)))
    clear HH
    go_wp2_with fail
    go_ret
    exact ⟨rfl, HF.out⟩
end
end Go.Proofs.YtlhbnndnkcpomaaDoor.ME
