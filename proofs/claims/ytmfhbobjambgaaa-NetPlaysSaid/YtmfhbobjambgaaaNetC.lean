/- The contracts of package net, over a list of notes: what fits, Room. -/
import Derived.Test.YtmfhbobjambgaaaGridC
import Derived.Test.YtmfhbobjambgaaaPoolNote
import Derived.Test.YtmfhbobjambgaaaRangeA
import Derived.Test.YtmfhbobjambgaaaPlan
import Derived.Deep.RegionHeld3
set_option linter.unusedSimpArgs false
set_option linter.unusedVariables false
namespace Go.Proofs.Ytmfhbobjambgaaa.NE
open Go.RowKit
open BU (IsU words)
open PL (Cfg CC CV May)
attribute [local go_sem] Oper.semAt_some
attribute [local go_sem ↓] eqN_eq neN_eq eqB_eq neB_eq TNot.ld_eq TNot.st_eq TNot.al_eq TNot.bx_eq
attribute [local go_sem] TNot.al_run TNot.bx_run

abbrev ptr (b : Nat) : Value := .pointer (some ⟨b, 0, none⟩)
abbrev NetT : TypeId := 74
abbrev NetA (c : Cfg) (room hops : Int) (l : Nat) : Array Value :=
  #[.int .i64 c.cores, .int .i64 c.sets, .int .i64 c.ways, .int .i64 c.blocks, .int .i64 c.logs, .int .i64 c.backs, .int .i64 c.nest, .int .i64 c.tries, .int .i64 room, ptr l, .int .i64 hops]
/-- A net: its plan, its pools' room, what is on its way, how far what was taken went. -/
def To (tb : Nat) (c : Cfg) (room : Int) (ns : List Nt) (hops : Int) : Obj :=
  exO fun l => andO (∀ n ∈ ns, n.Ok) (starO (boxO tb (NetA c room hops l) NetT) (PN.Po (ptr l) (ns.map Nt.cells) 52224))
theorem open_to {w : World} {F : Nat → Prop} {tb : Nat} {c : Cfg} {room hops : Int} {ns : List Nt} (h : (To tb c room ns hops).is w F) :
    ∃ l F2, (∀ n ∈ ns, n.Ok) ∧ Blk w tb (NetA c room hops l) NetT ∧ F tb ∧ (∀ k, F2 k → F k) ∧ ¬ F2 tb ∧ (PN.Po (ptr l) (ns.map Nt.cells) 52224).is w F2 := by
  obtain ⟨l, hN, F1, F2, h1, h2, h3, h4, h5⟩ := h
  exact ⟨l, F2, hN, h4.1, h1 tb h4.2, h2, fun hf => h3 tb h4.2 hf, h5⟩
theorem shut_to {w w' : World} {F F2 : Nat → Prop} {tb l : Nat} {c : Cfg} {room hops : Int} {ns : List Nt} (hN : ∀ n ∈ ns, n.Ok) (hb : Blk w tb (NetA c room hops l) NetT) (hF : F tb) (h2 : ∀ k, F2 k → F k) (hn : ¬ F2 tb)
    (hu : Upd F2 w w') (hp : (PN.Po (ptr l) (ns.map Nt.cells) 52224).is w' (AndNew F2 w)) : Upd F w w' ∧ (To tb c room ns hops).is w' (AndNew F w) := by
  refine ⟨hu.mono (fun k _ hk => h2 k hk), l, hN, fun k => k = tb, AndNew F2 w, fun k hk => by subst hk; exact .inl hF, fun k hk => hk.imp (h2 k) id, fun k hk hf => ?_, ⟨hb.upd hu hn, rfl⟩, hp⟩
  subst hk
  rcases hf with hf | hf
  · exact hn hf
  · have := hb.lt; omega

/-- Does a note fit the plan? -/
def fitsN (c : Cfg) (n : Nt) : Bool := MayN n && (decide (max n.frm n.too < c.cores) && decide (n.blk < c.blocks - c.cores * c.logs))
def isB (node net : Int) (n : Nt) : Bool := n.too == node && netN n.kind == net
def cntN (node net : Int) (ns : List Nt) : Int := (ns.countP (isB node net) : Nat)
def roomN (c : Cfg) (room : Int) (ns : List Nt) (node net : Int) : Int := if node < -1 ∨ c.cores ≤ node ∨ net < 0 ∨ 3 ≤ net then 0 else room - cntN node net ns

set_option maxRecDepth 100000 in
theorem is_any (n : Nt) (node net : Int) (b4 b5 : Nat) (W : World) (h4 : W.cell? ⟨b4, 0, none⟩ = some (.int .i64 node)) (h5 : W.cell? ⟨b5, 0, none⟩ = some (.int .i64 net)) :
    Calls Try.prog 38 (#[.agg n.cells] ++ #[ptr b4, ptr b5]) W fun e w' => e = .returned (.bool (isB node net n)) ∧ Upd NoF W w' := by
  have hu := Upd.alloc NoF W (.cells n.cells 37)
  have q := Blk.new W n.cells 37
  have g4 := hu.cell h4 (fun h => h)
  have g5 := hu.cell h5 (fun h => h)
  obtain ⟨V, hV⟩ : ∃ V, W.alloc (.cells n.cells 37) = V := ⟨_, rfl⟩
  rw [hV] at hu q g4 g5
  have f2 : V.cell? ⟨W.heap.size, 2, none⟩ = some (.int .i64 n.too) := (q.cell 2).trans n.get2
  have f0 : V.cell? ⟨W.heap.size, 0, none⟩ = some (.int .u8 n.kind) := (q.cell 0).trans n.get0
  have HU := Lib.hid hu; have HV := Lib.hid hV
  have HK := Lib.hid (fun w => NC.net_any n.kind w)
  unfold isB
  clear h4 h5 hu q hV
  cases ht : (n.too == node)
  · have ht' : decide (n.too = node) = false := by simpa using ht
    go_enter Try.func38, Try.ntmps38
    go_wp2_with fail
    rw [HV.out]
    go_quiet (fail)
    go_wp2
    go_ret
    exact ⟨rfl, HU.out.trans (Upd.drewN NoF _ _) (fun _ _ h => h)⟩
  · have ht' : decide (n.too = node) = true := by simpa using ht
    generalize netN n.kind = nn at *
    go_enter Try.func38, Try.ntmps38
    go_wp2_with fail
    rw [HV.out]
    go_quiet (first | (go_at_call 15; exact Calls.quiet_of_same ((HK.out _).mono (fun _ _ h => ⟨h.1, h.2.symm⟩))))
    go_wp2
    go_ret
    exact ⟨by simp, HU.out.trans (Upd.drewN NoF _ _) (fun _ _ h => h)⟩
theorem len_any (w : World) (F : Nat → Prop) (tb : Nat) (c : Cfg) (room : Int) (ns : List Nt) (hops : Int) (h : (To tb c room ns hops).is w F) :
    Calls Try.prog 12 #[ptr tb] w fun e w' => e = .returned (.int .i64 ns.length) ∧ w = w' := by
  obtain ⟨l, F2, hN, hb, _, _, _, hp⟩ := open_to h
  have c9 : w.cell? ⟨tb, 9, none⟩ = some (ptr l) := hb.cell 9
  have HL := Lib.hid (PN.len_any w F2 l (ns.map Nt.cells) 52224 hp)
  rw [List.length_map] at HL
  clear hp hb h hN
  go_enter Try.func12, Try.ntmps12
  go_wp2_with fail
  refine HL.out.mono ?_
  rintro e w' ⟨rfl, rfl⟩
  go_wp2
  go_ret
  exact ⟨rfl, rfl⟩
theorem hops_any (w : World) (F : Nat → Prop) (tb : Nat) (c : Cfg) (room : Int) (ns : List Nt) (hops : Int) (h : (To tb c room ns hops).is w F) :
    Calls Try.prog 20 #[ptr tb] w fun e w' => e = .returned (.int .i64 hops) ∧ w = w' := by
  obtain ⟨l, F2, hN, hb, _, _, _, hp⟩ := open_to h
  have c9 : w.cell? ⟨tb, 10, none⟩ = some (.int .i64 hops) := hb.cell 10
  clear hp hb h hN
  go_enter Try.func20, Try.ntmps20
  go_wp2
  go_ret
  exact ⟨rfl, rfl⟩
set_option maxRecDepth 100000 in
theorem new_yes (c : Cfg) (hc : May c) (room : Int) (h1 : 1 ≤ room) (h2 : room ≤ 1024) (w : World) : Calls Try.prog 10 #[CV c, .int .i64 room] w fun e w' => ∃ tb, e = .returned (.tuple #[ptr tb, .int .i64 0]) ∧ Upd NoF w w' ∧ (To tb c room [] 0).is w' (fun k => w.heap.size ≤ k) := by
  have HM := Lib.hid (PL.pMay_yes c hc)
  have HN := Lib.hid (PN.new_ok 52224 (by omega) (by omega))
  clear hc
  have g1 : decide (room < 1) = false := by simp; omega
  have g2 : decide (1024 < room) = false := by simp; omega
  go_enter Try.func10, Try.ntmps10
  have q1 := Blk.new w (CC c) 23
  obtain ⟨w1, hw1⟩ : ∃ W, w.alloc (.cells (CC c) 23) = W := ⟨_, rfl⟩
  have hu1 : Upd NoF w w1 := by rw [← hw1]; exact Upd.alloc NoF w _
  rw [hw1] at q1
  have HQ1 := Lib.hid q1; have HU1 := Lib.hid hu1; have HW1 := Lib.hid hw1
  clear q1 hu1 hw1
  go_wp2_with fail
  rw [HW1.out]
  refine (HM.out _).mono ?_
  rintro e w2 ⟨rfl, hu⟩
  have HQ2 := Lib.hid (HQ1.out.upd hu (fun h => h))
  have HU2 := Lib.hid (HU1.out.trans hu (fun _ _ h => h))
  clear hu
  go_wp2_with fail
  refine (HN.out _).mono ?_
  rintro e w3 ⟨l, rfl, hu, hp⟩
  have r := HQ2.out.upd hu (fun h => h)
  have HU3 := Lib.hid (HU2.out.trans hu (fun _ _ h => h))
  have f0 := r.cell 0; have f1 := r.cell 1; have f2 := r.cell 2; have f3 := r.cell 3; have f4 := r.cell 4; have f5 := r.cell 5; have f6 := r.cell 6; have f7 := r.cell 7
  change w3.cell? ⟨w.heap.size, 0, none⟩ = some (.int .i64 c.cores) at f0
  change w3.cell? ⟨w.heap.size, 1, none⟩ = some (.int .i64 c.sets) at f1
  change w3.cell? ⟨w.heap.size, 2, none⟩ = some (.int .i64 c.ways) at f2
  change w3.cell? ⟨w.heap.size, 3, none⟩ = some (.int .i64 c.blocks) at f3
  change w3.cell? ⟨w.heap.size, 4, none⟩ = some (.int .i64 c.logs) at f4
  change w3.cell? ⟨w.heap.size, 5, none⟩ = some (.int .i64 c.backs) at f5
  change w3.cell? ⟨w.heap.size, 6, none⟩ = some (.int .i64 c.nest) at f6
  change w3.cell? ⟨w.heap.size, 7, none⟩ = some (.int .i64 c.tries) at f7
  have HP3 := Lib.hid ((PN.Po (ptr l) [] 52224).mono hp (G := fun k => w.heap.size ≤ k) (fun k hk => by have := HU2.out.size; omega))
  clear hu r hp
  go_wp2_with fail
  go_ret2
  refine ⟨_, rfl, HU3.out.trans (Upd.alloc NoF _ _) (fun _ _ h => h), l, (fun z hz => by cases hz), (fun k => k = w3.heap.size), (fun k => w.heap.size ≤ k ∧ k < w3.heap.size), fun k hk => by subst hk; exact HU3.out.size, fun k hk => hk.1, fun k hk hf => by omega, ⟨Blk.new w3 _ _, rfl⟩, ?_⟩
  obtain ⟨F', t1, t2⟩ := (PN.Po (ptr l) [] 52224).tight HP3.out
  exact (PN.Po (ptr l) [] 52224).keep ((PN.Po (ptr l) [] 52224).mono t1 (fun k hk => ⟨(t2 k hk).1, (t2 k hk).2⟩)) ((Upd.alloc NoF w3 _).kept (fun _ _ _ h => h))
theorem new_no (c : Cfg) (room : Int) (hc : ¬ (May c ∧ 1 ≤ room ∧ room ≤ 1024)) (w : World) : Calls Try.prog 10 #[CV c, .int .i64 room] w fun e w' => e = .returned (.tuple #[.pointer none, .int .i64 2]) ∧ Upd NoF w w' := by
  by_cases hm : May c
  · have HM := Lib.hid (PL.pMay_yes c hm)
    by_cases h1 : room < 1
    · have g1 : decide (room < 1) = true := by simp; omega
      clear hc hm
      go_enter Try.func10, Try.ntmps10
      go_wp2_with (go_at_call 30; refine (HM.out _).mono ?_; rintro e w2 ⟨rfl, hu⟩; have HU := Lib.hid hu; clear hu)
      go_ret2
      exact ⟨rfl, (Upd.alloc NoF w _).trans HU.out (fun _ _ h => h)⟩
    · have hr : ¬ (1 ≤ room ∧ room ≤ 1024) := fun h => hc ⟨hm, h⟩
      have g1 : decide (room < 1) = false := by simp; omega
      have g2 : decide (1024 < room) = true := by simp; omega
      clear hc hm
      go_enter Try.func10, Try.ntmps10
      go_wp2_with (go_at_call 30; refine (HM.out _).mono ?_; rintro e w2 ⟨rfl, hu⟩; have HU := Lib.hid hu; clear hu)
      go_ret2
      exact ⟨rfl, (Upd.alloc NoF w _).trans HU.out (fun _ _ h => h)⟩
  · have HM := Lib.hid (PL.pMay_no c hm)
    clear hc hm
    go_enter Try.func10, Try.ntmps10
    go_wp2_with (go_at_call 30; refine (HM.out _).mono ?_; rintro e w2 ⟨rfl, hu⟩; have HU := Lib.hid hu; clear hu)
    go_ret2
    exact ⟨rfl, (Upd.alloc NoF w _).trans HU.out (fun _ _ h => h)⟩
end Go.Proofs.Ytmfhbobjambgaaa.NE
