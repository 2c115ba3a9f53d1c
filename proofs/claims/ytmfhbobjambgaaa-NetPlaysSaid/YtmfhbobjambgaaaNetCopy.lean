/- The contracts of package net: Copy. -/
import Derived.Test.YtmfhbobjambgaaaNetWorks
import Derived.Test.YtmfhbobjambgaaaAggNet
set_option linter.unusedSimpArgs false
set_option linter.unusedVariables false
namespace Go.Proofs.Ytmfhbobjambgaaa.NE
open Go.RowKit
open BU (IsU words)
open PL (Cfg CC CV May)
attribute [local go_sem] Oper.semAt_some
attribute [local go_sem ↓] TNet.ld_eq TNet.st_eq TNet.al_eq TNet.bx_eq
attribute [local go_sem] TNet.al_run TNet.bx_run
theorem netA_isN (c : Cfg) (room hops : Int) (l : Nat) : IsN 11 (NetA c room hops l) := ⟨by kernel_rfl, Array.all_eq_true_iff_forall_mem.1 (by kernel_rfl)⟩
set_option maxRecDepth 100000 in
theorem copy_any (w : World) (F : Nat → Prop) (tb : Nat) (c : Cfg) (room : Int) (ns : List Nt) (hops : Int) (h : (To tb c room ns hops).is w F) (hl : ns.length ≤ 65536) :
    Calls Try.prog 22 #[ptr tb] w fun e w' => ∃ q, e = .returned (ptr q) ∧ Upd NoF w w' ∧ (To q c room ns hops).is w' (fun k => w.heap.size ≤ k) := by
  obtain ⟨l, F2, hN, hb, _, _, _, hp⟩ := open_to h
  have hu := Upd.alloc NoF w (.cells (NetA c room hops l) NetT)
  have q := Blk.new w (NetA c room hops l) NetT
  have l1 := TNet.ld_at (netA_isN c room hops l) hb.whole
  have l2 := TNet.ld_at (netA_isN c room hops l) (hb.alloc (.cells TNet.Z NetT)).whole
  have s1 := TNet.st_new (netA_isN c room hops l) w
  have t9 : (w.alloc (.cells (NetA c room hops l) NetT)).cell? ⟨tb, 9, none⟩ = some (ptr l) := (hb.alloc _).cell 9
  have hpu := (PN.Po (ptr l) (ns.map Nt.cells) 52224).keep hp (hu.kept (fun _ _ _ h => h))
  have HC := Lib.hid (PN.copy_any _ F2 l (ns.map Nt.cells) 52224 hpu (by rw [List.length_map]; exact hl))
  have HQ := Lib.hid q; have HU := Lib.hid hu; have HN := Lib.hid hN; have Hlt := Lib.hid hb.lt
  clear q hu hpu hp hb hN h
  go_enter Try.func22, Try.ntmps22
  go_wp2_with fail
  refine HC.out.mono ?_
  rintro e w2 ⟨p, rfl, hu2, hp2⟩
  have q2 := HQ.out.upd hu2 (fun h => h)
  have z9 := q2.frozen 9
  have c9 : w2.cell? ⟨w.heap.size, 9, none⟩ = some (ptr l) := q2.cell 9
  have hs2 := hu2.size
  rw [World.size_alloc] at hs2
  have q3 : Blk (w2.setCell ⟨w.heap.size, 9, none⟩ (ptr p)) w.heap.size (NetA c room hops p) NetT := q2.set 9 (ptr p)
  have hst := Upd.setCell (F := fun i => i = w.heap.size) w2 (p := ⟨w.heap.size, 9, none⟩) rfl (ptr p)
  have hP3 := (PN.Po (ptr p) (ns.map Nt.cells) 52224).keep hp2 (hst.kept (fun i _ hi e => by have e' : i = w.heap.size := e; have hi' : (w.alloc (.cells (NetA c room hops l) NetT)).heap.size ≤ i := hi; rw [World.size_alloc] at hi'; omega))
  have HR := Lib.hid (And.intro ((HU.out.trans hu2 (fun _ _ h => h)).trans hst (fun i hi e => by have e' : i = w.heap.size := e; omega)) (And.intro q3 hP3))
  clear q2 q3 hst hP3 hu2 hp2
  go_wp2
  go_ret
  refine ⟨w.heap.size, rfl, HR.out.1, p, HN.out, (fun k => k = w.heap.size), (fun k => w.heap.size + 1 ≤ k), fun k hk => by have e : k = w.heap.size := hk; show w.heap.size ≤ k; omega, fun k hk => by have e : w.heap.size + 1 ≤ k := hk; show w.heap.size ≤ k; omega, fun k h1 h2 => by have e1 : k = w.heap.size := h1; have e2 : w.heap.size + 1 ≤ k := h2; omega, ⟨HR.out.2.1, rfl⟩, ?_⟩
  exact (PN.Po (ptr p) (ns.map Nt.cells) 52224).mono HR.out.2.2 (fun k hk => by have hk' : (w.alloc (.cells (NetA c room hops l) NetT)).heap.size ≤ k := hk; rw [World.size_alloc] at hk'; exact hk')
end Go.Proofs.Ytmfhbobjambgaaa.NE
