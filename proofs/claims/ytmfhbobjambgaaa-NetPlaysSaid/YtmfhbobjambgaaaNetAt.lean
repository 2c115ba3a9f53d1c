/- The contracts of package net: At. -/
import Derived.Test.YtmfhbobjambgaaaNetWorks
set_option linter.unusedSimpArgs false
set_option linter.unusedVariables false
namespace Go.Proofs.Ytmfhbobjambgaaa.NE
open Go.RowKit
open BU (IsU words)
open PL (Cfg CC CV May)
attribute [local go_sem] Oper.semAt_some
attribute [local go_sem ↓] eqN_eq neN_eq eqB_eq neB_eq TNot.ld_eq TNot.st_eq TNot.al_eq TNot.bx_eq
attribute [local go_sem] TNot.al_run TNot.bx_run
/-- What At gives. -/
def atV (ns : List Nt) (i : Int) : Nt × Int := if i < 0 then (Nt.nil, 5) else match ns[i.toNat]? with | some n => (n, 0) | none => (Nt.nil, 5)
set_option maxRecDepth 100000 in
theorem at_any (w : World) (F : Nat → Prop) (tb : Nat) (c : Cfg) (room : Int) (ns : List Nt) (hops i : Int) (h : (To tb c room ns hops).is w F) :
    Calls Try.prog 21 #[ptr tb, .int .i64 i] w fun e w' => e = .returned (.tuple #[.agg (atV ns i).1.cells, .int .i64 (atV ns i).2]) ∧ Upd NoF w w' := by
  obtain ⟨l, F2, hN, hb, _, _, _, hp⟩ := open_to h
  have hu := Upd.alloc NoF w (.cells TNot.Z 37)
  have q := Blk.new w TNot.Z 37
  have t9 : (w.alloc (.cells TNot.Z 37)).cell? ⟨tb, 9, none⟩ = some (ptr l) := (hb.upd hu (fun h => h)).cell 9
  have hpu := (PN.Po (ptr l) (ns.map Nt.cells) 52224).keep hp (hu.kept (fun _ _ _ h => h))
  have hc : Calls Try.prog 42 #[ptr l, .int .i64 i] (w.alloc (.cells TNot.Z 37)) fun e w' => e = .returned (.tuple #[.agg (atV ns i).1.cells, .int .i64 (atV ns i).2]) ∧ Upd NoF (w.alloc (.cells TNot.Z 37)) w' := by
    unfold atV
    by_cases h0 : i < 0
    · rw [if_pos h0]
      show Calls _ _ _ _ fun e w' => e = .returned (.tuple #[.agg Nt.nil.cells, .int .i64 5]) ∧ _
      rw [Nt.nil_cells]
      exact PN.at_bad _ F2 l (ns.map Nt.cells) 52224 i hpu (.inl h0)
    · rw [if_neg h0]
      obtain ⟨k, rfl⟩ : ∃ k : Nat, i = k := ⟨i.toNat, by omega⟩
      rw [Int.toNat_natCast]
      cases hk : ns[k]? with
      | some n => exact PN.at_ok _ F2 l (ns.map Nt.cells) 52224 k n.cells hpu (by rw [List.getElem?_map, hk]; rfl)
      | none =>
        show Calls _ _ _ _ fun e w' => e = .returned (.tuple #[.agg Nt.nil.cells, .int .i64 5]) ∧ _
        rw [Nt.nil_cells]
        exact PN.at_bad _ F2 l (ns.map Nt.cells) 52224 k hpu (.inr (by rw [List.length_map]; have := List.getElem?_eq_none_iff.1 hk; omega))
  have hok : IsU (atV ns i).1.D := by
    unfold atV
    split
    · exact BU.isU_Z
    · split
      · rename_i n hn; exact (hN n (List.mem_of_getElem? hn)).isU
      · exact BU.isU_Z
  generalize (atV ns i).2 = ev at *
  generalize (atV ns i).1 = n at *
  have HC := Lib.hid hc; have HOK := Lib.hid hok; have HQ := Lib.hid q; have HU := Lib.hid hu
  clear hc hok q hu hpu hp hb hN h
  go_enter Try.func21, Try.ntmps21
  go_wp2_with fail
  refine HC.out.mono ?_
  rintro e w2 ⟨rfl, hu2⟩
  obtain ⟨s4, q4⟩ := TNot.st_at TNot.isZ (Nt.Ok.isN HOK.out) (HQ.out.upd hu2 (fun h => h))
  have HV := Lib.hid (TNot.ldV_at (Nt.Ok.isN HOK.out) q4.whole)
  have HUF := Lib.hid ((HU.out.trans hu2 (fun _ _ h => h)).trans (upd_setCells (b := w.heap.size) n.cells.toList 0 _) (fun i hi h => by have : i = w.heap.size := h; omega))
  clear q4 hu2
  go_wp2
  have hv := HV.out
  refine bodyPost_ret (v := .tuple #[.agg n.cells, .int .i64 ev]) ?_ ?_ ?_
  · simp [results, Try.f21, asAddr, hv]
  · rfl
  exact ⟨rfl, HUF.out⟩
end Go.Proofs.Ytmfhbobjambgaaa.NE
