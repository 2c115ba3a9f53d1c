/- Rows of notes, read; slices.Equal of two rows of the same notes. -/
import Derived.Test.YtlhbnndnkcpomaaDoorNotePlain
import Derived.Test.YtlhbnndnkcpomaaDoorPoolNote
import Derived.Deep.QuietTactic
import Derived.BigQuiet
set_option linter.unusedSimpArgs false
set_option linter.unusedVariables false
namespace Go.Proofs.YtlhbnndnkcpomaaDoor.NQ
open Go.RowKit
open BU (IsU words)
attribute [local go_sem] Oper.semAt_some
attribute [local go_sem high] guardNote guardBlk
attribute [local go_sem ↓] eqN_eq neN_eq eqB_eq neB_eq TNot.ld_eq TNot.st_eq TNot.al_eq TNot.bx_eq
attribute [local go_sem] TNot.al_run TNot.bx_run
theorem s_row {W : World} {v : Value} {ns : List Nt} (h : Row W 47 24 v ns.length (rowsOf (ns.map Nt.cells)).flatten) (hN : ∀ n ∈ ns, IsU n.D) :
    ∃ a cap, v = .slice a ns.length cap ∧ ns.length ≤ cap ∧ cap ≤ maxLen ∧ ∀ k n, ns[k]? = some n → ∃ g, a = some ⟨g, 0, none⟩ ∧ W.rangeAt g (k * 24) n.cells.toList := by
  obtain ⟨a, cap, rfl, hn, hm, hnil⟩ := h.slice
  refine ⟨a, cap, rfl, hn, hm, fun k n hk => ?_⟩
  have hkl : k < ns.length := (List.getElem?_eq_some_iff.1 hk).1
  cases a with
  | none => have := (hnil rfl).1; omega
  | some a =>
    obtain ⟨⟨g, rfl⟩, hcell⟩ := h.cells
    refine ⟨g, rfl, fun j v hv => ?_⟩
    have := hcell (k * 24 + j) v (flat_get (zs := ns.map Nt.cells) (fun x hx => by obtain ⟨m, hm, rfl⟩ := List.mem_map.1 hx; exact Nt.Ok.isN (hN m hm)) (by rw [List.getElem?_map, hk]; rfl) j v hv)
    simpa using this
set_option maxRecDepth 100000 in
set_option maxHeartbeats 1000000 in
theorem equal_same (w : World) (v1 v2 : Value) (ns : List Nt) (hN : ∀ n ∈ ns, IsU n.D) (h1 : Row w 47 24 v1 ns.length (rowsOf (ns.map Nt.cells)).flatten) (h2 : Row w 47 24 v2 ns.length (rowsOf (ns.map Nt.cells)).flatten) :
    Calls Tryd.prog 25 #[v1, v2] w fun e w' => e = .returned (.bool true) ∧ Upd NoF w w' := by
  obtain ⟨a1, cap1, rfl, l1, m1, r1⟩ := s_row h1 hN
  obtain ⟨a2, cap2, rfl, l2, m2, r2⟩ := s_row h2 hN
  unfold maxLen at m1 m2
  have R1 := Lib.hid r1; have R2 := Lib.hid r2; have HN := Lib.hid hN
  clear r1 r2 h1 h2 hN
  go_enter Tryd.func25, Tryd.ntmps25
  go_wp2
  go_loopw [13] (fun i wr => ∃ k : Nat, k ≤ ns.length ∧ i = .int .i64 k ∧ Hid (Upd NoF w wr)) (fun i _ => ns.length - (intOf i).toNat)
  case atStart => exact ⟨0, Nat.zero_le _, rfl, Upd.refl _ _⟩
  case round =>
    obtain ⟨k, hk, rfl, HI⟩ := hrel
    by_cases hlt : k < ns.length
    · obtain ⟨n, hn⟩ : ∃ n, ns[k]? = some n := ⟨_, List.getElem?_eq_getElem hlt⟩
      have hno := HN.out n (List.mem_of_getElem? hn)
      obtain ⟨g1, rfl, hr1⟩ := R1.out k n hn
      obtain ⟨g2, rfl, hr2⟩ := R2.out k n hn
      have la : ∀ m, (TNot.ld (.pointer (some ⟨g1, k * 24, none⟩))).run Tryd.prog (wr.drewN m) = .ok (.agg n.cells) (wr.drewN m) := fun m => TNot.ld_at (Nt.Ok.isN hno) (show (wr.drewN m).rangeAt g1 (k * 24) n.cells.toList from fun j v hv => (HI.out.trans (Upd.drewN NoF wr m) (fun _ _ h => h)).cell (hr1 j v hv) (fun h => h))
      have lb : ∀ m, (TNot.ld (.pointer (some ⟨g2, k * 24, none⟩))).run Tryd.prog (wr.drewN m) = .ok (.agg n.cells) (wr.drewN m) := fun m => TNot.ld_at (Nt.Ok.isN hno) (show (wr.drewN m).rangeAt g2 (k * 24) n.cells.toList from fun j v hv => (HI.out.trans (Upd.drewN NoF wr m) (fun _ _ h => h)).cell (hr2 j v hv) (fun h => h))
      have hne : ∀ m, (neN (.agg n.cells) (.agg n.cells)).run Tryd.prog (wr.drewN m) = .ok (.bool false) (wr.drewN m) := fun m => by
        have := neN_run hno hno (wr.drewN m)
        rw [Nt.same_self] at this
        exact this
      clear hn hr1 hr2 hno
      go_wp2
      go_quiet (fail)
      have HU := Lib.hid (HI.out.trans (Upd.drewN NoF wr nq) (fun _ _ h => h))
      go_wp2
      go_roundw
      case rel => exact ⟨k + 1, by omega, by go_num, HU.out⟩
      case measure => simp [intOf]; omega
    · obtain rfl : ns.length = k := by omega
      go_wp2
      go_ret
      exact ⟨rfl, HI.out⟩
end Go.Proofs.YtlhbnndnkcpomaaDoor.NQ
