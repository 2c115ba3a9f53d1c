/- Package note: May. -/
import Derived.Test.YtmfhbobjambgaaaNoteC
set_option linter.unusedSimpArgs false
set_option linter.unusedVariables false
namespace Go.Proofs.Ytmfhbobjambgaaa.NC
open Go.RowKit
open BU (IsU words)
attribute [local go_sem] Oper.semAt_some
attribute [local go_sem ↓] TNot.ld_eq TNot.st_eq TNot.al_eq TNot.bx_eq
attribute [local go_sem] TNot.al_run TNot.bx_run
set_option maxRecDepth 100000 in
theorem may_any (n : Nt) (hn : n.Ok) (w : World) : Calls Try.prog 62 #[.agg n.cells] w fun e w' => e = .returned (.bool (MayN n)) ∧ Upd NoF w w' := by
  have HK := kind_any n.kind
  by_cases hk : 1 ≤ n.kind ∧ n.kind ≤ 11
  · by_cases hb : 0 ≤ n.blk ∧ n.blk ≤ 255
    · have hf := finN_may (n := n) (by simp [kindB, hk.1, hk.2]) hb hn
      rw [← hf]
      have hu : usesN n.kind = 3 ∨ usesN n.kind = 41 ∨ usesN n.kind = 2 ∨ usesN n.kind = 12 ∨ usesN n.kind = 0 ∨ usesN n.kind = 17 ∨ usesN n.kind = 1 := by
        unfold usesN; split; · simp
        split; · simp
        split; · simp
        split; · simp
        split; · simp
        split <;> simp
      rcases hu with hu | hu | hu | hu | hu | hu | hu
      · rw [hu]; exact may_3 n hn.isU hk hb hu w
      · rw [hu]; exact may_41 n hn.isU hk hb hu w
      · rw [hu]; exact may_2 n hn.isU hk hb hu w
      · rw [hu]; exact may_12 n hn.isU hk hb hu w
      · rw [hu]; exact may_0 n hn.isU hk hb hu w
      · rw [hu]; exact may_17 n hn.isU hk hb hu w
      · rw [hu]; exact may_1 n hn.isU hk hb hu w
    · have hf : MayN n = false := by unfold MayN; rw [show (decide (0 ≤ n.blk) && decide (n.blk ≤ 255)) = false by simp; omega]; simp
      have hkb : kindB n.kind = true := by simp [kindB, hk.1, hk.2]
      rw [hkb] at HK
      rw [hf]
      have e0 := n.get0; have e3 := n.get3
      have HKh := Lib.hid HK
      have HU := Lib.hid (Upd.alloc NoF w (.cells n.cells 37))
      have f3 : (w.alloc (.cells n.cells 37)).cell? ⟨w.heap.size, 3, none⟩ = some (.int .i64 n.blk) := ((Blk.new w n.cells _).cell 3).trans n.get3
      clear HK hf hkb hk
      by_cases h0 : n.blk < 0
      · have g0 : decide (n.blk < 0) = true := by simp; omega
        go_enter Try.func62, Try.ntmps62
        go_wp2_with fail
        refine (HKh.out _).mono ?_
        rintro e w2 ⟨rfl, rfl⟩
        go_wp2
        go_ret
        exact ⟨rfl, HU.out⟩
      · have g0 : decide (n.blk < 0) = false := by simp; omega
        have g1 : decide (256 ≤ n.blk) = true := by simp; omega
        go_enter Try.func62, Try.ntmps62
        go_wp2_with fail
        refine (HKh.out _).mono ?_
        rintro e w2 ⟨rfl, rfl⟩
        go_wp2
        go_ret
        exact ⟨rfl, HU.out⟩
  · have hkb : kindB n.kind = false := by unfold kindB; by_cases h1 : 1 ≤ n.kind <;> simp_all <;> omega
    have hf : MayN n = false := by unfold MayN; rw [hkb]; simp
    rw [hkb] at HK
    rw [hf]
    have e0 := n.get0
    have HKh := Lib.hid HK
    have HU := Lib.hid (Upd.alloc NoF w (.cells n.cells 37))
    clear HK hf hkb hk
    go_enter Try.func62, Try.ntmps62
    go_wp2_with fail
    refine (HKh.out _).mono ?_
    rintro e w2 ⟨rfl, rfl⟩
    go_wp2
    go_ret
    exact ⟨rfl, HU.out⟩
set_option maxRecDepth 100000 in
theorem May_any (n : Nt) (hn : n.Ok) (w : World) : Calls Try.prog 51 #[.agg n.cells] w fun e w' => e = .returned (.int .i64 (if MayN n then 0 else 2)) ∧ Upd NoF w w' := by
  have HM := Lib.hid (may_any n hn (w.alloc (.cells n.cells 37)))
  have l1 := TNot.ld_new (Nt.Ok.isN hn.isU) w
  have HU := Lib.hid (Upd.alloc NoF w (.cells n.cells 37))
  cases hm : MayN n
  · rw [hm] at HM
    go_enter Try.func51, Try.ntmps51
    go_wp2_with fail
    refine (HM.out).mono ?_
    rintro e w2 ⟨rfl, hu⟩
    have HU2 := Lib.hid (HU.out.trans hu (fun _ _ h => h))
    clear hu
    go_wp2
    go_ret
    exact ⟨rfl, HU2.out⟩
  · rw [hm] at HM
    go_enter Try.func51, Try.ntmps51
    go_wp2_with fail
    refine (HM.out).mono ?_
    rintro e w2 ⟨rfl, hu⟩
    have HU2 := Lib.hid (HU.out.trans hu (fun _ _ h => h))
    clear hu
    go_wp2
    go_ret
    exact ⟨rfl, HU2.out⟩
end Go.Proofs.Ytmfhbobjambgaaa.NC
