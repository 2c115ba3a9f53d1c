/- Rows of numbers of 64 bits without sign: slices.Clone. -/
import Derived.Test.YtbhcdbnbiocimaaSortX
import Derived.Test.YtbhcdbnbiocimaaPoolDef
set_option linter.unusedSimpArgs false
set_option linter.unusedVariables false
namespace Go.Proofs.Ytbhcdbnbiocimaa.SU
open Go.RowKit
theorem infoU : (Try.prog.info? 26).map (fun i => (i.zero, i.size, i.bytes)) = some (some (.int .u64 0), 1, 8) := by kernel_rfl
set_option maxRecDepth 100000 in
set_option maxHeartbeats 4000000 in
theorem clone64 (w : World) (a : Addr) (n cap : Nat) (Z : Nat → Int) (h1 : 1 ≤ n) (hn : n ≤ cap) (hm : cap ≤ maxLen) (hc : ∀ j, j < n → w.cell? (a.add j) = some (.int .u64 (Z j))) (hb : n ≤ 200) :
    Calls Try.prog 5 #[.slice (some a) n cap] w fun e w' => ∃ v', e = .returned v' ∧ Upd NoF w w' ∧ Row w' 26 1 v' n ((List.range n).map fun j => .int .u64 (Z j)) ∧ ∀ k, v'.ownBlock = some k → w.heap.size ≤ k := by
  have he := fun W => Lib.run_eql_slice_nil (P := Try.prog) (w := W) 22 26 (some a) n cap 0 0 Try.underlying22
  obtain ⟨i0, hi, hz0, hz1, hz2⟩ := info_parts infoU
  obtain ⟨v9, w1, hrun, hrow9, hgr, hf⟩ := run_append_row (P := Try.prog) (w.alloc (.cells #[] 26)) 22 22 26 i0 (.int .u64 0) 1 8 Try.underlying22 hi hz0 hz1 hz2 rfl (by decide) (.slice (some ⟨w.heap.size, 0, none⟩) 0 0) 0 []
    ⟨rfl, .inr ⟨_, 0, #[], rfl, World.alloc_heap_new w _, Nat.le_refl _, by unfold maxLen; omega, by simp, rfl⟩⟩ a n cap ((List.range n).map fun j => .int .u64 (Z j)) (by simp)
    (fun j u hu => by
      rw [List.getElem?_map] at hu
      by_cases hj : j < n
      · rw [List.getElem?_range hj] at hu
        cases hu
        exact (Upd.alloc NoF w _).cell (hc j hj) (fun h => h)
      · rw [List.getElem?_eq_none (by simp; omega)] at hu
        cases hu)
    (fun u hu => by obtain ⟨_, _, rfl⟩ := List.mem_map.1 hu; rfl) (by unfold maxLen; omega) (by omega)
  have hU : Upd NoF w w1 := (Upd.alloc NoF w _).trans (Upd.grown (F := fun k => k = w.heap.size) hgr (fun k hk _ => by simp [Value.ownBlock] at hk; subst hk; exact ⟨rfl, _, World.alloc_heap_new w _, rfl⟩)) (fun i hi h => by omega)
  have hfr : ∀ k, v9.ownBlock = some k → w.heap.size ≤ k := by
    intro k hk
    rcases hf with h | ⟨g', h, h'⟩
    · rw [h] at hk; simp [Value.ownBlock] at hk; omega
    · rw [h] at hk; cases hk; simp at h'; omega
  have HR := Lib.hid hrun
  obtain ⟨a9, cap9, rfl, _⟩ := hrow9.slice
  simp only [Nat.zero_add, List.nil_append] at hrow9 hfr
  have HF := Lib.hid (And.intro hU (And.intro hrow9 hfr))
  clear hrun hrow9 hgr hf hU hfr hc
  go_enter Try.func5, Try.ntmps5
  go_wp2_with (at_builtin; refine wpList_append_run rfl _ _ 22 rfl rfl rfl HR.out ?_)
  go_ret
  exact ⟨_, rfl, HF.out⟩
end Go.Proofs.Ytbhcdbnbiocimaa.SU
