/- The contracts of package mem: New, Copy. -/
import Derived.Test.YtlhbnndnkcpomaaDoorMemC
set_option linter.unusedSimpArgs false
set_option linter.unusedVariables false
namespace Go.Proofs.YtlhbnndnkcpomaaDoor.ME
open Go.RowKit
open BU (IsU words)
attribute [local go_sem] Oper.semAt_some
def mkB (l c : Value) : Sem Value := Instr.makeSlice 92 l c
theorem mkB_eq (l c : Value) : Instr.makeSlice 92 l c = mkB l c := rfl
attribute [local go_sem ↓] mkB_eq
theorem infoB : (Tryd.prog.info? BT).map (fun i => (i.zero, i.size, i.bytes)) = some (some (.agg TBlk.Z), 16, 64) := by kernel_rfl
theorem mkB_run (n : Nat) (hn : n ≤ 256) (w : World) : (mkB (.int .i64 n) (.int .i64 n)).run Tryd.prog w = .ok (sl w.heap.size n n) (w.alloc (.cells (rowG 16 n (fun _ => TBlk.Z)) BT)) := by
  obtain ⟨i0, hi, hz0, hz1, hz2⟩ := info_parts infoB
  have h := run_makeSlice (P := Tryd.prog) (w := w) 92 BT i0 (.agg TBlk.Z) Tryd.underlying92 hi hz0 .i64 .i64 (n : Int) (n : Int) (by omega) (Int.le_refl _) (by rw [hz1]; omega) (by rw [hz2]; omega) (by omega)
  unfold mkB
  rw [h, hz1]
  have e := rowG_made TBlk.Z n
  rw [TBlk.size_Z] at e
  show Result.ok (Value.slice (some ⟨w.heap.size, 0, none⟩) (n : Int).toNat (n : Int).toNat) (w.alloc (.cells (madeCells TBlk.Z ((n : Int).toNat * 16)) BT)) = _
  rw [Int.toNat_natCast, e]
section
variable {W W' : World} {F : Nat → Prop} {mb n : Nat} {B : Nat → Array Value}
theorem new_ok (n : Nat) (h1 : 1 ≤ n) (h2 : n ≤ 256) (W : World) : Calls Tryd.prog 11 #[.int .i64 n] W fun e W' =>
    ∃ mb, e = .returned (.tuple #[ptr mb, .int .i64 0]) ∧ Upd NoF W W' ∧ (memO mb n (fun _ => TBlk.Z)).is W' (fun k => W.heap.size ≤ k) := by
  have hm := mkB_run n h2 W
  have HF := Lib.hid ((Upd.alloc NoF W (.cells (rowG 16 n (fun _ => TBlk.Z)) BT)).trans (Upd.alloc NoF _ (.cells #[sl W.heap.size n n] MT)) (fun _ _ h => h))
  have hq := Blk.new (W.alloc (.cells (rowG 16 n (fun _ => TBlk.Z)) BT)) #[sl W.heap.size n n] MT
  have hr := (Blk.new W (rowG 16 n (fun _ => TBlk.Z)) BT).alloc (.cells #[sl W.heap.size n n] MT)
  rw [World.size_alloc] at hq
  have HQ := Lib.hid (And.intro hq hr)
  have d1 : decide ((n : Int) < 1) = false := by simp; omega
  have d2 : decide ((256 : Int) < (n : Int)) = false := by simp; omega
  clear hq hr
  go_enter Tryd.func11, Tryd.ntmps11
  go_wp2
  go_ret2
  refine ⟨W.heap.size + 1, rfl, HF.out, ?_⟩
  exact mem_shut (tl := #[]) (fun i => BU.isU_Z) (Nat.le_refl _) (by unfold maxLen; omega) (by simp) HQ.out.1 (by omega) (by rw [Array.append_empty]; exact HQ.out.2) (Nat.le_refl _) (by omega)
theorem new_bad (n : Int) (h : n < 1 ∨ 256 < n) (W : World) : Calls Tryd.prog 11 #[.int .i64 n] W fun e W' => e = .returned (.tuple #[.pointer none, .int .i64 2]) ∧ W = W' := by
  by_cases h1 : n < 1
  · go_enter Tryd.func11, Tryd.ntmps11
    go_wp2
    go_ret2
    exact ⟨rfl, rfl⟩
  · have h2 : 256 < n := by omega
    go_enter Tryd.func11, Tryd.ntmps11
    go_wp2
    go_ret2
    exact ⟨rfl, rfl⟩
set_option maxHeartbeats 1000000 in
theorem clone_b (w : World) (g n cap : Nat) (A : Nat → Array Value) (tl : Array Value) (hA : ∀ i, IsU (A i)) (hB : Blk w g (rowG 16 n A ++ tl) BT) (hn : n ≤ 256) (h1 : 1 ≤ n) (hc : n ≤ cap) (hm : cap ≤ maxLen) (htl : cap * 16 ≤ (rowG 16 n A ++ tl).size) :
    Calls Tryd.prog 54 #[.slice (some ⟨g, 0, none⟩) n cap] w fun e w' => ∃ g' cap' tl', e = .returned (.slice (some ⟨g', 0, none⟩) n cap') ∧ Upd NoF w w' ∧ Blk w' g' (rowG 16 n A ++ tl') BT ∧ n ≤ cap' ∧ cap' ≤ maxLen ∧ cap' * 16 ≤ (rowG 16 n A ++ tl').size ∧ w.heap.size ≤ g' := by
  have hrow : Row w BT 16 (.slice (some ⟨g, 0, none⟩) n cap) n (rowG 16 n A).toList := ⟨by rw [Array.length_toList, rowG_size], .inr ⟨g, cap, _, rfl, hB, hc, hm, htl, rowG_take⟩⟩
  have he := fun W => Lib.run_eql_slice_nil (P := Tryd.prog) (w := W) 92 BT (some ⟨g, 0, none⟩) n cap 0 0 Tryd.underlying92
  obtain ⟨i0, hi, hz0, hz1, hz2⟩ := info_parts infoB
  obtain ⟨v9, w1, hrun, hrow9, hgr, hf⟩ := run_append_all (P := Tryd.prog) (w.alloc (.cells #[] BT)) 92 92 BT i0 (.agg TBlk.Z) 16 64 Tryd.underlying92 hi hz0 hz1 hz2 TBlk.size_Z (by decide) (.slice (some ⟨w.heap.size, 0, none⟩) 0 0) 0 []
    ⟨rfl, .inr ⟨_, 0, #[], rfl, World.alloc_heap_new w _, Nat.le_refl _, by unfold maxLen; omega, by simp, by simp⟩⟩ _ n _ (hrow.alloc (.cells #[] BT)) (rowG_one (fun i => (hA i).isN)) (by unfold maxLen; omega) (by omega)
  have hU : Upd NoF w w1 := (Upd.alloc NoF w _).trans (Upd.grown (F := fun k => k = w.heap.size) hgr (fun k hk _ => by simp [Value.ownBlock] at hk; subst hk; exact ⟨rfl, _, World.alloc_heap_new w _, rfl⟩)) (fun i hi h => by omega)
  have hfr : ∀ k, v9.ownBlock = some k → w.heap.size ≤ k := by
    intro k hk
    rcases hf with h | ⟨g', h, h'⟩
    · rw [h] at hk; simp [Value.ownBlock] at hk; omega
    · rw [h] at hk; cases hk; simp at h'; omega
  simp only [Nat.zero_add, List.nil_append] at hrow9 hfr
  have HR := Lib.hid hrun
  rcases hrow9.2 with ⟨_, h0⟩ | ⟨g9, cap9, cur, rfl, hg9, hc9, hm9, hs9, ht9⟩
  · omega
  obtain ⟨tl9, rfl⟩ := split_takeG ht9
  have HF := Lib.hid (And.intro hU (And.intro (show Blk w1 g9 (rowG 16 n A ++ tl9) BT from hg9) (And.intro hc9 (And.intro hm9 (And.intro hs9 (hfr g9 rfl))))))
  clear hrun hrow9 hgr hf hU hfr hrow hg9 hc9 hm9 hs9 ht9 hB htl hm hA
  go_enter Tryd.func54, Tryd.ntmps54
  go_wp2_with (at_builtin; refine wpList_append_run rfl _ _ 92 rfl rfl rfl HR.out ?_)
  go_ret
  exact ⟨_, _, _, rfl, HF.out⟩
theorem copy_is (h : (memO mb n B).is W F) (hn : n ≤ 256) (h1 : 1 ≤ n) : Calls Tryd.prog 22 #[ptr mb] W fun e W' =>
    ∃ mb', e = .returned (ptr mb') ∧ Upd NoF W W' ∧ (memO mb' n B).is W' (fun k => W.heap.size ≤ k) := by
  obtain ⟨g, cap, tl, q1, q2, q3, q4, b1, c1, b2, c2, hne⟩ := mem_open h
  have m0 : W.cell? ⟨mb, 0, none⟩ = some (sl g n cap) := b1.cell 0
  have HC := Lib.hid (clone_b W g n cap B tl q1 b2 hn h1 q2 q3 (by rw [Array.size_append, rowG_size]; exact q4))
  have HQ := Lib.hid q1
  clear h b1 b2 c1 c2 hne q1 q2 q3 q4
  go_enter Tryd.func22, Tryd.ntmps22
  go_wp2_with fail
  refine HC.out.mono ?_
  rintro e W2 ⟨g', cap', tl', rfl, hu, hb, hc, hm, ht, hg⟩
  have HF := Lib.hid (hu.trans (Upd.alloc NoF W2 (.cells #[sl g' n cap'] MT)) (fun _ _ h => h))
  have HB := Lib.hid (And.intro (hb.alloc (.cells #[sl g' n cap'] MT)) (And.intro (Blk.new W2 #[sl g' n cap'] MT) (And.intro hc (And.intro hm (And.intro ht (And.intro hg (And.intro hu.size hb.lt)))))))
  clear hu hb hc hm ht hg
  go_wp2
  go_ret
  obtain ⟨a1, a2, a3, a4, a5, a6, a7, a8⟩ := HB.out
  refine ⟨_, rfl, HF.out, ?_⟩
  exact mem_shut HQ.out a3 a4 (by rw [Array.size_append, rowG_size] at a5; exact a5) a2 a7 a1 a6 (by omega)
end
end Go.Proofs.YtlhbnndnkcpomaaDoor.ME
