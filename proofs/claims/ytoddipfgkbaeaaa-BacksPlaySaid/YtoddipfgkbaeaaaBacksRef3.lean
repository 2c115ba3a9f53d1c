/- The reference undertowref12: New. -/
import Derived.Test.YtoddipfgkbaeaaaBacksRef2
import Derived.Laws.MakeOwn
import Derived.Deep.RegionHeld3
set_option linter.unusedSimpArgs false
set_option linter.unusedVariables false
namespace Go.Proofs.Ytoddipfgkbaeaaa.BK
open Go.RowKit
open PL (Cfg CC CV May)
attribute [local go_sem] Oper.semAt_some
attribute [local go_sem ↓] TBlk.ld_eq TBlk.st_eq TBlk.al_eq TBlk.bx_eq TRbk.ld_eq TRbk.st_eq TRbk.al_eq TRbk.bx_eq
attribute [local go_sem] TBlk.al_run TBlk.bx_run TRbk.al_run TRbk.bx_run

theorem made_rep {c : Nat} {z : Array Value} (hz : z.size = c) (hc : 0 < c) (n : Nat) : madeCells z (n * c) = (rowsOf (List.replicate n z)).flatten.toArray := by
  apply Array.ext_getElem?
  intro j
  obtain ⟨q, r, hr, rfl⟩ : ∃ q r, r < c ∧ j = q * c + r := ⟨j / c, j % c, Nat.mod_lt _ hc, by rw [Nat.mul_comm]; exact (Nat.div_add_mod j c).symm⟩
  have hL : ∀ (m : Nat) (q : Nat), (rowsOf (List.replicate m z)).flatten[q * c + r]? = if q < m then z.toList[r]? else none := by
    intro m
    induction m with
    | zero => intro q; simp [rowsOf]
    | succ m ih =>
      intro q
      rw [List.replicate_succ]
      show (z.toList ++ (rowsOf (List.replicate m z)).flatten)[q * c + r]? = _
      cases q with
      | zero =>
        rw [List.getElem?_append_left (by simp [hz]; omega)]
        simp
      | succ q =>
        have e : (q + 1) * c + r - c = q * c + r := by rw [Nat.succ_mul]; omega
        rw [List.getElem?_append_right (by simp [hz, Nat.succ_mul]; omega), Array.length_toList, hz, e, ih q]
        simp
  have e1 : ((rowsOf (List.replicate n z)).flatten.toArray)[q * c + r]? = (rowsOf (List.replicate n z)).flatten[q * c + r]? := by simp
  rw [e1, hL n q]
  unfold madeCells
  by_cases hq : q < n
  · have hb : q * c + r < n * c := by
      have := Nat.mul_le_mul_right c (Nat.succ_le_of_lt hq)
      rw [Nat.succ_mul] at this; omega
    rw [if_pos hq, Array.getElem?_map, Array.getElem?_range, if_pos hb]
    have hm : (q * c + r) % z.size = r := by rw [hz, Nat.add_comm, Nat.add_mul_mod_self_right, Nat.mod_eq_of_lt hr]
    show some z[(q * c + r) % z.size]! = _
    rw [hm]
    have hrz : r < z.size := by omega
    simp [hrz]
  · have hb : ¬ q * c + r < n * c := by
      have := Nat.mul_le_mul_right c (Nat.le_of_not_lt hq)
      omega
    rw [if_neg hq, Array.getElem?_map, Array.getElem?_range, if_neg hb]
    rfl
theorem recs_nil (n : Nat) : recs [] n = List.replicate n TRbk.Z := by
  unfold recs
  rw [List.eq_replicate_iff]
  refine ⟨by simp, fun b hb => ?_⟩
  obtain ⟨k, _, rfl⟩ := List.mem_map.1 hb
  kernel_rfl

def mkR (l c : Value) : Sem Value := Instr.makeSlice 66 l c
theorem mkR_eq (l c : Value) : Instr.makeSlice 66 l c = mkR l c := rfl
attribute [local go_sem ↓] mkR_eq
theorem mkR_run (n : Nat) (hn : n ≤ 65536) (w : World) : (mkR (.int .i64 n) (.int .i64 n)).run Try.prog w = .ok (.slice (some ⟨w.heap.size, 0, none⟩) n n) (w.alloc (.cells (rowsOf (recs [] n)).flatten.toArray 70)) := by
  have hi : (Try.prog.info? 70).map (fun i => (i.zero, i.size, i.bytes)) = some (some (.agg TRbk.Z), 18, 68) := by kernel_rfl
  cases hq : Try.prog.info? 70 with
  | none => rw [hq] at hi; cases hi
  | some i =>
    rw [hq] at hi
    simp at hi
    have := run_make (P := Try.prog) w 66 70 i (.agg TRbk.Z) Try.underlying66 hq hi.1 .i64 .i64 n n (by omega) (by omega) (by rw [hi.2.2]; omega) (by omega)
    rw [hi.2.1] at this
    rw [recs_nil, ← made_rep TRbk.size_Z (by decide) n]
    exact this

set_option maxRecDepth 100000 in
set_option maxHeartbeats 2000000 in
theorem rnew_any (c : Cfg) (hc : May c) (n : Nat) (hn : (n : Int) = c.blocks - c.cores * c.logs) (w : World) :
    Calls Try.prog 21 #[CV c] w fun e w' => ∃ rb, e = .returned (ptr rb) ∧ Upd NoF w w' ∧ (Ro rb n [] c.backs).is w' (fun k => w.heap.size ≤ k) := by
  have HD := Lib.hid (PL.rdata_any c hc.1 hc.2.2.1 hc.2.1)
  have hn6 : n ≤ 65536 := by
    have h2 := hc.2.1.2
    have h3 := Int.mul_nonneg (show (0:Int) ≤ c.cores by have := hc.1.1; omega) (show (0:Int) ≤ c.logs by have := hc.2.2.1.1; omega)
    omega
  have hmk := mkR_run n hn6
  have q1 := Blk.new w (CC c) 23
  obtain ⟨w1, hw1⟩ : ∃ W, w.alloc (.cells (CC c) 23) = W := ⟨_, rfl⟩
  have hu1 : Upd NoF w w1 := by rw [← hw1]; exact Upd.alloc NoF w _
  rw [hw1] at q1
  rw [← hn] at HD
  have HQ1 := Lib.hid q1; have HU1 := Lib.hid hu1; have HW1 := Lib.hid hw1
  have f0 := q1.cell 0; have f1 := q1.cell 1; have f2 := q1.cell 2; have f3 := q1.cell 3; have f4 := q1.cell 4; have f5 := q1.cell 5; have f6 := q1.cell 6; have f7 := q1.cell 7
  change w1.cell? ⟨w.heap.size, 0, none⟩ = some (.int .i64 c.cores) at f0
  change w1.cell? ⟨w.heap.size, 1, none⟩ = some (.int .i64 c.sets) at f1
  change w1.cell? ⟨w.heap.size, 2, none⟩ = some (.int .i64 c.ways) at f2
  change w1.cell? ⟨w.heap.size, 3, none⟩ = some (.int .i64 c.blocks) at f3
  change w1.cell? ⟨w.heap.size, 4, none⟩ = some (.int .i64 c.logs) at f4
  change w1.cell? ⟨w.heap.size, 5, none⟩ = some (.int .i64 c.backs) at f5
  change w1.cell? ⟨w.heap.size, 6, none⟩ = some (.int .i64 c.nest) at f6
  change w1.cell? ⟨w.heap.size, 7, none⟩ = some (.int .i64 c.tries) at f7
  clear q1 hu1 hw1 hc hn
  go_enter Try.func21, Try.ntmps21
  go_wp2_with fail
  rw [HW1.out]
  go_region_held3 (fun W => Upd NoF w W ∧ W.cell? ⟨w.heap.size, 0, none⟩ = some (.int .i64 c.cores) ∧ W.cell? ⟨w.heap.size, 1, none⟩ = some (.int .i64 c.sets) ∧ W.cell? ⟨w.heap.size, 2, none⟩ = some (.int .i64 c.ways) ∧ W.cell? ⟨w.heap.size, 3, none⟩ = some (.int .i64 c.blocks) ∧ W.cell? ⟨w.heap.size, 4, none⟩ = some (.int .i64 c.logs) ∧ W.cell? ⟨w.heap.size, 5, none⟩ = some (.int .i64 c.backs) ∧ W.cell? ⟨w.heap.size, 6, none⟩ = some (.int .i64 c.nest) ∧ W.cell? ⟨w.heap.size, 7, none⟩ = some (.int .i64 c.tries)) (first | assumption | exact ⟨HU1.out.trans (Upd.drew NoF w1) (fun _ _ h => h), f0, f1, f2, f3, f4, f5, f6, f7⟩ | (have hS : Upd NoF w _ ∧ _ := ‹_›; exact ⟨hS.1.trans (Upd.alloc NoF _ _) (fun _ _ h => h), (Upd.alloc NoF _ _).cell hS.2.1 (fun h => h), (Upd.alloc NoF _ _).cell hS.2.2.1 (fun h => h), (Upd.alloc NoF _ _).cell hS.2.2.2.1 (fun h => h), (Upd.alloc NoF _ _).cell hS.2.2.2.2.1 (fun h => h), (Upd.alloc NoF _ _).cell hS.2.2.2.2.2.1 (fun h => h), (Upd.alloc NoF _ _).cell hS.2.2.2.2.2.2.1 (fun h => h), (Upd.alloc NoF _ _).cell hS.2.2.2.2.2.2.2.1 (fun h => h), (Upd.alloc NoF _ _).cell hS.2.2.2.2.2.2.2.2 (fun h => h)⟩)) (first | (go_at_call 39; have hS : Upd NoF w _ ∧ _ := ‹_›; refine (HD.out _).mono ?_; rintro e w2 ⟨rfl, hu⟩; have HU2 := Lib.hid (hS.1.trans hu (fun _ _ h => h)); have hS' : (fun W => Upd NoF w W ∧ W.cell? ⟨w.heap.size, 0, none⟩ = some (.int .i64 c.cores) ∧ W.cell? ⟨w.heap.size, 1, none⟩ = some (.int .i64 c.sets) ∧ W.cell? ⟨w.heap.size, 2, none⟩ = some (.int .i64 c.ways) ∧ W.cell? ⟨w.heap.size, 3, none⟩ = some (.int .i64 c.blocks) ∧ W.cell? ⟨w.heap.size, 4, none⟩ = some (.int .i64 c.logs) ∧ W.cell? ⟨w.heap.size, 5, none⟩ = some (.int .i64 c.backs) ∧ W.cell? ⟨w.heap.size, 6, none⟩ = some (.int .i64 c.nest) ∧ W.cell? ⟨w.heap.size, 7, none⟩ = some (.int .i64 c.tries)) w2 := ⟨HU2.out, hu.cell hS.2.1 (fun h => h), hu.cell hS.2.2.1 (fun h => h), hu.cell hS.2.2.2.1 (fun h => h), hu.cell hS.2.2.2.2.1 (fun h => h), hu.cell hS.2.2.2.2.2.1 (fun h => h), hu.cell hS.2.2.2.2.2.2.1 (fun h => h), hu.cell hS.2.2.2.2.2.2.2.1 (fun h => h), hu.cell hS.2.2.2.2.2.2.2.2 (fun h => h)⟩; clear hu hS))
  all_goals
    go_wp2
    go_ret
    refine ⟨_, rfl, (HU2.out.trans (Upd.alloc NoF _ _) (fun _ _ h => h)).trans (Upd.alloc NoF _ _) (fun _ _ h => h), ?_⟩
    have hsz := HU2.out.size
    have q1 : Blk (w2.alloc (.cells (rowsOf (recs [] n)).flatten.toArray 70)) w2.heap.size (rowsOf (recs [] n)).flatten.toArray 70 := Blk.new w2 _ _
    have q2 := Blk.new (w2.alloc (.cells (rowsOf (recs [] n)).flatten.toArray 70)) #[.slice (some ⟨w2.heap.size, 0, none⟩) n n, .int .i64 c.backs] 68
    rw [World.size_alloc] at q2
    exact ⟨w2.heap.size, (fun k => k = w2.heap.size + 1), (fun k => k = w2.heap.size), fun k hk => by have e : k = w2.heap.size + 1 := hk; show w.heap.size ≤ k; omega, fun k hk => by have e : k = w2.heap.size := hk; show w.heap.size ≤ k; omega, fun k h1 h2 => by have e1 : k = w2.heap.size + 1 := h1; have e2 : k = w2.heap.size := h2; omega, ⟨q2, rfl⟩, ⟨q1.alloc _, rfl⟩⟩
end Go.Proofs.Ytoddipfgkbaeaaa.BK
