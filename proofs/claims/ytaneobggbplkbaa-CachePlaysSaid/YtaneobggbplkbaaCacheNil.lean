/- Package cache, where there is no cache (printed by tools/mkcnil.py). -/
import Derived.Test.YtaneobggbplkbaaCacheH
set_option linter.unusedSimpArgs false
set_option linter.unusedVariables false
namespace Go.Proofs.Ytaneobggbplkbaa.KA
open Go.RowKit
open BU (IsU words)
open PL (Cfg CC CV May)
attribute [local go_sem] Oper.semAt_some
attribute [local go_sem ↓] TLin.ld_eq TLin.st_eq TLin.al_eq TLin.bx_eq
attribute [local go_sem] TLin.al_run TLin.bx_run
abbrev ptrN : Value := .pointer none
set_option maxRecDepth 100000 in
theorem find_no (b : Int) (W : World) : Calls Try.prog 20 #[ptrN, .int .i64 b] W fun e W' => e = .returned (.tuple #[.agg TLin.Z, .bool false]) ∧ Upd NoF W W' := by
  have hu1 := Upd.alloc NoF W (.cells TLin.Z LT)
  have HFO := Lib.hid (find_nil b (W.alloc (.cells TLin.Z LT)))
  obtain ⟨s1, q1⟩ := TLin.st_at TLin.isZ TLin.isZ (Blk.new W TLin.Z LT)
  rw [zlit] at s1
  have HV := Lib.hid (TLin.ldV_at TLin.isZ q1.whole)
  have hub : ∀ (Y : World), (W.alloc (.cells TLin.Z LT)).setCells W.heap.size 0 TLin.Z.toList = Y → Upd NoF W Y := fun Y e => by
    rw [← e]; exact hu1.trans (upd_setCells _ 0 _) (fun k hk e => by have e : k = W.heap.size := e; omega)
  generalize hX : (W.alloc (.cells TLin.Z LT)).setCells W.heap.size 0 TLin.Z.toList = X at *
  have HF := Lib.hid (hub X rfl)
  clear hX q1 hub hu1
  go_enter Try.func20, Try.ntmps20
  go_wp2_with fail
  refine HFO.out.mono ?_
  rintro e W2 ⟨rfl, rfl⟩
  go_wp2
  have hv := HV.out
  refine bodyPost_ret (v := .tuple #[.agg TLin.Z, .bool false]) ?_ ?_ ?_
  · simp [results, Try.f20, asAddr, hv]
  · rfl
  exact ⟨rfl, HF.out⟩
set_option maxRecDepth 100000 in
theorem goes_no (b : Int) (W : World) : Calls Try.prog 13 #[ptrN, .int .i64 b] W fun e W' => e = .returned (.tuple #[.agg TLin.Z, .bool false]) ∧ Upd NoF W W' := by
  have hu1 := Upd.alloc NoF W (.cells TLin.Z LT)
  have he := Lib.run_eql_slice_nil (P := Try.prog) (w := W.alloc (.cells TLin.Z LT)) 62 LT none 0 0 0 0 Try.underlying62
  have HFO := Lib.hid (find_nil b (W.alloc (.cells TLin.Z LT)))
  obtain ⟨s1, q1⟩ := TLin.st_at TLin.isZ TLin.isZ (Blk.new W TLin.Z LT)
  rw [zlit] at s1
  have HV := Lib.hid (TLin.ldV_at TLin.isZ q1.whole)
  have hub : ∀ (Y : World), (W.alloc (.cells TLin.Z LT)).setCells W.heap.size 0 TLin.Z.toList = Y → Upd NoF W Y := fun Y e => by
    rw [← e]; exact hu1.trans (upd_setCells _ 0 _) (fun k hk e => by have e : k = W.heap.size := e; omega)
  generalize hX : (W.alloc (.cells TLin.Z LT)).setCells W.heap.size 0 TLin.Z.toList = X at *
  have HF := Lib.hid (hub X rfl)
  clear hX q1 hub hu1
  go_enter Try.func13, Try.ntmps13
  go_wp2_with fail
  refine HFO.out.mono ?_
  rintro e W2 ⟨rfl, rfl⟩
  go_wp2
  have hv := HV.out
  refine bodyPost_ret (v := .tuple #[.agg TLin.Z, .bool false]) ?_ ?_ ?_
  · simp [results, Try.f13, asAddr, hv]
  · rfl
  exact ⟨rfl, HF.out⟩
set_option maxRecDepth 100000 in
theorem put_no (x : Ln) (W : World) : Calls Try.prog 10 #[ptrN, .agg x.cells] W fun e W' => e = .returned (.int .i64 1) ∧ Upd NoF W W' := by
  go_enter Try.func10, Try.ntmps10
  go_wp2
  go_ret
  exact ⟨rfl, Upd.alloc NoF W _⟩
set_option maxRecDepth 100000 in
theorem write_no (b w z : Int) (W : World) : Calls Try.prog 17 #[ptrN, .int .i64 b, .int .i64 w, .int .u32 z] W fun e W' => e = .returned (.int .i64 1) ∧ Upd NoF W W' := by
  go_enter Try.func17, Try.ntmps17
  go_wp2
  go_ret
  exact ⟨rfl, Upd.refl _ _⟩
set_option maxRecDepth 100000 in
theorem turn_no (b s : Int) (W : World) : Calls Try.prog 18 #[ptrN, .int .i64 b, .int .u8 s] W fun e W' => e = .returned (.int .i64 1) ∧ Upd NoF W W' := by
  go_enter Try.func18, Try.ntmps18
  go_wp2
  go_ret
  exact ⟨rfl, Upd.refl _ _⟩
set_option maxRecDepth 100000 in
theorem drop_no (b : Int) (W : World) : Calls Try.prog 16 #[ptrN, .int .i64 b] W fun e W' => e = .returned (.bool false) ∧ Upd NoF W W' := by
  go_enter Try.func16, Try.ntmps16
  go_wp2_with fail
  refine (find_nil b W).mono ?_
  rintro e W2 ⟨rfl, rfl⟩
  go_wp2
  go_ret
  exact ⟨rfl, Upd.refl _ _⟩
set_option maxRecDepth 100000 in
theorem use_no (b : Int) (W : World) : Calls Try.prog 12 #[ptrN, .int .i64 b] W fun e W' => e = .returned (.bool false) ∧ Upd NoF W W' := by
  go_enter Try.func12, Try.ntmps12
  go_wp2_with fail
  refine (find_nil b W).mono ?_
  rintro e W2 ⟨rfl, rfl⟩
  go_wp2
  go_ret
  exact ⟨rfl, Upd.refl _ _⟩
set_option maxRecDepth 100000 in
theorem copy_no  (W : World) : Calls Try.prog 14 #[ptrN] W fun e W' => e = .returned (ptrN) ∧ Upd NoF W W' := by
  go_enter Try.func14, Try.ntmps14
  go_wp2
  go_ret
  exact ⟨rfl, Upd.refl _ _⟩
set_option maxRecDepth 100000 in
theorem all_no_seq (B : Nat) (K : Nat → Prop) (w : World) (hB0 : w.cell? ⟨B, 0, none⟩ = some ptrN) : SeqL Try.prog 38 #[ptr B] (fun x : Ln => #[.agg x.cells]) [] NoF K w := by
  intro l J Jx W hW hJk _ hY h0
  have hB := hW.cell hB0 (fun h => h)
  clear hB0 hW hJk hY
  refine callsIn_of_wp Try.func38 rfl trivial ?_ rfl
  simp only [Try.ntmps38, List.size_toArray, List.length_cons, List.length_nil, Nat.reduceAdd, Nat.reduceSub, Array.replicate_succ, Array.replicate_zero, List.push_toArray, List.append_toArray, List.nil_append, List.cons_append]
  gi_wp2
  refine bodyPost_ret (results_none rfl _ _ _) rfl ?_
  exact ⟨⟨_, rfl⟩, .inl h0⟩
theorem all_no (w : World) : Calls Try.prog 19 #[ptrN] w fun e w' => e = .returned (.func (.func 38) #[] #[ptr w.heap.size]) ∧ w.alloc (.cells #[ptrN] 26) = w' := by
  go_enter Try.func19, Try.ntmps19
  go_wp2
  go_ret
  exact ⟨rfl, rfl⟩
set_option maxRecDepth 100000 in
theorem len_no (W : World) : Calls Try.prog 21 #[ptrN] W fun e W' => e = .returned (.int .i64 0) ∧ Upd NoF W W' := by
  refine calls_of_wp_marks Try.func21 rfl ?_
  simp only [Try.ntmps21, List.size_toArray, List.length_cons, List.length_nil, Nat.reduceAdd, Nat.reduceSub, Array.replicate_succ, Array.replicate_zero, List.push_toArray, List.append_toArray, List.nil_append, List.cons_append]
  go_wp2_with fail
  have hu1 := Upd.alloc NoF W (.cells #[.int .i64 0] 3)
  have q1 := Blk.new W #[.int .i64 0] 3
  obtain ⟨V, hV⟩ : ∃ V, W.alloc (.cells #[.int .i64 0] 3) = V := ⟨_, rfl⟩
  rw [hV] at hu1 q1 ⊢
  have hsV : V.heap.size = W.heap.size + 1 := by rw [← hV]; simp
  refine (all_no V).mono ?_
  rintro e W2 ⟨rfl, hW2⟩
  have hu2 := Upd.alloc NoF V (.cells #[ptrN] 26)
  have q2 := Blk.new V #[ptrN] 26
  rw [hW2] at hu2 q2
  have q1b := q1.upd hu2 (fun h => h)
  rw [hsV] at q2 ⊢
  have hU2 := hu1.trans hu2 (fun _ _ h => h)
  have hseq := all_no_seq (W.heap.size + 1) (fun _ => True) W2 (q2.cell 0)
  clear hW2 hV hu1 hu2 q1 q2 hsV
  go_wp2_with fail
  refine wp_rangeA (gf := 38) (lb := #[ptr (W.heap.size + 1)]) rfl (enters_of Try.func38 (by kernel_rfl) rfl)
    hseq (fun _ => rfl) (fun _ h => h.elim) (fun k hk => trivial)
    (fun k W' => Blk W' W.heap.size #[.int .i64 0] 3 ∧ Upd NoF W W')
    (fun _ _ _ => False)
    (fun k A B hs hb => ⟨hs.1.bk hb (fun h => h), hs.2.bk hb (by have := hU2.size; omega) (fun _ h => h.elim)⟩)
    (fun _ _ _ _ h _ => h)
    ⟨q1b, hU2⟩
    ?round ?done ?stop
  case round =>
    intro lp k x hx
    simp at hx
  case done =>
    rintro D X hD ⟨r1, hB⟩ hKD
    have c1 : X.cell? ⟨W.heap.size, 0, none⟩ = some (.int .i64 0) := r1.cell 0
    have HB := Lib.hid hB
    have HK := Lib.hid hKD
    have hsz := hU2.size
    clear r1 hB hKD hseq hU2 q1b
    go_wp2
    refine postM_ret1 HK.out (v := .int .i64 0) (by simp [results, Try.f21, go_sem]) ⟨rfl, ?_⟩
    exact HB.out.bk (Bk.putObj (n := W.heap.size) (G := NoF) HK.out rfl (by omega) _) (Nat.le_refl _) (fun _ h => h.elim)
  case stop =>
    rintro D cc k W hD hkl h hK
    exact h.elim
end Go.Proofs.Ytaneobggbplkbaa.KA
