/- The contracts of package home: New, Copy. -/
import Derived.Test.YtlhbnndnkcpomaaDoorHomeT
import Derived.Test.YtlhbnndnkcpomaaDoorRepE
set_option linter.unusedSimpArgs false
set_option linter.unusedVariables false
namespace Go.Proofs.YtlhbnndnkcpomaaDoor.HO
open Go.RowKit
open BU (IsU words)
open PL (Cfg CC CV May)
open ME (memO sl)
attribute [local go_sem] Oper.semAt_some
/-- The i-th object comes to the front. -/
theorem Sep.pick {G : Nat → Prop} {w0 W : World} {L : List Obj} {Φ : Obj} (h : Sep G w0 W L) (i : Nat) (hi : L[i]? = some Φ) : Sep G w0 W (Φ :: L.eraseIdx i) := by
  obtain ⟨F, h1, h2, h3, _⟩ := h.own.at i hi h.newM
  exact ⟨h.upd, F, h1, h2, h3⟩
set_option maxHeartbeats 1000000 in
theorem clone_e (w : World) (g n cap : Nat) (A : Nat → Array Value) (tl : Array Value) (hA : ∀ i, IsN 2 (A i)) (hB : Blk w g (rowG 2 n A ++ tl) ET') (hn : n ≤ 256) (h1 : 1 ≤ n) (hc : n ≤ cap) (hm : cap ≤ maxLen) (htl : cap * 2 ≤ (rowG 2 n A ++ tl).size) :
    Calls Tryd.prog 56 #[.slice (some ⟨g, 0, none⟩) n cap] w fun e w' => ∃ g' cap' tl', e = .returned (.slice (some ⟨g', 0, none⟩) n cap') ∧ Upd NoF w w' ∧ Blk w' g' (rowG 2 n A ++ tl') ET' ∧ n ≤ cap' ∧ cap' ≤ maxLen ∧ cap' * 2 ≤ (rowG 2 n A ++ tl').size ∧ w.heap.size ≤ g' := by
  have hrow : Row w ET' 2 (.slice (some ⟨g, 0, none⟩) n cap) n (rowG 2 n A).toList := ⟨by rw [Array.length_toList, rowG_size], .inr ⟨g, cap, _, rfl, hB, hc, hm, htl, rowG_take⟩⟩
  have he := fun W => Lib.run_eql_slice_nil (P := Tryd.prog) (w := W) 85 ET' (some ⟨g, 0, none⟩) n cap 0 0 Tryd.underlying85
  obtain ⟨i0, hi, hz0, hz1, hz2⟩ := info_parts RE.infoEn
  obtain ⟨v9, w1, hrun, hrow9, hgr, hf⟩ := run_append_all (P := Tryd.prog) (w.alloc (.cells #[] ET')) 85 85 ET' i0 (.agg TEnt.Z) 2 16 Tryd.underlying85 hi hz0 hz1 hz2 TEnt.size_Z (by decide) (.slice (some ⟨w.heap.size, 0, none⟩) 0 0) 0 []
    ⟨rfl, .inr ⟨_, 0, #[], rfl, World.alloc_heap_new w _, Nat.le_refl _, by unfold maxLen; omega, by simp, by simp⟩⟩ _ n _ (hrow.alloc (.cells #[] ET')) (rowG_one hA) (by unfold maxLen; omega) (by omega)
  have hU : Upd NoF w w1 := (Upd.alloc NoF w _).trans (Upd.grown (F := fun k => k = w.heap.size) hgr (fun k hk _ => by simp [Value.ownBlock] at hk; subst hk; exact ⟨rfl, _, World.alloc_heap_new w _, rfl⟩)) (fun i hi h => by omega)
  have hfr : ∀ k, v9.ownBlock = some k → w.heap.size ≤ k := by
    intro k hk
    rcases hf with h | ⟨g', h, h'⟩
    · rw [h] at hk; simp [Value.ownBlock] at hk; omega
    · rw [h] at hk; cases hk; simp at h'; omega
  simp only [Nat.zero_add, List.nil_append] at hrow9 hfr
  have HR := Lib.hid hrun
  rcases hrow9.2 with ⟨_, h0⟩ | ⟨g9, cap9, cur, rfl, hg9, hc9, hm9, hs9, ht9⟩
  · omega
  obtain ⟨tl9, rfl⟩ := split_takeG ht9
  have HF := Lib.hid (And.intro hU (And.intro (show Blk w1 g9 (rowG 2 n A ++ tl9) ET' from hg9) (And.intro hc9 (And.intro hm9 (And.intro hs9 (hfr g9 rfl))))))
  clear hrun hrow9 hgr hf hU hfr hrow hg9 hc9 hm9 hs9 ht9 hB htl hm hA
  go_enter Tryd.func56, Tryd.ntmps56
  go_wp2_with (at_builtin; refine wpList_append_run rfl _ _ 85 rfl rfl rfl HR.out ?_)
  go_ret
  exact ⟨_, _, _, rfl, HF.out⟩
theorem clone_j {W : World} {b N : Nat} {f : Int → Option Value} (h : GM.Is jobsT W b N f) : Calls Tryd.prog 57 #[.map (some b)] W fun e W' =>
    e = .returned (.map (some W.heap.size)) ∧ Upd NoF W W' ∧ (GM.mapO jobsT W.heap.size N f).is W' (fun k => W.heap.size ≤ k) := by
  obtain ⟨D, ⟨es, clock, hb, F, hs, hD⟩, r⟩ := h
  have hc := AnyW.maps_Clone Tryd.cloneJ b es clock W hb
  change Calls Tryd.prog 57 _ _ _ at hc
  refine hc.mono fun e W' ⟨he, hw⟩ => ?_
  subst hw
  exact ⟨he, Upd.alloc NoF W _, ⟨D, ⟨es, clock, (MapKept.heap_alloc W _).1, F, hs, hD⟩, r⟩, Nat.le_refl _⟩
section
variable {w0 W W' : World} {hb mb : Nat} {S : Hs} {L : List Obj}
set_option maxRecDepth 100000 in
set_option maxHeartbeats 4000000 in
theorem copy_is (h : Sep NoF w0 W (homeO hb mb S :: L)) : Calls Tryd.prog 24 #[ptr hb] W fun e W' =>
    ∃ hb' mb', e = .returned (ptr hb') ∧ Sep NoF w0 W' (homeO hb' mb' S :: homeO hb mb S :: L) := by
  obtain ⟨p, hf, hs⟩ := home_open h
  have hdat := hf.good.data
  have hA := HAt.of hs
  have HF := Lib.hid (fun X (hX : Upd NoF W X) => (show X.cell? ⟨hb, 0, none⟩ = some (.int .i64 S.c.cores) ∧ X.cell? ⟨hb, 1, none⟩ = some (.int .i64 S.c.sets) ∧ X.cell? ⟨hb, 2, none⟩ = some (.int .i64 S.c.ways) ∧ X.cell? ⟨hb, 3, none⟩ = some (.int .i64 S.c.blocks) ∧ X.cell? ⟨hb, 4, none⟩ = some (.int .i64 S.c.logs) ∧ X.cell? ⟨hb, 5, none⟩ = some (.int .i64 S.c.backs) ∧ X.cell? ⟨hb, 6, none⟩ = some (.int .i64 S.c.nest) ∧ X.cell? ⟨hb, 7, none⟩ = some (.int .i64 S.c.tries) ∧
      X.cell? ⟨hb, 8, none⟩ = some (ptr mb) ∧ X.cell? ⟨hb, 9, none⟩ = some (sl p.eb S.n p.cap) ∧ X.cell? ⟨hb, 10, none⟩ = some (.map (some p.jb)) ∧ X.cell? ⟨hb, 11, none⟩ = some (ptr p.pb) from
    ⟨(hA.upd hX).box.cell 0, (hA.upd hX).box.cell 1, (hA.upd hX).box.cell 2, (hA.upd hX).box.cell 3, (hA.upd hX).box.cell 4, (hA.upd hX).box.cell 5, (hA.upd hX).box.cell 6, (hA.upd hX).box.cell 7, (hA.upd hX).box.cell 8, (hA.upd hX).box.cell 9, (hA.upd hX).box.cell 10, (hA.upd hX).box.cell 11⟩))
  have HSW := Lib.hid hs; have HFI := Lib.hid hf
  have HD := Lib.hid (Upd.drew NoF W)
  have HS0 := Lib.hid (hs.upd0 (Upd.drew NoF W))
  have hqn : (S.Q.map Nt.cells).length ≤ 65536 := by rw [List.length_map]; have := hf.good.few; omega
  have HQN := Lib.hid hqn
  clear h hs hf hA hqn
  go_enter Tryd.func24, Tryd.ntmps24
  go_wp2_with fail
  refine wp_region_held_drew (S := (fun X => Upd NoF W X)) (by kernel_rfl) (HD.out) (fun hHeld => ?_)
  refine rgn 0 (v := ?vq1) hHeld ?yq1 ?_
  case yq1 => (intro w hSw; obtain ⟨k0, k1, k2, k3, k4, k5, k6, k7, k8, k9, k10, k11⟩ := HF.out _ hSw; go_simp; try with_reducible rfl)
  simp only [Act.put, rn1, rn2, rn3, rn4, rn5, rn6]
  refine rgn 1 (v := ?vq2) hHeld ?yq2 ?_
  case yq2 => (intro w hSw; obtain ⟨k0, k1, k2, k3, k4, k5, k6, k7, k8, k9, k10, k11⟩ := HF.out _ hSw; go_simp; try with_reducible rfl)
  simp only [Act.put, rn1, rn2, rn3, rn4, rn5, rn6]
  refine rgn 2 (v := ?vq3) hHeld ?yq3 ?_
  case yq3 => (intro w hSw; obtain ⟨k0, k1, k2, k3, k4, k5, k6, k7, k8, k9, k10, k11⟩ := HF.out _ hSw; go_simp; try with_reducible rfl)
  simp only [Act.put, rn1, rn2, rn3, rn4, rn5, rn6]
  refine rgn 3 (v := ?vq4) hHeld ?yq4 ?_
  case yq4 => (intro w hSw; obtain ⟨k0, k1, k2, k3, k4, k5, k6, k7, k8, k9, k10, k11⟩ := HF.out _ hSw; go_simp; try with_reducible rfl)
  simp only [Act.put, rn1, rn2, rn3, rn4, rn5, rn6]
  refine rgn 4 (v := ?vq5) hHeld ?yq5 ?_
  case yq5 => (intro w hSw; obtain ⟨k0, k1, k2, k3, k4, k5, k6, k7, k8, k9, k10, k11⟩ := HF.out _ hSw; go_simp; try with_reducible rfl)
  simp only [Act.put, rn1, rn2, rn3, rn4, rn5, rn6]
  refine rgn 5 (v := ?vq6) hHeld ?yq6 ?_
  case yq6 => (intro w hSw; obtain ⟨k0, k1, k2, k3, k4, k5, k6, k7, k8, k9, k10, k11⟩ := HF.out _ hSw; go_simp; try with_reducible rfl)
  simp only [Act.put, rn1, rn2, rn3, rn4, rn5, rn6]
  refine rgn 6 (v := ?vq7) hHeld ?yq7 ?_
  case yq7 => (intro w hSw; obtain ⟨k0, k1, k2, k3, k4, k5, k6, k7, k8, k9, k10, k11⟩ := HF.out _ hSw; go_simp; try with_reducible rfl)
  simp only [Act.put, rn1, rn2, rn3, rn4, rn5, rn6]
  refine rgn 7 (v := ?vq8) hHeld ?yq8 ?_
  case yq8 => (intro w hSw; obtain ⟨k0, k1, k2, k3, k4, k5, k6, k7, k8, k9, k10, k11⟩ := HF.out _ hSw; go_simp; try with_reducible rfl)
  simp only [Act.put, rn1, rn2, rn3, rn4, rn5, rn6]
  refine rgn 9 (v := ?vq9) hHeld ?yq9 ?_
  case yq9 => (intro w hSw; obtain ⟨k0, k1, k2, k3, k4, k5, k6, k7, k8, k9, k10, k11⟩ := HF.out _ hSw; go_simp; try with_reducible rfl)
  simp only [Act.put, rn1, rn2, rn3, rn4, rn5, rn6]
  refine rgn 10 (v := ?vq10) hHeld ?yq10 ?_
  case yq10 => (intro w hSw; obtain ⟨k0, k1, k2, k3, k4, k5, k6, k7, k8, k9, k10, k11⟩ := HF.out _ hSw; go_simp; try with_reducible rfl)
  simp only [Act.put, rn1, rn2, rn3, rn4, rn5, rn6]
  refine rgn 11 (v := ?vq11) hHeld ?yq11 ?_
  case yq11 => (intro w hSw; obtain ⟨k0, k1, k2, k3, k4, k5, k6, k7, k8, k9, k10, k11⟩ := HF.out _ hSw; go_simp; try with_reducible rfl)
  simp only [Act.put, rn1, rn2, rn3, rn4, rn5, rn6]
  refine rgn 12 (v := ?vq12) hHeld ?yq12 ?_
  case yq12 => (intro w hSw; obtain ⟨k0, k1, k2, k3, k4, k5, k6, k7, k8, k9, k10, k11⟩ := HF.out _ hSw; go_simp; try with_reducible rfl)
  simp only [Act.put, rn1, rn2, rn3, rn4, rn5, rn6]
  refine rgn 14 (v := ?vq13) hHeld ?yq13 ?_
  case yq13 => (intro w hSw; obtain ⟨k0, k1, k2, k3, k4, k5, k6, k7, k8, k9, k10, k11⟩ := HF.out _ hSw; go_simp; try with_reducible rfl)
  simp only [Act.put, rn1, rn2, rn3, rn4, rn5, rn6]
  refine rgn 15 (v := ?vq14) hHeld ?yq14 ?_
  case yq14 => (intro w hSw; obtain ⟨k0, k1, k2, k3, k4, k5, k6, k7, k8, k9, k10, k11⟩ := HF.out _ hSw; go_simp; try with_reducible rfl)
  simp only [Act.put, rn1, rn2, rn3, rn4, rn5, rn6]
  refine rgn 16 (v := ?vq15) hHeld ?yq15 ?_
  case yq15 => (intro w hSw; obtain ⟨k0, k1, k2, k3, k4, k5, k6, k7, k8, k9, k10, k11⟩ := HF.out _ hSw; go_simp; try with_reducible rfl)
  simp only [Act.put, rn1, rn2, rn3, rn4, rn5, rn6]
  refine rgn 17 (v := ?vq16) hHeld ?yq16 ?_
  case yq16 => (intro w hSw; obtain ⟨k0, k1, k2, k3, k4, k5, k6, k7, k8, k9, k10, k11⟩ := HF.out _ hSw; go_simp; try with_reducible rfl)
  simp only [Act.put, rn1, rn2, rn3, rn4, rn5, rn6]
  refine rgn 19 (v := ?vq17) hHeld ?yq17 ?_
  case yq17 => (intro w hSw; obtain ⟨k0, k1, k2, k3, k4, k5, k6, k7, k8, k9, k10, k11⟩ := HF.out _ hSw; go_simp; try with_reducible rfl)
  simp only [Act.put, rn1, rn2, rn3, rn4, rn5, rn6]
  refine rgn 20 (v := ?vq18) hHeld ?yq18 ?_
  case yq18 => (intro w hSw; obtain ⟨k0, k1, k2, k3, k4, k5, k6, k7, k8, k9, k10, k11⟩ := HF.out _ hSw; go_simp; try with_reducible rfl)
  simp only [Act.put, rn1, rn2, rn3, rn4, rn5, rn6]
  refine rgn 21 (v := ?vq19) hHeld ?yq19 ?_
  case yq19 => (intro w hSw; obtain ⟨k0, k1, k2, k3, k4, k5, k6, k7, k8, k9, k10, k11⟩ := HF.out _ hSw; go_simp; try with_reducible rfl)
  simp only [Act.put, rn1, rn2, rn3, rn4, rn5, rn6]
  refine rgn 22 (v := ?vq20) hHeld ?yq20 ?_
  case yq20 => (intro w hSw; obtain ⟨k0, k1, k2, k3, k4, k5, k6, k7, k8, k9, k10, k11⟩ := HF.out _ hSw; go_simp; try with_reducible rfl)
  simp only [Act.put, rn1, rn2, rn3, rn4, rn5, rn6]
  refine reg_step (i := 8) (by kernel_rfl) rfl (by kernel_rfl) (fun K hK => ?_)
  go_simp
  obtain ⟨F1, hm1⟩ := HS0.out.has 1 rfl
  refine (ME.copy_is hm1 hdat.2.2.2.2.1 (by omega)).mono ?_
  rintro e X1 ⟨mb', rfl, hu1, hn1⟩
  have HS1 := Lib.hid (HS0.out.push hu1 hn1)
  have HS : (fun X => Upd NoF W X) X1 := hHeld.trans hu1 (fun _ _ h => h)
  clear hm1 hu1 hn1
  go_wp2_with fail
  refine hK.out _ _ HS (fun hHeld2 => ?_)
  clear hK hHeld2 hHeld; have hHeld := HS; clear HS
  try simp only [Act.put, rn1, rn2, rn3, rn4, rn5, rn6]
  refine reg_step (i := 13) (by kernel_rfl) rfl (by kernel_rfl) (fun K hK => ?_)
  go_simp
  refine (clone_e _ p.eb S.n p.cap (fun i => (S.E i).cells) p.tl (fun i => En.isN _) (HS1.out.box 3 rfl) (by omega) (by omega) HFI.out.cap.1 HFI.out.cap.2 (by rw [Array.size_append, rowG_size]; exact HFI.out.tl)).mono ?_
  rintro e X2 ⟨g', cap', tl', rfl, hu2, hb2, hc2, hm2, ht2, hg2⟩
  have HS2 := Lib.hid (HS1.out.push (Φ := boxO g' (rowG 2 S.n (fun i => (S.E i).cells) ++ tl') ET') hu2 ⟨hb2, hg2⟩)
  have HFT := Lib.hid (And.intro hc2 (And.intro hm2 ht2))
  have HS : (fun X => Upd NoF W X) X2 := hHeld.trans hu2 (fun _ _ h => h)
  clear hu2 hb2 hc2 hm2 ht2 hg2
  go_wp2_with fail
  refine hK.out _ _ HS (fun hHeld2 => ?_)
  clear hK hHeld2 hHeld; have hHeld := HS; clear HS
  try simp only [Act.put, rn1, rn2, rn3, rn4, rn5, rn6]
  refine reg_step (i := 18) (by kernel_rfl) rfl (by kernel_rfl) (fun K hK => ?_)
  go_simp
  refine (clone_j (GM.mapIs HS2.out 5 rfl)).mono ?_
  rintro e X3 ⟨rfl, hu3, hn3⟩
  have HS3 := Lib.hid (HS2.out.push hu3 hn3)
  have HS : (fun X => Upd NoF W X) X3 := hHeld.trans hu3 (fun _ _ h => h)
  clear hu3 hn3
  go_wp2_with fail
  refine hK.out _ _ HS (fun hHeld2 => ?_)
  clear hK hHeld2 hHeld; have hHeld := HS; clear HS
  try simp only [Act.put, rn1, rn2, rn3, rn4, rn5, rn6]
  refine reg_step (i := 23) (by kernel_rfl) rfl (by kernel_rfl) (fun K hK => ?_)
  go_simp
  obtain ⟨F4, hq4⟩ := HS3.out.has 7 rfl
  refine (PN.copy_any _ F4 p.pb _ _ hq4 HQN.out).mono ?_
  rintro e X4 ⟨pb', rfl, hu4, hn4⟩
  have HS4 := Lib.hid (HS3.out.push hu4 hn4)
  have HS : (fun X => Upd NoF W X) X4 := hHeld.trans hu4 (fun _ _ h => h)
  clear hu4 hn4 hq4
  go_wp2_with fail
  refine hK.out _ _ HS (fun hHeld2 => ?_)
  clear hK hHeld2 hHeld; have hHeld := HS; clear HS
  try simp only [Act.put, rn1, rn2, rn3, rn4, rn5, rn6]
  refine rgn 24 (v := ?vq21) hHeld ?yq21 ?_
  case yq21 => (intro w hSw; obtain ⟨k0, k1, k2, k3, k4, k5, k6, k7, k8, k9, k10, k11⟩ := HF.out _ hSw; go_simp; try with_reducible rfl)
  simp only [Act.put, rn1, rn2, rn3, rn4, rn5, rn6]
  refine reg_step (i := 25) (by kernel_rfl) rfl (by kernel_rfl) (fun K hK => ?_)
  go_simp
  have HS5 := Lib.hid (HS4.out.alloc #[.int .i64 S.c.cores, .int .i64 S.c.sets, .int .i64 S.c.ways, .int .i64 S.c.blocks, .int .i64 S.c.logs, .int .i64 S.c.backs, .int .i64 S.c.nest, .int .i64 S.c.tries, ptr mb', sl g' S.n cap', .map (some X2.heap.size), ptr pb'] HT)
  have HS : (fun X => Upd NoF W X) (X4.alloc (.cells #[.int .i64 S.c.cores, .int .i64 S.c.sets, .int .i64 S.c.ways, .int .i64 S.c.blocks, .int .i64 S.c.logs, .int .i64 S.c.backs, .int .i64 S.c.nest, .int .i64 S.c.tries, ptr mb', sl g' S.n cap', .map (some X2.heap.size), ptr pb'] HT)) := hHeld.trans (Upd.alloc NoF _ _) (fun _ _ h => h)
  refine hK.out _ _ HS (fun hHeld2 => ?_)
  clear hK hHeld2 hHeld; have hHeld := HS; clear HS
  try simp only [Act.put, rn1, rn2, rn3, rn4, rn5, rn6]
  refine rgn 26 (v := ?vq22) hHeld ?yq22 ?_
  case yq22 => (intro w hSw; obtain ⟨k0, k1, k2, k3, k4, k5, k6, k7, k8, k9, k10, k11⟩ := HF.out _ hSw; go_simp; try with_reducible rfl)
  simp only [Act.put, rn1, rn2, rn3, rn4, rn5, rn6]
  refine wpAnyH_done (by kernel_rfl) ?_ _
  clear hHeld
  go_wp2
  go_ret
  refine ⟨X4.heap.size, mb', rfl, ?_⟩
  have h5 := HS5.out
  have a1 := Sep.pick h5 1 rfl
  have a2 := Sep.pick a1 2 rfl
  have a3 := Sep.pick a2 3 rfl
  have a4 := Sep.pick a3 4 rfl
  have a5 := Sep.pick a4 4 rfl
  have ht := HFT.out
  have hfit : Fits S ⟨g', X2.heap.size, pb', cap', tl'⟩ := ⟨HFI.out.good, ⟨ht.1, ht.2.1⟩, by have := ht.2.2; rw [Array.size_append, rowG_size] at this; exact this⟩
  exact home_shut1 HFI.out (home_shut (S := S) (p := ⟨g', X2.heap.size, pb', cap', tl'⟩) hfit a5)
end
end Go.Proofs.YtlhbnndnkcpomaaDoor.HO
