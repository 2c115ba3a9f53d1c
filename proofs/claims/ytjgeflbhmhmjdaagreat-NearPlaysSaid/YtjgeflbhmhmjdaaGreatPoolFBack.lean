/- First of pool.Pool[undertow/backs.back]. -/
import Derived.Test.YtjgeflbhmhmjdaaGreatPoolBack
import Derived.Test.YtjgeflbhmhmjdaaGreatRangeA
set_option linter.unusedSimpArgs false
set_option linter.unusedVariables false
namespace Go.Proofs.YtjgeflbhmhmjdaaGreat.PB
open Go.RowKit
attribute [local go_sem] Oper.semAt_some
attribute [local go_sem ↓] TBak.ld_eq TBak.st_eq TBak.bx_eq TBak.al_eq
attribute [local go_sem] TBak.al_run TBak.bx_run

set_option maxRecDepth 100000 in
set_option maxHeartbeats 2000000 in
theorem first_any (w : World) (F0 : Nat → Prop) (b : Nat) (zs : List (Array Value)) (room : Int) (hP0 : (Po (ptr b) zs room).is w F0)
    (f : Nat) (cap : Array Value) (g : Array Value → Bool) (ef : ∀ args w, (callFunc f args).run Tryz.prog w = .ok (.enter f args) w)
    (hf : ∀ (x : Array Value) (W : World), x ∈ zs → Upd NoF w W → Calls Tryz.prog f (#[.agg x] ++ cap) W fun e w' => e = .returned (.bool (g x)) ∧ Upd NoF W w') :
    Calls Tryz.prog 127 #[ptr b, .func (.func f) #[] cap] w fun e w' => e = .returned (.int .i64 (firstAt g zs)) ∧ Upd NoF w w' := by
  obtain ⟨F, hP, hF0⟩ := (Po (ptr b) zs room).tight hP0
  have hF : ∀ k, F k → k < w.heap.size := fun k hk => (hF0 k hk).2
  have HN := Lib.hid hP.1
  have HP := Lib.hid hP
  clear hP hP0 hF0
  have hef := fun (W : World) => run_eql_func_nil (P := Tryz.prog) W Tryz.underlying185 (.func f) #[] cap
  have Hf := Lib.hid hf
  clear hf
  refine calls_of_wp_marks Tryz.func127 rfl ?_
  simp only [Tryz.ntmps127, List.size_toArray, List.length_cons, List.length_nil, Nat.reduceAdd, Nat.reduceSub, Array.replicate_succ, Array.replicate_zero, List.push_toArray, List.append_toArray, List.nil_append, List.cons_append]
  go_wp2_with (go_at_call 150; refine (all_any _ _).mono ?_; rintro e w' ⟨rfl, rfl⟩)
  have hU0 : Upd NoF w (((w.alloc (.cells #[.func (.func f) #[] cap] 185)).alloc (.cells #[.int .i64 0] 3)).alloc (.cells #[ptr b] 136)) :=
    ((Upd.alloc NoF w _).trans (Upd.alloc NoF _ _) (fun _ _ h => h)).trans (Upd.alloc NoF _ _) (fun _ _ h => h)
  have b1 : Blk (((w.alloc (.cells #[.func (.func f) #[] cap] 185)).alloc (.cells #[.int .i64 0] 3)).alloc (.cells #[ptr b] 136)) w.heap.size #[.func (.func f) #[] cap] 185 := ((Blk.new w _ _).alloc _).alloc _
  have b2 : Blk (((w.alloc (.cells #[.func (.func f) #[] cap] 185)).alloc (.cells #[.int .i64 0] 3)).alloc (.cells #[ptr b] 136)) (w.heap.size + 1) #[.int .i64 0] 3 := by
    have := (Blk.new (w.alloc (.cells #[.func (.func f) #[] cap] 185)) #[.int .i64 0] 3).alloc (.cells #[ptr b] 136)
    rwa [World.size_alloc] at this
  have b3 : Blk (((w.alloc (.cells #[.func (.func f) #[] cap] 185)).alloc (.cells #[.int .i64 0] 3)).alloc (.cells #[ptr b] 136)) (w.heap.size + 1 + 1) #[ptr b] 136 := by
    have := (Blk.new ((w.alloc (.cells #[.func (.func f) #[] cap] 185)).alloc (.cells #[.int .i64 0] 3)) #[ptr b] 136)
    rwa [World.size_alloc, World.size_alloc] at this
  obtain ⟨W0, hW0⟩ : ∃ W0, (((w.alloc (.cells #[.func (.func f) #[] cap] 185)).alloc (.cells #[.int .i64 0] 3)).alloc (.cells #[ptr b] 136)) = W0 := ⟨_, rfl⟩
  have hs0 : W0.heap.size = w.heap.size + 3 := by rw [← hW0]; simp
  rw [hW0] at hU0 b1 b2 b3 ⊢
  clear hW0
  have hP0 := (Po (ptr b) zs room).keep HP.out (hU0.kept (fun _ _ _ h => h))
  refine wp_rangeA (gf := 161) (lb := #[ptr (w.heap.size + 1 + 1)]) rfl (enters_of Tryz.func161 (by kernel_rfl) rfl)
    (all_seq (w.heap.size + 1 + 1) b zs room F (fun k => k = w.heap.size + 1 ∨ w.heap.size + 3 ≤ k) (fun k hk => by have := hF k hk; omega) (by omega) W0 (b3.cell 0) hP0 (fun k hk => .inr (by omega))) (fun _ => rfl) (fun _ h => h.elim) (fun k hk => .inr (by omega))
    (fun k W => (∀ j z, j < k → zs[j]? = some z → g z = false) ∧ Blk W w.heap.size #[.func (.func f) #[] cap] 185 ∧ Blk W (w.heap.size + 1) #[.int .i64 0] 3 ∧ Upd NoF w W)
    (fun c k W => c = .ret ∧ (∀ j z, j < k → zs[j]? = some z → g z = false) ∧ (∃ z, zs[k]? = some z ∧ g z = true) ∧ Blk W (w.heap.size + 1) #[.int .i64 (k : Int)] 3 ∧ Upd NoF w W)
    (fun k A B hs hb => ⟨hs.1, hs.2.1.bk hb (fun h => h), hs.2.2.1.bk hb (fun h => h), hs.2.2.2.bk hb (by omega) (fun _ h => h.elim)⟩)
    (fun c k A B hs hb => ⟨hs.1, hs.2.1, hs.2.2.1, hs.2.2.2.1.bk hb (fun h => h), hs.2.2.2.2.bk hb (by omega) (fun _ h => h.elim)⟩)
    ⟨fun j z hj => by omega, b1, b2, hU0⟩
    ?round ?done ?stop
  case round =>
    intro l k x hx V K' hK'
    rw [idxs_get, Option.map_eq_some_iff] at hx
    obtain ⟨z, hz, rfl⟩ := hx
    have hzN := HN.out z (List.mem_of_getElem? hz)
    have s1 := TBak.st_new hzN V
    have HK := Lib.hid hK'
    have HZN := Lib.hid hzN
    clear hK' hzN
    gi_wp2
    refine HK.out _ _ (Upd.alloc NoF V _) ?_
    rintro W ⟨hne, q1, q2, hB⟩ hbk
    have q6 := (Blk.new V z 140).bk hbk (fun h => h)
    have hfx := Lib.hid (Hf.out z W (List.mem_of_getElem? hz) hB)
    have hc1 : W.cell? ⟨w.heap.size, 0, none⟩ = some (.func (.func f) #[] cap) := q1.cell 0
    have l6 := TBak.ld_at HZN.out q6.whole
    have HB := Lib.hid hB; have Q1 := Lib.hid q1; have Q2 := Lib.hid q2
    have HZ := Lib.hid hz
    have HNE := Lib.hid hne
    clear hz hne s1 q6 q1 q2 hB
    cases hgx : g z
    · rw [hgx] at hfx
      have HG := Lib.hid hgx
      clear hgx
      gi_wp2_with (refine ⟨trivial, ?_⟩; refine (CallsIn.inRound l (callsIn_wide.2 hfx.out)).mono ?_; rintro e w' ⟨rfl, hu⟩; have HU := Lib.hid hu; clear hu)
      refine ⟨HU.out.mono (fun _ _ h => h.elim), fun j z' hj hz' => ?_, Q1.out.upd HU.out (fun h => h), Q2.out.upd HU.out (fun h => h), HB.out.trans HU.out (fun _ _ h => h)⟩
      rcases Nat.lt_succ_iff_lt_or_eq.1 hj with h | rfl
      · exact HNE.out j z' h hz'
      · rw [HZ.out] at hz'; cases hz'; exact HG.out
    · rw [hgx] at hfx
      have HG := Lib.hid hgx
      clear hgx
      gi_wp2_with (refine ⟨trivial, ?_⟩; refine (CallsIn.inRound l (callsIn_wide.2 hfx.out)).mono ?_; rintro e w' ⟨rfl, hu⟩; have HU := Lib.hid hu; have hc2 := (Q2.out.upd hu (fun h => h)).cell 0; have hf2 := (Q2.out.upd hu (fun h => h)).frozen 0; change w'.cell? ⟨w.heap.size + 1, 0, none⟩ = some (.int .i64 0) at hc2; clear hu)
      exact ⟨(HU.out.mono (fun _ _ h => h.elim)).trans (Upd.setCell _ (p := ⟨w.heap.size + 1, 0, none⟩) (.inl rfl) _) (fun _ _ h => h), rfl, HNE.out, ⟨z, HZ.out, HG.out⟩, (Q2.out.upd HU.out (fun h => h)).set 0 _, (HB.out.trans HU.out (fun _ _ h => h)).trans (Upd.setCell (F := fun k => k = w.heap.size + 1) _ (p := ⟨w.heap.size + 1, 0, none⟩) rfl _) (fun i hi h => by omega)⟩
  case done =>
    rintro D W hD ⟨hne, q1, q2, hB⟩ hK
    have hc2 : W.cell? ⟨w.heap.size + 1, 0, none⟩ = some (.int .i64 0) := q2.cell 0
    have hf2 := q2.frozen 0
    have hfin := Lib.hid (firstAt_none (g := g) (zs := zs) (fun j z h => hne j z (by rw [idxs_length]; exact (List.getElem?_eq_some_iff.1 h).1) h))
    have HB := Lib.hid hB
    clear hne hB
    go_wp2
    have q2' := q2.set 0 (.int .i64 (-1))
    have hK' := (Upd.setCell (F := fun k => k = w.heap.size + 1) W (p := ⟨w.heap.size + 1, 0, none⟩) rfl (.int .i64 (-1))).others.same D _ hK rfl
    have q3 := q2'.bk (Bk.putObj (n := w.heap.size) (G := NoF) hK' rfl (by omega) (.deferred none)) (fun h => h)
    have hc5 : _ = some (Value.int .i64 (-1)) := q3.cell 0
    refine postM_ret1 hK' (v := .int .i64 (-1)) (by simp [results, Tryz.f127, go_sem, hc5]) ⟨by rw [hfin.out], ?_⟩
    exact ((HB.out.trans (Upd.setCell (F := fun k => k = w.heap.size + 1) _ (p := ⟨w.heap.size + 1, 0, none⟩) rfl _) (fun i hi h => by omega)).bk (Bk.putObj (n := w.heap.size) (G := NoF) hK' rfl (by omega) _) (Nat.le_refl _) (fun _ h => h.elim))
  case stop =>
    rintro D c k W hD hkl ⟨rfl, hne, ⟨z, hz, hgz⟩, q2, hB⟩ hK
    have hfin := Lib.hid (firstAt_some (g := g) hz hne hgz)
    have HB := Lib.hid hB
    clear hne hz hgz hB
    go_wp2
    have q3 := q2.bk (Bk.putObj (n := w.heap.size) (G := NoF) hK rfl (by omega) (.deferred none)) (fun h => h)
    have hc5 : _ = some (Value.int .i64 (k : Int)) := q3.cell 0
    refine postM_ret1 hK (v := .int .i64 (k : Int)) (by simp [results, Tryz.f127, go_sem, hc5]) ⟨by rw [hfin.out], ?_⟩
    exact HB.out.bk (Bk.putObj (n := w.heap.size) (G := NoF) hK rfl (by omega) _) (Nat.le_refl _) (fun _ h => h.elim)
end Go.Proofs.YtjgeflbhmhmjdaaGreat.PB
