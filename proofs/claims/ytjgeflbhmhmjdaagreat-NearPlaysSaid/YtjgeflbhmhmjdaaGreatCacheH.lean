/- Package cache: Copy; no cache; the works. -/
import Derived.Test.YtjgeflbhmhmjdaaGreatCacheG
import Derived.Test.YtjgeflbhmhmjdaaGreatCacheEq
import Derived.Deep.RegionWith
import Derived.Test.YtjgeflbhmhmjdaaGreatSep
set_option linter.unusedSimpArgs false
set_option linter.unusedVariables false
namespace Go.Proofs.YtjgeflbhmhmjdaaGreat.KA
open Go.RowKit
open BU (IsU words)
open PL (Cfg CC CV May)
attribute [local go_sem] Oper.semAt_some
attribute [local go_sem ↓] TLin.ld_eq TLin.st_eq TLin.al_eq TLin.bx_eq
attribute [local go_sem] TLin.al_run TLin.bx_run
theorem lnX_take {n cl : Nat} {A : Nat → Ln} {tl : Array Value} : (lnRow n A ++ tl).toList.take (n * 18) = (lnRow n A).toList := by
  rw [Array.toList_append, List.take_append_of_le_length (by rw [Array.length_toList, lnRow_size]; exact Nat.le_refl _), List.take_of_length_le (by rw [Array.length_toList, lnRow_size]; exact Nat.le_refl _)]
theorem rowX_take {s : Nat} {M : Nat → Int} {tm : Array Value} : (rowU s M ++ tm).toList.take (s * 1) = (rowU s M).toList := by
  rw [Nat.mul_one, Array.toList_append, List.take_append_of_le_length (by rw [Array.length_toList, rowU_size]; exact Nat.le_refl _), List.take_of_length_le (by rw [Array.length_toList, rowU_size]; exact Nat.le_refl _)]
theorem split_take {cur X : Array Value} {k : Nat} (h : cur.toList.take k = X.toList) : ∃ tl, cur = X ++ tl := by
  refine ⟨(cur.toList.drop k).toArray, ?_⟩
  apply Array.toList_inj.1
  rw [Array.toList_append, ← h]
  simp
set_option maxHeartbeats 1000000 in
theorem clone_l (w : World) (g n cap : Nat) (A : Nat → Ln) (tl : Array Value) (hA : ∀ i, (A i).Ok) (hB : Blk w g (lnRow n A ++ tl) LT) (hn : n ≤ 64) (h1 : 1 ≤ n) (hc : n ≤ cap) (hm : cap ≤ maxLen) (htl : cap * 18 ≤ (lnRow n A ++ tl).size) :
    Calls Tryz.prog 104 #[.slice (some ⟨g, 0, none⟩) n cap] w fun e w' => ∃ g' cap' tl', e = .returned (.slice (some ⟨g', 0, none⟩) n cap') ∧ Upd NoF w w' ∧ Blk w' g' (lnRow n A ++ tl') LT ∧ n ≤ cap' ∧ cap' ≤ maxLen ∧ cap' * 18 ≤ (lnRow n A ++ tl').size ∧ w.heap.size ≤ g' := by
  have hrow : Row w LT 18 (.slice (some ⟨g, 0, none⟩) n cap) n (lnRow n A).toList := ⟨by rw [Array.length_toList, lnRow_size], .inr ⟨g, cap, _, rfl, hB, hc, hm, htl, lnX_take (cl := cap)⟩⟩
  have he := fun W => Lib.run_eql_slice_nil (P := Tryz.prog) (w := W) 122 LT (some ⟨g, 0, none⟩) n cap 0 0 Tryz.underlying122
  have hi3 : (Tryz.prog.info? LT).map (fun i => (i.zero, i.size, i.bytes)) = some (some (.agg TLin.Z), 18, 80) := by kernel_rfl
  obtain ⟨i0, hi, hz0, hz1, hz2⟩ := info_parts hi3
  have hone : ∀ u ∈ (lnRow n A).toList, u.oneCell' = true := fun u hu => by
    rw [Array.mem_toList_iff, Array.mem_iff_getElem?] at hu
    obtain ⟨k, hk⟩ := hu
    have hlt : k < n * 18 := by have := (Array.getElem?_eq_some_iff.1 hk).1; rwa [lnRow_size] at this
    have hk2 := lnRow_get (A := A) (i := k / 18) (r := k % 18) (hA _).isU (show k / 18 < n by omega) (by omega)
    rw [show k / 18 * 18 + k % 18 = k by omega, hk] at hk2
    exact (Ln.Ok.isN (hA _).isU).2 u (Array.mem_of_getElem? hk2.symm)
  obtain ⟨v9, w1, hrun, hrow9, hgr, hf⟩ := run_append_all (P := Tryz.prog) (w.alloc (.cells #[] LT)) 122 122 LT i0 (.agg TLin.Z) 18 80 Tryz.underlying122 hi hz0 hz1 hz2 TLin.size_Z (by decide) (.slice (some ⟨w.heap.size, 0, none⟩) 0 0) 0 []
    ⟨rfl, .inr ⟨_, 0, #[], rfl, World.alloc_heap_new w _, Nat.le_refl _, by unfold maxLen; omega, by simp, by simp⟩⟩ _ n _ (hrow.alloc (.cells #[] LT)) hone (by unfold maxLen; omega) (by omega)
  have hU : Upd NoF w w1 := (Upd.alloc NoF w _).trans (Upd.grown (F := fun k => k = w.heap.size) hgr (fun k hk _ => by simp [Value.ownBlock] at hk; subst hk; exact ⟨rfl, _, World.alloc_heap_new w _, rfl⟩)) (fun i hi h => by omega)
  have hfr : ∀ k, v9.ownBlock = some k → w.heap.size ≤ k := by
    intro k hk
    rcases hf with h | ⟨g', h, h'⟩
    · rw [h] at hk; simp [Value.ownBlock] at hk; omega
    · rw [h] at hk; cases hk; simp at h'; omega
  simp only [Nat.zero_add, List.nil_append] at hrow9 hfr
  have HR := Lib.hid hrun
  rcases hrow9.2 with ⟨_, h0⟩ | ⟨g9, cap9, cur, rfl, hg9, hc9, hm9, hs9, ht9⟩
  · omega
  obtain ⟨tl9, rfl⟩ := split_take ht9
  have HF := Lib.hid (And.intro hU (And.intro (show Blk w1 g9 (lnRow n A ++ tl9) LT from hg9) (And.intro hc9 (And.intro hm9 (And.intro hs9 (hfr g9 rfl))))))
  clear hrun hrow9 hgr hf hU hfr hrow hone hg9 hc9 hm9 hs9 ht9 hB htl hm hA
  go_enter Tryz.func104, Tryz.ntmps104
  go_wp2_with (at_builtin; refine wpList_append_run rfl _ _ 122 rfl rfl rfl HR.out ?_)
  go_ret
  exact ⟨_, _, _, rfl, HF.out⟩
set_option maxHeartbeats 1000000 in
theorem clone_u (w : World) (g n cap : Nat) (A : Nat → Int) (tl : Array Value) (hB : Blk w g (rowU n A ++ tl) UT) (hn : n ≤ 64) (h1 : 1 ≤ n) (hc : n ≤ cap) (hm : cap ≤ maxLen) (htl : cap * 1 ≤ (rowU n A ++ tl).size) :
    Calls Tryz.prog 105 #[.slice (some ⟨g, 0, none⟩) n cap] w fun e w' => ∃ g' cap' tl', e = .returned (.slice (some ⟨g', 0, none⟩) n cap') ∧ Upd NoF w w' ∧ Blk w' g' (rowU n A ++ tl') UT ∧ n ≤ cap' ∧ cap' ≤ maxLen ∧ cap' * 1 ≤ (rowU n A ++ tl').size ∧ w.heap.size ≤ g' := by
  have hrow : Row w UT 1 (.slice (some ⟨g, 0, none⟩) n cap) n (rowU n A).toList := ⟨by rw [Array.length_toList, rowU_size, Nat.mul_one], .inr ⟨g, cap, _, rfl, hB, hc, hm, htl, rowX_take⟩⟩
  have he := fun W => Lib.run_eql_slice_nil (P := Tryz.prog) (w := W) 123 UT (some ⟨g, 0, none⟩) n cap 0 0 Tryz.underlying123
  have hi3 : (Tryz.prog.info? UT).map (fun i => (i.zero, i.size, i.bytes)) = some (some (.int .u8 0), 1, 1) := by kernel_rfl
  obtain ⟨i0, hi, hz0, hz1, hz2⟩ := info_parts hi3
  have hone : ∀ u ∈ (rowU n A).toList, u.oneCell' = true := fun u hu => by
    rw [Array.mem_toList_iff, Array.mem_iff_getElem?] at hu
    obtain ⟨k, hk⟩ := hu
    have hlt : k < n := by have := (Array.getElem?_eq_some_iff.1 hk).1; rwa [rowU_size] at this
    rw [rowU_get A hlt] at hk
    cases hk; rfl
  obtain ⟨v9, w1, hrun, hrow9, hgr, hf⟩ := run_append_all (P := Tryz.prog) (w.alloc (.cells #[] UT)) 123 123 UT i0 (.int .u8 0) 1 1 Tryz.underlying123 hi hz0 hz1 hz2 rfl (by decide) (.slice (some ⟨w.heap.size, 0, none⟩) 0 0) 0 []
    ⟨rfl, .inr ⟨_, 0, #[], rfl, World.alloc_heap_new w _, Nat.le_refl _, by unfold maxLen; omega, by simp, by simp⟩⟩ _ n _ (hrow.alloc (.cells #[] UT)) hone (by unfold maxLen; omega) (by omega)
  have hU : Upd NoF w w1 := (Upd.alloc NoF w _).trans (Upd.grown (F := fun k => k = w.heap.size) hgr (fun k hk _ => by simp [Value.ownBlock] at hk; subst hk; exact ⟨rfl, _, World.alloc_heap_new w _, rfl⟩)) (fun i hi h => by omega)
  have hfr : ∀ k, v9.ownBlock = some k → w.heap.size ≤ k := by
    intro k hk
    rcases hf with h | ⟨g', h, h'⟩
    · rw [h] at hk; simp [Value.ownBlock] at hk; omega
    · rw [h] at hk; cases hk; simp at h'; omega
  simp only [Nat.zero_add, List.nil_append] at hrow9 hfr
  have HR := Lib.hid hrun
  rcases hrow9.2 with ⟨_, h0⟩ | ⟨g9, cap9, cur, rfl, hg9, hc9, hm9, hs9, ht9⟩
  · omega
  obtain ⟨tl9, rfl⟩ := split_take ht9
  have HF := Lib.hid (And.intro hU (And.intro (show Blk w1 g9 (rowU n A ++ tl9) UT from hg9) (And.intro hc9 (And.intro hm9 (And.intro hs9 (hfr g9 rfl))))))
  clear hrun hrow9 hgr hf hU hfr hrow hone hg9 hc9 hm9 hs9 ht9 hB htl hm
  go_enter Tryz.func105, Tryz.ntmps105
  go_wp2_with (at_builtin; refine wpList_append_run rfl _ _ 123 rfl rfl rfl HR.out ?_)
  go_ret
  exact ⟨_, _, _, rfl, HF.out⟩
section
variable {w0 W W' : World} {p : Kp} {T : TypeId} {c : Cfg} {A : Nat → Ln} {M : Nat → Int} {L : List Obj}
abbrev Kp.ob (p : Kp) (T : TypeId) (c : Cfg) (A : Nat → Ln) (M : Nat → Int) (L : List Obj) : List Obj := boxO p.kb (p.cells c) T :: boxO p.gl (lnRow (p.s * p.y) A ++ p.tl) LT :: boxO p.gm (rowU p.s M ++ p.tm) UT :: L
set_option maxRecDepth 100000 in
set_option maxHeartbeats 2000000 in
theorem copy_is (h : CIs T w0 W p c A M L) : Calls Tryz.prog 59 #[ptr p.kb] W fun e W' =>
    ∃ p', e = .returned (ptr p'.kb) ∧ CIs KT w0 W' p' c A M (p.ob T c A M L) ∧ p'.s = p.s ∧ p'.y = p.y ∧ Upd NoF W W' := by
  have hsm := Kp.small h.fits
  have hf := h.fits
  have HC1 := Lib.hid (fun X (hu : Upd NoF W X) => clone_l X p.gl (p.s * p.y) p.cl A p.tl h.ok.okA (h.bl.upd hu (fun h => h)) (by omega) (by omega) (by have := hf.hcl; omega) (by have := hf.hcl; omega) (by rw [Array.size_append, lnRow_size]; exact hf.hsl))
  have HC2 := Lib.hid (fun X (hu : Upd NoF W X) => clone_u X p.gm p.s p.cm M p.tm (h.bm.upd hu (fun h => h)) (by omega) (by omega) (by have := hf.hcm; omega) (by have := hf.hcm; omega) (by rw [Array.size_append, rowU_size, Nat.mul_one]; exact hf.hsm))
  have HS := Lib.hid (fun X (hu : Upd NoF W X) => (show (fun X => Upd NoF W X ∧ X.cell? ⟨p.kb, 0, none⟩ = some (.int .i64 c.cores) ∧ X.cell? ⟨p.kb, 1, none⟩ = some (.int .i64 c.sets) ∧ X.cell? ⟨p.kb, 2, none⟩ = some (.int .i64 c.ways) ∧ X.cell? ⟨p.kb, 3, none⟩ = some (.int .i64 c.blocks) ∧ X.cell? ⟨p.kb, 4, none⟩ = some (.int .i64 c.logs) ∧ X.cell? ⟨p.kb, 5, none⟩ = some (.int .i64 c.backs) ∧ X.cell? ⟨p.kb, 6, none⟩ = some (.int .i64 c.nest) ∧ X.cell? ⟨p.kb, 7, none⟩ = some (.int .i64 c.tries) ∧ X.cell? ⟨p.kb, 8, none⟩ = some (.slice (some ⟨p.gl, 0, none⟩) (p.s * p.y) p.cl) ∧ X.cell? ⟨p.kb, 9, none⟩ = some (.slice (some ⟨p.gm, 0, none⟩) p.s p.cm)) X from ⟨hu, (h.bk.upd hu (fun h => h)).cell 0, (h.bk.upd hu (fun h => h)).cell 1, (h.bk.upd hu (fun h => h)).cell 2, (h.bk.upd hu (fun h => h)).cell 3, (h.bk.upd hu (fun h => h)).cell 4, (h.bk.upd hu (fun h => h)).cell 5, (h.bk.upd hu (fun h => h)).cell 6, (h.bk.upd hu (fun h => h)).cell 7, (h.bk.upd hu (fun h => h)).cell 8, (h.bk.upd hu (fun h => h)).cell 9⟩))
  have HI := Lib.hid h
  have hcell : ∀ gl gm cl cm tl tm kb, (Kp.mk kb gl gm cl cm tl tm p.s p.y).cells c = #[.int .i64 c.cores, .int .i64 c.sets, .int .i64 c.ways, .int .i64 c.blocks, .int .i64 c.logs, .int .i64 c.backs, .int .i64 c.nest, .int .i64 c.tries, .slice (some ⟨gl, 0, none⟩) (p.s * p.y) cl, .slice (some ⟨gm, 0, none⟩) p.s cm] := fun _ _ _ _ _ _ _ => rfl
  have HCE := Lib.hid hcell
  clear h hf hsm hcell
  go_enter Tryz.func59, Tryz.ntmps59
  go_wp2_with fail
  go_region_held3 (fun X => Upd NoF W X ∧ X.cell? ⟨p.kb, 0, none⟩ = some (.int .i64 c.cores) ∧ X.cell? ⟨p.kb, 1, none⟩ = some (.int .i64 c.sets) ∧ X.cell? ⟨p.kb, 2, none⟩ = some (.int .i64 c.ways) ∧ X.cell? ⟨p.kb, 3, none⟩ = some (.int .i64 c.blocks) ∧ X.cell? ⟨p.kb, 4, none⟩ = some (.int .i64 c.logs) ∧ X.cell? ⟨p.kb, 5, none⟩ = some (.int .i64 c.backs) ∧ X.cell? ⟨p.kb, 6, none⟩ = some (.int .i64 c.nest) ∧ X.cell? ⟨p.kb, 7, none⟩ = some (.int .i64 c.tries) ∧ X.cell? ⟨p.kb, 8, none⟩ = some (.slice (some ⟨p.gl, 0, none⟩) (p.s * p.y) p.cl) ∧ X.cell? ⟨p.kb, 9, none⟩ = some (.slice (some ⟨p.gm, 0, none⟩) p.s p.cm)) (first | assumption | exact HS.out _ (Upd.drew NoF W) | (have hS : Upd NoF W _ ∧ _ := ‹_›; exact HS.out _ (hS.1.trans (Upd.alloc NoF _ _) (fun _ _ h => h))))
    (first | (go_at_call 104; have hS : Upd NoF W _ ∧ _ := ‹_›; refine (HC1.out _ hS.1).mono ?_; rintro e w1 ⟨g1, c1, t1, rfl, hu, hb, hc, hm, ht, hg⟩; have HU1 := Lib.hid (hS.1.trans hu (fun _ _ h => h)); have HB1 := Lib.hid (And.intro hb (And.intro hc (And.intro hm (And.intro ht (Nat.le_trans hS.1.size hg))))); have hS' : (fun X => Upd NoF W X ∧ X.cell? ⟨p.kb, 0, none⟩ = some (.int .i64 c.cores) ∧ X.cell? ⟨p.kb, 1, none⟩ = some (.int .i64 c.sets) ∧ X.cell? ⟨p.kb, 2, none⟩ = some (.int .i64 c.ways) ∧ X.cell? ⟨p.kb, 3, none⟩ = some (.int .i64 c.blocks) ∧ X.cell? ⟨p.kb, 4, none⟩ = some (.int .i64 c.logs) ∧ X.cell? ⟨p.kb, 5, none⟩ = some (.int .i64 c.backs) ∧ X.cell? ⟨p.kb, 6, none⟩ = some (.int .i64 c.nest) ∧ X.cell? ⟨p.kb, 7, none⟩ = some (.int .i64 c.tries) ∧ X.cell? ⟨p.kb, 8, none⟩ = some (.slice (some ⟨p.gl, 0, none⟩) (p.s * p.y) p.cl) ∧ X.cell? ⟨p.kb, 9, none⟩ = some (.slice (some ⟨p.gm, 0, none⟩) p.s p.cm)) w1 := HS.out _ HU1.out; clear hu hb hc hm ht hg) | (go_at_call 105; have hS : Upd NoF W _ ∧ _ := ‹_›; refine (HC2.out _ hS.1).mono ?_; rintro e w2 ⟨g2, c2, t2, rfl, hu, hb, hc, hm, ht, hg⟩; have HU2 := Lib.hid hu; have HB2 := Lib.hid (And.intro hb (And.intro hc (And.intro hm (And.intro ht hg)))); have hS' : (fun X => Upd NoF W X ∧ X.cell? ⟨p.kb, 0, none⟩ = some (.int .i64 c.cores) ∧ X.cell? ⟨p.kb, 1, none⟩ = some (.int .i64 c.sets) ∧ X.cell? ⟨p.kb, 2, none⟩ = some (.int .i64 c.ways) ∧ X.cell? ⟨p.kb, 3, none⟩ = some (.int .i64 c.blocks) ∧ X.cell? ⟨p.kb, 4, none⟩ = some (.int .i64 c.logs) ∧ X.cell? ⟨p.kb, 5, none⟩ = some (.int .i64 c.backs) ∧ X.cell? ⟨p.kb, 6, none⟩ = some (.int .i64 c.nest) ∧ X.cell? ⟨p.kb, 7, none⟩ = some (.int .i64 c.tries) ∧ X.cell? ⟨p.kb, 8, none⟩ = some (.slice (some ⟨p.gl, 0, none⟩) (p.s * p.y) p.cl) ∧ X.cell? ⟨p.kb, 9, none⟩ = some (.slice (some ⟨p.gm, 0, none⟩) p.s p.cm)) w2 := HS.out _ (HU1.out.trans hu (fun _ _ h => h)); clear hu hb hc hm ht hg))
  all_goals
    go_wp2
    go_ret
    refine ⟨Kp.mk w2.heap.size g1 g2 c1 c2 t1 t2 p.s p.y, rfl, ⟨?_, ?_, HI.out.ok⟩, rfl, rfl, (HU1.out.trans HU2.out (fun _ _ h => h)).trans (Upd.alloc NoF _ _) (fun _ _ h => h)⟩
    · have a1 := HI.out.sep.push (Φ := boxO g1 (lnRow (p.s * p.y) A ++ t1) LT) HU1.out ⟨HB1.out.1, HB1.out.2.2.2.2⟩
      have a2 := a1.push (Φ := boxO g2 (rowU p.s M ++ t2) UT) HU2.out ⟨HB2.out.1, HB2.out.2.2.2.2⟩
      have a3 := a2.alloc ((Kp.mk w2.heap.size g1 g2 c1 c2 t1 t2 p.s p.y).cells c) KT
      exact swap23 a3
    · exact ⟨HI.out.fits.may, HI.out.fits.es, HI.out.fits.ew, ⟨HB1.out.2.1, HB1.out.2.2.1⟩, ⟨HB2.out.2.1, HB2.out.2.2.1⟩, (by have := HB1.out.2.2.2.1; rw [Array.size_append, lnRow_size] at this; exact this), (by have := HB2.out.2.2.2.1; rw [Array.size_append, rowU_size, Nat.mul_one] at this; exact this)⟩
end
end Go.Proofs.YtjgeflbhmhmjdaaGreat.KA
namespace Go.Proofs.YtjgeflbhmhmjdaaGreat.TBak
open Go.RowKit
def Z : Array Value := #[.int .i64 0, .int .u32 0, .int .u32 0, .int .u32 0, .int .u32 0, .int .u32 0, .int .u32 0, .int .u32 0, .int .u32 0, .int .u32 0, .int .u32 0, .int .u32 0, .int .u32 0, .int .u32 0, .int .u32 0, .int .u32 0, .int .u32 0, .bool false]
theorem size_Z : Z.size = 18 := by kernel_rfl
theorem isZ : IsN 18 Z := ⟨size_Z, Array.all_eq_true_iff_forall_mem.1 (by kernel_rfl)⟩
theorem infoZ : (Tryz.prog.info? 140).map (fun i => (i.zero, i.size)) = some (some (.agg Z), 18) := by kernel_rfl
theorem infoS : (Tryz.prog.info? 140).map (·.size) = some 18 := by kernel_rfl
theorem infoSZ : (Tryz.prog.info? 140).map (·.size) = some Z.size := by kernel_rfl
def ld (v : Value) : Sem Value := Instr.loadAt 140 v
def st (p v : Value) : Sem Unit := Instr.storeAt 140 p v
def bx (v : Value) : Sem Value := Instr.box 140 v
def al : Sem Value := Instr.alloc 140 true (.tuple #[])
theorem ld_eq (v : Value) : Instr.loadAt 140 v = ld v := rfl
theorem st_eq (p v : Value) : Instr.storeAt 140 p v = st p v := rfl
theorem bx_eq (v : Value) : Instr.box 140 v = bx v := rfl
theorem al_eq : Instr.alloc 140 true (.tuple #[]) = al := rfl
theorem al_run (w : World) : al.run Tryz.prog w = .ok (.pointer (some ⟨w.heap.size, 0, none⟩)) (w.alloc (.cells Z 140)) := agg_alloc (agg_zero infoZ) w
theorem bx_run (x : Array Value) (w : World) : (bx (.agg x)).run Tryz.prog w = .ok (.pointer (some ⟨w.heap.size, 0, none⟩)) (w.alloc (.cells x 140)) := agg_box x w
theorem st_new {x : Array Value} (hx : IsN 18 x) (w : World) : (st (.pointer (some ⟨w.heap.size, 0, none⟩)) (.agg x)).run Tryz.prog (w.alloc (.cells Z 140)) = .ok () (w.alloc (.cells x 140)) := agg_st_new infoSZ size_Z hx w
theorem ld_at {x : Array Value} (hx : IsN 18 x) {w : World} {b o : Nat} (h : w.rangeAt b o x.toList) : (ld (.pointer (some ⟨b, o, none⟩))).run Tryz.prog w = .ok (.agg x) w := agg_ld Tryz.underlying140 rfl infoS hx h
theorem ld_new {x : Array Value} (hx : IsN 18 x) (w : World) : (ld (.pointer (some ⟨w.heap.size, 0, none⟩))).run Tryz.prog (w.alloc (.cells x 140)) = .ok (.agg x) (w.alloc (.cells x 140)) := ld_at hx (Blk.new w x _).whole
theorem st_at {x y : Array Value} (hx : IsN 18 x) (hy : IsN 18 y) {w : World} {b : Nat} {T : TypeId} (h : Blk w b x T) : (st (.pointer (some ⟨b, 0, none⟩)) (.agg y)).run Tryz.prog w = .ok () (w.setCells b 0 y.toList) ∧ Blk (w.setCells b 0 y.toList) b y T := by
  refine ⟨run_storeAt_mid w b 0 140 y (there_of h (by rw [hx.1, hy.1]; exact Nat.le_refl _)) (by rw [infoS, hy.1]) hy.all, ?_⟩
  have h' := blk_setCells y.toList 0 w _ h
  rwa [setMany_all x y (by rw [hx.1, hy.1])] at h'
theorem ldV_at {x : Array Value} (hx : IsN 18 x) {w : World} {b o : Nat} (h : w.rangeAt b o x.toList) : (loadVar 140 ⟨b, o, none⟩).run Tryz.prog w = .ok (.agg x) w := agg_ldV Tryz.underlying140 rfl infoS hx h
end Go.Proofs.YtjgeflbhmhmjdaaGreat.TBak
