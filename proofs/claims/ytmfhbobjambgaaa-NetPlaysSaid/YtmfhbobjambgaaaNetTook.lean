/- NetOnce's took: it takes a note, and strikes it off those that were sent. -/
import Derived.Test.YtmfhbobjambgaaaNetOrderW
set_option linter.unusedSimpArgs false
set_option linter.unusedVariables false
namespace Go.Proofs.Ytmfhbobjambgaaa.NE
open Go.RowKit
open BU (IsU words)
open PL (Cfg CC CV May)
open GR (hopsN)
attribute [local go_sem] Oper.semAt_some
attribute [local go_sem ↓] eqN_eq neN_eq eqB_eq neB_eq TNot.ld_eq TNot.st_eq TNot.al_eq TNot.bx_eq
attribute [local go_sem] TNot.al_run TNot.bx_run
theorem notes_isN {ns : List Nt} (hN : ∀ n ∈ ns, n.Ok) : ∀ x ∈ ns.map Nt.cells, IsN 24 x := fun x hx => by obtain ⟨m, hm, rfl⟩ := List.mem_map.1 hx; exact Nt.Ok.isN (hN m hm).isU
/-- The last one goes. -/
theorem s_cut_last {G : Nat → Prop} {w0 W : World} {L : List Obj} (h : Sep G w0 W L) (i : Nat) {g cap k : Nat} {ns : List Nt} (hi : L[i]? = some (notesO (.slice (some ⟨g, 0, none⟩) ns.length cap) ns)) (hN : ∀ n ∈ ns, n.Ok) (hk : ns.length = k + 1) :
    (∀ a c, (Builtin.append_ #[24, 24] 24 #[.slice (some ⟨g, 0, none⟩) k k, .slice a 0 c]).run Try.prog W = .ok (.slice (some ⟨g, 0, none⟩) k k) W) ∧ Sep G w0 W (L.set i (notesO (.slice (some ⟨g, 0, none⟩) k k) (ns.eraseIdx k))) := by
  obtain ⟨i0, hi0, hz0, hz1, hz2⟩ := info_parts PN.infoE
  refine ⟨fun a c => run_append_zero _ 24 24 37 i0 Try.underlying24 hi0 _ k k (Nat.le_refl _) a c, ?_⟩
  obtain ⟨F, hF, hS⟩ := h.step i hi
  refine hS _ _ (Upd.refl _ _) ⟨?_, fun j hj => .inl (hF.2 j hj)⟩
  have hp := hF.1.prefix (k := k) (by omega)
  have e := flat_take (ns.map Nt.cells) k (notes_isN hN)
  rw [e] at hp
  have he : ns.eraseIdx k = ns.take k := by rw [List.eraseIdx_eq_take_drop_succ, List.drop_eq_nil_of_le (by omega), List.append_nil]
  rw [he, List.length_take, Nat.min_eq_left (by omega), List.map_take]
  exact hp
/-- One that is not the last goes. -/
theorem s_cut {G : Nat → Prop} {w0 W : World} {L : List Obj} (h : Sep G w0 W L) (i : Nat) {g cap k : Nat} {ns : List Nt} (hi : L[i]? = some (notesO (.slice (some ⟨g, 0, none⟩) ns.length cap) ns)) (hN : ∀ n ∈ ns, n.Ok) (hk : k + 1 < ns.length) (hm : ns.length ≤ 65536) :
    ∃ v' W', (Builtin.append_ #[24, 24] 24 #[.slice (some ⟨g, 0, none⟩) k k, .slice (some ⟨g, (k + 1) * 24, none⟩) (ns.length - (k + 1)) (cap - (k + 1))]).run Try.prog W = .ok v' W' ∧
      Sep G w0 W' (L.set i (notesO v' (ns.eraseIdx k))) := by
  obtain ⟨i0, hi0, hz0, hz1, hz2⟩ := info_parts PN.infoE
  obtain ⟨F, hF, hS⟩ := h.step i hi
  have hM := notes_isN hN
  have hMD : ∀ x ∈ (ns.map Nt.cells).drop (k + 1), IsN 24 x := fun x hx => hM x (List.mem_of_mem_drop hx)
  have hpre := hF.1.prefix (k := k) (by omega)
  rw [flat_take (ns.map Nt.cells) k hM] at hpre
  have hcells := hF.1.cells.2
  obtain ⟨v9, w9, hrun, hrow9, hg, hf⟩ := run_append_row (P := Try.prog) W 24 24 37 i0 (.agg TNot.Z) 24 112 Try.underlying24 hi0 hz0 hz1 hz2 PN.zsize (by decide) (.slice (some ⟨g, 0, none⟩) k k) k (rowsOf ((ns.map Nt.cells).take k)).flatten hpre
    ⟨g, (k + 1) * 24, none⟩ (ns.length - (k + 1)) (cap - (k + 1)) (rowsOf ((ns.map Nt.cells).drop (k + 1))).flatten (by rw [flat_len hMD, List.length_drop, List.length_map])
    (fun j u hu => by
      rw [← flat_drop _ (k + 1) hM, List.getElem?_drop] at hu
      have := hcells _ u hu
      rw [Addr.add_lit]; simpa using this)
    (flat_one hMD) (by unfold maxLen; omega) (by omega)
  refine ⟨v9, w9, hrun, hS _ _ (Upd.grown (F := F) hg (fun j hj hlt => by
    have hj' : (Value.slice (some ⟨g, 0, none⟩) ns.length cap).ownBlock = some j := hj
    exact ⟨hF.2 j hj', hF.1.isCells j hj'⟩)) ⟨?_, fun j hj => ?_⟩⟩
  · have hl : (ns.eraseIdx k).length = k + (ns.length - (k + 1)) := by rw [List.length_eraseIdx, if_pos (by omega)]; omega
    have e : (rowsOf ((ns.eraseIdx k).map Nt.cells)).flatten = (rowsOf ((ns.map Nt.cells).take k)).flatten ++ (rowsOf ((ns.map Nt.cells).drop (k + 1))).flatten := by
      rw [List.eraseIdx_eq_take_drop_succ]; simp [rowsOf]
    rw [e, hl]
    exact hrow9
  · rcases hf with e | ⟨g', e, hge⟩
    · rw [e] at hj; exact .inl (hF.2 j (show (Value.slice (some ⟨g, 0, none⟩) ns.length cap).ownBlock = some j from hj))
    · rw [e] at hj; cases hj; exact .inr hge
set_option maxRecDepth 100000 in
set_option maxHeartbeats 4000000 in
theorem took_any {w0 W : World} {L : List Obj} {v : Value} {ns : List Nt} {tb : Nat} {c : Cfg} {hops : Int} (h : Sep NoF w0 W (notesO v ns :: To tb c 200 ns hops :: L)) (hcc : c.cores ≤ 16) (hv : InvT c 200 ns) (h0 : 0 ≤ hops) (h1 : hops ≤ 1000000)
    (pick : Int) (hb : -9223372036854775808 ≤ pick ∧ pick ≤ 9223372036854775807) (hl0 : 0 < ns.length) (hl : ns.length ≤ 100) :
    Calls Try.prog 13 #[ptr tb, v, .int .i64 pick] W fun e W' => ∃ (k : Nat) (v' : Value) (hops' : Int), k < ns.length ∧ e = .returned (.tuple #[v', .int .i64 0]) ∧ 0 ≤ hops' ∧ hops' ≤ hops + 8 ∧
      Sep NoF w0 W' (notesO v' (ns.eraseIdx k) :: To tb c 200 (ns.eraseIdx k) hops' :: L) := by
  obtain ⟨a, cap, rfl, hnc, hcm, hcell⟩ := s_row (h.row 0 rfl) hv.ok
  obtain ⟨nn, hnn⟩ : ∃ n : Int, (ns.length : Int) = n := ⟨_, rfl⟩
  have hnp : 0 < nn ∧ nn ≤ 100 := by omega
  have hr1 : -nn < pick.tmod nn ∧ pick.tmod nn < nn := ⟨by have := Int.lt_tmod_of_pos pick hnp.1; omega, Int.tmod_lt_of_pos pick hnp.1⟩
  have hr2 : 0 ≤ (pick.tmod nn + nn).tmod nn ∧ (pick.tmod nn + nn).tmod nn < nn := ⟨Int.tmod_nonneg _ (by omega), Int.tmod_lt_of_pos _ hnp.1⟩
  have hnz : ¬ nn = 0 := by omega
  have hwr1 : IntKind.i64.wrap (pick.tmod nn) = pick.tmod nn := IntWalk.i64_in _ (by omega)
  have hwr2 : IntKind.i64.wrap ((pick.tmod nn + nn).tmod nn) = (pick.tmod nn + nn).tmod nn := IntWalk.i64_in _ (by omega)
  have hwr : IntKind.i64.wrap (pick.tmod nn + nn) = pick.tmod nn + nn := IntWalk.i64_in _ (by omega)
  obtain ⟨k, hk⟩ : ∃ k : Nat, (pick.tmod nn + nn).tmod nn = k := ⟨_, (Int.toNat_of_nonneg hr2.1).symm⟩
  have hkl : k < ns.length := by omega
  obtain ⟨n, hn⟩ : ∃ n, ns[k]? = some n := ⟨_, List.getElem?_eq_getElem hkl⟩
  obtain ⟨g, rfl, hrg⟩ := hcell k n hn
  have hok := hv.ok n (List.mem_of_getElem? hn)
  have HOK := Lib.hid hok
  have hhb := hopsN_le (fits_may (hv.fit n (List.mem_of_getElem? hn)))
  have HLEN := Lib.hid (fun (V : World) (hu : Upd NoF W V) => (h.upd0 hu).looks 1 rfl (E := fun e => e = .returned (.int .i64 nn)) (fun F hF => by rw [← hnn]; exact len_any V F tb c 200 ns hops hF))
  have HTK := Lib.hid (fun (V : World) (hu : Upd NoF W V) => s_take (h.upd0 hu) 1 rfl hcc hv (by decide) h0 (by omega) k n hn)
  have HN := Lib.hid hn
  have HK : Hid ((pick.tmod nn + nn) % nn = k) := Lib.hid (by rw [← hk]; exact (Int.tmod_eq_emod_of_nonneg (by omega)).symm)
  have HV := Lib.hid hv
  rw [hk] at hwr2
  clear hcell h hv hok hrg hn hk hr2
  unfold maxLen at hcm
  go_enter Try.func13, Try.ntmps13
  go_wp2_with fail
  go_quiet ((go_at_call 12; exact Calls.quiet_of_same ((HLEN.out _ (Upd.drewN NoF W _)).mono (fun _ _ h => ⟨h.1, h.2.symm⟩))))
  rw [HK.out]
  have HT2 := Lib.hid (HTK.out _ (Upd.drewN NoF W nq))
  go_wp2_with fail
  refine HT2.out.mono ?_
  rintro e w2 ⟨rfl, hs⟩
  have s9 := TNot.st_new (Nt.Ok.isN HOK.out.isU) w2
  obtain ⟨w3, hw3⟩ : ∃ W, w2.alloc (.cells n.cells 37) = W := ⟨_, rfl⟩
  have HS3 : Hid (Sep NoF w0 w3 (noteO w2.heap.size n :: notesO (.slice (some ⟨g, 0, none⟩) ns.length cap) ns :: To tb c 200 (ns.eraseIdx k) (hops + hopsN n.frm n.too) :: L)) := Lib.hid (by rw [← hw3]; exact hs.alloc _ _)
  have HW3 := Lib.hid hw3
  clear hw3 hs
  go_upto_region 3 with fail
  rw [HW3.out]
  clear HW3 s9
  obtain ⟨nb, hnb⟩ : ∃ b, w2.heap.size = b := ⟨_, rfl⟩
  rw [hnb] at HS3 ⊢
  clear hnb
  have la : ∀ m, (TNot.ld (ptr nb)).run Try.prog (w3.drewN m) = .ok (.agg n.cells) (w3.drewN m) := fun m => TNot.ld_at (Nt.Ok.isN HOK.out.isU) ((HS3.out.upd0 (Upd.drewN NoF w3 m)).box 0 rfl).whole
  obtain ⟨a2, cap2, hae, _, _, hcell⟩ := s_row (HS3.out.row 1 rfl) HV.out.ok
  cases hae
  obtain ⟨g2, hge, hrg⟩ := hcell k n HN.out
  cases hge
  have lb : ∀ m, (TNot.ld (.pointer (some ⟨g, k * 24, none⟩))).run Try.prog (w3.drewN m) = .ok (.agg n.cells) (w3.drewN m) := fun m => TNot.ld_at (Nt.Ok.isN HOK.out.isU) (show (w3.drewN m).rangeAt g (k * 24) n.cells.toList from fun j v hv => (Upd.drewN NoF w3 m).cell (hrg j v hv) (fun h => h))
  have hne : ∀ m, (neN (.agg n.cells) (.agg n.cells)).run Try.prog (w3.drewN m) = .ok (.bool false) (w3.drewN m) := fun m => by
    have := neN_run HOK.out.isU HOK.out.isU (w3.drewN m)
    rw [Nt.same_self] at this
    exact this
  have hd : decide (nn ≤ (k : Int)) = false := by simp; omega
  have HNE := Lib.hid hne
  clear hcell hrg hne
  go_wp2_with fail
  have hne := HNE.out
  go_quiet (fail)
  obtain ⟨w8, hw8⟩ : ∃ x, w3.drewN nq = x := ⟨_, rfl⟩
  have HS8 : Hid (Sep NoF w0 w8 (noteO nb n :: notesO (.slice (some ⟨g, 0, none⟩) ns.length cap) ns :: To tb c 200 (ns.eraseIdx k) (hops + hopsN n.frm n.too) :: L)) := Lib.hid (by rw [← hw8]; exact HS3.out.upd0 (Upd.drewN NoF w3 nq))
  rw [hw8]
  have hw1 : IntKind.i64.wrap ((k : Int) + 1) = (k : Int) + 1 := IntWalk.i64_in _ (by omega)
  have hk0 : (0 : Int) ≤ (k : Int) + 1 := by omega
  have hkt : ((k : Int) + 1).toNat = k + 1 := by omega
  have hkc : k ≤ cap := by omega
  have hi1 : (k : Int) + 1 ≤ (ns.length : Int) := by omega
  have hi2 : (k : Int) + 1 ≤ nn := by omega
  have hi3 : (k : Int) ≤ nn := by omega
  clear la lb hne HNE hw8 HS3 HT2 HTK HLEN hd
  have hsd := HS8.out.upd0 (Upd.drew NoF w8)
  by_cases hlast : ns.length = k + 1
  · obtain ⟨hrun, hs⟩ := s_cut_last hsd 1 rfl HV.out.ok hlast
    have HR := fun a c => Lib.hid (hrun a c)
    have HSF : Hid (Sep NoF w0 w8.drew (notesO (.slice (some ⟨g, 0, none⟩) k k) (ns.eraseIdx k) :: To tb c 200 (ns.eraseIdx k) (hops + hopsN n.frm n.too) :: L)) := Lib.hid (hs.drop 0 (Nat.succ_pos _))
    clear hrun hs hsd
    generalize hopsN n.frm n.too = hh at *
    clear HS8 HN
    have hk1' : (k : Int) ≤ (k : Int) + 1 := by omega
    rw [hlast]
    by_cases hc : cap = k + 1
    · subst hc
      go_wp2
      go_region_law (refine step_append_run rfl _ _ 24 rfl (v := .slice (some ⟨g, 0, none⟩) k k) (vx := .slice (some ⟨g, 0, none⟩) 0 0) (by kernel_rfl) (by kernel_rfl) (HR _ _).out ?_)
      all_goals
        go_wp2
        go_ret2
        exact ⟨k, .slice (some ⟨g, 0, none⟩) k k, hops + hh, by omega, rfl, by omega, by omega, HSF.out⟩
    · go_wp2
      go_region_law (refine step_append_run rfl _ _ 24 rfl (v := .slice (some ⟨g, 0, none⟩) k k) (vx := .slice (some ⟨g, (k + 1) * 24, none⟩) 0 (cap - (k + 1))) (by kernel_rfl) (by kernel_rfl) (HR _ _).out ?_)
      all_goals
        go_wp2
        go_ret2
        exact ⟨k, .slice (some ⟨g, 0, none⟩) k k, hops + hh, by omega, rfl, by omega, by omega, HSF.out⟩
  · obtain ⟨v', w9, hrun, hs⟩ := s_cut (k := k) hsd 1 rfl HV.out.ok (by omega) (by omega)
    have HR := Lib.hid hrun
    have HSF : Hid (Sep NoF w0 w9 (notesO v' (ns.eraseIdx k) :: To tb c 200 (ns.eraseIdx k) (hops + hopsN n.frm n.too) :: L)) := Lib.hid (hs.drop 0 (Nat.succ_pos _))
    clear hrun hs hsd
    generalize hopsN n.frm n.too = hh at *
    obtain ⟨a9, cap9, rfl, _⟩ := (HSF.out.row 0 rfl).slice
    clear HS8 HN
    have hne2 : ¬ cap = k + 1 := by omega
    go_wp2
    go_region_law (refine step_append_run rfl _ _ 24 rfl (v := .slice (some ⟨g, 0, none⟩) k k) (vx := .slice (some ⟨g, (k + 1) * 24, none⟩) (ns.length - (k + 1)) (cap - (k + 1))) (by kernel_rfl) (by kernel_rfl) HR.out ?_)
    all_goals
      go_wp2
      go_ret2
      exact ⟨k, .slice a9 (ns.eraseIdx k).length cap9, hops + hh, by omega, rfl, by omega, by omega, HSF.out⟩
end Go.Proofs.Ytmfhbobjambgaaa.NE
