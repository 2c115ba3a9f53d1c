/- The contracts of the functions of pool.Pool[undertow/backs.back]: things of 18 cells, whatever is in them. -/
import Derived.Test.YtjgeflbhmhmjdaaGreatCacheH
import Derived.Deep.RegionWith
set_option linter.unusedSimpArgs false
set_option linter.unusedVariables false
namespace Go.Proofs.YtjgeflbhmhmjdaaGreat.PB
open Go.RowKit
attribute [local go_sem] Oper.semAt_some
attribute [local go_sem ↓] TBak.ld_eq TBak.st_eq TBak.bx_eq TBak.al_eq
attribute [local go_sem] TBak.al_run TBak.bx_run

abbrev ptr (b : Nat) : Value := .pointer (some ⟨b, 0, none⟩)
abbrev Po (p : Value) (zs : List (Array Value)) (room : Int) : Obj := andO (∀ x ∈ zs, IsN 18 x) (poolO 178 140 18 p (rowsOf zs) room)

theorem infoE : (Tryz.prog.info? 140).map (fun i => (i.zero, i.size, i.bytes)) = some (some (.agg TBak.Z), 18, 80) := by kernel_rfl
theorem zsize : (Value.agg TBak.Z).cells.size = 18 := TBak.size_Z
theorem fold_x {x : Array Value} (hx : IsN 18 x) : Array.foldl (fun cs (p : Value × Nat) => cs.setIfInBounds p.snd p.fst) #[.int .i64 0, .int .u32 0, .int .u32 0, .int .u32 0, .int .u32 0, .int .u32 0, .int .u32 0, .int .u32 0, .int .u32 0, .int .u32 0, .int .u32 0, .int .u32 0, .int .u32 0, .int .u32 0, .int .u32 0, .int .u32 0, .int .u32 0, .bool false] x.zipIdx 0 18 = x := fold_all TBak.Z x (hx.1.trans TBak.size_Z.symm)

theorem reads {w : World} {F : Nat → Prop} {b : Nat} {zs : List (Array Value)} {room : Int} (h : (Po (ptr b) zs room).is w F) :
    ∃ a cap, PoolAt 178 140 18 w F b (.slice a zs.length cap) (rowsOf zs) room ∧ w.cell? ⟨b, 0, none⟩ = some (.slice a zs.length cap) ∧ w.cell? ⟨b, 1, none⟩ = some (.int .i64 room) ∧ w.frozen? ⟨b, 0, none⟩ = false ∧ b < w.heap.size ∧ zs.length ≤ cap ∧ cap ≤ maxLen ∧ (a = none → zs.length = 0 ∧ cap = 0) ∧
      ∀ k z, zs[k]? = some z → IsN 18 z ∧ ∃ g, a = some ⟨g, 0, none⟩ ∧ w.rangeAt g (k * 18) z.toList ∧ F g := by
  obtain ⟨hN, b', v, hb, h⟩ := h
  cases hb
  obtain ⟨c0, c1, f0, hblt, a, cap, rfl, hn, hm, hnil⟩ := h.facts
  rw [rowsOf_length] at hn c0 hnil h
  refine ⟨a, cap, h, c0, c1, f0, hblt, hn, hm, hnil, fun k z hz => ⟨hN z (List.mem_of_getElem? hz), ?_⟩⟩
  have hk : k < zs.length := (List.getElem?_eq_some_iff.1 hz).1
  have hrow := h.row
  rw [rowsOf_length] at hrow
  cases a with
  | none => have := (hnil rfl).1; omega
  | some a =>
    obtain ⟨⟨g, rfl⟩, hcell⟩ := hrow.cells
    refine ⟨g, rfl, fun j v hv => ?_, (h.apart g rfl).1⟩
    have := hcell (k * 18 + j) v (flat_get hN hz j v hv)
    simpa using this

set_option maxRecDepth 100000 in
theorem at_ok (w : World) (F : Nat → Prop) (b : Nat) (zs : List (Array Value)) (room : Int) (k : Nat) (z : Array Value) (h : (Po (ptr b) zs room).is w F) (hl : zs[k]? = some z) :
    Calls Tryz.prog 89 #[ptr b, .int .i64 k] w fun e w' => e = .returned (.tuple #[.agg z, .int .i64 0]) ∧ Upd NoF w w' := by
  obtain ⟨a, cap, hat, c0, c1, f0, hblt, hn, hm, hnil, hr⟩ := reads h
  have hk : k < zs.length := (List.getElem?_eq_some_iff.1 hl).1
  obtain ⟨hz, g, rfl, hrg, _⟩ := hr k z hl
  have hu := Upd.alloc NoF w (.cells TBak.Z 140)
  have d0 := hu.cell c0 (fun h => h)
  have l1 := TBak.ld_at hz (World.rangeAt_alloc hrg (.cells TBak.Z 140))
  have s1 := TBak.st_new hz w
  have HV := Lib.hid (TBak.ldV_at hz (Blk.new w z 140).whole)
  have hz9 := Lib.hid hz
  unfold maxLen at hm
  clear h hat c1 f0 hr hrg hl hu hz hnil
  generalize zs.length = n at *
  have hk2 : (k : Int) < (n : Int) := by omega
  go_enter Tryz.func89, Tryz.ntmps89
  go_wp2
  have hv := HV.out
  refine bodyPost_ret (v := .tuple #[.agg z, .int .i64 0]) ?_ ?_ ?_
  · simp [results, Tryz.f89, asAddr, hv]
  · rfl
  exact ⟨rfl, Upd.alloc NoF w _⟩
theorem room_any (w : World) (F : Nat → Prop) (b : Nat) (zs : List (Array Value)) (room : Int) (h : (Po (ptr b) zs room).is w F) (h0 : 0 ≤ room) (h1 : room ≤ 65536) (h2 : zs.length ≤ room) :
    Calls Tryz.prog 93 #[ptr b] w fun e w' => e = .returned (.int .i64 (room - zs.length)) ∧ Upd NoF w w' := by
  obtain ⟨a, cap, hat, c0, c1, f0, hblt, hn, hm, hnil, hr⟩ := reads h
  clear h hat f0 hr
  generalize zs.length = n at *
  have hw : IntKind.i64.wrap (room - (n : Int)) = room - (n : Int) := IntWalk.i64_in _ (by omega)
  go_enter Tryz.func93, Tryz.ntmps93
  go_wp2
  go_quiet (fail)
  go_wp2
  go_ret
  exact ⟨rfl, Upd.drewN _ _ _⟩
theorem new_ok (room : Int) (h1 : 1 ≤ room) (h2 : room ≤ 65536) (w : World) : Calls Tryz.prog 83 #[.int .i64 room] w fun e w' => ∃ b, e = .returned (.tuple #[ptr b, .int .i64 0]) ∧ Upd NoF w w' ∧ (Po (ptr b) [] room).is w' (fun k => w.heap.size ≤ k) := by
  go_enter Tryz.func83, Tryz.ntmps83
  go_wp2
  go_ret2
  exact ⟨_, rfl, Upd.alloc _ _ _, (fun x hx => by cases hx), _, _, rfl, Blk.new w _ _, Nat.le_refl _, fun x hx => by simp [rowsOf] at hx, Row.nil _ _ _, fun k hk => by simp [Value.ownBlock] at hk⟩

theorem restore {w w9 : World} {F : Nat → Prop} {b : Nat} {v v9 : Value} {zs ys : List (Array Value)} {room : Int} (H : PoolAt 178 140 18 w F b v (rowsOf zs) room) (hu : Upd F w w9) (hc : w9.heap[b]? = w.heap[b]?) (hys : ∀ x ∈ ys, IsN 18 x)
    (hrow : Row w9 140 18 v9 ys.length (rowsOf ys).flatten) (hown : ∀ k, v9.ownBlock = some k → v.ownBlock = some k ∨ w.heap.size ≤ k) :
    w9.cell? ⟨b, 0, none⟩ = some v ∧ w9.frozen? ⟨b, 0, none⟩ = false ∧ Upd F w (w9.setCell ⟨b, 0, none⟩ v9) ∧ (Po (ptr b) ys room).is (w9.setCell ⟨b, 0, none⟩ v9) (AndNew F w) := by
  have hb9 := hc.trans H.blk
  obtain ⟨c9, f9⟩ := cells_of_block hb9
  have hbl : b < w.heap.size := (Array.getElem?_eq_some_iff.1 H.blk).1
  have hne : ∀ k, v9.ownBlock = some k → AndNew F w k ∧ k ≠ b := fun k hk => by
    rcases hown k hk with h | h
    · exact ⟨.inl (H.apart k h).1, (H.apart k h).2⟩
    · exact ⟨.inr h, by omega⟩
  refine ⟨c9 0, f9 0, hu.trans (Upd.setCell (F := F) w9 (p := ⟨b, 0, none⟩) H.foot v9) (fun _ _ h => h), hys, b, v9, rfl, ?_, .inl H.foot, rows_len hys, ?_, hne⟩
  · simp only [World.setCell, Array.getElem?_modify, hb9]; simp
  · rw [rowsOf_length]
    exact hrow.upd (Upd.setCell (F := fun k => k = b) w9 (p := ⟨b, 0, none⟩) rfl v9) (fun k hk he => (hne k hk).2 he)

set_option maxRecDepth 100000 in
theorem put_full (w : World) (F : Nat → Prop) (b : Nat) (zs : List (Array Value)) (room : Int) (x : Array Value) (h : (Po (ptr b) zs room).is w F) (hl : room ≤ zs.length) :
    Calls Tryz.prog 94 #[ptr b, .agg x] w fun e w' => e = .returned (.int .i64 7) ∧ Upd NoF w w' := by
  obtain ⟨a, cap, hat, c0, c1, f0, hblt, hn, hm, hnil, hr⟩ := reads h
  have hu := Upd.alloc NoF w (.cells x 140)
  have d0 := hu.cell c0 (fun h => h)
  have d1 := hu.cell c1 (fun h => h)
  clear h hat f0 hr c0 c1 hu
  generalize zs.length = n at *
  go_enter Tryz.func94, Tryz.ntmps94
  go_wp2
  go_quiet (fail)
  go_wp2
  go_ret
  exact ⟨rfl, (Upd.alloc NoF w _).trans (Upd.drewN _ _ _) (fun _ _ h => h)⟩

set_option maxRecDepth 100000 in
set_option maxHeartbeats 2000000 in
theorem put_ok (w : World) (F : Nat → Prop) (b : Nat) (zs : List (Array Value)) (room : Int) (x : Array Value) (hx : IsN 18 x) (h : (Po (ptr b) zs room).is w F) (hl : (zs.length : Int) < room) (hr : room ≤ 65536) :
    Calls Tryz.prog 94 #[ptr b, .agg x] w fun e w' => e = .returned (.int .i64 0) ∧ Upd F w w' ∧ (Po (ptr b) (zs ++ [x]) room).is w' (AndNew F w) := by
  have hN := h.1
  obtain ⟨a, cap, hat, c0, c1, f0, hblt, hn, hm, hnil, _⟩ := reads h
  have hu0 := Upd.alloc NoF w (.cells x 140)
  have d0 := hu0.cell c0 (fun h => h)
  have d1 := hu0.cell c1 (fun h => h)
  have HN := Lib.hid (show ∀ y ∈ zs ++ [x], IsN 18 y from fun y hy => by
    rcases List.mem_append.1 hy with hy | hy
    · exact hN y hy
    · simp at hy; exact hy ▸ hx)
  have HX := Lib.hid hx
  obtain ⟨i0, hi, hz0, hz1, hz2⟩ := info_parts infoE
  obtain ⟨n, hn'⟩ : ∃ n, zs.length = n := ⟨_, rfl⟩
  have Hn := Lib.hid hn'
  rw [hn'] at d0 hl hn hat
  have H := Lib.hid hat
  unfold maxLen at hm
  clear h hat hn' hN hnil c0 c1 hx f0 hu0
  go_enter Tryz.func94, Tryz.ntmps94
  go_wp2
  go_quiet (fail)
  rename_i nq
  obtain ⟨w0, hw0, hh, hu⟩ := drewN_is (w.alloc (.cells x 140)) nq
  rw [hw0]
  have hU0 : Upd NoF w w0 := (Upd.alloc NoF w _).trans hu (fun _ _ h => h)
  have q0 : Blk w0 w.heap.size x 140 := (Blk.new w x _).upd hu (fun h => h)
  clear hw0
  have hd := (Upd.alloc NoF w0 (.cells x 140)).trans (Upd.drew NoF _) (fun _ _ h => h)
  have hdsz : (w0.alloc (.cells x 140)).drew.heap.size = w0.heap.size + 1 := by show (w0.alloc (.cells x 140)).heap.size = _; simp
  have hb1 : Upd NoF w (w0.alloc (.cells x 140)).drew := hU0.trans hd (fun _ _ h => h)
  have qx : Blk (w0.alloc (.cells x 140)).drew w0.heap.size x 140 := (Blk.new w0 x _).upd (Upd.drew NoF _) (fun h => h)
  have hrow := H.out.row
  rw [rowsOf_length, Hn.out] at hrow
  have hrow1 : Row (w0.alloc (.cells x 140)).drew 140 18 (.slice a n cap) n (rowsOf zs).flatten := hrow.upd hb1 (fun _ _ h => h)
  obtain ⟨v9, w9, hrun, hrow9, hg, hf⟩ := run_append_row (P := Tryz.prog) (w0.alloc (.cells x 140)).drew 176 176 140 i0 (.agg TBak.Z) 18 80 Tryz.underlying176 hi hz0 hz1 hz2 zsize (by decide) (.slice a n cap) n (rowsOf zs).flatten
    hrow1 ⟨w0.heap.size, 0, none⟩ 1 1 x.toList (by simp [HX.out.1]) (fun j u hu => by rw [Addr.add_lit]; simpa using qx.whole j u hu) (fun u hu => HX.out.2 u (by simpa using hu)) (by unfold maxLen; omega) (by omega)
  have hub : Upd F w w9 := (hb1.mono (G := F) (fun _ _ h => h.elim)).trans (Upd.grown (F := F) hg (fun k hk hlt => ⟨(H.out.apart k hk).1, hrow1.isCells k hk⟩)) (fun _ _ h => h)
  have hcb : w9.heap[b]? = w.heap[b]? := by
    have hlt : b < (w0.alloc (.cells x 140)).drew.heap.size := by have := hb1.size; omega
    refine (hg.block b hlt (fun e => (H.out.apart b e.symm).2 rfl)).trans ?_
    exact hb1.block b hblt (.inl (fun h => h))
  obtain ⟨r1, r2, r3, r4⟩ := restore H.out hub hcb (ys := zs ++ [x]) HN.out (v9 := v9) (by
    rw [List.length_append, Hn.out]
    have e : (rowsOf (zs ++ [x])).flatten = (rowsOf zs).flatten ++ x.toList := by simp [rowsOf]
    rw [e]; exact hrow9) (fun k hk => by
    rcases hf with e | ⟨g, e, hge⟩
    · rw [e] at hk; exact .inl hk
    · rw [e] at hk; cases hk; exact .inr (by have := hb1.size; omega))
  have HF := Lib.hid (And.intro r3 r4)
  have HR := Lib.hid hrun
  have e0 : (w0.alloc (.cells x 140)).drew.cell? ⟨b, 0, none⟩ = some (.slice a n cap) := hb1.cell H.out.facts.1 (fun h => h)
  have e0a : w0.cell? ⟨b, 0, none⟩ = some (.slice a n cap) := hU0.cell H.out.facts.1 (fun h => h)
  have e1 := TBak.ld_at HX.out (q0.upd (Upd.drew NoF w0) (fun h => h)).whole
  have e2 := fold_x HX.out
  have e3 := HX.out.1
  obtain ⟨a9, cap9, rfl, _⟩ := hrow9.slice
  clear qx hdsz hrun hrow hrow9 hrow1 hg hf hub hcb r3 r4 hh hu hd hb1 hU0 q0
  go_wp2
  go_region_law (refine step_append_run rfl _ _ 176 rfl rfl rfl HR.out ?_)
  all_goals (go_wp2; go_ret; exact ⟨rfl, HF.out⟩)

theorem of_tight {P : Program} {Φ Φ' : Obj} {f : FuncId} {args : Array Value} {E : Ending → Prop} {w : World} {F : Nat → Prop} (h : Φ.is w F)
    (hc : ∀ F, Φ.is w F → (∀ k, F k → k < w.heap.size) → Calls P f args w fun e w' => E e ∧ Upd F w w' ∧ Φ'.is w' (AndNew F w)) :
    Calls P f args w fun e w' => E e ∧ Upd F w w' ∧ Φ'.is w' (AndNew F w) := by
  obtain ⟨F', h1, h2⟩ := Φ.tight h
  exact (hc F' h1 (fun k hk => (h2 k hk).2)).mono fun e w' ⟨he, hu, hi⟩ => ⟨he, hu.mono (fun k _ hk => (h2 k hk).1), Φ'.mono hi (fun k hk => hk.imp (fun hk => (h2 k hk).1) id)⟩

set_option maxRecDepth 100000 in
set_option maxHeartbeats 4000000 in
theorem take_ok (w : World) (F : Nat → Prop) (b : Nat) (zs : List (Array Value)) (room : Int) (k : Nat) (z : Array Value) (h : (Po (ptr b) zs room).is w F) (hl : zs[k]? = some z) (hb : zs.length ≤ 65536) :
    Calls Tryz.prog 133 #[ptr b, .int .i64 k] w fun e w' => e = .returned (.tuple #[.agg z, .int .i64 0]) ∧ Upd F w w' ∧ (Po (ptr b) (zs.eraseIdx k) room).is w' (AndNew F w) := by
  refine of_tight (E := fun e => e = _) h ?_
  clear h
  intro F h hF
  have hN := h.1
  have hNe : ∀ x ∈ zs.eraseIdx k, IsN 18 x := fun x hx => hN x (List.mem_of_mem_eraseIdx hx)
  have hu1 := Upd.alloc NoF w (.cells TBak.Z 140)
  have h1 := (Po (ptr b) zs room).keep h (hu1.kept (fun _ _ _ h => h))
  have HA := Lib.hid (at_ok _ F b zs room k z h1 hl)
  have q1 := Lib.hid (Blk.new w TBak.Z 140)
  have HU1 := Lib.hid hu1
  have H := Lib.hid h; have HL := Lib.hid hl; have HFl := Lib.hid hF; have HNe := Lib.hid hNe; have HN := Lib.hid hN
  have hk : k < zs.length := (List.getElem?_eq_some_iff.1 hl).1
  have hlen : (zs.eraseIdx k).length = zs.length - 1 := by rw [List.length_eraseIdx, if_pos (by omega)]
  have HLE := Lib.hid hlen
  clear h h1 hl hu1 hF hNe hN hlen
  go_enter Tryz.func133, Tryz.ntmps133
  go_wp2_with fail
  refine HA.out.mono ?_
  rintro e w2 ⟨rfl, hu2⟩
  have hz : IsN 18 z := HN.out z (List.mem_of_getElem? HL.out)
  have hU2 := HU1.out.trans hu2 (fun _ _ h => h)
  have hU3 := (hU2.trans (Upd.alloc NoF w2 (.cells z 140)) (fun _ _ h => h)).trans (Upd.drew NoF _) (fun _ _ h => h)
  have hP3 := (Po (ptr b) zs room).keep H.out (hU3.kept (fun _ _ _ h => h))
  obtain ⟨a, cap, hat, c0, _, f0, hblt, hn, hm, hnil, hr⟩ := reads hP3
  obtain ⟨_, g, rfl, hrg, hFg⟩ := hr k z HL.out
  have hrow := hat.row
  rw [rowsOf_length] at hrow
  have hcells := hrow.cells.2
  have hpre := hrow.prefix (k := k) (by omega)
  rw [flat_take zs k HN.out] at hpre
  have q4 := (((q1.out.upd hu2 (fun h => h)).alloc (.cells z 140)).upd (Upd.drew NoF _) (fun h => h))
  have q6 := (Blk.new w2 z 140).upd (Upd.drew NoF _) (fun h => h)
  have hs2 : w.heap.size < w2.heap.size := by have := hu2.size; simp at this; omega
  have s6 := TBak.st_new hz w2
  have hnF4 : ¬ F w.heap.size := fun h => by have := HFl.out _ h; omega
  have hnF6 : ¬ F w2.heap.size := fun h => by have := HFl.out _ h; omega
  have herase : zs.eraseIdx k = zs.take k ++ zs.drop (k + 1) := List.eraseIdx_eq_take_drop_succ zs k
  have hw1 : IntKind.i64.wrap ((k : Int) + 1) = (k : Int) + 1 := IntWalk.i64_in _ (by omega)
  have hk0 : (0 : Int) ≤ (k : Int) + 1 := by omega
  have hkt : ((k : Int) + 1).toNat = k + 1 := by omega
  have hkc : k ≤ cap := by omega
  unfold maxLen at hm
  have hsz3 : (w2.alloc (.cells z 140)).drew.heap.size = w2.heap.size + 1 := by show (w2.alloc _).heap.size = _; simp
  have c0' : (w2.alloc (.cells z 140)).cell? ⟨b, 0, none⟩ = some (.slice (some ⟨g, 0, none⟩) zs.length cap) := c0
  -- what is left to do behind the append, once
  have fin : ∀ (v9 : Value) (W4 : World), Upd F (w2.alloc (.cells z 140)).drew W4 → (Po (ptr b) (zs.eraseIdx k) room).is W4 (AndNew F (w2.alloc (.cells z 140)).drew) →
      (TBak.ld (ptr w2.heap.size)).run Tryz.prog W4 = .ok (.agg z) W4 ∧ (TBak.st (ptr w.heap.size) (.agg z)).run Tryz.prog W4 = .ok () (W4.setCells w.heap.size 0 z.toList) ∧
      (loadVar 140 ⟨w.heap.size, 0, none⟩).run Tryz.prog (W4.setCells w.heap.size 0 z.toList) = .ok (.agg z) (W4.setCells w.heap.size 0 z.toList) ∧
      Upd F w (W4.setCells w.heap.size 0 z.toList) ∧ (Po (ptr b) (zs.eraseIdx k) room).is (W4.setCells w.heap.size 0 z.toList) (AndNew F w) := fun v9 W4 hu hp => by
    have q4' := q4.upd hu hnF4
    have q6' := q6.upd hu hnF6
    obtain ⟨s4, r4⟩ := TBak.st_at TBak.isZ hz q4'
    have us := upd_setCells (b := w.heap.size) z.toList 0 W4
    refine ⟨TBak.ld_at hz q6'.whole, s4, TBak.ldV_at hz r4.whole, ((hU3.mono (G := F) (fun _ _ h => h.elim)).trans hu (fun _ _ h => h)).trans us (fun i hi h => by have : i = w.heap.size := h; omega), ?_⟩
    refine (Po (ptr b) (zs.eraseIdx k) room).mono ((Po (ptr b) (zs.eraseIdx k) room).keep hp (us.kept (fun i _ hi h => ?_))) (fun i hi => hi.imp id (fun hi => by omega))
    have e : i = w.heap.size := h
    subst e
    rcases hi with hi | hi
    · exact hnF4 hi
    · omega
  have FIN := Lib.hid fin
  obtain ⟨i0, hi, hz0, hz1, hz2⟩ := info_parts infoE
  by_cases hlast : zs.length = k + 1
  · have he2 : zs.eraseIdx k = zs.take k := by rw [herase, List.drop_eq_nil_of_le (by omega), List.append_nil]
    obtain ⟨r1, r2, r3, r4⟩ := restore hat (Upd.refl F _) rfl (ys := zs.eraseIdx k) HNe.out (v9 := .slice (some ⟨g, 0, none⟩) k k) (by rw [HLE.out, he2, hlast]; simpa using hpre) (fun i hi => .inl hi)
    obtain ⟨l6, s4, hv, hU9, hP9⟩ := fin (.slice (some ⟨g, 0, none⟩) k k) (((w2.alloc (.cells z 140)).setCell ⟨b, 0, none⟩ (.slice (some ⟨g, 0, none⟩) k k)).drew) r3 r4
    have HV := Lib.hid hv; have HF := Lib.hid (And.intro hU9 hP9)
    have HR : ∀ a c, Hid ((Builtin.append_ #[176, 176] 176 #[.slice (some ⟨g, 0, none⟩) k k, .slice a 0 c]).run Tryz.prog (w2.alloc (.cells z 140)).drew = .ok (.slice (some ⟨g, 0, none⟩) k k) (w2.alloc (.cells z 140)).drew) :=
      fun a c => run_append_zero _ 176 176 140 i0 Tryz.underlying176 hi _ k k (Nat.le_refl _) a c
    clear fin hv hU9 hP9 r3 r4 hpre hrow hcells hat hP3 hU2 hU3 hu2 q4 q6 hr hrg hFg hnF4 hnF6 herase he2 hnil
    generalize zs.length = n at *
    subst hlast
    have hk1' : (k : Int) ≤ (k : Int) + 1 := by omega
    by_cases hc : cap = k + 1
    · subst hc
      go_wp2
      go_region_law (refine step_append_run rfl _ _ 176 rfl rfl rfl (HR _ _).out ?_)
      all_goals
        go_wp2
        have hv := HV.out
        refine bodyPost_ret (v := .tuple #[.agg z, .int .i64 0]) ?_ ?_ ?_
        · simp [results, Tryz.f133, asAddr, hv]
        · rfl
        exact ⟨rfl, HF.out⟩
    · go_wp2
      go_region_law (refine step_append_run rfl _ _ 176 rfl rfl rfl (HR _ _).out ?_)
      all_goals
        go_wp2
        have hv := HV.out
        refine bodyPost_ret (v := .tuple #[.agg z, .int .i64 0]) ?_ ?_ ?_
        · simp [results, Tryz.f133, asAddr, hv]
        · rfl
        exact ⟨rfl, HF.out⟩
  · have hlt : k + 1 < zs.length := by omega
    have hND : ∀ x ∈ zs.drop (k + 1), IsN 18 x := fun x hx => HN.out x (List.mem_of_mem_drop hx)
    obtain ⟨v9, w9, hrun, hrow9, hg, hf⟩ := run_append_row (P := Tryz.prog) (w2.alloc (.cells z 140)).drew 176 176 140 i0 (.agg TBak.Z) 18 80 Tryz.underlying176 hi hz0 hz1 hz2 zsize (by decide) (.slice (some ⟨g, 0, none⟩) k k) k (rowsOf (zs.take k)).flatten hpre
      ⟨g, (k + 1) * 18, none⟩ (zs.length - (k + 1)) (cap - (k + 1)) (rowsOf (zs.drop (k + 1))).flatten (by rw [flat_len hND, List.length_drop])
      (fun j u hu => by
        rw [← flat_drop zs (k + 1) HN.out, List.getElem?_drop] at hu
        have := hcells _ u hu
        rw [Addr.add_lit]; simpa using this)
      (flat_one hND) (by unfold maxLen; omega) (by omega)
    have hug : Upd F (w2.alloc (.cells z 140)).drew w9 := Upd.grown hg (fun i hi _ => ⟨(hat.apart i hi).1, hrow.isCells i hi⟩)
    have hcb : w9.heap[b]? = (w2.alloc (.cells z 140)).drew.heap[b]? := hg.block b hblt (fun e => (hat.apart b e.symm).2 rfl)
    obtain ⟨r1, r2, r3, r4⟩ := restore hat hug hcb (ys := zs.eraseIdx k) HNe.out (v9 := v9) (by
      rw [HLE.out, herase, show zs.length - 1 = k + (zs.length - (k + 1)) from by omega]
      have e : (rowsOf (zs.take k ++ zs.drop (k + 1))).flatten = (rowsOf (zs.take k)).flatten ++ (rowsOf (zs.drop (k + 1))).flatten := by simp [rowsOf]
      rw [e]; exact hrow9) (fun i hi => by
      rcases hf with e | ⟨g', e, hge⟩
      · rw [e] at hi; exact .inl hi
      · rw [e] at hi; cases hi; exact .inr hge)
    obtain ⟨l6, s4, hv, hU9, hP9⟩ := fin v9 _ r3 r4
    have HV := Lib.hid hv; have HF := Lib.hid (And.intro hU9 hP9)
    have HR := Lib.hid hrun
    obtain ⟨a9, cap9, rfl, _⟩ := hrow9.slice
    clear fin hv hU9 hP9 r3 r4 hpre hrow hcells hat hP3 hU2 hU3 hu2 q4 q6 hr hrg hFg hnF4 hnF6 herase hnil hrun hrow9 hg hf hug hcb hND
    generalize zs.length = n at *
    have hne : ¬ cap = k + 1 := by omega
    have hi1 : (k : Int) + 1 ≤ (n : Int) := by omega
    go_wp2
    go_region_law (refine step_append_run rfl _ _ 176 rfl rfl rfl HR.out ?_)
    all_goals
      go_wp2
      have hv := HV.out
      refine bodyPost_ret (v := .tuple #[.agg z, .int .i64 0]) ?_ ?_ ?_
      · simp [results, Tryz.f133, asAddr, hv]
      · rfl
      exact ⟨rfl, HF.out⟩
theorem all_any (b : Nat) (w : World) : Calls Tryz.prog 150 #[ptr b] w fun e w' => e = .returned (.func (.func 161) #[] #[ptr w.heap.size]) ∧ w.alloc (.cells #[ptr b] 136) = w' := by
  go_enter Tryz.func150, Tryz.ntmps150
  go_wp2
  go_ret
  exact ⟨rfl, rfl⟩

set_option maxRecDepth 100000 in
set_option maxHeartbeats 2000000 in
theorem all_seq (B b : Nat) (zs : List (Array Value)) (room : Int) (F K : Nat → Prop) (hFK : ∀ k, F k → ¬ K k) (hBK : ¬ K B) (w : World) (hB0 : w.cell? ⟨B, 0, none⟩ = some (ptr b))
    (hP0 : (Po (ptr b) zs room).is w F) (hKn : ∀ k, w.heap.size ≤ k → K k) :
    SeqL Tryz.prog 161 #[ptr B] (fun x : Nat × Array Value => #[Value.int .i64 (x.1 : Int), .agg x.2]) (idxs zs) NoF K w := by
  intro l J Jx W hW hJk _ hY h0
  have hB := hW.cell hB0 (fun h => h)
  have hP := (Po (ptr b) zs room).keep hP0 (hW.kept (fun _ _ _ h => h))
  have hWs := hW.size
  clear hB0 hP0
  obtain ⟨a, cap, _, c0, _, f0, hblt, hn, hm, hnil, hr⟩ := reads hP
  have hlen : (idxs zs).length = zs.length := idxs_length zs
  unfold maxLen at hm
  have HR := Lib.hid (show ∀ k z, zs[k]? = some z → IsN 18 z ∧ ∃ g, a = some ⟨g, 0, none⟩ ∧ W.rangeAt g (k * 18) z.toList ∧ ¬ K g from fun k z hz => by
    obtain ⟨h1, g, h2, h3, h4⟩ := hr k z hz
    exact ⟨h1, g, h2, h3, hFK g h4⟩)
  have HL := Lib.hid hlen
  have HKn := Lib.hid hKn
  have HJk := Lib.hid hJk
  have HW := Lib.hid hW
  clear f0 hnil hr hlen hW hP hKn hJk
  refine callsIn_of_wp Tryz.func161 rfl trivial ?_ rfl
  simp only [Tryz.ntmps161, List.size_toArray, List.length_cons, List.length_nil, Nat.reduceAdd, Nat.reduceSub, Array.replicate_succ, Array.replicate_zero, List.push_toArray, List.append_toArray, List.nil_append, List.cons_append]
  gi_wp2
  gi_loopw [12] (fun i wr => ∃ k : Nat, k ≤ zs.length ∧ i = .int .i64 k ∧ J k wr ∧ Hid (Upd K W wr))
    (fun i _ => zs.length - (intOf i).toNat)
  case atStart => exact ⟨0, Nat.zero_le _, rfl, h0, Upd.refl _ _⟩
  case round =>
    obtain ⟨k, hk, rfl, hJs, hnx⟩ := hrel
    by_cases hlt : k < zs.length
    · have hz : zs[k]? = some zs[k] := List.getElem?_eq_getElem hlt
      generalize zs[k] = z at hz
      obtain ⟨hzN, g, rfl, hrg, hgK⟩ := HR.out k z hz
      have hrx : wr.rangeAt g (k * 18) z.toList := fun j v hv => hnx.out.cell (hrg j v hv) hgK
      have l1 := TBak.ld_at hzN hrx
      have l1a := TBak.ld_at hzN (World.rangeAt_alloc hrx (.cells TBak.Z 140))
      have s1 := TBak.st_new hzN wr
      have l2 := TBak.ld_new hzN wr
      have hJa := HJk.out k wr _ hJs (Upd.alloc NoF wr (.cells z 140))
      have hna := Lib.hid (hnx.out.trans (Upd.alloc K wr (.cells z 140)) (fun _ _ h => h))
      obtain ⟨fn, tmps, assign, body, hy, hR⟩ := hY k (k, z) _ hJa (by rw [idxs_get, hz]; rfl)
      clear hz hrx hrg hJa
      dsimp only at hy
      gi_wp2
      refine hR.mono ?_
      rintro e W3 (⟨rfl, hJ3, hk3⟩ | ⟨rfl, hJx3⟩)
      · gi_wp2
        go_roundw
        case rel => exact ⟨k + 1, by omega, by simp, hJ3, hna.out.trans hk3 (fun _ _ h => h)⟩
        case measure => simp [intOf]; omega
      · gi_wp2
        refine bodyPost_ret (results_none rfl _ _ _) rfl ?_
        exact ⟨⟨_, rfl⟩, .inr ⟨k, by rw [HL.out]; exact hlt, hJx3⟩⟩
    · obtain rfl : k = zs.length := by omega
      gi_wp2
      go_end0
      exact ⟨⟨_, rfl⟩, .inl (by rw [HL.out]; exact hJs)⟩

set_option maxHeartbeats 1000000 in
theorem clone_any (w : World) (v : Value) (zs : List (Array Value)) (hN : ∀ x ∈ zs, IsN 18 x) (hrow : Row w 140 18 v zs.length (rowsOf zs).flatten) (hb : zs.length ≤ 65536) :
    Calls Tryz.prog 134 #[v] w fun e w' => ∃ v', e = .returned v' ∧ Upd NoF w w' ∧ Row w' 140 18 v' zs.length (rowsOf zs).flatten ∧ ∀ k, v'.ownBlock = some k → w.heap.size ≤ k := by
  have hrow0 := hrow
  obtain ⟨a, cap, rfl, hn, hm, hnil⟩ := hrow.slice
  cases a with
  | none =>
    obtain ⟨h0, rfl⟩ := hnil rfl
    have hz : zs = [] := List.eq_nil_of_length_eq_zero h0
    subst hz
    have he := fun W => Lib.run_eql_slice_nil (P := Tryz.prog) (w := W) 176 140 none 0 0 0 0 Tryz.underlying176
    go_enter Tryz.func134, Tryz.ntmps134
    go_wp2
    go_ret
    exact ⟨_, rfl, Upd.refl _ _, Row.nil _ _ _, fun k hk => by simp [Value.ownBlock] at hk⟩
  | some a =>
    obtain ⟨⟨g, rfl⟩, hcells⟩ := hrow.cells
    have he := fun W => Lib.run_eql_slice_nil (P := Tryz.prog) (w := W) 176 140 (some ⟨g, 0, none⟩) zs.length cap 0 0 Tryz.underlying176
    obtain ⟨i0, hi, hz0, hz1, hz2⟩ := info_parts infoE
    obtain ⟨v9, w1, hrun, hrow9, hgr, hf⟩ := run_append_all (P := Tryz.prog) (w.alloc (.cells #[] 140)) 176 176 140 i0 (.agg TBak.Z) 18 80 Tryz.underlying176 hi hz0 hz1 hz2 zsize (by decide) (.slice (some ⟨w.heap.size, 0, none⟩) 0 0) 0 []
      ⟨rfl, .inr ⟨_, 0, #[], rfl, World.alloc_heap_new w _, Nat.le_refl _, by unfold maxLen; omega, by simp, by simp⟩⟩ _ zs.length _ (hrow.alloc (.cells #[] 140)) (flat_one hN) (by unfold maxLen; omega) (by omega)
    have hU : Upd NoF w w1 := (Upd.alloc NoF w _).trans (Upd.grown (F := fun k => k = w.heap.size) hgr (fun k hk _ => by simp [Value.ownBlock] at hk; subst hk; exact ⟨rfl, _, World.alloc_heap_new w _, rfl⟩)) (fun i hi h => by omega)
    have hfr : ∀ k, v9.ownBlock = some k → w.heap.size ≤ k := by
      intro k hk
      rcases hf with h | ⟨g', h, h'⟩
      · rw [h] at hk; simp [Value.ownBlock] at hk; omega
      · rw [h] at hk; cases hk; simp at h'; omega
    have HR := Lib.hid hrun
    simp only [Nat.zero_add, List.nil_append] at hrow9 hfr
    obtain ⟨a9, cap9, rfl, _⟩ := hrow9.slice
    have HF := Lib.hid (And.intro hU (And.intro hrow9 hfr))
    clear hrun hrow9 hgr hf hU hfr hcells hrow hrow0 hnil hN
    generalize zs.length = n at *
    go_enter Tryz.func134, Tryz.ntmps134
    go_wp2_with (at_builtin; refine wpList_append_run rfl _ _ 176 rfl rfl rfl HR.out ?_)
    go_ret
    exact ⟨_, rfl, HF.out⟩

theorem copy_any (w : World) (F : Nat → Prop) (b : Nat) (zs : List (Array Value)) (room : Int) (h : (Po (ptr b) zs room).is w F) (hb : zs.length ≤ 65536) :
    Calls Tryz.prog 106 #[ptr b] w fun e w' => ∃ q, e = .returned (ptr q) ∧ Upd NoF w w' ∧ (Po (ptr q) zs room).is w' (fun k => w.heap.size ≤ k) := by
  have hN := h.1
  obtain ⟨a, cap, hat, c0, c1, f0, hblt, hn, hm, hnil, hr⟩ := reads h
  have hrow := hat.row
  rw [rowsOf_length] at hrow
  have HR := Lib.hid hrow
  have Hb := Lib.hid hb
  have HN := Lib.hid hN
  clear h f0 hrow hb hnil hn hm hat hr hN
  go_enter Tryz.func106, Tryz.ntmps106
  go_wp2
  go_region_with (go_at_call 134; refine (clone_any _ _ zs HN.out (HR.out.upd (Upd.drew NoF w) (fun _ _ h => h)) Hb.out).mono ?_; rintro e w1 ⟨v1, rfl, hu1, hr1, hf1⟩; have c1' := hu1.cell (a := ⟨b, 1, none⟩) c1 (fun h => h); obtain ⟨a1, cap1, rfl, _⟩ := hr1.slice; have HQ := Lib.hid (And.intro hu1 (And.intro hr1 hf1)); clear hu1 hr1 hf1)
  all_goals
    go_wp2
    go_ret
    exact ⟨_, rfl, ((Upd.drew NoF w).trans HQ.out.1 (fun _ _ h => h)).trans (Upd.alloc NoF _ _) (fun _ _ h => h), HN.out, _, _, rfl, Blk.new w1 _ _, HQ.out.1.size, rows_len HN.out,
      by rw [rowsOf_length]; exact HQ.out.2.1.alloc _, fun k hk => ⟨HQ.out.2.2 k hk, by have := HQ.out.2.1.lt k hk; omega⟩⟩
end Go.Proofs.YtjgeflbhmhmjdaaGreat.PB
