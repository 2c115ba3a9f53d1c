/- The contracts of the reference's pool (undertowref03), and what is read of a pool. -/
import Derived.Test.YtlkpbhmifhoaiaaSep
import Derived.Test.YtlkpbhmifhoaiaaPoolSepInt
set_option linter.unusedSimpArgs false
set_option linter.unusedVariables false
namespace Go.Proofs.Ytlkpbhmifhoaiaa.PR
open Go.RowKit
open PI (Vint infoE)
attribute [local go_sem] Oper.semAt_some

abbrev RPo (p : Value) (zs : List Int) (room : Int) : Obj := poolO 58 3 1 p (onesOf Vint zs) room

/-- What is read of a pool of one-cell things. -/
theorem reads {T : TypeId} {w : World} {F : Nat → Prop} {b : Nat} {zs : List Int} {room : Int} (h : PoolIs T 3 1 w F (.pointer (some ⟨b, 0, none⟩)) (onesOf Vint zs) room) :
    ∃ a cap, w.cell? ⟨b, 0, none⟩ = some (.slice a zs.length cap) ∧ w.cell? ⟨b, 1, none⟩ = some (.int .i64 room) ∧ zs.length ≤ cap ∧ cap ≤ maxLen ∧ (a = none → zs.length = 0) ∧
      ∀ k z, zs[k]? = some z → ∃ g, a = some ⟨g, 0, none⟩ ∧ w.cell? ⟨g, k, none⟩ = some (.int .i64 z) := by
  obtain ⟨b', v, hb, h⟩ := h
  cases hb
  obtain ⟨c0, c1, f0, hblt, a, cap, rfl, hn, hm, hnil⟩ := h.facts
  have hrow := h.row
  rw [onesOf_flatten, onesOf_length] at hrow
  rw [onesOf_length] at hn c0 hnil
  refine ⟨a, cap, c0, c1, hn, hm, fun h => (hnil h).1, fun k z hz => ?_⟩
  have hk : k < zs.length := (List.getElem?_eq_some_iff.1 hz).1
  cases a with
  | none => have := (hnil rfl).1; omega
  | some a =>
    obtain ⟨⟨g, rfl⟩, hcell⟩ := hrow.cells
    have ck := hcell k (.int .i64 z) (by rw [List.getElem?_map, hz]; rfl)
    exact ⟨g, rfl, by simpa using ck⟩

/-- append of a whole row. -/
theorem run_append_whole {P : Program} (w : World) (t ty e : TypeId) (i : TypeInfo) (z : Value) (size bytes : Nat) (ht : P.underlying t = some (.slice e)) (hi : P.info? e = some i) (hz : i.zero = some z)
    (hsize : i.size = size) (hby : i.bytes = bytes) (hzs : z.cells.size = size) (hsz : 0 < size)
    (v : Value) (n : Nat) (xs : List Value) (hown : Row w e size v n xs) (u : Value) (m : Nat) (news : List Value) (hu : Row w e size u m news) (h1 : ∀ x ∈ news, x.oneCell' = true)
    (h63 : n + m ≤ maxLen) (hbytes : (n + m) * bytes ≤ 140737488355328) :
    ∃ v' w', (Builtin.append_ #[t, t] ty #[v, u]).run P w = .ok v' w' ∧ Row w' e size v' (n + m) (xs ++ news) ∧ w.grownBy w' v.ownBlock ∧
      (v'.ownBlock = v.ownBlock ∨ ∃ g, v'.ownBlock = some g ∧ w.heap.size ≤ g) := by
  rcases hu.2 with ⟨rfl, rfl⟩ | ⟨g, cap, cur, rfl, hgg, hnc, hcm, hcs, htake⟩
  · have hnil : news = [] := List.eq_nil_of_length_eq_zero (by simpa using hu.1)
    subst hnil
    obtain ⟨b, cv, rfl, hn, _, _⟩ := hown.slice
    exact ⟨_, w, run_append_zero w t ty e i ht hi b n cv hn none 0, by simpa using hown, ⟨rfl, rfl, rfl, Nat.le_refl _, fun _ _ _ => rfl⟩, .inl rfl⟩
  · exact run_append_row w t ty e i z size bytes ht hi hz hsize hby hzs hsz v n xs hown ⟨g, 0, none⟩ m cap news hu.1 (fun j x hx => by
      have := (hu.cells).2 j x hx
      rw [Addr.add_lit]; simpa using this) h1 h63 hbytes

theorem ones_len {zs : List Int} {y : List Value} (hy : y ∈ onesOf Vint zs) : y.length = 1 := by
  unfold onesOf at hy
  obtain ⟨_, _, rfl⟩ := List.mem_map.1 hy
  rfl
theorem ones_vint (zs : List Int) : ∀ u ∈ zs.map Vint, u.oneCell' = true := fun u hu => by obtain ⟨_, _, rfl⟩ := List.mem_map.1 hu; rfl

theorem new_bad (room : Int) (hr : room < 1 ∨ 65536 < room) (w : World) : Calls Try.prog 23 #[.int .i64 room] w fun e w' => e = .returned (.tuple #[.pointer none, .int .i64 2]) ∧ w = w' := by
  rcases hr with h | h
  · go_enter Try.func23, Try.ntmps23
    go_wp2
    go_ret2
    exact ⟨rfl, rfl⟩
  · have h2 : ¬ room < 1 := by omega
    go_enter Try.func23, Try.ntmps23
    go_wp2
    go_ret2
    exact ⟨rfl, rfl⟩
theorem new_raw (room : Int) (h1 : 1 ≤ room) (h2 : room ≤ 65536) (w : World) : Calls Try.prog 23 #[.int .i64 room] w fun e w' => e = .returned (.tuple #[.pointer (some ⟨w.heap.size, 0, none⟩), .int .i64 0]) ∧ w.alloc (.cells #[.slice none 0 0, .int .i64 room] 58) = w' := by
  go_enter Try.func23, Try.ntmps23
  go_wp2
  go_ret2
  exact ⟨rfl, rfl⟩
theorem new_ok (room : Int) (h1 : 1 ≤ room) (h2 : room ≤ 65536) (w : World) : Calls Try.prog 23 #[.int .i64 room] w fun e w' => ∃ b, e = .returned (.tuple #[.pointer (some ⟨b, 0, none⟩), .int .i64 0]) ∧ Upd NoF w w' ∧ (RPo (.pointer (some ⟨b, 0, none⟩)) [] room).is w' (fun k => w.heap.size ≤ k) :=
  (new_raw room h1 h2 w).mono fun e w' ⟨he, hw⟩ => by
    subst hw
    exact ⟨_, he, Upd.alloc _ _ _, _, _, rfl, Blk.new w _ _, Nat.le_refl _, fun x hx => by simp [onesOf] at hx, Row.nil _ _ _, fun k hk => by simp [Value.ownBlock] at hk⟩

theorem put_full (w : World) (F : Nat → Prop) (b : Nat) (zs : List Int) (room x : Int) (h : (RPo (.pointer (some ⟨b, 0, none⟩)) zs room).is w F) (hl : (zs.length : Int) = room) :
    Calls Try.prog 24 #[.pointer (some ⟨b, 0, none⟩), .int .i64 x] w fun e w' => e = .returned (.int .i64 7) ∧ Upd NoF w w' := by
  obtain ⟨a, cap, c0, c1, hn, hm, hnil, _⟩ := reads h
  generalize zs.length = n at *
  have hb : ((n : Int) == room) = true := by simpa using hl
  clear h hl
  go_enter Try.func24, Try.ntmps24
  go_wp2
  go_quiet (fail)
  go_wp2
  go_ret
  exact ⟨rfl, Upd.drewN _ _ _⟩

set_option maxHeartbeats 2000000 in
theorem put_ok (w : World) (F : Nat → Prop) (b : Nat) (zs : List Int) (room x : Int) (h : (RPo (.pointer (some ⟨b, 0, none⟩)) zs room).is w F) (hl : (zs.length : Int) < room) (hr : room ≤ 65536) :
    Calls Try.prog 24 #[.pointer (some ⟨b, 0, none⟩), .int .i64 x] w fun e w' => e = .returned (.int .i64 0) ∧ Upd F w w' ∧ (RPo (.pointer (some ⟨b, 0, none⟩)) (zs ++ [x]) room).is w' (AndNew F w) := by
  have e9 : onesOf Vint (zs ++ [x]) = onesOf Vint zs ++ [[Vint x]] := by simp [onesOf]
  show Calls _ _ _ _ fun e w' => _ ∧ _ ∧ PoolIs _ _ _ w' (AndNew F w) _ (onesOf Vint (zs ++ [x])) room
  have h2 : PoolIs _ _ _ w F _ (onesOf Vint zs) room := h
  obtain ⟨a, cap, c0, c1, hn, hm, hnil, _⟩ := reads h
  clear h
  obtain ⟨b', v, hbb, h⟩ := h2
  cases hbb
  have hvs : v = .slice a zs.length cap := by have := h.facts.1; rw [c0] at this; cases this; rfl
  subst hvs
  obtain ⟨i0, hi, hz0, hz1, hz2⟩ := info_parts infoE
  have H := Lib.hid h
  have hb : ((zs.length : Int) == room) = false := by simp; omega
  obtain ⟨n, hn'⟩ : ∃ n, zs.length = n := ⟨_, rfl⟩
  have Hn := Lib.hid hn'
  rw [hn'] at c0 hl hn hb
  clear h hn' hnil
  go_enter Try.func24, Try.ntmps24
  go_wp2
  go_quiet (fail)
  rename_i nq
  obtain ⟨w0, hw0, hh, hu⟩ := drewN_is w nq
  rw [hw0]
  have H0 := H.out.upd hu (fun k hk hk' => hk')
  clear hw0
  obtain ⟨wz, hwz⟩ : ∃ wz, w0.alloc (.cells #[] 3) = wz := ⟨_, rfl⟩
  have huz : Upd NoF w0 wz := by rw [← hwz]; exact Upd.alloc NoF w0 _
  have Hz := H0.upd huz (fun k hk hk' => hk')
  have hrow0 : Row wz 3 1 (.slice (some ⟨w0.heap.size, 0, none⟩) 0 0) 0 [] := ⟨rfl, .inr ⟨_, 0, #[], rfl, by rw [← hwz]; exact World.alloc_heap_new w0 _, Nat.le_refl _, by unfold maxLen; omega, by simp, rfl⟩⟩
  obtain ⟨v8, w8, hrun8, hrow8, hg8, hf8⟩ := run_append_whole (P := Try.prog) wz 42 42 3 i0 (.int .i64 0) 1 8 Try.underlying42 hi hz0 hz1 hz2 rfl (by decide) (.slice (some ⟨w0.heap.size, 0, none⟩) 0 0) 0 [] hrow0
    (.slice a n cap) n (zs.map Vint) (by have := Hz.row; rw [onesOf_flatten, onesOf_length, Hn.out] at this; exact this) (ones_vint zs) (by unfold maxLen; omega) (by omega)
  simp only [Nat.zero_add, List.nil_append] at hrow8
  have hu8 : Upd NoF w0 w8 := huz.trans (Upd.grown (F := fun k => k = w0.heap.size) hg8 (fun k hk _ => by simp [Value.ownBlock] at hk; subst hk; exact ⟨rfl, _, by rw [← hwz]; exact World.alloc_heap_new w0 _, rfl⟩)) (fun i hi h => by omega)
  have hnew8 : ∀ k, v8.ownBlock = some k → w0.heap.size ≤ k := by
    intro k hk
    rcases hf8 with hf | ⟨g, hf, hge⟩
    · rw [hf] at hk; simp [Value.ownBlock] at hk; omega
    · rw [hf] at hk; cases hk; have := huz.size; omega
  obtain ⟨a8, cap8, rfl, hn8, hm8, _⟩ := hrow8.slice
  obtain ⟨v9, w9, hrun9, hrow9, hg9, hf9⟩ := run_append_row (P := Try.prog) (w8.alloc (.cells #[Vint x] 3)) 42 42 3 i0 (.int .i64 0) 1 8 Try.underlying42 hi hz0 hz1 hz2 rfl (by decide) (.slice a8 n cap8) n (zs.map Vint)
    (hrow8.alloc _) ⟨w8.heap.size, 0, none⟩ 1 1 [Vint x] rfl (cell_one_new _ _ _) (by simp [Value.oneCell']) (by unfold maxLen; omega) (by omega)
  have hu9 : Upd NoF w0 w9 := (hu8.trans (Upd.alloc NoF w8 _) (fun _ _ h => h)).trans (Upd.grown (F := fun k => w0.heap.size ≤ k) hg9 (fun k hk _ => ⟨hnew8 k hk, by
    have hl := hrow8.lt k hk
    obtain ⟨o, ho, hc⟩ := hrow8.isCells k hk
    exact ⟨o, (Below.heap_alloc _ _ _ hl).trans ho, hc⟩⟩)) (fun i hi h => by omega)
  have hnew9 : ∀ k, v9.ownBlock = some k → w0.heap.size ≤ k := by
    intro k hk
    rcases hf9 with hf | ⟨g, hf, hge⟩
    · rw [hf] at hk; exact hnew8 k hk
    · rw [hf] at hk; cases hk; have := hu8.size; simp at hge; omega
  have hb9 := hu9.heap H0.blk (fun h => h)
  obtain ⟨c9, f9⟩ := cells_of_block hb9
  have hbl : b < w0.heap.size := (Array.getElem?_eq_some_iff.1 H0.blk).1
  have hF9 : PoolAt 58 3 1 (w9.setCell ⟨b, 0, none⟩ v9) (AndNew F w) b v9 (onesOf Vint (zs ++ [x])) room := by
    refine ⟨?_, .inl H.out.foot, fun y hy => ones_len hy, ?_, fun k hk => ⟨.inr (by have := hnew9 k hk; have := hu.size; omega), by have := hnew9 k hk; omega⟩⟩
    · simp only [World.setCell, Array.getElem?_modify, hb9]; simp
    · rw [onesOf_flatten, onesOf_length, List.map_append, List.length_append, Hn.out]
      exact hrow9.upd (Upd.setCell (F := fun k => k = b) w9 (p := ⟨b, 0, none⟩) rfl v9) (fun k hk he => by have := hnew9 k hk; omega)
  have hU9 : Upd F w (w9.setCell ⟨b, 0, none⟩ v9) := ((hu.trans hu9 (fun _ _ h => h)).mono (fun _ _ h => h.elim)).trans (Upd.setCell (F := F) w9 (p := ⟨b, 0, none⟩) H.out.foot v9) (fun _ _ h => h)
  have HF := Lib.hid (And.intro hU9 hF9)
  have HR8 := Lib.hid hrun8; have HR9 := Lib.hid hrun9
  have cz0 : wz.cell? ⟨b, 0, none⟩ = some (.slice a n cap) := by have := Hz.facts.1; rw [Hn.out] at this; exact this
  have c90 : w9.cell? ⟨b, 0, none⟩ = some (.slice a n cap) := by have := c9 0; simpa [onesOf_length, Hn.out] using this
  have f90 := f9 0
  obtain ⟨a9, cap9, rfl, _⟩ := hrow9.slice
  clear hrun8 hrun9 hrow8 hrow9 hg8 hg9 hf8 hf9 hu8 hu9 hnew8 hnew9 hb9 hbl hF9 hU9 hrow0 H0 Hz hh hu huz c0 c1 c9 f9 hm8 hn8
  subst hwz
  go_wp2_with (first | (at_builtin; refine wpList_append_run rfl _ _ 42 rfl rfl rfl HR8.out ?_) | (at_builtin; refine wpList_append_run rfl _ _ 42 rfl rfl rfl HR9.out ?_))
  go_ret
  exact ⟨rfl, HF.out.1, _, _, rfl, HF.out.2⟩
theorem restore {T : TypeId} {w w9 : World} {F : Nat → Prop} {b : Nat} {v v9 : Value} {zs ys : List Int} {room : Int} (H : PoolAt T 3 1 w F b v (onesOf Vint zs) room) (hu : Upd NoF w w9)
    (hrow : Row w9 3 1 v9 ys.length (ys.map Vint)) (hnew : ∀ k, v9.ownBlock = some k → w.heap.size ≤ k) :
    w9.cell? ⟨b, 0, none⟩ = some v ∧ w9.frozen? ⟨b, 0, none⟩ = false ∧ Upd F w (w9.setCell ⟨b, 0, none⟩ v9) ∧ PoolAt T 3 1 (w9.setCell ⟨b, 0, none⟩ v9) (AndNew F w) b v9 (onesOf Vint ys) room := by
  have hb9 := hu.heap H.blk (fun h => h)
  obtain ⟨c9, f9⟩ := cells_of_block hb9
  have hbl : b < w.heap.size := (Array.getElem?_eq_some_iff.1 H.blk).1
  refine ⟨c9 0, f9 0, (hu.mono (fun _ _ h => h.elim)).trans (Upd.setCell (F := F) w9 (p := ⟨b, 0, none⟩) H.foot v9) (fun _ _ h => h), ?_, .inl H.foot, fun y hy => ones_len hy, ?_, fun k hk => ⟨.inr (hnew k hk), by have := hnew k hk; omega⟩⟩
  · simp only [World.setCell, Array.getElem?_modify, hb9]; simp
  · rw [onesOf_flatten, onesOf_length]
    exact hrow.upd (Upd.setCell (F := fun k => k = b) w9 (p := ⟨b, 0, none⟩) rfl v9) (fun k hk he => by have := hnew k hk; omega)

theorem take_bad (w : World) (F : Nat → Prop) (b : Nat) (zs : List Int) (room i : Int) (h : (RPo (.pointer (some ⟨b, 0, none⟩)) zs room).is w F) (hl : i < 0 ∨ (zs.length : Int) ≤ i) :
    Calls Try.prog 25 #[.pointer (some ⟨b, 0, none⟩), .int .i64 i] w fun e w' => e = .returned (.tuple #[.int .i64 0, .int .i64 5]) ∧ w = w' := by
  obtain ⟨a, cap, c0, c1, hn, hm, hnil, _⟩ := reads h
  generalize zs.length = n at *
  clear h
  rcases hl with hl | hl
  · go_enter Try.func25, Try.ntmps25
    go_wp2
    go_ret2
    exact ⟨rfl, rfl⟩
  · have h0 : ¬ i < 0 := by omega
    go_enter Try.func25, Try.ntmps25
    go_wp2
    go_ret2
    exact ⟨rfl, rfl⟩

set_option maxHeartbeats 2000000 in
theorem take_ok (w : World) (F : Nat → Prop) (b : Nat) (zs : List Int) (room : Int) (k : Nat) (z : Int) (h : (RPo (.pointer (some ⟨b, 0, none⟩)) zs room).is w F) (hl : zs[k]? = some z) (hb : zs.length ≤ 65536) :
    Calls Try.prog 25 #[.pointer (some ⟨b, 0, none⟩), .int .i64 k] w fun e w' => e = .returned (.tuple #[.int .i64 z, .int .i64 0]) ∧ Upd F w w' ∧ (RPo (.pointer (some ⟨b, 0, none⟩)) (zs.eraseIdx k) room).is w' (AndNew F w) := by
  show Calls _ _ _ _ fun e w' => _ ∧ _ ∧ PoolIs _ _ _ w' (AndNew F w) _ (onesOf Vint (zs.eraseIdx k)) room
  have h2 : PoolIs _ _ _ w F _ (onesOf Vint zs) room := h
  obtain ⟨a, cap, c0, c1, hn, hm, hnil, hat⟩ := reads h
  clear h
  obtain ⟨b', v, hbb, h⟩ := h2
  cases hbb
  have hvs : v = .slice a zs.length cap := by have := h.facts.1; rw [c0] at this; cases this; rfl
  subst hvs
  have hk : k < zs.length := (List.getElem?_eq_some_iff.1 hl).1
  obtain ⟨g, rfl, ck⟩ := hat k z hl
  obtain ⟨i0, hi, hz0, hz1, hz2⟩ := info_parts infoE
  have hrow := h.row
  rw [onesOf_flatten, onesOf_length] at hrow
  have hcells := hrow.cells.2
  have herase : zs.eraseIdx k = zs.take k ++ zs.drop (k + 1) := List.eraseIdx_eq_take_drop_succ zs k
  have hlen : (zs.eraseIdx k).length = zs.length - 1 := by rw [List.length_eraseIdx, if_pos (by omega)]
  have H := Lib.hid h
  clear h hat hnil
  unfold maxLen at hm
  obtain ⟨v8, w8, hrun8, hrow8, hg8, hf8⟩ := run_append_row (P := Try.prog) w 42 42 3 i0 (.int .i64 0) 1 8 Try.underlying42 hi hz0 hz1 hz2 rfl (by decide) (.slice none 0 0) 0 [] (Row.nil _ _ _)
    ⟨g, 0, none⟩ k cap ((zs.take k).map Vint) (by simp; omega)
    (fun j u hu => by
      rw [List.getElem?_map, List.getElem?_take] at hu
      have := hcells j u (by rw [List.getElem?_map]; split at hu; exact hu; cases hu)
      rw [Addr.add_lit]; simpa using this)
    (ones_vint _) (by unfold maxLen; omega) (by omega)
  simp only [Nat.zero_add, List.nil_append] at hrow8
  have hu8 : Upd NoF w w8 := Upd.grown hg8 (fun k hk _ => by simp [Value.ownBlock] at hk)
  have hnew8 : ∀ k, v8.ownBlock = some k → w.heap.size ≤ k := by
    intro k hk
    rcases hf8 with hf | ⟨g, hf, hge⟩
    · rw [hf] at hk; simp [Value.ownBlock] at hk
    · rw [hf] at hk; cases hk; exact hge
  have c80 := hu8.cell c0 (fun h => h)
  have f00 := (cells_of_block H.out.blk).2 0
  have Hn := Lib.hid (show zs.length = zs.length from rfl)
  have hw1 : IntKind.i64.wrap ((k : Int) + 1) = (k : Int) + 1 := IntWalk.i64_in _ (by omega)
  have hk0 : (0 : Int) ≤ (k : Int) + 1 := by omega
  have hkt : ((k : Int) + 1).toNat = k + 1 := by omega
  have hkc : k ≤ cap := by omega
  by_cases hlast : zs.length = k + 1
  · have he2 : zs.eraseIdx k = zs.take k := by rw [herase, List.drop_eq_nil_of_le (by omega), List.append_nil]
    have hlt : (zs.take k).length = k := by simp; omega
    obtain ⟨r1, r2, r3, r4⟩ := restore H.out hu8 (v9 := v8) (ys := zs.take k) (by rw [hlt]; exact hrow8) hnew8
    rw [he2]
    have HF := Lib.hid (And.intro r3 r4)
    have HR8 := Lib.hid hrun8
    obtain ⟨a8, cap8, rfl, hn8, _⟩ := hrow8.slice
    have HR : ∀ a c, Hid ((Builtin.append_ #[42, 42] 42 #[.slice a8 k cap8, .slice a 0 c]).run Try.prog w8 = .ok (.slice a8 k cap8) w8) :=
      fun a c => run_append_zero w8 42 42 3 i0 Try.underlying42 hi _ k cap8 hn8 a c
    clear hrun8 hrow8 hg8 hf8 hu8 hnew8 r3 r4 hcells hrow he2 herase hlen hlt
    generalize zs.length = n at *
    subst hlast
    have hk1' : (k : Int) ≤ (k : Int) + 1 := by omega
    by_cases hc : cap = k + 1
    · subst hc
      go_enter Try.func25, Try.ntmps25
      go_wp2_with (first | (at_builtin; refine wpList_append_run (w := w) rfl _ _ 42 rfl rfl rfl HR8.out ?_) | (at_builtin; refine wpList_append_run (w := w8) rfl _ _ 42 rfl rfl rfl (HR _ _).out ?_))
      go_ret2
      exact ⟨rfl, HF.out.1, _, _, rfl, HF.out.2⟩
    · go_enter Try.func25, Try.ntmps25
      go_wp2_with (first | (at_builtin; refine wpList_append_run (w := w) rfl _ _ 42 rfl rfl rfl HR8.out ?_) | (at_builtin; refine wpList_append_run (w := w8) rfl _ _ 42 rfl rfl rfl (HR _ _).out ?_))
      go_ret2
      exact ⟨rfl, HF.out.1, _, _, rfl, HF.out.2⟩
  · have hlt : k + 1 < zs.length := by omega
    obtain ⟨v9, w9, hrun9, hrow9, hg9, hf9⟩ := run_append_row (P := Try.prog) w8 42 42 3 i0 (.int .i64 0) 1 8 Try.underlying42 hi hz0 hz1 hz2 rfl (by decide) v8 k ((zs.take k).map Vint) hrow8
      ⟨g, k + 1, none⟩ (zs.length - (k + 1)) (cap - (k + 1)) ((zs.drop (k + 1)).map Vint) (by simp)
      (fun j u hu => by
        rw [List.getElem?_map, List.getElem?_drop] at hu
        have := hu8.cell (hcells (k + 1 + j) u (by rw [List.getElem?_map]; exact hu)) (fun h => h)
        rw [Addr.add_lit]; simpa using this)
      (ones_vint _) (by unfold maxLen; omega) (by omega)
    have hu9 : Upd NoF w w9 := hu8.trans (Upd.grown (F := fun k => w.heap.size ≤ k) hg9 (fun k hk _ => ⟨hnew8 k hk, hrow8.isCells k hk⟩)) (fun i hi h => by omega)
    have hnew9 : ∀ k, v9.ownBlock = some k → w.heap.size ≤ k := by
      intro k hk
      rcases hf9 with hf | ⟨g, hf, hge⟩
      · rw [hf] at hk; exact hnew8 k hk
      · rw [hf] at hk; cases hk; have := hu8.size; omega
    obtain ⟨r1, r2, r3, r4⟩ := restore H.out hu9 (v9 := v9) (ys := zs.eraseIdx k) (by rw [hlen, herase, List.map_append]; rw [show k + (zs.length - (k + 1)) = zs.length - 1 from by omega] at hrow9; exact hrow9) hnew9
    have HF := Lib.hid (And.intro r3 r4)
    have HR8 := Lib.hid hrun8; have HR9 := Lib.hid hrun9
    obtain ⟨a8, cap8, rfl, hn8, _⟩ := hrow8.slice
    obtain ⟨a9, cap9, rfl, hn9, _⟩ := hrow9.slice
    clear hrun8 hrun9 hrow8 hrow9 hg8 hg9 hf8 hf9 hu8 hu9 hnew8 hnew9 r3 r4 hcells hrow herase hlen
    generalize zs.length = n at *
    have hne : ¬ cap = k + 1 := by omega
    have hi1 : (k : Int) + 1 ≤ (n : Int) := by omega
    go_enter Try.func25, Try.ntmps25
    go_wp2_with (first | (at_builtin; refine wpList_append_run (w := w) rfl _ _ 42 rfl rfl rfl HR8.out ?_) | (at_builtin; refine wpList_append_run (w := w8) rfl _ _ 42 rfl rfl rfl HR9.out ?_))
    go_ret2
    exact ⟨rfl, HF.out.1, _, _, rfl, HF.out.2⟩

section
variable {G : Nat → Prop} {w0 W : World} {L : List Obj} {b : Nat} {zs : List Int} {room : Int}
theorem s_put (h : Sep G w0 W L) (i : Nat) (hi : L[i]? = some (RPo (.pointer (some ⟨b, 0, none⟩)) zs room)) (x : Int) (hl : (zs.length : Int) < room) (hr : room ≤ 65536) :
    Calls Try.prog 24 #[.pointer (some ⟨b, 0, none⟩), .int .i64 x] W fun e W' => e = .returned (.int .i64 0) ∧ Sep G w0 W' (L.set i (RPo (.pointer (some ⟨b, 0, none⟩)) (zs ++ [x]) room)) :=
  h.call (E := fun e => e = _) i hi (fun F hF => put_ok W F b zs room x hF hl hr)
theorem s_put_full (h : Sep G w0 W L) (i : Nat) (hi : L[i]? = some (RPo (.pointer (some ⟨b, 0, none⟩)) zs room)) (x : Int) (hl : (zs.length : Int) = room) :
    Calls Try.prog 24 #[.pointer (some ⟨b, 0, none⟩), .int .i64 x] W fun e W' => e = .returned (.int .i64 7) ∧ Sep G w0 W' L :=
  h.reads (E := fun e => e = _) i hi (fun F hF => put_full W F b zs room x hF hl)
theorem s_take (h : Sep G w0 W L) (i : Nat) (hi : L[i]? = some (RPo (.pointer (some ⟨b, 0, none⟩)) zs room)) (k : Nat) (z : Int) (hl : zs[k]? = some z) (hb : zs.length ≤ 65536) :
    Calls Try.prog 25 #[.pointer (some ⟨b, 0, none⟩), .int .i64 k] W fun e W' => e = .returned (.tuple #[.int .i64 z, .int .i64 0]) ∧ Sep G w0 W' (L.set i (RPo (.pointer (some ⟨b, 0, none⟩)) (zs.eraseIdx k) room)) :=
  h.call (E := fun e => e = _) i hi (fun F hF => take_ok W F b zs room k z hF hl hb)
theorem s_take_bad (h : Sep G w0 W L) (i : Nat) (hi : L[i]? = some (RPo (.pointer (some ⟨b, 0, none⟩)) zs room)) (k : Int) (hl : k < 0 ∨ (zs.length : Int) ≤ k) :
    Calls Try.prog 25 #[.pointer (some ⟨b, 0, none⟩), .int .i64 k] W fun e W' => e = .returned (.tuple #[.int .i64 0, .int .i64 5]) ∧ W = W' :=
  h.looks (E := fun e => e = _) i hi (fun F hF => take_bad W F b zs room k hF hl)
end
end Go.Proofs.Ytlkpbhmifhoaiaa.PR
