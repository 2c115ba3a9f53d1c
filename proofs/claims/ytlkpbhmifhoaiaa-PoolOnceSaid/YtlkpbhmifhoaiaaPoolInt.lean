/- The contracts of the functions of pool.Pool[int]. -/
import Derived.Test.YtlkpbhmifhoaiaaPoolDef
import Derived.Test.YtlkpbhmifhoaiaaRange
import Derived.Deep.RegionWith
set_option linter.unusedSimpArgs false
set_option linter.unusedVariables false
namespace Go.Proofs.Ytlkpbhmifhoaiaa.PI
open Go.RowKit
attribute [local go_sem] Oper.semAt_some

abbrev Vint : Int → Value := fun z => .int .i64 z

theorem infoE : (Try.prog.info? 3).map (fun i => (i.zero, i.size, i.bytes)) = some (some (.int .i64 0), 1, 8) := by kernel_rfl

theorem at_bad (w : World) (F : Nat → Prop) (p : Value) (zs : List Int) (room i : Int) (h : PoolIs 64 3 1 w F p (onesOf Vint zs) room) (hl : i < 0 ∨ (zs.length : Int) ≤ i) :
    Calls Try.prog 21 #[p, .int .i64 i] w fun e w' => e = .returned (.tuple #[.int .i64 0, .int .i64 5]) ∧ w = w' := by
  obtain ⟨b, v, rfl, h⟩ := h
  obtain ⟨c0, c1, f0, hblt, a, cap, rfl, hn, hm, _⟩ := h.facts
  rw [onesOf_length] at hn c0
  clear h c1 f0
  generalize zs.length = n at *
  rcases hl with hl | hl
  · go_enter Try.func21, Try.ntmps21
    go_wp2
    go_ret2
    exact ⟨rfl, rfl⟩
  · have h0 : ¬ i < 0 := by omega
    go_enter Try.func21, Try.ntmps21
    go_wp2
    go_ret2
    exact ⟨rfl, rfl⟩

theorem at_ok (w : World) (F : Nat → Prop) (p : Value) (zs : List Int) (room : Int) (k : Nat) (z : Int) (h : PoolIs 64 3 1 w F p (onesOf Vint zs) room) (hl : zs[k]? = some z) :
    Calls Try.prog 21 #[p, .int .i64 k] w fun e w' => e = .returned (.tuple #[(.int .i64 z), .int .i64 0]) ∧ w = w' := by
  obtain ⟨b, v, rfl, h⟩ := h
  obtain ⟨c0, c1, f0, hblt, a, cap, rfl, hn, hm, hnil⟩ := h.facts
  have hrow := h.row
  rw [onesOf_flatten, onesOf_length] at hrow
  rw [onesOf_length] at hn c0 hnil
  have hk : k < zs.length := (List.getElem?_eq_some_iff.1 hl).1
  obtain ⟨a, rfl⟩ : ∃ x, a = some x := by
    cases a with
    | none => have := (hnil rfl).1; omega
    | some x => exact ⟨x, rfl⟩
  obtain ⟨⟨g, rfl⟩, hcell⟩ := hrow.cells
  have ck := hcell k (.int .i64 z) (by rw [List.getElem?_map, hl]; rfl)
  simp only [Nat.zero_add] at ck
  clear h c1 f0 hrow hnil hcell
  unfold maxLen at hm
  generalize zs.length = n at *
  clear hl
  go_enter Try.func21, Try.ntmps21
  go_wp2
  go_ret2
  exact ⟨rfl, rfl⟩

theorem at_nil (i : Int) (w : World) : Calls Try.prog 21 #[.pointer none, .int .i64 i] w fun e w' => e = .returned (.tuple #[.int .i64 0, .int .i64 1]) ∧ w = w' := by
  go_enter Try.func21, Try.ntmps21
  go_wp2
  go_ret2
  exact ⟨rfl, rfl⟩

theorem put_nil (x : Int) (w : World) : Calls Try.prog 11 #[.pointer none, (.int .i64 x)] w fun e w' => e = .returned (.int .i64 1) ∧ w = w' := by
  go_enter Try.func11, Try.ntmps11
  go_wp2
  go_ret
  exact ⟨rfl, rfl⟩

theorem len_any (w : World) (F : Nat → Prop) (p : Value) (zs : List Int) (room : Int) (h : PoolIs 64 3 1 w F p (onesOf Vint zs) room) :
    Calls Try.prog 13 #[p] w fun e w' => e = .returned (.int .i64 zs.length) ∧ w = w' := by
  obtain ⟨b, v, rfl, h⟩ := h
  obtain ⟨c0, c1, f0, hblt, a, cap, rfl, hn, hm, hnil⟩ := h.facts
  rw [onesOf_length] at hn c0
  clear h c1 f0
  go_enter Try.func13, Try.ntmps13
  go_wp2
  go_ret
  exact ⟨rfl, rfl⟩

theorem len_nil (w : World) : Calls Try.prog 13 #[.pointer none] w fun e w' => e = .returned (.int .i64 0) ∧ w = w' := by
  go_enter Try.func13, Try.ntmps13
  go_wp2
  go_ret
  exact ⟨rfl, rfl⟩

theorem room_any (w : World) (F : Nat → Prop) (p : Value) (zs : List Int) (room : Int) (h : PoolIs 64 3 1 w F p (onesOf Vint zs) room) (h0 : 0 ≤ room) (h1 : room ≤ 65536) (h2 : zs.length ≤ room) :
    Calls Try.prog 20 #[p] w fun e w' => e = .returned (.int .i64 (room - zs.length)) ∧ Upd NoF w w' := by
  obtain ⟨b, v, rfl, h⟩ := h
  obtain ⟨c0, c1, f0, hblt, a, cap, rfl, hn, hm, hnil⟩ := h.facts
  rw [onesOf_length] at hn c0
  clear h f0
  generalize zs.length = n at *
  go_enter Try.func20, Try.ntmps20
  go_wp2
  go_outline
  go_quiet (fail)
  go_wp2
  go_ret
  exact ⟨rfl, Upd.drewN _ _ _⟩

theorem room_nil (w : World) : Calls Try.prog 20 #[.pointer none] w fun e w' => e = .returned (.int .i64 0) ∧ w = w' := by
  go_enter Try.func20, Try.ntmps20
  go_wp2
  go_ret
  exact ⟨rfl, rfl⟩

theorem take_bad (w : World) (F : Nat → Prop) (p : Value) (zs : List Int) (room i : Int) (h : PoolIs 64 3 1 w F p (onesOf Vint zs) room) (hl : i < 0 ∨ (zs.length : Int) ≤ i) :
    Calls Try.prog 12 #[p, .int .i64 i] w fun e w' => e = .returned (.tuple #[.int .i64 0, .int .i64 5]) ∧ w = w' := by
  have H := Lib.hid h
  have HL := Lib.hid hl
  obtain ⟨b, v, rfl, h⟩ := h
  clear h hl
  go_enter Try.func12, Try.ntmps12
  go_wp2_with (go_at_call 21; refine (at_bad _ _ _ _ _ _ H.out HL.out).mono ?_; rintro e w' ⟨rfl, rfl⟩)
  go_ret2
  exact ⟨rfl, rfl⟩

theorem take_nil (i : Int) (w : World) : Calls Try.prog 12 #[.pointer none, .int .i64 i] w fun e w' => e = .returned (.tuple #[.int .i64 0, .int .i64 1]) ∧ w = w' := by
  go_enter Try.func12, Try.ntmps12
  go_wp2_with (go_at_call 21; refine (at_nil _ _).mono ?_; rintro e w' ⟨rfl, rfl⟩)
  go_ret2
  exact ⟨rfl, rfl⟩

set_option maxHeartbeats 2000000 in
theorem take_ok (w : World) (F : Nat → Prop) (p : Value) (zs : List Int) (room : Int) (k : Nat) (z : Int) (h : PoolIs 64 3 1 w F p (onesOf Vint zs) room) (hl : zs[k]? = some z) (hb : zs.length ≤ 65536) :
    Calls Try.prog 12 #[p, .int .i64 k] w fun e w' => e = .returned (.tuple #[(.int .i64 z), .int .i64 0]) ∧ Upd F w w' ∧ PoolIs 64 3 1 w' (AndNew F w) p (onesOf Vint (zs.eraseIdx k)) room := by
  have H := Lib.hid h
  have HL := Lib.hid hl
  obtain ⟨b, v, rfl, h⟩ := h
  have hk : k < zs.length := (List.getElem?_eq_some_iff.1 hl).1
  obtain ⟨c0, c1, f0, hblt, a, cap, rfl, hn, hm, hnil⟩ := h.facts
  rw [onesOf_length] at hn c0 hnil
  simp only [onesOf_length] at h
  obtain ⟨a, rfl⟩ : ∃ x, a = some x := by
    cases a with
    | none => have := (hnil rfl).1; omega
    | some x => exact ⟨x, rfl⟩
  have hrow := h.row
  rw [onesOf_flatten, onesOf_length] at hrow
  obtain ⟨⟨g, rfl⟩, hcell⟩ := hrow.cells
  unfold maxLen at hm
  have HP := Lib.hid h
  clear h hl hnil hrow hcell c1
  generalize hz' : zs.length = n at *
  have Hz := Lib.hid hz'
  clear hz'
  have hkc : k ≤ cap := by omega
  have hw1 : IntKind.i64.wrap ((k : Int) + 1) = (k : Int) + 1 := IntWalk.i64_in _ (by omega)
  have hk0 : (0 : Int) ≤ (k : Int) + 1 := by omega
  have hkt : ((k : Int) + 1).toNat = k + 1 := by omega
  have hud := Upd.drew NoF w
  have HPd := HP.out.upd hud (fun _ _ h => h)
  have hrowd : Row w.drew 3 1 (.slice (some ⟨g, 0, none⟩) n cap) n (zs.map Vint) := by
    have := HPd.row; rw [onesOf_flatten, onesOf_length, Hz.out] at this; exact this
  have herase : zs.eraseIdx k = zs.take k ++ zs.drop (k + 1) := List.eraseIdx_eq_take_drop_succ zs k
  have hpre := hrowd.prefix (k := k) (by omega)
  rw [Nat.mul_one, ← List.map_take] at hpre
  have hlen : (zs.eraseIdx k).length = n - 1 := by rw [List.length_eraseIdx, Hz.out, if_pos (by omega)]
  by_cases hlast : n = k + 1
  · have he2 : zs.eraseIdx k = zs.take k := by rw [herase, List.drop_eq_nil_of_le (by rw [Hz.out]; omega), List.append_nil]
    obtain ⟨c2, f2, hup, hfin⟩ := HPd.stored0 (ys := onesOf Vint (zs.eraseIdx k)) (w1 := w.drew) (v' := .slice (some ⟨g, 0, none⟩) k k) ⟨rfl, rfl, rfl, Nat.le_refl _, fun _ _ _ => rfl⟩
      (fun y hy => by simp [onesOf] at hy; obtain ⟨_, _, rfl⟩ := hy; rfl)
      (by rw [onesOf_flatten, onesOf_length, hlen, he2, hlast]; simpa using hpre) (.inl rfl)
    have HF : Hid (Upd F w (w.drew.setCell ⟨b, 0, none⟩ (.slice (some ⟨g, 0, none⟩) k k)) ∧ PoolIs 64 3 1 (w.drew.setCell ⟨b, 0, none⟩ (.slice (some ⟨g, 0, none⟩) k k)) (AndNew F w) (.pointer (some ⟨b, 0, none⟩)) (onesOf Vint (zs.eraseIdx k)) room) :=
      ⟨(hud.mono (fun _ _ h => h.elim)).trans hup (fun _ _ h => h), _, _, rfl, hfin.mono (AndNew.le hud.size)⟩
    obtain ⟨i0, hi, hz0, hz1, hz2⟩ := info_parts infoE
    clear hpre hrowd HPd hud hlen he2 herase hup hfin
    subst hlast
    have hk1' : (k : Int) ≤ (k : Int) + 1 := by omega
    have HR : ∀ a c, Hid ((Builtin.append_ #[42, 42] 42 #[.slice (some ⟨g, 0, none⟩) k k, .slice a 0 c]).run Try.prog w.drew = .ok (.slice (some ⟨g, 0, none⟩) k k) w.drew) :=
      fun a c => run_append_zero w.drew 42 42 3 i0 Try.underlying42 hi _ k k (Nat.le_refl _) a c
    by_cases hc : cap = k + 1
    · subst hc
      go_enter Try.func12, Try.ntmps12
      go_wp2_with (go_at_call 21; refine (at_ok _ _ _ _ _ _ _ H.out HL.out).mono ?_; rintro e w' ⟨rfl, rfl⟩)
      go_region_law (refine step_append_run rfl _ _ 42 rfl rfl rfl (HR _ _).out ?_)
      all_goals (go_wp2; go_ret2; exact ⟨rfl, HF.out⟩)
    · go_enter Try.func12, Try.ntmps12
      go_wp2_with (go_at_call 21; refine (at_ok _ _ _ _ _ _ _ H.out HL.out).mono ?_; rintro e w' ⟨rfl, rfl⟩)
      go_region_law (refine step_append_run rfl _ _ 42 rfl rfl rfl (HR _ _).out ?_)
      all_goals (go_wp2; go_ret2; exact ⟨rfl, HF.out⟩)
  · have hlt : k + 1 < n := by omega
    have hne : ¬ cap = k + 1 := by omega
    have hi1 : (k : Int) + 1 ≤ (n : Int) := by omega
    obtain ⟨i0, hi, hz0, hz1, hz2⟩ := info_parts infoE
    have hcells := (show Row w.drew 3 1 (.slice (some ⟨g, 0, none⟩) n cap) n (zs.map Vint) from hrowd).cells.2
    obtain ⟨v9, w1, hrun, hrow9, hg, hf⟩ := run_append_row (P := Try.prog) w.drew 42 42 3 i0 (.int .i64 0) 1 8 Try.underlying42 hi hz0 hz1 hz2 rfl (by decide) (.slice (some ⟨g, 0, none⟩) k k) k ((zs.take k).map Vint) hpre
      ⟨g, k + 1, none⟩ (n - (k + 1)) (cap - (k + 1)) ((zs.drop (k + 1)).map Vint) (by simp [Hz.out])
      (fun j u hu => by
        rw [List.getElem?_map, List.getElem?_drop] at hu
        have := hcells (k + 1 + j) u (by rw [List.getElem?_map]; exact hu)
        rw [Addr.add_lit]; simpa using this)
      (fun u hu => by obtain ⟨_, _, rfl⟩ := List.mem_map.1 hu; rfl) (by unfold maxLen; omega) (by have := Hz.out; omega)
    obtain ⟨c2, f2, hup, hfin⟩ := HPd.stored0 (ys := onesOf Vint (zs.eraseIdx k)) (w1 := w1) (v' := v9) hg
      (fun y hy => by simp [onesOf] at hy; obtain ⟨_, _, rfl⟩ := hy; rfl)
      (by rw [onesOf_flatten, onesOf_length, hlen, herase, List.map_append]
          rw [show k + (n - (k + 1)) = n - 1 from by omega] at hrow9; exact hrow9) hf
    have HF : Hid (Upd F w (w1.setCell ⟨b, 0, none⟩ v9) ∧ PoolIs 64 3 1 (w1.setCell ⟨b, 0, none⟩ v9) (AndNew F w) (.pointer (some ⟨b, 0, none⟩)) (onesOf Vint (zs.eraseIdx k)) room) :=
      ⟨(hud.mono (fun _ _ h => h.elim)).trans hup (fun _ _ h => h), _, _, rfl, hfin.mono (AndNew.le hud.size)⟩
    obtain ⟨a9, cap9, rfl, _⟩ := hrow9.slice
    have HR := Lib.hid hrun
    clear hpre hrowd HPd hud hlen herase hrow9 hrun hg hf hup hfin hcells
    go_enter Try.func12, Try.ntmps12
    go_wp2_with (go_at_call 21; refine (at_ok _ _ _ _ _ _ _ H.out HL.out).mono ?_; rintro e w' ⟨rfl, rfl⟩)
    go_region_law (refine step_append_run rfl _ _ 42 rfl rfl rfl HR.out ?_)
    all_goals (go_wp2; go_ret2; exact ⟨rfl, HF.out⟩)

theorem put_ok (w : World) (F : Nat → Prop) (p : Value) (zs : List Int) (room : Int) (x : Int) (h : PoolIs 64 3 1 w F p (onesOf Vint zs) room) (hl : (zs.length : Int) < room) (hr : room ≤ 65536) :
    Calls Try.prog 11 #[p, (.int .i64 x)] w fun e w' => e = .returned (.int .i64 0) ∧ Upd F w w' ∧ PoolIs 64 3 1 w' (AndNew F w) p (onesOf Vint (zs ++ [x])) room := by
  have e9 : onesOf Vint (zs ++ [x]) = onesOf Vint zs ++ [[Vint x]] := by simp [onesOf]
  rw [e9]
  rw [← onesOf_length Vint zs] at hl
  obtain ⟨b, v, rfl, h⟩ := h
  obtain ⟨c0, c1, f0, hblt, a, cap, rfl, hn, hm, _⟩ := h.facts
  obtain ⟨i0, hi, hz0, hz1, hz2⟩ := info_parts infoE
  have H := Lib.hid h
  generalize hn' : (onesOf Vint zs).length = n at *
  have Hn := Lib.hid hn'
  clear h hn'
  go_enter Try.func11, Try.ntmps11
  go_wp2
  go_quiet (fail)
  rename_i nq
  obtain ⟨w0, hw0, hh, hu⟩ := drewN_is w nq
  rw [hw0]
  have H0 := H.out.upd hu (fun k hk hk' => hk')
  clear hw0
  obtain ⟨v9, w1, hrun, hrow, hg, hf⟩ := run_append_row (P := Try.prog) (w0.alloc (.cells #[(.int .i64 x)] 3)) 42 42 3 i0 (.int .i64 0) 1 8 Try.underlying42 hi hz0 hz1 hz2 rfl (by decide) (.slice a n cap) n (onesOf Vint zs).flatten
    (by have := H0.row; rw [Hn.out] at this; exact this.alloc _) ⟨w0.heap.size, 0, none⟩ 1 1 [(.int .i64 x)] rfl (cell_one_new _ _ _) (by simp [Value.oneCell']) (by unfold maxLen; omega) (by omega)
  obtain ⟨c2, f2, hup, hfin⟩ := H0.stored (ys := onesOf Vint zs ++ [[(.int .i64 x)]]) (w1 := w1) (v' := v9) (.cells #[(.int .i64 x)] 3) hg (fun y hy => by simp at hy; rcases hy with hy | rfl; exact H0.len y hy; rfl)
    (by have hl : (onesOf Vint zs ++ [[Vint x]]).length = n + 1 := by simp [Hn.out]
        rw [hl]; simpa using hrow) hf
  obtain ⟨c0', c1', f0', hblt', _⟩ := H0.facts
  have HR := Lib.hid hrun
  have HF : Hid (Upd F w (w1.setCell ⟨b, 0, none⟩ v9) ∧ PoolIs 64 3 1 (w1.setCell ⟨b, 0, none⟩ v9) (AndNew F w) (.pointer (some ⟨b, 0, none⟩)) (onesOf Vint zs ++ [[(.int .i64 x)]]) room) :=
    ⟨(hu.mono (fun _ _ h => h.elim)).trans hup (fun _ _ h => h), _, _, rfl, hfin.mono (AndNew.le hu.size)⟩
  obtain ⟨a9, cap9, rfl, _⟩ := hrow.slice
  clear hrun hrow hg hf hup hfin H0 c0 c1 f0 hh hu
  go_wp2_with (at_builtin; refine wpList_append_run rfl _ _ 42 rfl rfl rfl HR.out ?_)
  go_ret
  exact ⟨rfl, HF.out⟩

theorem new_bad (room : Int) (hr : room < 1 ∨ 65536 < room) (w : World) : Calls Try.prog 10 #[.int .i64 room] w fun e w' => e = .returned (.tuple #[.pointer none, .int .i64 2]) ∧ w = w' := by
  rcases hr with h | h
  · go_enter Try.func10, Try.ntmps10
    go_wp2
    go_ret2
    exact ⟨rfl, rfl⟩
  · have h2 : ¬ room < 1 := by omega
    go_enter Try.func10, Try.ntmps10
    go_wp2
    go_ret2
    exact ⟨rfl, rfl⟩

theorem new_raw (room : Int) (h1 : 1 ≤ room) (h2 : room ≤ 65536) (w : World) : Calls Try.prog 10 #[.int .i64 room] w fun e w' => e = .returned (.tuple #[.pointer (some ⟨w.heap.size, 0, none⟩), .int .i64 0]) ∧ w.alloc (.cells #[.slice none 0 0, .int .i64 room] 64) = w' := by
  go_enter Try.func10, Try.ntmps10
  go_wp2
  go_ret2
  exact ⟨rfl, rfl⟩

theorem new_ok (room : Int) (h1 : 1 ≤ room) (h2 : room ≤ 65536) (w : World) : Calls Try.prog 10 #[.int .i64 room] w fun e w' => ∃ b, e = .returned (.tuple #[.pointer (some ⟨b, 0, none⟩), .int .i64 0]) ∧ Upd NoF w w' ∧ PoolIs 64 3 1 w' (fun k => w.heap.size ≤ k) (.pointer (some ⟨b, 0, none⟩)) (onesOf Vint []) room :=
  (new_raw room h1 h2 w).mono fun e w' ⟨he, hw⟩ => by
    subst hw
    exact ⟨_, he, Upd.alloc _ _ _, _, _, rfl, Blk.new w _ _, Nat.le_refl _, fun x hx => by simp [onesOf] at hx, Row.nil _ _ _, fun k hk => by simp [Value.ownBlock] at hk⟩

theorem all_any (p : Value) (w : World) (hp : ∃ a, p = .pointer a) : Calls Try.prog 18 #[p] w fun e w' => e = .returned (.func (.func 32) #[] #[.pointer (some ⟨w.heap.size, 0, none⟩)]) ∧ w.alloc (.cells #[p] 24) = w' := by
  obtain ⟨a, rfl⟩ := hp
  go_enter Try.func18, Try.ntmps18
  go_wp2
  go_ret
  exact ⟨rfl, rfl⟩

set_option maxRecDepth 100000 in
set_option maxHeartbeats 2000000 in
theorem all_seq (B : Nat) (zs : List Int) (p : Value) (room : Int) (F K : Nat → Prop) (hFK : ∀ k, F k → ¬ K k) (hBK : ¬ K B) (w : World) (hB0 : w.cell? ⟨B, 0, none⟩ = some p)
    (hP0 : PoolIs 64 3 1 w F p (onesOf Vint zs) room) :
    SeqL Try.prog 32 #[.pointer (some ⟨B, 0, none⟩)] (fun x : Nat × Int => #[Value.int .i64 (x.1 : Int), Vint x.2]) (idxs zs) NoF K w := by
  intro l J Jx W hW _ _ hY h0
  have hB := hW.cell hB0 (fun h => h)
  have hP := hP0.upd hW (fun _ _ h => h)
  clear hB0 hP0
  obtain ⟨b, v, rfl, hP⟩ := hP
  obtain ⟨c0, c1, f0, hblt, a, cap, rfl, hn, hm, hnil⟩ := hP.facts
  have hrow := hP.row
  rw [onesOf_flatten, onesOf_length] at hrow
  simp only [onesOf_length] at hn c0 hnil hrow hP
  have hg : ∀ g, a = some g → ¬ K g.block ∧ g.off = 0 ∧ g.spot = none ∧ ∀ j z, zs[j]? = some z → W.cell? ⟨g.block, g.off + j, none⟩ = some (.int .i64 z) := by
    rintro g rfl
    obtain ⟨⟨g', rfl⟩, hcell⟩ := hrow.cells
    exact ⟨hFK _ (hP.apart _ rfl).1, rfl, rfl, fun j z hz => hcell j _ (by rw [List.getElem?_map, hz]; rfl)⟩
  have hlen : (idxs zs).length = zs.length := idxs_length zs
  unfold maxLen at hm
  have HG := Lib.hid hg
  have Hnil := Lib.hid hnil
  have HL := Lib.hid hlen
  have HW := Lib.hid hW
  clear hrow hP c1 f0 hnil hg hlen hW
  refine callsIn_of_wp Try.func32 rfl trivial ?_ rfl
  simp only [Try.ntmps32, List.size_toArray, List.length_cons, List.length_nil, Nat.reduceAdd, Nat.reduceSub, Array.replicate_succ, Array.replicate_zero, List.push_toArray, List.append_toArray, List.nil_append, List.cons_append]
  gi_wp2
  gi_loopw [12] (fun i wr => ∃ k : Nat, k ≤ zs.length ∧ i = .int .i64 k ∧ J k wr ∧ Hid (Upd K W wr))
    (fun i _ => zs.length - (intOf i).toNat)
  case atStart => exact ⟨0, Nat.zero_le _, rfl, h0, Upd.refl _ _⟩
  case round =>
    obtain ⟨k, hk, rfl, hJs, hnx⟩ := hrel
    by_cases hlt : k < zs.length
    · obtain ⟨g, rfl⟩ : ∃ x, a = some x := by
        cases a with
        | none => have := (Hnil.out rfl).1; omega
        | some x => exact ⟨x, rfl⟩
      have hz : zs[k]? = some zs[k] := List.getElem?_eq_getElem hlt
      generalize zs[k] = z at hz
      obtain ⟨hgn, hg1, hg2, hgc⟩ := HG.out g rfl
      obtain ⟨gb, go, gs⟩ := g
      simp only at hg1 hg2 hgn hgc
      subst hg1 hg2
      have hcx : wr.cell? ⟨gb, k, none⟩ = some (.int .i64 z) := by
        have := hgc k z hz
        rw [Nat.zero_add] at this
        exact hnx.out.cell this hgn
      obtain ⟨fn, tmps, assign, body, hy, hR⟩ := hY k (k, z) wr hJs (by rw [idxs_get, hz]; rfl)
      clear hgc hz
      dsimp only at hy
      gi_wp2
      refine hR.mono ?_
      rintro e W3 (⟨rfl, hJ3, hk3⟩ | ⟨rfl, hJx3⟩)
      · gi_wp2
        go_roundw
        case rel => exact ⟨k + 1, by omega, by simp, hJ3, hnx.out.trans hk3 (fun _ _ h => h)⟩
        case measure => simp [intOf]; omega
      · gi_wp2
        refine bodyPost_ret (results_none rfl _ _ _) rfl ?_
        exact ⟨⟨_, rfl⟩, .inr ⟨k, by rw [HL.out]; exact hlt, hJx3⟩⟩
    · obtain rfl : k = zs.length := by omega
      gi_wp2
      go_end0
      exact ⟨⟨_, rfl⟩, .inl (by rw [HL.out]; exact hJs)⟩

set_option maxRecDepth 100000 in
set_option maxHeartbeats 2000000 in
theorem first_any (w : World) (F : Nat → Prop) (p : Value) (zs : List Int) (room : Int) (hP : PoolIs 64 3 1 w F p (onesOf Vint zs) room) (hF : ∀ k, F k → k < w.heap.size)
    (f : Nat) (cap : Array Value) (g : Int → Bool) (ef : ∀ args w, (callFunc f args).run Try.prog w = .ok (.enter f args) w)
    (hf : ∀ (x : Int) (W : World), Upd NoF w W → Calls Try.prog f (#[(.int .i64 x)] ++ cap) W fun e w' => e = .returned (.bool (g x)) ∧ W = w') :
    Calls Try.prog 22 #[p, .func (.func f) #[] cap] w fun e w' => e = .returned (.int .i64 (firstAt g zs)) ∧ Upd NoF w w' := by
  have HP := Lib.hid hP
  obtain ⟨b, v, rfl, hP⟩ := hP
  clear hP
  have hef := fun (W : World) => run_eql_func_nil (P := Try.prog) W Try.underlying59 (.func f) #[] cap
  have Hf := Lib.hid hf
  clear hf
  refine calls_of_wp_marks Try.func22 rfl ?_
  simp only [Try.ntmps22, List.size_toArray, List.length_cons, List.length_nil, Nat.reduceAdd, Nat.reduceSub, Array.replicate_succ, Array.replicate_zero, List.push_toArray, List.append_toArray, List.nil_append, List.cons_append]
  go_wp2_with (go_at_call 18; refine (all_any _ _ ⟨_, rfl⟩).mono ?_; rintro e w' ⟨rfl, rfl⟩)
  have hU0 : Upd NoF w (((w.alloc (.cells #[.func (.func f) #[] cap] 59)).alloc (.cells #[.int .i64 0] 3)).alloc (.cells #[.pointer (some ⟨b, 0, none⟩)] 24)) :=
    ((Upd.alloc NoF w _).trans (Upd.alloc NoF _ _) (fun _ _ h => h)).trans (Upd.alloc NoF _ _) (fun _ _ h => h)
  have b1 : Blk (((w.alloc (.cells #[.func (.func f) #[] cap] 59)).alloc (.cells #[.int .i64 0] 3)).alloc (.cells #[.pointer (some ⟨b, 0, none⟩)] 24)) w.heap.size #[.func (.func f) #[] cap] 59 := ((Blk.new w _ _).alloc _).alloc _
  have b2 : Blk (((w.alloc (.cells #[.func (.func f) #[] cap] 59)).alloc (.cells #[.int .i64 0] 3)).alloc (.cells #[.pointer (some ⟨b, 0, none⟩)] 24)) (w.heap.size + 1) #[.int .i64 0] 3 := by
    have := (Blk.new (w.alloc (.cells #[.func (.func f) #[] cap] 59)) #[.int .i64 0] 3).alloc (.cells #[.pointer (some ⟨b, 0, none⟩)] 24)
    rwa [World.size_alloc] at this
  have b3 : Blk (((w.alloc (.cells #[.func (.func f) #[] cap] 59)).alloc (.cells #[.int .i64 0] 3)).alloc (.cells #[.pointer (some ⟨b, 0, none⟩)] 24)) (w.heap.size + 1 + 1) #[.pointer (some ⟨b, 0, none⟩)] 24 := by
    have := (Blk.new ((w.alloc (.cells #[.func (.func f) #[] cap] 59)).alloc (.cells #[.int .i64 0] 3)) #[.pointer (some ⟨b, 0, none⟩)] 24)
    rwa [World.size_alloc, World.size_alloc] at this
  obtain ⟨W0, hW0⟩ : ∃ W0, (((w.alloc (.cells #[.func (.func f) #[] cap] 59)).alloc (.cells #[.int .i64 0] 3)).alloc (.cells #[.pointer (some ⟨b, 0, none⟩)] 24)) = W0 := ⟨_, rfl⟩
  have hs0 : W0.heap.size = w.heap.size + 3 := by rw [← hW0]; simp
  rw [hW0] at hU0 b1 b2 b3 ⊢
  clear hW0
  have hP0 := HP.out.upd hU0 (fun _ _ h => h)
  refine wp_range (gf := 32) (lb := #[.pointer (some ⟨w.heap.size + 1 + 1, 0, none⟩)]) rfl (enters_of Try.func32 (by kernel_rfl) rfl)
    (all_seq (w.heap.size + 1 + 1) zs _ room F (fun k => k = w.heap.size + 1 ∨ w.heap.size + 3 ≤ k) (fun k hk => by have := hF k hk; omega) (by omega) W0 (b3.cell 0) hP0) (fun _ => rfl) (fun _ h => h.elim) (fun k hk => .inr (by omega))
    (fun k W => (∀ j z, j < k → zs[j]? = some z → g z = false) ∧ Blk W w.heap.size #[.func (.func f) #[] cap] 59 ∧ Blk W (w.heap.size + 1) #[.int .i64 0] 3 ∧ Upd NoF w W)
    (fun c k W => c = .ret ∧ (∀ j z, j < k → zs[j]? = some z → g z = false) ∧ (∃ z, zs[k]? = some z ∧ g z = true) ∧ Blk W (w.heap.size + 1) #[.int .i64 (k : Int)] 3 ∧ Upd NoF w W)
    (fun k A B hs hb => ⟨hs.1, hs.2.1.bk hb (fun h => h), hs.2.2.1.bk hb (fun h => h), hs.2.2.2.bk hb (by omega) (fun _ h => h.elim)⟩)
    (fun c k A B hs hb => ⟨hs.1, hs.2.1, hs.2.2.1, hs.2.2.2.1.bk hb (fun h => h), hs.2.2.2.2.bk hb (by omega) (fun _ h => h.elim)⟩)
    ⟨fun j z hj => by omega, b1, b2, hU0⟩
    ?round ?done ?stop
  case round =>
    intro l k x hx W0' K' hK'
    gi_wp2
    rintro W ⟨hne, q1, q2, hB⟩
    rw [idxs_get, Option.map_eq_some_iff] at hx
    obtain ⟨z, hz, rfl⟩ := hx
    have hfx := Lib.hid (Hf.out z W hB)
    have hc1 : W.cell? ⟨w.heap.size, 0, none⟩ = some (.func (.func f) #[] cap) := q1.cell 0
    have hc2 : W.cell? ⟨w.heap.size + 1, 0, none⟩ = some (.int .i64 0) := q2.cell 0
    have hf2 := q2.frozen 0
    have HZ := Lib.hid hz
    have HN := Lib.hid hne
    clear hz hne
    cases hgx : g z
    · rw [hgx] at hfx
      have HG := Lib.hid hgx
      clear hgx
      gi_wp2_with (refine ⟨trivial, ?_⟩; refine (CallsIn.inRound l (callsIn_wide.2 hfx.out)).mono ?_; rintro e w' ⟨rfl, rfl⟩)
      refine ⟨Upd.refl _ _, fun j z' hj hz' => ?_, q1, q2, hB⟩
      rcases Nat.lt_succ_iff_lt_or_eq.1 hj with h | rfl
      · exact HN.out j z' h hz'
      · rw [HZ.out] at hz'; cases hz'; exact HG.out
    · rw [hgx] at hfx
      have HG := Lib.hid hgx
      clear hgx
      gi_wp2_with (refine ⟨trivial, ?_⟩; refine (CallsIn.inRound l (callsIn_wide.2 hfx.out)).mono ?_; rintro e w' ⟨rfl, rfl⟩)
      exact ⟨Upd.setCell _ (p := ⟨w.heap.size + 1, 0, none⟩) (.inl rfl) _, rfl, HN.out, ⟨z, HZ.out, HG.out⟩, q2.set 0 _, hB.trans (Upd.setCell (F := fun k => k = w.heap.size + 1) _ (p := ⟨w.heap.size + 1, 0, none⟩) rfl _) (fun i hi h => by omega)⟩
  case done =>
    rintro D W hD ⟨hne, q1, q2, hB⟩ hK
    have hc2 : W.cell? ⟨w.heap.size + 1, 0, none⟩ = some (.int .i64 0) := q2.cell 0
    have hf2 := q2.frozen 0
    have hfin := Lib.hid (firstAt_none (g := g) (zs := zs) (fun j z h => hne j z (by rw [idxs_length]; exact (List.getElem?_eq_some_iff.1 h).1) h))
    have HB := Lib.hid hB
    clear hne hB
    go_wp2
    have q2' := q2.set 0 (.int .i64 (-1))
    have hK' := (Upd.setCell (F := fun k => k = w.heap.size + 1) W (p := ⟨w.heap.size + 1, 0, none⟩) rfl (.int .i64 (-1))).others.same D _ hK rfl
    have q3 := q2'.bk (Bk.putObj (n := w.heap.size) (G := NoF) hK' rfl (by omega) (.deferred none)) (fun h => h)
    have hc5 : _ = some (Value.int .i64 (-1)) := q3.cell 0
    refine postM_ret1 hK' (v := .int .i64 (-1)) (by simp [results, Try.f22, go_sem, hc5]) ⟨by rw [hfin.out], ?_⟩
    exact ((HB.out.trans (Upd.setCell (F := fun k => k = w.heap.size + 1) _ (p := ⟨w.heap.size + 1, 0, none⟩) rfl _) (fun i hi h => by omega)).bk (Bk.putObj (n := w.heap.size) (G := NoF) hK' rfl (by omega) _) (Nat.le_refl _) (fun _ h => h.elim))
  case stop =>
    rintro D c k W hD hkl ⟨rfl, hne, ⟨z, hz, hgz⟩, q2, hB⟩ hK
    have hfin := Lib.hid (firstAt_some (g := g) hz hne hgz)
    have HB := Lib.hid hB
    clear hne hz hgz hB
    go_wp2
    have q3 := q2.bk (Bk.putObj (n := w.heap.size) (G := NoF) hK rfl (by omega) (.deferred none)) (fun h => h)
    have hc5 : _ = some (Value.int .i64 (k : Int)) := q3.cell 0
    refine postM_ret1 hK (v := .int .i64 (k : Int)) (by simp [results, Try.f22, go_sem, hc5]) ⟨by rw [hfin.out], ?_⟩
    exact HB.out.bk (Bk.putObj (n := w.heap.size) (G := NoF) hK rfl (by omega) _) (Nat.le_refl _) (fun _ h => h.elim)

theorem clone_any (w : World) (v : Value) (zs : List Int) (hrow : Row w 3 1 v zs.length (zs.map Vint)) (hb : zs.length ≤ 65536) :
    Calls Try.prog 33 #[v] w fun e w' => ∃ v', e = .returned v' ∧ Upd NoF w w' ∧ Row w' 3 1 v' zs.length (zs.map Vint) ∧ ∀ k, v'.ownBlock = some k → w.heap.size ≤ k := by
  have hrow0 := hrow
  obtain ⟨a, cap, rfl, hn, hm, hnil⟩ := hrow.slice
  cases a with
  | none =>
    obtain ⟨h0, rfl⟩ := hnil rfl
    have hz : zs = [] := List.eq_nil_of_length_eq_zero h0
    subst hz
    have he := fun W => Lib.run_eql_slice_nil (P := Try.prog) (w := W) 42 3 none 0 0 0 0 Try.underlying42
    go_enter Try.func33, Try.ntmps33
    go_wp2
    go_ret
    exact ⟨_, rfl, Upd.refl _ _, Row.nil _ _ _, fun k hk => by simp [Value.ownBlock] at hk⟩
  | some a =>
    obtain ⟨⟨g, rfl⟩, hcells⟩ := hrow.cells
    have he := fun W => Lib.run_eql_slice_nil (P := Try.prog) (w := W) 42 3 (some ⟨g, 0, none⟩) zs.length cap 0 0 Try.underlying42
    obtain ⟨i0, hi, hz0, hz1, hz2⟩ := info_parts infoE
    obtain ⟨v9, w1, hrun, hrow9, hgr, hf⟩ := run_append_row (P := Try.prog) (w.alloc (.cells #[] 3)) 42 42 3 i0 (.int .i64 0) 1 8 Try.underlying42 hi hz0 hz1 hz2 rfl (by decide) (.slice (some ⟨w.heap.size, 0, none⟩) 0 0) 0 []
      ⟨rfl, .inr ⟨_, 0, #[], rfl, World.alloc_heap_new w _, Nat.le_refl _, by unfold maxLen; omega, by simp, rfl⟩⟩ ⟨g, 0, none⟩ zs.length cap (zs.map Vint) (by simp)
      (fun j u hu => by
        have := hcells j u hu
        rw [Addr.add_lit]
        exact (Upd.alloc NoF w _).cell (by simpa using this) (fun h => h))
      (fun u hu => by obtain ⟨_, _, rfl⟩ := List.mem_map.1 hu; rfl) (by unfold maxLen; omega) (by omega)
    have hU : Upd NoF w w1 := (Upd.alloc NoF w _).trans (Upd.grown (F := fun k => k = w.heap.size) hgr (fun k hk _ => by simp [Value.ownBlock] at hk; subst hk; exact ⟨rfl, _, World.alloc_heap_new w _, rfl⟩)) (fun i hi h => by omega)
    have hfr : ∀ k, v9.ownBlock = some k → w.heap.size ≤ k := by
      intro k hk
      rcases hf with h | ⟨g', h, h'⟩
      · rw [h] at hk; simp [Value.ownBlock] at hk; omega
      · rw [h] at hk; cases hk; simp at h'; omega
    have HR := Lib.hid hrun
    obtain ⟨a9, cap9, rfl, _⟩ := hrow9.slice
    simp only [Nat.zero_add, List.nil_append] at hrow9 hfr
    have HF := Lib.hid (And.intro hU (And.intro hrow9 hfr))
    clear hrun hrow9 hgr hf hU hfr hcells hrow hrow0 hnil
    go_enter Try.func33, Try.ntmps33
    go_wp2_with (at_builtin; refine wpList_append_run rfl _ _ 42 rfl rfl rfl HR.out ?_)
    go_ret
    exact ⟨_, rfl, HF.out⟩

theorem made {w w1 : World} {v1 : Value} {zs : List Int} {room : Int} (hu : Upd NoF w w1) (hr : Row w1 3 1 v1 zs.length (zs.map Vint)) (hf : ∀ k, v1.ownBlock = some k → w.heap.size ≤ k) :
    Upd NoF w (w1.alloc (.cells #[v1, .int .i64 room] 64)) ∧ PoolIs 64 3 1 (w1.alloc (.cells #[v1, .int .i64 room] 64)) (fun k => w.heap.size ≤ k) (.pointer (some ⟨w1.heap.size, 0, none⟩)) (onesOf Vint zs) room :=
  ⟨hu.trans (Upd.alloc NoF _ _) (fun _ _ h => h), _, _, rfl, Blk.new w1 _ _, hu.size, fun x hx => by simp [onesOf] at hx; obtain ⟨_, _, rfl⟩ := hx; rfl,
    by rw [onesOf_flatten, onesOf_length]; exact hr.alloc _, fun k hk => ⟨hf k hk, by have := hr.lt k hk; omega⟩⟩

theorem copy_nil (w : World) : Calls Try.prog 19 #[.pointer none] w fun e w' => e = .returned (.pointer none) ∧ w = w' := by
  go_enter Try.func19, Try.ntmps19
  go_wp2
  go_ret
  exact ⟨rfl, rfl⟩

theorem copy_any (w : World) (F : Nat → Prop) (p : Value) (zs : List Int) (room : Int) (h : PoolIs 64 3 1 w F p (onesOf Vint zs) room) (hb : zs.length ≤ 65536) :
    Calls Try.prog 19 #[p] w fun e w' => ∃ q, e = .returned q ∧ Upd NoF w w' ∧ PoolIs 64 3 1 w' (fun k => w.heap.size ≤ k) q (onesOf Vint zs) room := by
  obtain ⟨b, v, rfl, h⟩ := h
  obtain ⟨c0, c1, f0, hblt, a, cap, rfl, hn, hm, hnil⟩ := h.facts
  have hrow := h.row
  rw [onesOf_flatten, onesOf_length] at hrow
  simp only [onesOf_length] at c0
  have HR := Lib.hid hrow
  have Hb := Lib.hid hb
  clear h f0 hrow hb hnil hn hm
  go_enter Try.func19, Try.ntmps19
  go_wp2
  go_region_with (go_at_call 33; refine (clone_any _ _ zs (HR.out.upd (Upd.drew NoF w) (fun _ _ h => h)) Hb.out).mono ?_; rintro e w1 ⟨v1, rfl, hu1, hr1, hf1⟩; have c1' := hu1.cell (a := ⟨b, 1, none⟩) c1 (fun h => h); obtain ⟨a1, cap1, rfl, _⟩ := hr1.slice; have HQ := Lib.hid (And.intro hu1 (And.intro hr1 hf1)); clear hu1 hr1 hf1)
  all_goals
    go_wp2
    go_ret
    exact ⟨_, rfl, made ((Upd.drew NoF w).trans HQ.out.1 (fun _ _ h => h)) HQ.out.2.1 HQ.out.2.2⟩

theorem put_full (w : World) (F : Nat → Prop) (p : Value) (zs : List Int) (room : Int) (x : Int) (h : PoolIs 64 3 1 w F p (onesOf Vint zs) room) (hl : room ≤ zs.length) :
    Calls Try.prog 11 #[p, (.int .i64 x)] w fun e w' => e = .returned (.int .i64 7) ∧ Upd NoF w w' := by
  obtain ⟨b, v, rfl, h⟩ := h
  obtain ⟨c0, c1, f0, hblt, a, cap, rfl, hn, hm, _⟩ := h.facts
  rw [onesOf_length] at hn c0
  generalize zs.length = n at *
  clear h f0
  go_enter Try.func11, Try.ntmps11
  go_wp2
  go_quiet (fail)
  go_wp2
  go_ret
  exact ⟨rfl, Upd.drewN _ _ _⟩

theorem put_from (B : Nat) (w : World) (p : Value) (zs : List Int) (room : Int) (x : Int) (hB : B ≤ w.heap.size) (h : PoolIs 64 3 1 w (From B) p (onesOf Vint zs) room) (hl : (zs.length : Int) < room) (hr : room ≤ 65536) :
    Calls Try.prog 11 #[p, (.int .i64 x)] w fun e w' => e = .returned (.int .i64 0) ∧ Upd (From B) w w' ∧ PoolIs 64 3 1 w' (From B) p (onesOf Vint (zs ++ [x])) room :=
  (put_ok w (From B) p zs room x h hl hr).mono fun e w' ⟨he, hu, hp⟩ => ⟨he, hu, hp.mono (From.new hB)⟩
theorem take_from (B : Nat) (w : World) (p : Value) (zs : List Int) (room : Int) (k : Nat) (z : Int) (hB : B ≤ w.heap.size) (h : PoolIs 64 3 1 w (From B) p (onesOf Vint zs) room) (hl : zs[k]? = some z) (hb : zs.length ≤ 65536) :
    Calls Try.prog 12 #[p, .int .i64 k] w fun e w' => e = .returned (.tuple #[(.int .i64 z), .int .i64 0]) ∧ Upd (From B) w w' ∧ PoolIs 64 3 1 w' (From B) p (onesOf Vint (zs.eraseIdx k)) room :=
  (take_ok w (From B) p zs room k z h hl hb).mono fun e w' ⟨he, hu, hp⟩ => ⟨he, hu, hp.mono (From.new hB)⟩

end Go.Proofs.Ytlkpbhmifhoaiaa.PI
