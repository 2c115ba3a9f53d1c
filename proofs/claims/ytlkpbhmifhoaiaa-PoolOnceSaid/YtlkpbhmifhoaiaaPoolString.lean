/- The contracts of the functions of pool.Pool[string]. -/
import Derived.Test.YtlkpbhmifhoaiaaPoolDef
import Derived.Test.YtlkpbhmifhoaiaaRange
import Derived.Deep.RegionWith
set_option linter.unusedSimpArgs false
set_option linter.unusedVariables false
namespace Go.Proofs.Ytlkpbhmifhoaiaa.PS
open Go.RowKit
attribute [local go_sem] Oper.semAt_some

abbrev Vstr : ByteArray → Value := fun z => .string z

theorem infoE : (Try.prog.info? 9).map (fun i => (i.zero, i.size, i.bytes)) = some (some (.string ByteArray.empty), 1, 16) := by kernel_rfl

theorem at_bad (w : World) (F : Nat → Prop) (p : Value) (zs : List ByteArray) (room i : Int) (h : PoolIs 66 9 1 w F p (onesOf Vstr zs) room) (hl : i < 0 ∨ (zs.length : Int) ≤ i) :
    Calls Try.prog 28 #[p, .int .i64 i] w fun e w' => e = .returned (.tuple #[.string ByteArray.empty, .int .i64 5]) ∧ w = w' := by
  obtain ⟨b, v, rfl, h⟩ := h
  obtain ⟨c0, c1, f0, hblt, a, cap, rfl, hn, hm, _⟩ := h.facts
  rw [onesOf_length] at hn c0
  clear h c1 f0
  generalize zs.length = n at *
  rcases hl with hl | hl
  · go_enter Try.func28, Try.ntmps28
    go_wp2
    go_ret2
    exact ⟨rfl, rfl⟩
  · have h0 : ¬ i < 0 := by omega
    go_enter Try.func28, Try.ntmps28
    go_wp2
    go_ret2
    exact ⟨rfl, rfl⟩

theorem at_ok (w : World) (F : Nat → Prop) (p : Value) (zs : List ByteArray) (room : Int) (k : Nat) (z : ByteArray) (h : PoolIs 66 9 1 w F p (onesOf Vstr zs) room) (hl : zs[k]? = some z) :
    Calls Try.prog 28 #[p, .int .i64 k] w fun e w' => e = .returned (.tuple #[(.string z), .int .i64 0]) ∧ w = w' := by
  obtain ⟨b, v, rfl, h⟩ := h
  obtain ⟨c0, c1, f0, hblt, a, cap, rfl, hn, hm, hnil⟩ := h.facts
  have hrow := h.row
  rw [onesOf_flatten, onesOf_length] at hrow
  rw [onesOf_length] at hn c0 hnil
  have hk : k < zs.length := (List.getElem?_eq_some_iff.1 hl).1
  obtain ⟨a, rfl⟩ : ∃ x, a = some x := by
    cases a with
    | none => have := (hnil rfl).1; omega
    | some x => exact ⟨x, rfl⟩
  obtain ⟨⟨g, rfl⟩, hcell⟩ := hrow.cells
  have ck := hcell k (.string z) (by rw [List.getElem?_map, hl]; rfl)
  simp only [Nat.zero_add] at ck
  clear h c1 f0 hrow hnil hcell
  unfold maxLen at hm
  generalize zs.length = n at *
  clear hl
  go_enter Try.func28, Try.ntmps28
  go_wp2
  go_ret2
  exact ⟨rfl, rfl⟩

theorem at_nil (i : Int) (w : World) : Calls Try.prog 28 #[.pointer none, .int .i64 i] w fun e w' => e = .returned (.tuple #[.string ByteArray.empty, .int .i64 1]) ∧ w = w' := by
  go_enter Try.func28, Try.ntmps28
  go_wp2
  go_ret2
  exact ⟨rfl, rfl⟩

theorem put_nil (x : ByteArray) (w : World) : Calls Try.prog 15 #[.pointer none, (.string x)] w fun e w' => e = .returned (.int .i64 1) ∧ w = w' := by
  go_enter Try.func15, Try.ntmps15
  go_wp2
  go_ret
  exact ⟨rfl, rfl⟩

theorem len_any (w : World) (F : Nat → Prop) (p : Value) (zs : List ByteArray) (room : Int) (h : PoolIs 66 9 1 w F p (onesOf Vstr zs) room) :
    Calls Try.prog 29 #[p] w fun e w' => e = .returned (.int .i64 zs.length) ∧ w = w' := by
  obtain ⟨b, v, rfl, h⟩ := h
  obtain ⟨c0, c1, f0, hblt, a, cap, rfl, hn, hm, hnil⟩ := h.facts
  rw [onesOf_length] at hn c0
  clear h c1 f0
  go_enter Try.func29, Try.ntmps29
  go_wp2
  go_ret
  exact ⟨rfl, rfl⟩

theorem len_nil (w : World) : Calls Try.prog 29 #[.pointer none] w fun e w' => e = .returned (.int .i64 0) ∧ w = w' := by
  go_enter Try.func29, Try.ntmps29
  go_wp2
  go_ret
  exact ⟨rfl, rfl⟩



theorem take_bad (w : World) (F : Nat → Prop) (p : Value) (zs : List ByteArray) (room i : Int) (h : PoolIs 66 9 1 w F p (onesOf Vstr zs) room) (hl : i < 0 ∨ (zs.length : Int) ≤ i) :
    Calls Try.prog 27 #[p, .int .i64 i] w fun e w' => e = .returned (.tuple #[.string ByteArray.empty, .int .i64 5]) ∧ w = w' := by
  have H := Lib.hid h
  have HL := Lib.hid hl
  obtain ⟨b, v, rfl, h⟩ := h
  clear h hl
  go_enter Try.func27, Try.ntmps27
  go_wp2_with (go_at_call 28; refine (at_bad _ _ _ _ _ _ H.out HL.out).mono ?_; rintro e w' ⟨rfl, rfl⟩)
  go_ret2
  exact ⟨rfl, rfl⟩

theorem take_nil (i : Int) (w : World) : Calls Try.prog 27 #[.pointer none, .int .i64 i] w fun e w' => e = .returned (.tuple #[.string ByteArray.empty, .int .i64 1]) ∧ w = w' := by
  go_enter Try.func27, Try.ntmps27
  go_wp2_with (go_at_call 28; refine (at_nil _ _).mono ?_; rintro e w' ⟨rfl, rfl⟩)
  go_ret2
  exact ⟨rfl, rfl⟩

set_option maxHeartbeats 2000000 in
theorem take_ok (w : World) (F : Nat → Prop) (p : Value) (zs : List ByteArray) (room : Int) (k : Nat) (z : ByteArray) (h : PoolIs 66 9 1 w F p (onesOf Vstr zs) room) (hl : zs[k]? = some z) (hb : zs.length ≤ 65536) :
    Calls Try.prog 27 #[p, .int .i64 k] w fun e w' => e = .returned (.tuple #[(.string z), .int .i64 0]) ∧ Upd F w w' ∧ PoolIs 66 9 1 w' (AndNew F w) p (onesOf Vstr (zs.eraseIdx k)) room := by
  have H := Lib.hid h
  have HL := Lib.hid hl
  obtain ⟨b, v, rfl, h⟩ := h
  have hk : k < zs.length := (List.getElem?_eq_some_iff.1 hl).1
  obtain ⟨c0, c1, f0, hblt, a, cap, rfl, hn, hm, hnil⟩ := h.facts
  rw [onesOf_length] at hn c0 hnil
  simp only [onesOf_length] at h
  obtain ⟨a, rfl⟩ : ∃ x, a = some x := by
    cases a with
    | none => have := (hnil rfl).1; omega
    | some x => exact ⟨x, rfl⟩
  have hrow := h.row
  rw [onesOf_flatten, onesOf_length] at hrow
  obtain ⟨⟨g, rfl⟩, hcell⟩ := hrow.cells
  unfold maxLen at hm
  have HP := Lib.hid h
  clear h hl hnil hrow hcell c1
  generalize hz' : zs.length = n at *
  have Hz := Lib.hid hz'
  clear hz'
  have hkc : k ≤ cap := by omega
  have hw1 : IntKind.i64.wrap ((k : Int) + 1) = (k : Int) + 1 := IntWalk.i64_in _ (by omega)
  have hk0 : (0 : Int) ≤ (k : Int) + 1 := by omega
  have hkt : ((k : Int) + 1).toNat = k + 1 := by omega
  have hud := Upd.drew NoF w
  have HPd := HP.out.upd hud (fun _ _ h => h)
  have hrowd : Row w.drew 9 1 (.slice (some ⟨g, 0, none⟩) n cap) n (zs.map Vstr) := by
    have := HPd.row; rw [onesOf_flatten, onesOf_length, Hz.out] at this; exact this
  have herase : zs.eraseIdx k = zs.take k ++ zs.drop (k + 1) := List.eraseIdx_eq_take_drop_succ zs k
  have hpre := hrowd.prefix (k := k) (by omega)
  rw [Nat.mul_one, ← List.map_take] at hpre
  have hlen : (zs.eraseIdx k).length = n - 1 := by rw [List.length_eraseIdx, Hz.out, if_pos (by omega)]
  by_cases hlast : n = k + 1
  · have he2 : zs.eraseIdx k = zs.take k := by rw [herase, List.drop_eq_nil_of_le (by rw [Hz.out]; omega), List.append_nil]
    obtain ⟨c2, f2, hup, hfin⟩ := HPd.stored0 (ys := onesOf Vstr (zs.eraseIdx k)) (w1 := w.drew) (v' := .slice (some ⟨g, 0, none⟩) k k) ⟨rfl, rfl, rfl, Nat.le_refl _, fun _ _ _ => rfl⟩
      (fun y hy => by simp [onesOf] at hy; obtain ⟨_, _, rfl⟩ := hy; rfl)
      (by rw [onesOf_flatten, onesOf_length, hlen, he2, hlast]; simpa using hpre) (.inl rfl)
    have HF : Hid (Upd F w (w.drew.setCell ⟨b, 0, none⟩ (.slice (some ⟨g, 0, none⟩) k k)) ∧ PoolIs 66 9 1 (w.drew.setCell ⟨b, 0, none⟩ (.slice (some ⟨g, 0, none⟩) k k)) (AndNew F w) (.pointer (some ⟨b, 0, none⟩)) (onesOf Vstr (zs.eraseIdx k)) room) :=
      ⟨(hud.mono (fun _ _ h => h.elim)).trans hup (fun _ _ h => h), _, _, rfl, hfin.mono (AndNew.le hud.size)⟩
    obtain ⟨i0, hi, hz0, hz1, hz2⟩ := info_parts infoE
    clear hpre hrowd HPd hud hlen he2 herase hup hfin
    subst hlast
    have hk1' : (k : Int) ≤ (k : Int) + 1 := by omega
    have HR : ∀ a c, Hid ((Builtin.append_ #[33, 33] 33 #[.slice (some ⟨g, 0, none⟩) k k, .slice a 0 c]).run Try.prog w.drew = .ok (.slice (some ⟨g, 0, none⟩) k k) w.drew) :=
      fun a c => run_append_zero w.drew 33 33 9 i0 Try.underlying33 hi _ k k (Nat.le_refl _) a c
    by_cases hc : cap = k + 1
    · subst hc
      go_enter Try.func27, Try.ntmps27
      go_wp2_with (go_at_call 28; refine (at_ok _ _ _ _ _ _ _ H.out HL.out).mono ?_; rintro e w' ⟨rfl, rfl⟩)
      go_region_law (refine step_append_run rfl _ _ 33 rfl rfl rfl (HR _ _).out ?_)
      all_goals (go_wp2; go_ret2; exact ⟨rfl, HF.out⟩)
    · go_enter Try.func27, Try.ntmps27
      go_wp2_with (go_at_call 28; refine (at_ok _ _ _ _ _ _ _ H.out HL.out).mono ?_; rintro e w' ⟨rfl, rfl⟩)
      go_region_law (refine step_append_run rfl _ _ 33 rfl rfl rfl (HR _ _).out ?_)
      all_goals (go_wp2; go_ret2; exact ⟨rfl, HF.out⟩)
  · have hlt : k + 1 < n := by omega
    have hne : ¬ cap = k + 1 := by omega
    have hi1 : (k : Int) + 1 ≤ (n : Int) := by omega
    obtain ⟨i0, hi, hz0, hz1, hz2⟩ := info_parts infoE
    have hcells := (show Row w.drew 9 1 (.slice (some ⟨g, 0, none⟩) n cap) n (zs.map Vstr) from hrowd).cells.2
    obtain ⟨v9, w1, hrun, hrow9, hg, hf⟩ := run_append_row (P := Try.prog) w.drew 33 33 9 i0 (.string ByteArray.empty) 1 16 Try.underlying33 hi hz0 hz1 hz2 rfl (by decide) (.slice (some ⟨g, 0, none⟩) k k) k ((zs.take k).map Vstr) hpre
      ⟨g, k + 1, none⟩ (n - (k + 1)) (cap - (k + 1)) ((zs.drop (k + 1)).map Vstr) (by simp [Hz.out])
      (fun j u hu => by
        rw [List.getElem?_map, List.getElem?_drop] at hu
        have := hcells (k + 1 + j) u (by rw [List.getElem?_map]; exact hu)
        rw [Addr.add_lit]; simpa using this)
      (fun u hu => by obtain ⟨_, _, rfl⟩ := List.mem_map.1 hu; rfl) (by unfold maxLen; omega) (by have := Hz.out; omega)
    obtain ⟨c2, f2, hup, hfin⟩ := HPd.stored0 (ys := onesOf Vstr (zs.eraseIdx k)) (w1 := w1) (v' := v9) hg
      (fun y hy => by simp [onesOf] at hy; obtain ⟨_, _, rfl⟩ := hy; rfl)
      (by rw [onesOf_flatten, onesOf_length, hlen, herase, List.map_append]
          rw [show k + (n - (k + 1)) = n - 1 from by omega] at hrow9; exact hrow9) hf
    have HF : Hid (Upd F w (w1.setCell ⟨b, 0, none⟩ v9) ∧ PoolIs 66 9 1 (w1.setCell ⟨b, 0, none⟩ v9) (AndNew F w) (.pointer (some ⟨b, 0, none⟩)) (onesOf Vstr (zs.eraseIdx k)) room) :=
      ⟨(hud.mono (fun _ _ h => h.elim)).trans hup (fun _ _ h => h), _, _, rfl, hfin.mono (AndNew.le hud.size)⟩
    obtain ⟨a9, cap9, rfl, _⟩ := hrow9.slice
    have HR := Lib.hid hrun
    clear hpre hrowd HPd hud hlen herase hrow9 hrun hg hf hup hfin hcells
    go_enter Try.func27, Try.ntmps27
    go_wp2_with (go_at_call 28; refine (at_ok _ _ _ _ _ _ _ H.out HL.out).mono ?_; rintro e w' ⟨rfl, rfl⟩)
    go_region_law (refine step_append_run rfl _ _ 33 rfl rfl rfl HR.out ?_)
    all_goals (go_wp2; go_ret2; exact ⟨rfl, HF.out⟩)

theorem put_ok (w : World) (F : Nat → Prop) (p : Value) (zs : List ByteArray) (room : Int) (x : ByteArray) (h : PoolIs 66 9 1 w F p (onesOf Vstr zs) room) (hl : (zs.length : Int) < room) (hr : room ≤ 65536) :
    Calls Try.prog 15 #[p, (.string x)] w fun e w' => e = .returned (.int .i64 0) ∧ Upd F w w' ∧ PoolIs 66 9 1 w' (AndNew F w) p (onesOf Vstr (zs ++ [x])) room := by
  have e9 : onesOf Vstr (zs ++ [x]) = onesOf Vstr zs ++ [[Vstr x]] := by simp [onesOf]
  rw [e9]
  rw [← onesOf_length Vstr zs] at hl
  obtain ⟨b, v, rfl, h⟩ := h
  obtain ⟨c0, c1, f0, hblt, a, cap, rfl, hn, hm, _⟩ := h.facts
  obtain ⟨i0, hi, hz0, hz1, hz2⟩ := info_parts infoE
  have H := Lib.hid h
  generalize hn' : (onesOf Vstr zs).length = n at *
  have Hn := Lib.hid hn'
  clear h hn'
  go_enter Try.func15, Try.ntmps15
  go_wp2
  go_quiet (fail)
  rename_i nq
  obtain ⟨w0, hw0, hh, hu⟩ := drewN_is w nq
  rw [hw0]
  have H0 := H.out.upd hu (fun k hk hk' => hk')
  clear hw0
  obtain ⟨v9, w1, hrun, hrow, hg, hf⟩ := run_append_row (P := Try.prog) (w0.alloc (.cells #[(.string x)] 9)) 33 33 9 i0 (.string ByteArray.empty) 1 16 Try.underlying33 hi hz0 hz1 hz2 rfl (by decide) (.slice a n cap) n (onesOf Vstr zs).flatten
    (by have := H0.row; rw [Hn.out] at this; exact this.alloc _) ⟨w0.heap.size, 0, none⟩ 1 1 [(.string x)] rfl (cell_one_new _ _ _) (by simp [Value.oneCell']) (by unfold maxLen; omega) (by omega)
  obtain ⟨c2, f2, hup, hfin⟩ := H0.stored (ys := onesOf Vstr zs ++ [[(.string x)]]) (w1 := w1) (v' := v9) (.cells #[(.string x)] 9) hg (fun y hy => by simp at hy; rcases hy with hy | rfl; exact H0.len y hy; rfl)
    (by have hl : (onesOf Vstr zs ++ [[Vstr x]]).length = n + 1 := by simp [Hn.out]
        rw [hl]; simpa using hrow) hf
  obtain ⟨c0', c1', f0', hblt', _⟩ := H0.facts
  have HR := Lib.hid hrun
  have HF : Hid (Upd F w (w1.setCell ⟨b, 0, none⟩ v9) ∧ PoolIs 66 9 1 (w1.setCell ⟨b, 0, none⟩ v9) (AndNew F w) (.pointer (some ⟨b, 0, none⟩)) (onesOf Vstr zs ++ [[(.string x)]]) room) :=
    ⟨(hu.mono (fun _ _ h => h.elim)).trans hup (fun _ _ h => h), _, _, rfl, hfin.mono (AndNew.le hu.size)⟩
  obtain ⟨a9, cap9, rfl, _⟩ := hrow.slice
  clear hrun hrow hg hf hup hfin H0 c0 c1 f0 hh hu
  go_wp2_with (at_builtin; refine wpList_append_run rfl _ _ 33 rfl rfl rfl HR.out ?_)
  go_ret
  exact ⟨rfl, HF.out⟩

theorem new_bad (room : Int) (hr : room < 1 ∨ 65536 < room) (w : World) : Calls Try.prog 14 #[.int .i64 room] w fun e w' => e = .returned (.tuple #[.pointer none, .int .i64 2]) ∧ w = w' := by
  rcases hr with h | h
  · go_enter Try.func14, Try.ntmps14
    go_wp2
    go_ret2
    exact ⟨rfl, rfl⟩
  · have h2 : ¬ room < 1 := by omega
    go_enter Try.func14, Try.ntmps14
    go_wp2
    go_ret2
    exact ⟨rfl, rfl⟩

theorem new_raw (room : Int) (h1 : 1 ≤ room) (h2 : room ≤ 65536) (w : World) : Calls Try.prog 14 #[.int .i64 room] w fun e w' => e = .returned (.tuple #[.pointer (some ⟨w.heap.size, 0, none⟩), .int .i64 0]) ∧ w.alloc (.cells #[.slice none 0 0, .int .i64 room] 66) = w' := by
  go_enter Try.func14, Try.ntmps14
  go_wp2
  go_ret2
  exact ⟨rfl, rfl⟩

theorem new_ok (room : Int) (h1 : 1 ≤ room) (h2 : room ≤ 65536) (w : World) : Calls Try.prog 14 #[.int .i64 room] w fun e w' => ∃ b, e = .returned (.tuple #[.pointer (some ⟨b, 0, none⟩), .int .i64 0]) ∧ Upd NoF w w' ∧ PoolIs 66 9 1 w' (fun k => w.heap.size ≤ k) (.pointer (some ⟨b, 0, none⟩)) (onesOf Vstr []) room :=
  (new_raw room h1 h2 w).mono fun e w' ⟨he, hw⟩ => by
    subst hw
    exact ⟨_, he, Upd.alloc _ _ _, _, _, rfl, Blk.new w _ _, Nat.le_refl _, fun x hx => by simp [onesOf] at hx, Row.nil _ _ _, fun k hk => by simp [Value.ownBlock] at hk⟩

theorem all_any (p : Value) (w : World) (hp : ∃ a, p = .pointer a) : Calls Try.prog 16 #[p] w fun e w' => e = .returned (.func (.func 30) #[] #[.pointer (some ⟨w.heap.size, 0, none⟩)]) ∧ w.alloc (.cells #[p] 34) = w' := by
  obtain ⟨a, rfl⟩ := hp
  go_enter Try.func16, Try.ntmps16
  go_wp2
  go_ret
  exact ⟨rfl, rfl⟩

set_option maxRecDepth 100000 in
set_option maxHeartbeats 2000000 in
theorem all_seq (B : Nat) (zs : List ByteArray) (p : Value) (room : Int) (F K : Nat → Prop) (hFK : ∀ k, F k → ¬ K k) (hBK : ¬ K B) (w : World) (hB0 : w.cell? ⟨B, 0, none⟩ = some p)
    (hP0 : PoolIs 66 9 1 w F p (onesOf Vstr zs) room) :
    SeqL Try.prog 30 #[.pointer (some ⟨B, 0, none⟩)] (fun x : Nat × ByteArray => #[Value.int .i64 (x.1 : Int), Vstr x.2]) (idxs zs) NoF K w := by
  intro l J Jx W hW _ _ hY h0
  have hB := hW.cell hB0 (fun h => h)
  have hP := hP0.upd hW (fun _ _ h => h)
  clear hB0 hP0
  obtain ⟨b, v, rfl, hP⟩ := hP
  obtain ⟨c0, c1, f0, hblt, a, cap, rfl, hn, hm, hnil⟩ := hP.facts
  have hrow := hP.row
  rw [onesOf_flatten, onesOf_length] at hrow
  simp only [onesOf_length] at hn c0 hnil hrow hP
  have hg : ∀ g, a = some g → ¬ K g.block ∧ g.off = 0 ∧ g.spot = none ∧ ∀ j z, zs[j]? = some z → W.cell? ⟨g.block, g.off + j, none⟩ = some (.string z) := by
    rintro g rfl
    obtain ⟨⟨g', rfl⟩, hcell⟩ := hrow.cells
    exact ⟨hFK _ (hP.apart _ rfl).1, rfl, rfl, fun j z hz => hcell j _ (by rw [List.getElem?_map, hz]; rfl)⟩
  have hlen : (idxs zs).length = zs.length := idxs_length zs
  unfold maxLen at hm
  have HG := Lib.hid hg
  have Hnil := Lib.hid hnil
  have HL := Lib.hid hlen
  have HW := Lib.hid hW
  clear hrow hP c1 f0 hnil hg hlen hW
  refine callsIn_of_wp Try.func30 rfl trivial ?_ rfl
  simp only [Try.ntmps30, List.size_toArray, List.length_cons, List.length_nil, Nat.reduceAdd, Nat.reduceSub, Array.replicate_succ, Array.replicate_zero, List.push_toArray, List.append_toArray, List.nil_append, List.cons_append]
  gi_wp2
  gi_loopw [12] (fun i wr => ∃ k : Nat, k ≤ zs.length ∧ i = .int .i64 k ∧ J k wr ∧ Hid (Upd K W wr))
    (fun i _ => zs.length - (intOf i).toNat)
  case atStart => exact ⟨0, Nat.zero_le _, rfl, h0, Upd.refl _ _⟩
  case round =>
    obtain ⟨k, hk, rfl, hJs, hnx⟩ := hrel
    by_cases hlt : k < zs.length
    · obtain ⟨g, rfl⟩ : ∃ x, a = some x := by
        cases a with
        | none => have := (Hnil.out rfl).1; omega
        | some x => exact ⟨x, rfl⟩
      have hz : zs[k]? = some zs[k] := List.getElem?_eq_getElem hlt
      generalize zs[k] = z at hz
      obtain ⟨hgn, hg1, hg2, hgc⟩ := HG.out g rfl
      obtain ⟨gb, go, gs⟩ := g
      simp only at hg1 hg2 hgn hgc
      subst hg1 hg2
      have hcx : wr.cell? ⟨gb, k, none⟩ = some (.string z) := by
        have := hgc k z hz
        rw [Nat.zero_add] at this
        exact hnx.out.cell this hgn
      obtain ⟨fn, tmps, assign, body, hy, hR⟩ := hY k (k, z) wr hJs (by rw [idxs_get, hz]; rfl)
      clear hgc hz
      dsimp only at hy
      gi_wp2
      refine hR.mono ?_
      rintro e W3 (⟨rfl, hJ3, hk3⟩ | ⟨rfl, hJx3⟩)
      · gi_wp2
        go_roundw
        case rel => exact ⟨k + 1, by omega, by simp, hJ3, hnx.out.trans hk3 (fun _ _ h => h)⟩
        case measure => simp [intOf]; omega
      · gi_wp2
        refine bodyPost_ret (results_none rfl _ _ _) rfl ?_
        exact ⟨⟨_, rfl⟩, .inr ⟨k, by rw [HL.out]; exact hlt, hJx3⟩⟩
    · obtain rfl : k = zs.length := by omega
      gi_wp2
      go_end0
      exact ⟨⟨_, rfl⟩, .inl (by rw [HL.out]; exact hJs)⟩



theorem put_full (w : World) (F : Nat → Prop) (p : Value) (zs : List ByteArray) (room : Int) (x : ByteArray) (h : PoolIs 66 9 1 w F p (onesOf Vstr zs) room) (hl : room ≤ zs.length) :
    Calls Try.prog 15 #[p, (.string x)] w fun e w' => e = .returned (.int .i64 7) ∧ Upd NoF w w' := by
  obtain ⟨b, v, rfl, h⟩ := h
  obtain ⟨c0, c1, f0, hblt, a, cap, rfl, hn, hm, _⟩ := h.facts
  rw [onesOf_length] at hn c0
  generalize zs.length = n at *
  clear h f0
  go_enter Try.func15, Try.ntmps15
  go_wp2
  go_quiet (fail)
  go_wp2
  go_ret
  exact ⟨rfl, Upd.drewN _ _ _⟩

theorem put_from (B : Nat) (w : World) (p : Value) (zs : List ByteArray) (room : Int) (x : ByteArray) (hB : B ≤ w.heap.size) (h : PoolIs 66 9 1 w (From B) p (onesOf Vstr zs) room) (hl : (zs.length : Int) < room) (hr : room ≤ 65536) :
    Calls Try.prog 15 #[p, (.string x)] w fun e w' => e = .returned (.int .i64 0) ∧ Upd (From B) w w' ∧ PoolIs 66 9 1 w' (From B) p (onesOf Vstr (zs ++ [x])) room :=
  (put_ok w (From B) p zs room x h hl hr).mono fun e w' ⟨he, hu, hp⟩ => ⟨he, hu, hp.mono (From.new hB)⟩
theorem take_from (B : Nat) (w : World) (p : Value) (zs : List ByteArray) (room : Int) (k : Nat) (z : ByteArray) (hB : B ≤ w.heap.size) (h : PoolIs 66 9 1 w (From B) p (onesOf Vstr zs) room) (hl : zs[k]? = some z) (hb : zs.length ≤ 65536) :
    Calls Try.prog 27 #[p, .int .i64 k] w fun e w' => e = .returned (.tuple #[(.string z), .int .i64 0]) ∧ Upd (From B) w w' ∧ PoolIs 66 9 1 w' (From B) p (onesOf Vstr (zs.eraseIdx k)) room :=
  (take_ok w (From B) p zs room k z h hl hb).mono fun e w' ⟨he, hu, hp⟩ => ⟨he, hu, hp.mono (From.new hB)⟩

end Go.Proofs.Ytlkpbhmifhoaiaa.PS
