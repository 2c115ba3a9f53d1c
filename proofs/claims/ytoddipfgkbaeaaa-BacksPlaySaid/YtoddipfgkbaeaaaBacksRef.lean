/- The contracts of the reference undertowref12: of each data block a record. UNDER WAY. -/
import Derived.Test.YtoddipfgkbaeaaaBacksLaws
import Derived.Test.YtoddipfgkbaeaaaAggRback
set_option linter.unusedSimpArgs false
set_option linter.unusedVariables false
namespace Go.Proofs.Ytoddipfgkbaeaaa.BK
open Go.RowKit
open PL (Cfg CC CV May)
attribute [local go_sem] Oper.semAt_some
attribute [local go_sem ↓] TBlk.ld_eq TBlk.st_eq TBlk.al_eq TBlk.bx_eq TRbk.ld_eq TRbk.st_eq TRbk.al_eq TRbk.bx_eq
attribute [local go_sem] TBlk.al_run TBlk.bx_run TRbk.al_run TRbk.bx_run

/-- A record: is it there, is it live, its data. -/
def recA (is live : Bool) (D : Array Value) : Array Value := #[.bool is, .bool live] ++ D
def recOf (zs : List Bk) (b : Int) : Array Value := match findB zs b with | some z => recA true z.live z.D | none => recA false false TBlk.Z
def recs (zs : List Bk) (n : Nat) : List (Array Value) := (List.range n).map fun (b : Nat) => recOf zs (b : Int)
def Ro (rb n : Nat) (zs : List Bk) (most : Int) : Obj :=
  exO fun g => starO (boxO rb #[.slice (some ⟨g, 0, none⟩) n n, .int .i64 most] 68) (boxO g (rowsOf (recs zs n)).flatten.toArray 70)
theorem recA_isN {is live : Bool} {D : Array Value} (h : IsN 16 D) : IsN 18 (recA is live D) := by
  refine ⟨by simp [recA, h.1], fun u hu => ?_⟩
  simp [recA] at hu
  rcases hu with (rfl | rfl) | hu
  · rfl
  · rfl
  · exact h.2 u hu
theorem recOf_isN {data room : Int} {zs : List Bk} (h : Inv data room zs) (b : Int) : IsN 18 (recOf zs b) := by
  unfold recOf
  cases hf : findB zs b with
  | none => exact recA_isN TBlk.isZ
  | some z =>
    obtain ⟨i, _, h2, _⟩ := find_of hf
    exact recA_isN (h.isN z (List.mem_of_getElem? h2))
theorem recs_isN {data room : Int} {zs : List Bk} (h : Inv data room zs) (n : Nat) : ∀ x ∈ recs zs n, IsN 18 x := fun x hx => by
  obtain ⟨b, _, rfl⟩ := List.mem_map.1 hx
  exact recOf_isN h b
theorem recs_get (zs : List Bk) {n b : Nat} (hb : b < n) : (recs zs n)[b]? = some (recOf zs b) := by
  unfold recs
  rw [List.getElem?_map, List.getElem?_range hb]
  rfl
/-- What is read of the reference. -/
theorem open_ro {data room : Int} {w : World} {F : Nat → Prop} {rb n : Nat} {zs : List Bk} {most : Int} (h : (Ro rb n zs most).is w F) (hv : Inv data room zs) :
    ∃ g, Blk w rb #[.slice (some ⟨g, 0, none⟩) n n, .int .i64 most] 68 ∧ Blk w g (rowsOf (recs zs n)).flatten.toArray 70 ∧ F rb ∧ F g ∧ g ≠ rb ∧
      ∀ b, b < n → w.rangeAt g (b * 18) (recOf zs b).toList := by
  obtain ⟨g, F1, F2, h1, h2, h3, h4, h5⟩ := h
  refine ⟨g, h4.1, h5.1, h1 rb h4.2, h2 g h5.2, fun e => h3 rb h4.2 (e ▸ h5.2), fun b hb => h5.1.range (b * 18) _ (fun j v hv' => ?_)⟩
  have := flat_get (recs_isN hv n) (recs_get zs hb) j v hv'
  simpa using this
theorem rec_cells {w : World} {g o : Nat} {is live : Bool} {D : Array Value} (h : w.rangeAt g o (recA is live D).toList) : w.cell? ⟨g, o, none⟩ = some (.bool is) ∧ w.cell? ⟨g, o + 1, none⟩ = some (.bool live) ∧ w.rangeAt g (o + 2) D.toList := by
  refine ⟨h 0 _ (by simp [recA]), h 1 _ (by simp [recA]), fun j v hv => ?_⟩
  have := h (2 + j) v (by
    unfold recA
    rw [Array.toList_append, List.getElem?_append_right (by simp)]
    simpa using hv)
  rw [show o + 2 + j = o + (2 + j) from by omega]
  exact this

set_option maxRecDepth 100000 in
theorem rhas_any {data room : Int} (w : World) (F : Nat → Prop) (rb n : Nat) (zs : List Bk) (most b : Int) (h : (Ro rb n zs most).is w F) (hv : Inv data room zs) (hn : (n : Int) = data) (hm : n ≤ 65536) :
    Calls Try.prog 40 #[ptr rb, .int .i64 b] w fun e w' => e = .returned (.bool (findB zs b).isSome) ∧ w = w' := by
  obtain ⟨g, hb, hg, _, _, _, hr⟩ := open_ro h hv
  have c0 : w.cell? ⟨rb, 0, none⟩ = some (.slice (some ⟨g, 0, none⟩) n n) := hb.cell 0
  by_cases h0 : b < 0 ∨ (n : Int) ≤ b
  · have hf : (findB zs b).isSome = false := by
      rw [find_none_iff.2 (fun z hz he => by have := hv.rng z hz; omega)]; rfl
    rw [hf]
    clear h hv hb hg hr hf
    by_cases h1 : b < 0
    · have hb0 : decide (0 ≤ b) = false := by simp; omega
      go_enter Try.func40, Try.ntmps40
      go_wp2
      go_ret
      exact ⟨rfl, rfl⟩
    · have hb0 : decide (0 ≤ b) = true := by simp; omega
      have hb1 : decide (b < (n : Int)) = false := by simp; omega
      go_enter Try.func40, Try.ntmps40
      go_wp2
      go_ret
      exact ⟨rfl, rfl⟩
  · obtain ⟨k, rfl⟩ : ∃ k : Nat, b = k := ⟨b.toNat, by omega⟩
    have hk : k < n := by omega
    have hkn : (k : Int) < (n : Int) := by omega
    have hc : w.cell? ⟨g, k * 18, none⟩ = some (.bool (findB zs (k : Int)).isSome) := by
      have := hr k hk
      unfold recOf at this
      cases hf : findB zs (k : Int) with
      | none => rw [hf] at this; exact (rec_cells this).1
      | some z => rw [hf] at this; exact (rec_cells this).1
    generalize (findB zs (k : Int)).isSome = r at *
    clear h hv hb hg hr h0
    go_enter Try.func40, Try.ntmps40
    go_wp2
    go_ret
    exact ⟨rfl, rfl⟩
theorem flat_at {c : Nat} {xs : List (Array Value)} (h : ∀ x ∈ xs, IsN c x) (q r : Nat) (hr : r < c) : (rowsOf xs).flatten[q * c + r]? = (xs[q]?).bind fun z => z.toList[r]? := by
  cases hq : xs[q]? with
  | none =>
    have hl : xs.length ≤ q := List.getElem?_eq_none_iff.1 hq
    have hf := flat_len h
    have : xs.length * c ≤ q * c := Nat.mul_le_mul_right _ hl
    rw [List.getElem?_eq_none (by omega)]
    rfl
  | some z =>
    have hz := h z (List.mem_of_getElem? hq)
    have hrz : r < z.toList.length := by simp [hz.1]; exact hr
    rw [flat_get h hq r z.toList[r] (List.getElem?_eq_getElem hrz)]
    exact (List.getElem?_eq_getElem hrz).symm
theorem flat_set {c : Nat} {xs : List (Array Value)} (h : ∀ x ∈ xs, IsN c x) (hc : 0 < c) {k : Nat} (hk : k < xs.length) {x : Array Value} (hx : IsN c x) : setMany (rowsOf xs).flatten.toArray (k * c) x.toList = (rowsOf (xs.set k x)).flatten.toArray := by
  have h' : ∀ y ∈ xs.set k x, IsN c y := fun y hy => by
    rcases List.mem_or_eq_of_mem_set hy with hy | rfl
    · exact h y hy
    · exact hx
  apply Array.ext_getElem?
  intro j
  rw [get_setMany]
  obtain ⟨q, r, hr, rfl⟩ : ∃ q r, r < c ∧ j = q * c + r := ⟨j / c, j % c, Nat.mod_lt _ hc, by rw [Nat.mul_comm]; exact (Nat.div_add_mod j c).symm⟩
  have e1 : ∀ (l : List Value) (i : Nat), l.toArray[i]? = l[i]? := fun l i => by simp
  rw [e1, e1, flat_at h q r hr, flat_at h' q r hr]
  have hfl := flat_len h
  by_cases hqk : q = k
  · subst hqk
    have hb : q * c + c ≤ xs.length * c := by rw [← Nat.succ_mul]; exact Nat.mul_le_mul_right _ hk
    rw [if_pos ⟨by omega, by simp [hx.1]; omega, by simp only [List.size_toArray]; omega⟩, List.getElem?_set_self hk, show q * c + r - q * c = r from by omega]
    rfl
  · have hne : ¬ (k * c ≤ q * c + r ∧ q * c + r < k * c + x.toList.length ∧ q * c + r < (rowsOf xs).flatten.toArray.size) := by
      rintro ⟨g1, g2, _⟩
      simp [hx.1] at g2
      rcases Nat.lt_or_gt_of_ne hqk with hlt | hlt
      · have := Nat.mul_le_mul_right c (Nat.succ_le_of_lt hlt)
        rw [Nat.succ_mul] at this; omega
      · have := Nat.mul_le_mul_right c (Nat.succ_le_of_lt hlt)
        rw [Nat.succ_mul] at this; omega
    rw [if_neg hne, List.getElem?_set_ne (fun e => hqk e.symm)]
theorem recs_set {zs ys : List Bk} {n k : Nat} (hk : k < n) (h : ∀ b : Nat, b ≠ k → findB ys (b : Int) = findB zs (b : Int)) : recs ys n = (recs zs n).set k (recOf ys k) := by
  apply List.ext_getElem?
  intro b
  by_cases hb : b < n
  · rw [recs_get ys hb]
    by_cases e : b = k
    · subst e
      rw [List.getElem?_set_self (by simp [recs]; exact hb)]
    · rw [List.getElem?_set_ne (fun e' => e e'.symm), recs_get zs hb]
      unfold recOf
      rw [h b e]
  · rw [List.getElem?_eq_none (by simp [recs]; omega), List.getElem?_eq_none (by simp [recs]; omega)]
/-- A record is written. -/
theorem ro_store {data room : Int} {w w' : World} {F : Nat → Prop} {rb n g : Nat} {zs ys : List Bk} {most : Int} {k : Nat} (hv : Inv data room zs) (hv' : Inv data room ys) (hk : k < n) (h : ∀ b : Nat, b ≠ k → findB ys (b : Int) = findB zs (b : Int))
    (hb : Blk w rb #[.slice (some ⟨g, 0, none⟩) n n, .int .i64 most] 68) (hg : Blk w g (rowsOf (recs zs n)).flatten.toArray 70) (hFb : F rb) (hFg : F g) (hne : g ≠ rb)
    (hw : w' = w.setCells g (k * 18) (recOf ys k).toList) : Upd F w w' ∧ (Ro rb n ys most).is w' (AndNew F w) := by
  subst hw
  have hu := upd_setCells (b := g) (recOf ys k).toList (k * 18) w
  have q := blk_setCells (recOf ys k).toList (k * 18) w _ hg
  rw [flat_set (recs_isN hv n) (by decide) (by simp [recs]; exact hk) (recOf_isN hv' k), ← recs_set hk h] at q
  refine ⟨hu.mono (fun i _ hi => by have e : i = g := hi; subst e; exact hFg), g, (fun i => i = rb), (fun i => i = g), fun i hi => by subst hi; exact .inl hFb, fun i hi => by subst hi; exact .inl hFg, fun i hi hj => by omega, ⟨hb.upd hu (fun e => hne (by have e' : rb = g := e; exact e'.symm)), rfl⟩, ⟨q, rfl⟩⟩
set_option maxRecDepth 100000 in
set_option maxHeartbeats 2000000 in
theorem rfind_any {data room : Int} (w : World) (F : Nat → Prop) (rb n : Nat) (zs : List Bk) (most b : Int) (h : (Ro rb n zs most).is w F) (hv : Inv data room zs) (hn : (n : Int) = data) (hm : n ≤ 65536) :
    Calls Try.prog 25 #[ptr rb, .int .i64 b] w fun e w' => e = .returned (findV zs b) ∧ Upd NoF w w' := by
  have hu1 := Upd.alloc NoF w (.cells TBlk.Z 32)
  have h1 := (Ro rb n zs most).keep h (hu1.kept (fun _ _ _ h => h))
  have HH := rhas_any _ F rb n zs most b h1 hv hn hm
  have q1 := Blk.new w TBlk.Z 32
  unfold findV
  cases hf : findB zs b with
  | none =>
    rw [hf] at HH
    have HH' := Lib.hid HH
    obtain ⟨s4, q4⟩ := TBlk.st_at TBlk.isZ TBlk.isZ q1
    have HV := Lib.hid (blkV _ TBlk.isZ _ _ _ q4)
    have HU := Lib.hid (hu1.trans (upd_setCells (b := w.heap.size) TBlk.Z.toList 0 _) (fun i hi h => by have : i = w.heap.size := h; omega))
    have s4' : (TBlk.st (.pointer (some ⟨w.heap.size, 0, none⟩)) (.agg #[.int .u32 0, .int .u32 0, .int .u32 0, .int .u32 0, .int .u32 0, .int .u32 0, .int .u32 0, .int .u32 0, .int .u32 0, .int .u32 0, .int .u32 0, .int .u32 0, .int .u32 0, .int .u32 0, .int .u32 0, .int .u32 0])).run Try.prog (w.alloc (.cells TBlk.Z 32)) = .ok () ((w.alloc (.cells TBlk.Z 32)).setCells w.heap.size 0 TBlk.Z.toList) := s4
    clear q4 s4 HH h h1 hu1 hf q1
    go_enter Try.func25, Try.ntmps25
    go_wp2_with fail
    refine HH'.out.mono ?_
    rintro e w2 ⟨rfl, rfl⟩
    go_wp2
    have hv := HV.out
    refine bodyPost_ret (v := .tuple #[.agg TBlk.Z, .bool false, .bool false]) ?_ ?_ ?_
    · simp [results, Try.f25, asAddr, Act.put, hv]
    · rfl
    exact ⟨rfl, HU.out⟩
  | some z =>
    obtain ⟨i, _, hi2, hzb⟩ := find_of hf
    have hrg := hv.rng z (List.mem_of_getElem? hi2)
    have hD := hv.isN z (List.mem_of_getElem? hi2)
    rw [hzb] at hrg
    obtain ⟨k, rfl⟩ : ∃ k : Nat, b = k := ⟨b.toNat, by omega⟩
    have hk : k < n := by omega
    have hkn : (k : Int) < (n : Int) := by omega
    obtain ⟨g, hb, hg, _, _, _, hr⟩ := open_ro h hv
    have hrk := hr k hk
    unfold recOf at hrk
    rw [hf] at hrk HH
    have HH' := Lib.hid HH
    obtain ⟨_, r1, r2⟩ := rec_cells hrk
    have hlt : rb < w.heap.size := hb.lt
    have hlg : g < w.heap.size := hg.lt
    have c0 : (w.alloc (.cells TBlk.Z 32)).cell? ⟨rb, 0, none⟩ = some (.slice (some ⟨g, 0, none⟩) n n) := (hb.alloc _).cell 0
    have k1 := hu1.cell r1 (fun h => h)
    have hud := hu1.trans (Upd.drew NoF _) (fun _ _ h => h)
    have lD := TBlk.ld_at hD (w := (w.alloc (.cells TBlk.Z 32)).drew) (b := g) (o := k * 18 + 2) (fun j v hv => hud.cell (r2 j v hv) (fun h => h))
    obtain ⟨s4, q4⟩ := TBlk.st_at TBlk.isZ hD (q1.upd (Upd.drew NoF _) (fun h => h))
    have us := upd_setCells (b := w.heap.size) z.D.toList 0 (w.alloc (.cells TBlk.Z 32)).drew
    have HV := Lib.hid (blkV _ hD _ _ _ q4)
    have HU := Lib.hid (hud.trans us (fun i hi h => by have : i = w.heap.size := h; omega))
    have d0 : ((w.alloc (.cells TBlk.Z 32)).drew.setCells w.heap.size 0 z.D.toList).cell? ⟨rb, 0, none⟩ = some (.slice (some ⟨g, 0, none⟩) n n) := us.cell c0 (fun e => by have : rb = w.heap.size := e; omega)
    have d1 : ((w.alloc (.cells TBlk.Z 32)).drew.setCells w.heap.size 0 z.D.toList).cell? ⟨g, k * 18 + 1, none⟩ = some (.bool z.live) := us.cell k1 (fun e => by have : g = w.heap.size := e; omega)
    clear q4 HH h h1 hu1 hf q1 hb hg hr hrk r1 r2 us hud hv hD hi2 hzb hrg hlt hlg
    go_enter Try.func25, Try.ntmps25
    go_wp2_with fail
    refine HH'.out.mono ?_
    rintro e w2 ⟨rfl, rfl⟩
    go_wp2
    go_region_with (fail)
    all_goals
      go_wp2
      have hv := HV.out
      refine bodyPost_ret (v := .tuple #[.agg z.D, .bool z.live, .bool true]) ?_ ?_ ?_
      · simp [results, Try.f25, asAddr, Act.put, hv]
      · rfl
      exact ⟨rfl, HU.out⟩
set_option maxRecDepth 100000 in
set_option maxHeartbeats 2000000 in
theorem rdrop_any {data room : Int} (w : World) (F : Nat → Prop) (rb n : Nat) (zs : List Bk) (most b : Int) (h : (Ro rb n zs most).is w F) (hv : Inv data room zs) (hn : (n : Int) = data) (hm : n ≤ 65536) :
    Calls Try.prog 24 #[ptr rb, .int .i64 b] w fun e w' => e = .returned (.bool (dropB zs b)) ∧ Upd F w w' ∧ (Ro rb n (dropS zs b) most).is w' (AndNew F w) := by
  have HH := rhas_any w F rb n zs most b h hv hn hm
  cases hf : findB zs b with
  | none =>
    have hx := find_none_of hf
    have e1 : dropB zs b = false := by unfold dropB; rw [hx]; rfl
    have e2 : dropS zs b = zs := by unfold dropS; rw [hx]
    rw [hf] at HH
    rw [e1, e2]
    have HH' := Lib.hid HH
    have HF := Lib.hid ((Ro rb n zs most).mono h (G := AndNew F w) (fun k hk => .inl hk))
    clear HH h hf hx e1 e2
    go_enter Try.func24, Try.ntmps24
    go_wp2_with fail
    refine HH'.out.mono ?_
    rintro e w2 ⟨rfl, rfl⟩
    go_wp2
    go_ret
    exact ⟨rfl, Upd.refl _ _, HF.out⟩
  | some z =>
    obtain ⟨i, hx, hi2, hzb⟩ := find_of hf
    have hrg := hv.rng z (List.mem_of_getElem? hi2)
    rw [hzb] at hrg
    obtain ⟨k, rfl⟩ : ∃ k : Nat, b = k := ⟨b.toNat, by omega⟩
    have hk : k < n := by omega
    have hkn : (k : Int) < (n : Int) := by omega
    have e1 : dropB zs k = true := by unfold dropB; rw [hx]; rfl
    have hdn : findB (dropS zs (k : Int)) k = none := find_none_iff.2 (fun z hz => dropS_not hv (k : Int) z hz)
    have erec : recOf (dropS zs (k : Int)) k = TRbk.Z := by unfold recOf; rw [hdn]; kernel_rfl
    obtain ⟨g, hb, hg, hFb, hFg, hne, hr⟩ := open_ro h hv
    have c0 : w.cell? ⟨rb, 0, none⟩ = some (.slice (some ⟨g, 0, none⟩) n n) := hb.cell 0
    have HF := Lib.hid (ro_store (w' := w.setCells g (k * 18) TRbk.Z.toList) hv (hv.drop (k : Int)) hk (fun b' hb' => drop_otherB hv (k : Int) b' (by omega)) hb hg hFb hFg hne (by rw [erec]))
    have hth : w.there g (k * 18) TRbk.Z.size := there_of hg (by
      have hfl := flat_len (recs_isN hv n)
      have : (recs zs n).length = n := by simp [recs]
      rw [this] at hfl
      simp only [List.size_toArray]
      rw [hfl, TRbk.size_Z, ← Nat.succ_mul]
      exact Nat.mul_le_mul_right _ hk)
    have s1 : (TRbk.st (.pointer (some ⟨g, k * 18, none⟩)) (.agg TRbk.Z)).run Try.prog w = .ok () (w.setCells g (k * 18) TRbk.Z.toList) := run_storeAt_mid w g (k * 18) 70 TRbk.Z hth TRbk.infoSZ TRbk.isZ.all
    have s1' : (TRbk.st (.pointer (some ⟨g, k * 18, none⟩)) (.agg #[.bool false, .bool false, .int .u32 0, .int .u32 0, .int .u32 0, .int .u32 0, .int .u32 0, .int .u32 0, .int .u32 0, .int .u32 0, .int .u32 0, .int .u32 0, .int .u32 0, .int .u32 0, .int .u32 0, .int .u32 0, .int .u32 0, .int .u32 0])).run Try.prog w = .ok () (w.setCells g (k * 18) TRbk.Z.toList) := s1
    rw [hf] at HH
    rw [e1]
    have HH' := Lib.hid HH
    clear HH h hf hx e1 hdn erec hb hg hFb hFg hne hr hth s1 hi2 hzb hrg hv
    go_enter Try.func24, Try.ntmps24
    go_wp2_with fail
    refine HH'.out.mono ?_
    rintro e w2 ⟨rfl, rfl⟩
    go_wp2
    go_ret
    exact ⟨rfl, HF.out⟩
theorem flat_set1 {c : Nat} {xs : List (Array Value)} (h : ∀ x ∈ xs, IsN c x) (hc : 0 < c) {k r : Nat} {x : Array Value} (hx : xs[k]? = some x) (hr : r < c) (v : Value) (hv : v.oneCell' = true) :
    (rowsOf xs).flatten.toArray.setIfInBounds (k * c + r) v = (rowsOf (xs.set k (x.setIfInBounds r v))).flatten.toArray := by
  have hxN := h x (List.mem_of_getElem? hx)
  have hk := (List.getElem?_eq_some_iff.1 hx).1
  have hx' : IsN c (x.setIfInBounds r v) := by
    refine ⟨by simp [hxN.1], fun u hu => ?_⟩
    rcases Array.mem_or_eq_of_mem_setIfInBounds hu with hu | rfl
    · exact hxN.2 u hu
    · exact hv
  have h' : ∀ y ∈ xs.set k (x.setIfInBounds r v), IsN c y := fun y hy => by
    rcases List.mem_or_eq_of_mem_set hy with hy | rfl
    · exact h y hy
    · exact hx'
  apply Array.ext_getElem?
  intro j
  obtain ⟨q, r', hr', rfl⟩ : ∃ q r', r' < c ∧ j = q * c + r' := ⟨j / c, j % c, Nat.mod_lt _ hc, by rw [Nat.mul_comm]; exact (Nat.div_add_mod j c).symm⟩
  have e1 : ∀ (l : List Value) (i : Nat), l.toArray[i]? = l[i]? := fun l i => by simp
  have hfl := flat_len h
  have hb : k * c + c ≤ xs.length * c := by rw [← Nat.succ_mul]; exact Nat.mul_le_mul_right _ hk
  rw [Array.getElem?_setIfInBounds, e1, e1, flat_at h q r' hr', flat_at h' q r' hr']
  by_cases hqk : q = k
  · subst hqk
    rw [hx, List.getElem?_set_self hk]
    by_cases hrr : r = r'
    · subst hrr
      rw [if_pos rfl, if_pos (by simp only [List.size_toArray]; omega)]
      simp [hxN.1, hr]
    · rw [if_neg (by omega)]
      show x.toList[r']? = (x.setIfInBounds r v).toList[r']?
      simp [Array.getElem?_setIfInBounds, hrr]
  · have hne : ¬ k * c + r = q * c + r' := by
      rcases Nat.lt_or_gt_of_ne hqk with hlt | hlt
      · have := Nat.mul_le_mul_right c (Nat.succ_le_of_lt hlt)
        rw [Nat.succ_mul] at this; omega
      · have := Nat.mul_le_mul_right c (Nat.succ_le_of_lt hlt)
        rw [Nat.succ_mul] at this; omega
    rw [if_neg hne, List.getElem?_set_ne (fun e => hqk e.symm)]

def isAt (zs : List Bk) (b : Nat) : Bool := (findB zs (b : Int)).isSome
/-- How many there are: of each data block, is it there? -/
theorem count_all {data room : Int} {zs : List Bk} {n : Nat} (hv : Inv data room zs) (hn : (n : Int) = data) : (List.range n).countP (isAt zs) = zs.length := by
  rw [List.countP_eq_length_filter]
  have hp : ((List.range n).filter (isAt zs)).Perm (zs.map fun z => z.blk.toNat) := by
    refine (List.perm_ext_iff_of_nodup (List.Pairwise.filter _ List.nodup_range) ?_).2 fun b => ?_
    · refine List.pairwise_iff_getElem.2 ?_
      intro i j hi hj hij he
      simp at hi hj he
      have h1 := hv.rng zs[i] (List.getElem_mem hi)
      have h2 := hv.rng zs[j] (List.getElem_mem hj)
      have := hv.apart i j _ _ (List.getElem?_eq_getElem hi) (List.getElem?_eq_getElem hj) (by omega)
      omega
    · rw [List.mem_filter, List.mem_range, List.mem_map]
      constructor
      · rintro ⟨hb, hs⟩
        unfold isAt at hs
        cases hf : findB zs (b : Int) with
        | none => rw [hf] at hs; cases hs
        | some z =>
          obtain ⟨i, _, h2, h3⟩ := find_of hf
          exact ⟨z, List.mem_of_getElem? h2, by rw [h3]; simp⟩
      · rintro ⟨z, hz, rfl⟩
        have h1 := hv.rng z hz
        refine ⟨by omega, ?_⟩
        unfold isAt
        rw [(find_some_iff hv (b := ((z.blk.toNat : Nat) : Int)) (z := z)).2 ⟨hz, by omega⟩]
        rfl
  rw [hp.length_eq, List.length_map]

set_option maxRecDepth 100000 in
set_option maxHeartbeats 2000000 in
theorem rlen_any {data room : Int} (w : World) (F : Nat → Prop) (rb n : Nat) (zs : List Bk) (most : Int) (h : (Ro rb n zs most).is w F) (hv : Inv data room zs) (hn : (n : Int) = data) (hm : n ≤ 65536) :
    Calls Try.prog 26 #[ptr rb] w fun e w' => e = .returned (.int .i64 zs.length) ∧ w = w' := by
  obtain ⟨g, hb, hg, _, _, _, hr⟩ := open_ro h hv
  have c0 : w.cell? ⟨rb, 0, none⟩ = some (.slice (some ⟨g, 0, none⟩) n n) := hb.cell 0
  have HC := Lib.hid (show ∀ k : Nat, k < n → w.cell? ⟨g, k * 18, none⟩ = some (.bool (isAt zs k)) from fun k hk => by
    have := hr k hk
    unfold recOf at this
    unfold isAt
    cases hf : findB zs (k : Int) with
    | none => rw [hf] at this; exact (rec_cells this).1
    | some z => rw [hf] at this; exact (rec_cells this).1)
  have HCN := Lib.hid (count_all hv hn)
  clear h hv hb hg hr hn
  go_enter Try.func26, Try.ntmps26
  go_wp2_with fail
  go_loopw [3, 4] (fun c i wr => ∃ k : Nat, k ≤ n ∧ i = .int .i64 k ∧ c = .int .i64 ((List.range k).countP (isAt zs) : Nat) ∧ Hid (w = wr)) (fun _ i _ => n - (intOf i).toNat)
  case atStart => exact ⟨0, Nat.zero_le _, rfl, rfl, rfl⟩
  case round =>
    obtain ⟨k, hk, rfl, rfl, hw⟩ := hrel
    have hw' := hw.out
    subst hw'
    by_cases hlt : k < n
    · have hck := HC.out k hlt
      have hkn : (k : Int) < (n : Int) := by omega
      have hle : (List.range k).countP (isAt zs) ≤ k := by have := List.countP_le_length (p := isAt zs) (l := List.range k); simpa using this
      have hsu : (List.range (k + 1)).countP (isAt zs) = (List.range k).countP (isAt zs) + (if isAt zs k then 1 else 0) := by rw [List.range_succ, List.countP_append]; simp [List.countP_cons]
      have HSU := Lib.hid hsu
      generalize (List.range k).countP (isAt zs) = m at *
      clear hsu
      cases hfk : isAt zs k
      · rw [hfk] at hck HSU
        go_wp2_with fail
        exact ⟨⟨k + 1, by omega, by go_num, by rw [HSU.out]; simp, by first | trivial | rfl⟩, by simp [intOf]; omega⟩
      · rw [hfk] at hck HSU
        have hwm : IntKind.i64.wrap ((m : Int) + 1) = (m : Int) + 1 := IntWalk.i64_in _ (by omega)
        go_wp2_with fail
        exact ⟨⟨k + 1, by omega, by go_num, by rw [HSU.out]; simp, by first | trivial | rfl⟩, by simp [intOf]; omega⟩
    · obtain rfl : n = k := by omega
      rw [HCN.out]
      go_wp2_with fail
      go_ret
      exact ⟨rfl, rfl⟩
end Go.Proofs.Ytoddipfgkbaeaaa.BK
