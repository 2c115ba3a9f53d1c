/- undertow/undertowref12.Back: made, loaded and stored at one stroke. -/
import Derived.Test.YtjgeflbhmhmjdaaGreatSep
import Derived.Test.YtjgeflbhmhmjdaaGreatBacksC
import Derived.Laws.MakeOwn
import Derived.Deep.RegionHeld3
import Derived.Test.YtjgeflbhmhmjdaaGreatMarkS
set_option linter.unusedSimpArgs false
set_option linter.unusedVariables false
namespace Go.Proofs.YtjgeflbhmhmjdaaGreat.TRbk
open Go.RowKit
def Z : Array Value := #[.bool false, .bool false, .int .u32 0, .int .u32 0, .int .u32 0, .int .u32 0, .int .u32 0, .int .u32 0, .int .u32 0, .int .u32 0, .int .u32 0, .int .u32 0, .int .u32 0, .int .u32 0, .int .u32 0, .int .u32 0, .int .u32 0, .int .u32 0]
theorem size_Z : Z.size = 18 := by kernel_rfl
theorem isZ : IsN 18 Z := ⟨size_Z, Array.all_eq_true_iff_forall_mem.1 (by kernel_rfl)⟩
theorem infoZ : (Tryz.prog.info? 127).map (fun i => (i.zero, i.size)) = some (some (.agg Z), 18) := by kernel_rfl
theorem infoS : (Tryz.prog.info? 127).map (·.size) = some 18 := by kernel_rfl
theorem infoSZ : (Tryz.prog.info? 127).map (·.size) = some Z.size := by kernel_rfl
def ld (v : Value) : Sem Value := Instr.loadAt 127 v
def st (p v : Value) : Sem Unit := Instr.storeAt 127 p v
def bx (v : Value) : Sem Value := Instr.box 127 v
def al : Sem Value := Instr.alloc 127 true (.tuple #[])
theorem ld_eq (v : Value) : Instr.loadAt 127 v = ld v := rfl
theorem st_eq (p v : Value) : Instr.storeAt 127 p v = st p v := rfl
theorem bx_eq (v : Value) : Instr.box 127 v = bx v := rfl
theorem al_eq : Instr.alloc 127 true (.tuple #[]) = al := rfl
theorem al_run (w : World) : al.run Tryz.prog w = .ok (.pointer (some ⟨w.heap.size, 0, none⟩)) (w.alloc (.cells Z 127)) := agg_alloc (agg_zero infoZ) w
theorem bx_run (x : Array Value) (w : World) : (bx (.agg x)).run Tryz.prog w = .ok (.pointer (some ⟨w.heap.size, 0, none⟩)) (w.alloc (.cells x 127)) := agg_box x w
end Go.Proofs.YtjgeflbhmhmjdaaGreat.TRbk
namespace Go.Proofs.YtjgeflbhmhmjdaaGreat.BK
open Go.RowKit
open PL (Cfg CC CV May)
attribute [local go_sem] Oper.semAt_some
attribute [local go_sem ↓] TBlk.ld_eq TBlk.st_eq TBlk.al_eq TBlk.bx_eq TRbk.ld_eq TRbk.st_eq TRbk.al_eq TRbk.bx_eq
attribute [local go_sem] TBlk.al_run TBlk.bx_run TRbk.al_run TRbk.bx_run

def recA (is live : Bool) (D : Array Value) : Array Value := #[.bool is, .bool live] ++ D
def recOf (zs : List Bk) (b : Int) : Array Value := match findB zs b with | some z => recA true z.live z.D | none => recA false false TBlk.Z
def recs (zs : List Bk) (n : Nat) : List (Array Value) := (List.range n).map fun (b : Nat) => recOf zs (b : Int)
def Ro (rb n : Nat) (zs : List Bk) (most : Int) : Obj :=
  exO fun g => starO (boxO rb #[.slice (some ⟨g, 0, none⟩) n n, .int .i64 most] 130) (boxO g (rowsOf (recs zs n)).flatten.toArray 127)
theorem recA_isN {is live : Bool} {D : Array Value} (h : IsN 16 D) : IsN 18 (recA is live D) := by
  refine ⟨by simp [recA, h.1], fun u hu => ?_⟩
  simp [recA] at hu
  rcases hu with (rfl | rfl) | hu
  · rfl
  · rfl
  · exact h.2 u hu
theorem recOf_isN {data room : Int} {zs : List Bk} (h : Inv data room zs) (b : Int) : IsN 18 (recOf zs b) := by
  unfold recOf
  cases hf : findB zs b with
  | none => exact recA_isN TBlk.isZ
  | some z =>
    obtain ⟨i, _, h2, _⟩ := find_of hf
    exact recA_isN (h.isN z (List.mem_of_getElem? h2))
theorem recs_isN {data room : Int} {zs : List Bk} (h : Inv data room zs) (n : Nat) : ∀ x ∈ recs zs n, IsN 18 x := fun x hx => by
  obtain ⟨b, _, rfl⟩ := List.mem_map.1 hx
  exact recOf_isN h b
theorem recs_get (zs : List Bk) {n b : Nat} (hb : b < n) : (recs zs n)[b]? = some (recOf zs b) := by
  unfold recs
  rw [List.getElem?_map, List.getElem?_range hb]
  rfl
theorem open_ro {data room : Int} {w : World} {F : Nat → Prop} {rb n : Nat} {zs : List Bk} {most : Int} (h : (Ro rb n zs most).is w F) (hv : Inv data room zs) :
    ∃ g, Blk w rb #[.slice (some ⟨g, 0, none⟩) n n, .int .i64 most] 130 ∧ Blk w g (rowsOf (recs zs n)).flatten.toArray 127 ∧ F rb ∧ F g ∧ g ≠ rb ∧
      ∀ b, b < n → w.rangeAt g (b * 18) (recOf zs b).toList := by
  obtain ⟨g, F1, F2, h1, h2, h3, h4, h5⟩ := h
  refine ⟨g, h4.1, h5.1, h1 rb h4.2, h2 g h5.2, fun e => h3 rb h4.2 (e ▸ h5.2), fun b hb => h5.1.range (b * 18) _ (fun j v hv' => ?_)⟩
  have := flat_get (recs_isN hv n) (recs_get zs hb) j v hv'
  simpa using this
theorem rec_cells {w : World} {g o : Nat} {is live : Bool} {D : Array Value} (h : w.rangeAt g o (recA is live D).toList) : w.cell? ⟨g, o, none⟩ = some (.bool is) ∧ w.cell? ⟨g, o + 1, none⟩ = some (.bool live) ∧ w.rangeAt g (o + 2) D.toList := by
  refine ⟨h 0 _ (by simp [recA]), h 1 _ (by simp [recA]), fun j v hv => ?_⟩
  have := h (2 + j) v (by
    unfold recA
    rw [Array.toList_append, List.getElem?_append_right (by simp)]
    simpa using hv)
  rw [show o + 2 + j = o + (2 + j) from by omega]
  exact this

set_option maxRecDepth 100000 in
theorem rhas_any {data room : Int} (w : World) (F : Nat → Prop) (rb n : Nat) (zs : List Bk) (most b : Int) (h : (Ro rb n zs most).is w F) (hv : Inv data room zs) (hn : (n : Int) = data) (hm : n ≤ 65536) :
    Calls Tryz.prog 81 #[ptr rb, .int .i64 b] w fun e w' => e = .returned (.bool (findB zs b).isSome) ∧ w = w' := by
  obtain ⟨g, hb, hg, _, _, _, hr⟩ := open_ro h hv
  have c0 : w.cell? ⟨rb, 0, none⟩ = some (.slice (some ⟨g, 0, none⟩) n n) := hb.cell 0
  by_cases h0 : b < 0 ∨ (n : Int) ≤ b
  · have hf : (findB zs b).isSome = false := by
      rw [find_none_iff.2 (fun z hz he => by have := hv.rng z hz; omega)]; rfl
    rw [hf]
    clear h hv hb hg hr hf
    by_cases h1 : b < 0
    · have hb0 : decide (0 ≤ b) = false := by simp; omega
      go_enter Tryz.func81, Tryz.ntmps81
      go_wp2
      go_ret
      exact ⟨rfl, rfl⟩
    · have hb0 : decide (0 ≤ b) = true := by simp; omega
      have hb1 : decide (b < (n : Int)) = false := by simp; omega
      go_enter Tryz.func81, Tryz.ntmps81
      go_wp2
      go_ret
      exact ⟨rfl, rfl⟩
  · obtain ⟨k, rfl⟩ : ∃ k : Nat, b = k := ⟨b.toNat, by omega⟩
    have hk : k < n := by omega
    have hkn : (k : Int) < (n : Int) := by omega
    have hc : w.cell? ⟨g, k * 18, none⟩ = some (.bool (findB zs (k : Int)).isSome) := by
      have := hr k hk
      unfold recOf at this
      cases hf : findB zs (k : Int) with
      | none => rw [hf] at this; exact (rec_cells this).1
      | some z => rw [hf] at this; exact (rec_cells this).1
    generalize (findB zs (k : Int)).isSome = r at *
    clear h hv hb hg hr h0
    go_enter Tryz.func81, Tryz.ntmps81
    go_wp2
    go_ret
    exact ⟨rfl, rfl⟩
theorem flat_at {c : Nat} {xs : List (Array Value)} (h : ∀ x ∈ xs, IsN c x) (q r : Nat) (hr : r < c) : (rowsOf xs).flatten[q * c + r]? = (xs[q]?).bind fun z => z.toList[r]? := by
  cases hq : xs[q]? with
  | none =>
    have hl : xs.length ≤ q := List.getElem?_eq_none_iff.1 hq
    have hf := flat_len h
    have : xs.length * c ≤ q * c := Nat.mul_le_mul_right _ hl
    rw [List.getElem?_eq_none (by omega)]
    rfl
  | some z =>
    have hz := h z (List.mem_of_getElem? hq)
    have hrz : r < z.toList.length := by simp [hz.1]; exact hr
    rw [flat_get h hq r z.toList[r] (List.getElem?_eq_getElem hrz)]
    exact (List.getElem?_eq_getElem hrz).symm
theorem flat_set {c : Nat} {xs : List (Array Value)} (h : ∀ x ∈ xs, IsN c x) (hc : 0 < c) {k : Nat} (hk : k < xs.length) {x : Array Value} (hx : IsN c x) : setMany (rowsOf xs).flatten.toArray (k * c) x.toList = (rowsOf (xs.set k x)).flatten.toArray := by
  have h' : ∀ y ∈ xs.set k x, IsN c y := fun y hy => by
    rcases List.mem_or_eq_of_mem_set hy with hy | rfl
    · exact h y hy
    · exact hx
  apply Array.ext_getElem?
  intro j
  rw [get_setMany]
  obtain ⟨q, r, hr, rfl⟩ : ∃ q r, r < c ∧ j = q * c + r := ⟨j / c, j % c, Nat.mod_lt _ hc, by rw [Nat.mul_comm]; exact (Nat.div_add_mod j c).symm⟩
  have e1 : ∀ (l : List Value) (i : Nat), l.toArray[i]? = l[i]? := fun l i => by simp
  rw [e1, e1, flat_at h q r hr, flat_at h' q r hr]
  have hfl := flat_len h
  by_cases hqk : q = k
  · subst hqk
    have hb : q * c + c ≤ xs.length * c := by rw [← Nat.succ_mul]; exact Nat.mul_le_mul_right _ hk
    rw [if_pos ⟨by omega, by simp [hx.1]; omega, by simp only [List.size_toArray]; omega⟩, List.getElem?_set_self hk, show q * c + r - q * c = r from by omega]
    rfl
  · have hne : ¬ (k * c ≤ q * c + r ∧ q * c + r < k * c + x.toList.length ∧ q * c + r < (rowsOf xs).flatten.toArray.size) := by
      rintro ⟨g1, g2, _⟩
      simp [hx.1] at g2
      rcases Nat.lt_or_gt_of_ne hqk with hlt | hlt
      · have := Nat.mul_le_mul_right c (Nat.succ_le_of_lt hlt)
        rw [Nat.succ_mul] at this; omega
      · have := Nat.mul_le_mul_right c (Nat.succ_le_of_lt hlt)
        rw [Nat.succ_mul] at this; omega
    rw [if_neg hne, List.getElem?_set_ne (fun e => hqk e.symm)]
theorem recs_set {zs ys : List Bk} {n k : Nat} (hk : k < n) (h : ∀ b : Nat, b ≠ k → findB ys (b : Int) = findB zs (b : Int)) : recs ys n = (recs zs n).set k (recOf ys k) := by
  apply List.ext_getElem?
  intro b
  by_cases hb : b < n
  · rw [recs_get ys hb]
    by_cases e : b = k
    · subst e
      rw [List.getElem?_set_self (by simp [recs]; exact hb)]
    · rw [List.getElem?_set_ne (fun e' => e e'.symm), recs_get zs hb]
      unfold recOf
      rw [h b e]
  · rw [List.getElem?_eq_none (by simp [recs]; omega), List.getElem?_eq_none (by simp [recs]; omega)]
theorem ro_store {data room : Int} {w w' : World} {F : Nat → Prop} {rb n g : Nat} {zs ys : List Bk} {most : Int} {k : Nat} (hv : Inv data room zs) (hv' : Inv data room ys) (hk : k < n) (h : ∀ b : Nat, b ≠ k → findB ys (b : Int) = findB zs (b : Int))
    (hb : Blk w rb #[.slice (some ⟨g, 0, none⟩) n n, .int .i64 most] 130) (hg : Blk w g (rowsOf (recs zs n)).flatten.toArray 127) (hFb : F rb) (hFg : F g) (hne : g ≠ rb)
    (hw : w' = w.setCells g (k * 18) (recOf ys k).toList) : Upd F w w' ∧ (Ro rb n ys most).is w' (AndNew F w) := by
  subst hw
  have hu := upd_setCells (b := g) (recOf ys k).toList (k * 18) w
  have q := blk_setCells (recOf ys k).toList (k * 18) w _ hg
  rw [flat_set (recs_isN hv n) (by decide) (by simp [recs]; exact hk) (recOf_isN hv' k), ← recs_set hk h] at q
  refine ⟨hu.mono (fun i _ hi => by have e : i = g := hi; subst e; exact hFg), g, (fun i => i = rb), (fun i => i = g), fun i hi => by subst hi; exact .inl hFb, fun i hi => by subst hi; exact .inl hFg, fun i hi hj => by omega, ⟨hb.upd hu (fun e => hne (by have e' : rb = g := e; exact e'.symm)), rfl⟩, ⟨q, rfl⟩⟩
set_option maxRecDepth 100000 in
set_option maxHeartbeats 2000000 in
theorem rfind_any {data room : Int} (w : World) (F : Nat → Prop) (rb n : Nat) (zs : List Bk) (most b : Int) (h : (Ro rb n zs most).is w F) (hv : Inv data room zs) (hn : (n : Int) = data) (hm : n ≤ 65536) :
    Calls Tryz.prog 30 #[ptr rb, .int .i64 b] w fun e w' => e = .returned (findV zs b) ∧ Upd NoF w w' := by
  have hu1 := Upd.alloc NoF w (.cells TBlk.Z 35)
  have h1 := (Ro rb n zs most).keep h (hu1.kept (fun _ _ _ h => h))
  have HH := rhas_any _ F rb n zs most b h1 hv hn hm
  have q1 := Blk.new w TBlk.Z 35
  unfold findV
  cases hf : findB zs b with
  | none =>
    rw [hf] at HH
    have HH' := Lib.hid HH
    obtain ⟨s4, q4⟩ := TBlk.st_at TBlk.isZ TBlk.isZ q1
    have HV := Lib.hid (blkV _ TBlk.isZ _ _ _ q4)
    have HU := Lib.hid (hu1.trans (upd_setCells (b := w.heap.size) TBlk.Z.toList 0 _) (fun i hi h => by have : i = w.heap.size := h; omega))
    have s4' : (TBlk.st (.pointer (some ⟨w.heap.size, 0, none⟩)) (.agg #[.int .u32 0, .int .u32 0, .int .u32 0, .int .u32 0, .int .u32 0, .int .u32 0, .int .u32 0, .int .u32 0, .int .u32 0, .int .u32 0, .int .u32 0, .int .u32 0, .int .u32 0, .int .u32 0, .int .u32 0, .int .u32 0])).run Tryz.prog (w.alloc (.cells TBlk.Z 35)) = .ok () ((w.alloc (.cells TBlk.Z 35)).setCells w.heap.size 0 TBlk.Z.toList) := s4
    clear q4 s4 HH h h1 hu1 hf q1
    go_enter Tryz.func30, Tryz.ntmps30
    go_wp2_with fail
    refine HH'.out.mono ?_
    rintro e w2 ⟨rfl, rfl⟩
    go_wp2
    have hv := HV.out
    refine bodyPost_ret (v := .tuple #[.agg TBlk.Z, .bool false, .bool false]) ?_ ?_ ?_
    · simp [results, Tryz.f30, asAddr, Act.put, hv]
    · rfl
    exact ⟨rfl, HU.out⟩
  | some z =>
    obtain ⟨i, _, hi2, hzb⟩ := find_of hf
    have hrg := hv.rng z (List.mem_of_getElem? hi2)
    have hD := hv.isN z (List.mem_of_getElem? hi2)
    rw [hzb] at hrg
    obtain ⟨k, rfl⟩ : ∃ k : Nat, b = k := ⟨b.toNat, by omega⟩
    have hk : k < n := by omega
    have hkn : (k : Int) < (n : Int) := by omega
    obtain ⟨g, hb, hg, _, _, _, hr⟩ := open_ro h hv
    have hrk := hr k hk
    unfold recOf at hrk
    rw [hf] at hrk HH
    have HH' := Lib.hid HH
    obtain ⟨_, r1, r2⟩ := rec_cells hrk
    have hlt : rb < w.heap.size := hb.lt
    have hlg : g < w.heap.size := hg.lt
    have c0 : (w.alloc (.cells TBlk.Z 35)).cell? ⟨rb, 0, none⟩ = some (.slice (some ⟨g, 0, none⟩) n n) := (hb.alloc _).cell 0
    have k1 := hu1.cell r1 (fun h => h)
    have hud := hu1.trans (Upd.drew NoF _) (fun _ _ h => h)
    have lD := TBlk.ld_at hD (w := (w.alloc (.cells TBlk.Z 35)).drew) (b := g) (o := k * 18 + 2) (fun j v hv => hud.cell (r2 j v hv) (fun h => h))
    obtain ⟨s4, q4⟩ := TBlk.st_at TBlk.isZ hD (q1.upd (Upd.drew NoF _) (fun h => h))
    have us := upd_setCells (b := w.heap.size) z.D.toList 0 (w.alloc (.cells TBlk.Z 35)).drew
    have HV := Lib.hid (blkV _ hD _ _ _ q4)
    have HU := Lib.hid (hud.trans us (fun i hi h => by have : i = w.heap.size := h; omega))
    have d0 : ((w.alloc (.cells TBlk.Z 35)).drew.setCells w.heap.size 0 z.D.toList).cell? ⟨rb, 0, none⟩ = some (.slice (some ⟨g, 0, none⟩) n n) := us.cell c0 (fun e => by have : rb = w.heap.size := e; omega)
    have d1 : ((w.alloc (.cells TBlk.Z 35)).drew.setCells w.heap.size 0 z.D.toList).cell? ⟨g, k * 18 + 1, none⟩ = some (.bool z.live) := us.cell k1 (fun e => by have : g = w.heap.size := e; omega)
    clear q4 HH h h1 hu1 hf q1 hb hg hr hrk r1 r2 us hud hv hD hi2 hzb hrg hlt hlg
    go_enter Tryz.func30, Tryz.ntmps30
    go_wp2_with fail
    refine HH'.out.mono ?_
    rintro e w2 ⟨rfl, rfl⟩
    go_wp2
    go_region_with (fail)
    all_goals
      go_wp2
      have hv := HV.out
      refine bodyPost_ret (v := .tuple #[.agg z.D, .bool z.live, .bool true]) ?_ ?_ ?_
      · simp [results, Tryz.f30, asAddr, Act.put, hv]
      · rfl
      exact ⟨rfl, HU.out⟩
set_option maxRecDepth 100000 in
set_option maxHeartbeats 2000000 in
theorem rdrop_any {data room : Int} (w : World) (F : Nat → Prop) (rb n : Nat) (zs : List Bk) (most b : Int) (h : (Ro rb n zs most).is w F) (hv : Inv data room zs) (hn : (n : Int) = data) (hm : n ≤ 65536) :
    Calls Tryz.prog 120 #[ptr rb, .int .i64 b] w fun e w' => e = .returned (.bool (dropB zs b)) ∧ Upd F w w' ∧ (Ro rb n (dropS zs b) most).is w' (AndNew F w) := by
  have HH := rhas_any w F rb n zs most b h hv hn hm
  cases hf : findB zs b with
  | none =>
    have hx := find_none_of hf
    have e1 : dropB zs b = false := by unfold dropB; rw [hx]; rfl
    have e2 : dropS zs b = zs := by unfold dropS; rw [hx]
    rw [hf] at HH
    rw [e1, e2]
    have HH' := Lib.hid HH
    have HF := Lib.hid ((Ro rb n zs most).mono h (G := AndNew F w) (fun k hk => .inl hk))
    clear HH h hf hx e1 e2
    go_enter Tryz.func120, Tryz.ntmps120
    go_wp2_with fail
    refine HH'.out.mono ?_
    rintro e w2 ⟨rfl, rfl⟩
    go_wp2
    go_ret
    exact ⟨rfl, Upd.refl _ _, HF.out⟩
  | some z =>
    obtain ⟨i, hx, hi2, hzb⟩ := find_of hf
    have hrg := hv.rng z (List.mem_of_getElem? hi2)
    rw [hzb] at hrg
    obtain ⟨k, rfl⟩ : ∃ k : Nat, b = k := ⟨b.toNat, by omega⟩
    have hk : k < n := by omega
    have hkn : (k : Int) < (n : Int) := by omega
    have e1 : dropB zs k = true := by unfold dropB; rw [hx]; rfl
    have hdn : findB (dropS zs (k : Int)) k = none := find_none_iff.2 (fun z hz => dropS_not hv (k : Int) z hz)
    have erec : recOf (dropS zs (k : Int)) k = TRbk.Z := by unfold recOf; rw [hdn]; kernel_rfl
    obtain ⟨g, hb, hg, hFb, hFg, hne, hr⟩ := open_ro h hv
    have c0 : w.cell? ⟨rb, 0, none⟩ = some (.slice (some ⟨g, 0, none⟩) n n) := hb.cell 0
    have HF := Lib.hid (ro_store (w' := w.setCells g (k * 18) TRbk.Z.toList) hv (hv.drop (k : Int)) hk (fun b' hb' => drop_otherB hv (k : Int) b' (by omega)) hb hg hFb hFg hne (by rw [erec]))
    have hth : w.there g (k * 18) TRbk.Z.size := there_of hg (by
      have hfl := flat_len (recs_isN hv n)
      have : (recs zs n).length = n := by simp [recs]
      rw [this] at hfl
      simp only [List.size_toArray]
      rw [hfl, TRbk.size_Z, ← Nat.succ_mul]
      exact Nat.mul_le_mul_right _ hk)
    have s1 : (TRbk.st (.pointer (some ⟨g, k * 18, none⟩)) (.agg TRbk.Z)).run Tryz.prog w = .ok () (w.setCells g (k * 18) TRbk.Z.toList) := run_storeAt_mid w g (k * 18) 127 TRbk.Z hth TRbk.infoSZ TRbk.isZ.all
    have s1' : (TRbk.st (.pointer (some ⟨g, k * 18, none⟩)) (.agg #[.bool false, .bool false, .int .u32 0, .int .u32 0, .int .u32 0, .int .u32 0, .int .u32 0, .int .u32 0, .int .u32 0, .int .u32 0, .int .u32 0, .int .u32 0, .int .u32 0, .int .u32 0, .int .u32 0, .int .u32 0, .int .u32 0, .int .u32 0])).run Tryz.prog w = .ok () (w.setCells g (k * 18) TRbk.Z.toList) := s1
    rw [hf] at HH
    rw [e1]
    have HH' := Lib.hid HH
    clear HH h hf hx e1 hdn erec hb hg hFb hFg hne hr hth s1 hi2 hzb hrg hv
    go_enter Tryz.func120, Tryz.ntmps120
    go_wp2_with fail
    refine HH'.out.mono ?_
    rintro e w2 ⟨rfl, rfl⟩
    go_wp2
    go_ret
    exact ⟨rfl, HF.out⟩
theorem flat_set1 {c : Nat} {xs : List (Array Value)} (h : ∀ x ∈ xs, IsN c x) (hc : 0 < c) {k r : Nat} {x : Array Value} (hx : xs[k]? = some x) (hr : r < c) (v : Value) (hv : v.oneCell' = true) :
    (rowsOf xs).flatten.toArray.setIfInBounds (k * c + r) v = (rowsOf (xs.set k (x.setIfInBounds r v))).flatten.toArray := by
  have hxN := h x (List.mem_of_getElem? hx)
  have hk := (List.getElem?_eq_some_iff.1 hx).1
  have hx' : IsN c (x.setIfInBounds r v) := by
    refine ⟨by simp [hxN.1], fun u hu => ?_⟩
    rcases Array.mem_or_eq_of_mem_setIfInBounds hu with hu | rfl
    · exact hxN.2 u hu
    · exact hv
  have h' : ∀ y ∈ xs.set k (x.setIfInBounds r v), IsN c y := fun y hy => by
    rcases List.mem_or_eq_of_mem_set hy with hy | rfl
    · exact h y hy
    · exact hx'
  apply Array.ext_getElem?
  intro j
  obtain ⟨q, r', hr', rfl⟩ : ∃ q r', r' < c ∧ j = q * c + r' := ⟨j / c, j % c, Nat.mod_lt _ hc, by rw [Nat.mul_comm]; exact (Nat.div_add_mod j c).symm⟩
  have e1 : ∀ (l : List Value) (i : Nat), l.toArray[i]? = l[i]? := fun l i => by simp
  have hfl := flat_len h
  have hb : k * c + c ≤ xs.length * c := by rw [← Nat.succ_mul]; exact Nat.mul_le_mul_right _ hk
  rw [Array.getElem?_setIfInBounds, e1, e1, flat_at h q r' hr', flat_at h' q r' hr']
  by_cases hqk : q = k
  · subst hqk
    rw [hx, List.getElem?_set_self hk]
    by_cases hrr : r = r'
    · subst hrr
      rw [if_pos rfl, if_pos (by simp only [List.size_toArray]; omega)]
      simp [hxN.1, hr]
    · rw [if_neg (by omega)]
      show x.toList[r']? = (x.setIfInBounds r v).toList[r']?
      simp [Array.getElem?_setIfInBounds, hrr]
  · have hne : ¬ k * c + r = q * c + r' := by
      rcases Nat.lt_or_gt_of_ne hqk with hlt | hlt
      · have := Nat.mul_le_mul_right c (Nat.succ_le_of_lt hlt)
        rw [Nat.succ_mul] at this; omega
      · have := Nat.mul_le_mul_right c (Nat.succ_le_of_lt hlt)
        rw [Nat.succ_mul] at this; omega
    rw [if_neg hne, List.getElem?_set_ne (fun e => hqk e.symm)]

def isAt (zs : List Bk) (b : Nat) : Bool := (findB zs (b : Int)).isSome
theorem count_all {data room : Int} {zs : List Bk} {n : Nat} (hv : Inv data room zs) (hn : (n : Int) = data) : (List.range n).countP (isAt zs) = zs.length := by
  rw [List.countP_eq_length_filter]
  have hp : ((List.range n).filter (isAt zs)).Perm (zs.map fun z => z.blk.toNat) := by
    refine (List.perm_ext_iff_of_nodup (List.Pairwise.filter _ List.nodup_range) ?_).2 fun b => ?_
    · refine List.pairwise_iff_getElem.2 ?_
      intro i j hi hj hij he
      simp at hi hj he
      have h1 := hv.rng zs[i] (List.getElem_mem hi)
      have h2 := hv.rng zs[j] (List.getElem_mem hj)
      have := hv.apart i j _ _ (List.getElem?_eq_getElem hi) (List.getElem?_eq_getElem hj) (by omega)
      omega
    · rw [List.mem_filter, List.mem_range, List.mem_map]
      constructor
      · rintro ⟨hb, hs⟩
        unfold isAt at hs
        cases hf : findB zs (b : Int) with
        | none => rw [hf] at hs; cases hs
        | some z =>
          obtain ⟨i, _, h2, h3⟩ := find_of hf
          exact ⟨z, List.mem_of_getElem? h2, by rw [h3]; simp⟩
      · rintro ⟨z, hz, rfl⟩
        have h1 := hv.rng z hz
        refine ⟨by omega, ?_⟩
        unfold isAt
        rw [(find_some_iff hv (b := ((z.blk.toNat : Nat) : Int)) (z := z)).2 ⟨hz, by omega⟩]
        rfl
  rw [hp.length_eq, List.length_map]

set_option maxRecDepth 100000 in
set_option maxHeartbeats 2000000 in
theorem rlen_any {data room : Int} (w : World) (F : Nat → Prop) (rb n : Nat) (zs : List Bk) (most : Int) (h : (Ro rb n zs most).is w F) (hv : Inv data room zs) (hn : (n : Int) = data) (hm : n ≤ 65536) :
    Calls Tryz.prog 110 #[ptr rb] w fun e w' => e = .returned (.int .i64 zs.length) ∧ w = w' := by
  obtain ⟨g, hb, hg, _, _, _, hr⟩ := open_ro h hv
  have c0 : w.cell? ⟨rb, 0, none⟩ = some (.slice (some ⟨g, 0, none⟩) n n) := hb.cell 0
  have HC := Lib.hid (show ∀ k : Nat, k < n → w.cell? ⟨g, k * 18, none⟩ = some (.bool (isAt zs k)) from fun k hk => by
    have := hr k hk
    unfold recOf at this
    unfold isAt
    cases hf : findB zs (k : Int) with
    | none => rw [hf] at this; exact (rec_cells this).1
    | some z => rw [hf] at this; exact (rec_cells this).1)
  have HCN := Lib.hid (count_all hv hn)
  clear h hv hb hg hr hn
  go_enter Tryz.func110, Tryz.ntmps110
  go_wp2_with fail
  go_loopw [3, 4] (fun c i wr => ∃ k : Nat, k ≤ n ∧ i = .int .i64 k ∧ c = .int .i64 ((List.range k).countP (isAt zs) : Nat) ∧ Hid (w = wr)) (fun _ i _ => n - (Go.RowKit.intOf i).toNat)
  case atStart => exact ⟨0, Nat.zero_le _, rfl, rfl, rfl⟩
  case round =>
    obtain ⟨k, hk, rfl, rfl, hw⟩ := hrel
    have hw' := hw.out
    subst hw'
    by_cases hlt : k < n
    · have hck := HC.out k hlt
      have hkn : (k : Int) < (n : Int) := by omega
      have hle : (List.range k).countP (isAt zs) ≤ k := by have := List.countP_le_length (p := isAt zs) (l := List.range k); simpa using this
      have hsu : (List.range (k + 1)).countP (isAt zs) = (List.range k).countP (isAt zs) + (if isAt zs k then 1 else 0) := by rw [List.range_succ, List.countP_append]; simp [List.countP_cons]
      have HSU := Lib.hid hsu
      generalize (List.range k).countP (isAt zs) = m at *
      clear hsu
      cases hfk : isAt zs k
      · rw [hfk] at hck HSU
        go_wp2_with fail
        exact ⟨⟨k + 1, by omega, by go_num, by rw [HSU.out]; simp, by first | trivial | rfl⟩, by simp [Go.RowKit.intOf]; omega⟩
      · rw [hfk] at hck HSU
        have hwm : IntKind.i64.wrap ((m : Int) + 1) = (m : Int) + 1 := IntWalk.i64_in _ (by omega)
        go_wp2_with fail
        exact ⟨⟨k + 1, by omega, by go_num, by rw [HSU.out]; simp, by first | trivial | rfl⟩, by simp [Go.RowKit.intOf]; omega⟩
    · obtain rfl : n = k := by omega
      rw [HCN.out]
      go_wp2_with fail
      go_ret
      exact ⟨rfl, rfl⟩
end Go.Proofs.YtjgeflbhmhmjdaaGreat.BK
namespace Go.Proofs.YtjgeflbhmhmjdaaGreat.BK
open Go.RowKit
open PL (Cfg CC CV May)
attribute [local go_sem] Oper.semAt_some
attribute [local go_sem ↓] TBlk.ld_eq TBlk.st_eq TBlk.al_eq TBlk.bx_eq TRbk.ld_eq TRbk.st_eq TRbk.al_eq TRbk.bx_eq
attribute [local go_sem] TBlk.al_run TBlk.bx_run TRbk.al_run TRbk.bx_run

set_option maxRecDepth 100000 in
set_option maxHeartbeats 2000000 in
theorem rkill_any {data room : Int} (w : World) (F : Nat → Prop) (rb n : Nat) (zs : List Bk) (most b : Int) (h : (Ro rb n zs most).is w F) (hv : Inv data room zs) (hn : (n : Int) = data) (hm : n ≤ 65536) :
    Calls Tryz.prog 145 #[ptr rb, .int .i64 b] w fun e w' => e = .returned (.bool (killB zs b)) ∧ Upd F w w' ∧ (Ro rb n (killS zs b) most).is w' (AndNew F w) := by
  have HH := rhas_any w F rb n zs most b h hv hn hm
  cases hf : findB zs b with
  | none =>
    have e1 : killB zs b = false := by unfold killB; rw [hf]
    have e2 : killS zs b = zs := by unfold killS; rw [hf]
    rw [hf] at HH
    rw [e1, e2]
    have HH' := Lib.hid HH
    have HF := Lib.hid ((Ro rb n zs most).mono h (G := AndNew F w) (fun k hk => .inl hk))
    clear HH h hf e1 e2
    go_enter Tryz.func145, Tryz.ntmps145
    go_wp2_with fail
    refine HH'.out.mono ?_
    rintro e w2 ⟨rfl, rfl⟩
    go_wp2
    go_ret
    exact ⟨rfl, Upd.refl _ _, HF.out⟩
  | some z =>
    obtain ⟨i, hx, hi2, hzb⟩ := find_of hf
    have hrg := hv.rng z (List.mem_of_getElem? hi2)
    rw [hzb] at hrg
    obtain ⟨k, rfl⟩ : ∃ k : Nat, b = k := ⟨b.toNat, by omega⟩
    have hk : k < n := by omega
    have hkn : (k : Int) < (n : Int) := by omega
    obtain ⟨g, hb, hg, hFb, hFg, hne, hr⟩ := open_ro h hv
    have c0 : w.cell? ⟨rb, 0, none⟩ = some (.slice (some ⟨g, 0, none⟩) n n) := hb.cell 0
    have hrk := hr k hk
    have hrec : recOf zs k = recA true z.live z.D := by unfold recOf; rw [hf]
    rw [hrec] at hrk
    obtain ⟨_, r1, _⟩ := rec_cells hrk
    have e1 : killB zs k = z.live := by unfold killB; rw [hf]
    rw [hf] at HH
    rw [e1]
    have HH' := Lib.hid HH
    cases hl : z.live with
    | false =>
      have e2 : killS zs k = zs := by unfold killS; rw [hf]; show (if z.live then _ else zs) = zs; rw [hl]; rfl
      rw [e2]
      rw [hl] at r1
      have HF := Lib.hid ((Ro rb n zs most).mono h (G := AndNew F w) (fun k hk => .inl hk))
      clear HH h hf hx e1 e2 hb hg hFb hFg hne hr hrk hrec hi2 hzb hrg hv hl
      go_enter Tryz.func145, Tryz.ntmps145
      go_wp2_with fail
      refine HH'.out.mono ?_
      rintro e w2 ⟨rfl, rfl⟩
      go_wp2
      go_ret
      exact ⟨rfl, Upd.refl _ _, HF.out⟩
    | true =>
      have hks := kill_same hv (k : Int) hf
      have hfk : ∃ y, findB (killS zs (k : Int)) k = some y ∧ y.D = z.D ∧ y.live = false := by
        have hm : (⟨k, z.D, false⟩ : Bk) ∈ killS zs (k : Int) := by unfold killS; rw [hf]; show _ ∈ (if z.live then _ else zs); rw [hl, if_pos rfl]; simp
        exact ⟨_, (find_some_iff (hv.kill (k : Int))).2 ⟨hm, rfl⟩, rfl, rfl⟩
      obtain ⟨y, hy1, hy2, hy3⟩ := hfk
      have hrec' : recOf (killS zs (k : Int)) k = (recOf zs k).setIfInBounds 1 (.bool false) := by
        rw [hrec]; unfold recOf; rw [hy1]
        show recA true y.live y.D = _
        rw [hy2, hy3, hl]
        unfold recA
        apply Array.ext_getElem?
        intro j
        rw [Array.getElem?_setIfInBounds]
        rcases Nat.lt_or_ge j 2 with hj | hj
        · have : j = 0 ∨ j = 1 := by omega
          rcases this with rfl | rfl
          · rw [if_neg (by decide), Array.getElem?_append_left (by simp), Array.getElem?_append_left (by simp)]
            rfl
          · rw [if_pos rfl, if_pos (by simp; omega), Array.getElem?_append_left (by simp)]
            rfl
        · rw [if_neg (by omega), Array.getElem?_append_right (by simpa using hj), Array.getElem?_append_right (by simpa using hj)]
          rfl
      have hget : (recs zs n)[k]? = some (recOf zs k) := recs_get zs hk
      have hset := recs_set (ys := killS zs (k : Int)) hk (fun b' hb' => kill_otherB hv (k : Int) b' (by omega))
      have hq := hg.set (k * 18 + 1) (.bool false)
      rw [flat_set1 (recs_isN hv n) (by decide) hget (by decide) (.bool false) rfl, ← hrec', ← hset] at hq
      have hu : Upd (fun i => i = g) w (w.setCell ⟨g, k * 18 + 1, none⟩ (.bool false)) := Upd.setCell (F := fun i => i = g) w (p := ⟨g, k * 18 + 1, none⟩) rfl _
      have HF : Hid (Upd F w (w.setCell ⟨g, k * 18 + 1, none⟩ (.bool false)) ∧ (Ro rb n (killS zs (k : Int)) most).is (w.setCell ⟨g, k * 18 + 1, none⟩ (.bool false)) (AndNew F w)) :=
        ⟨hu.mono (fun i _ hi => by subst hi; exact hFg), g, (fun i => i = rb), (fun i => i = g), fun i hi => by subst hi; exact .inl hFb, fun i hi => by subst hi; exact .inl hFg, fun i hi hj => by omega, ⟨hb.upd hu (fun e => hne e.symm), rfl⟩, ⟨hq, rfl⟩⟩
      rw [hl] at r1
      have fz := hg.frozen (k * 18 + 1)
      clear HH h hf hx e1 hb hg hFb hFg hne hr hrk hrec hi2 hzb hrg hv hl hks hy1 hy2 hy3 hrec' hget hset hq hu
      go_enter Tryz.func145, Tryz.ntmps145
      go_wp2_with fail
      refine HH'.out.mono ?_
      rintro e w2 ⟨rfl, rfl⟩
      go_wp2
      go_ret
      exact ⟨rfl, HF.out⟩
set_option maxRecDepth 100000 in
set_option maxHeartbeats 2000000 in
theorem rput_any {data : Int} (w : World) (F : Nat → Prop) (rb n : Nat) (zs : List Bk) (most b : Int) (D : Array Value) (hD : IsN 16 D) (h : (Ro rb n zs most).is w F) (hv : Inv data most zs) (hn : (n : Int) = data) (hm : n ≤ 65536) :
    Calls Tryz.prog 111 #[ptr rb, .int .i64 b, .agg D] w fun e w' => e = .returned (.int .i64 (putE data most zs b)) ∧ Upd F w w' ∧ (Ro rb n (putS data most zs b D) most).is w' (AndNew F w) := by
  have hu1 := Upd.alloc NoF w (.cells D 35)
  have h1 := (Ro rb n zs most).keep h (hu1.kept (fun _ _ _ h => h))
  obtain ⟨g, hb, hg, hFb, hFg, hne, hr⟩ := open_ro h hv
  have c0 : (w.alloc (.cells D 35)).cell? ⟨rb, 0, none⟩ = some (.slice (some ⟨g, 0, none⟩) n n) := (hb.alloc _).cell 0
  have c1 : (w.alloc (.cells D 35)).cell? ⟨rb, 1, none⟩ = some (.int .i64 most) := (hb.alloc _).cell 1
  have same : ∀ w' : World, Upd NoF w w' → putE data most zs b ≠ 0 → Upd F w w' ∧ (Ro rb n (putS data most zs b D) most).is w' (AndNew F w) := fun w' hu he => by
    rw [put_none he]
    exact ⟨hu.mono (fun _ _ h => h.elim), (Ro rb n zs most).mono ((Ro rb n zs most).keep h (hu.kept (fun _ _ _ h => h))) (fun k hk => .inl hk)⟩
  have HSame := Lib.hid same
  clear same
  by_cases h0 : b < 0 ∨ data ≤ b
  · have he : putE data most zs b = 2 := by unfold putE; rw [if_pos h0]
    have HR := Lib.hid (HSame.out _ hu1 (by rw [he]; decide))
    rw [he]
    clear h h1 hb hg hr he hu1 hv HSame
    subst hn
    by_cases h1 : b < 0
    · go_enter Tryz.func111, Tryz.ntmps111
      go_wp2
      go_ret
      exact ⟨rfl, HR.out⟩
    · have h2 : (n : Int) ≤ b := by omega
      go_enter Tryz.func111, Tryz.ntmps111
      go_wp2
      go_ret
      exact ⟨rfl, HR.out⟩
  · obtain ⟨k, rfl⟩ : ∃ k : Nat, b = k := ⟨b.toNat, by omega⟩
    have hk : k < n := by omega
    have hkn : (k : Int) < (n : Int) := by omega
    have hk0 : ¬ ((n : Int) ≤ (k : Int)) := by omega
    have hrk := hr k hk
    cases hf : findB zs (k : Int) with
    | some z =>
      have he := putE_there hv hf
      have HR := Lib.hid (HSame.out _ hu1 (by rw [he]; decide))
      rw [he]
      unfold recOf at hrk
      rw [hf] at hrk
      have k0 := hu1.cell (rec_cells hrk).1 (fun h => h)
      clear h h1 hb hg hr he hu1 hv HSame hrk hf h0 hn
      go_enter Tryz.func111, Tryz.ntmps111
      go_wp2
      go_ret
      exact ⟨rfl, HR.out⟩
    | none =>
      have hx := find_none_of hf
      have hrk0 := hrk
      unfold recOf at hrk0
      rw [hf] at hrk0
      have k0 := hu1.cell (rec_cells hrk0).1 (fun h => h)
      have HL := Lib.hid (fun (m : Nat) => rlen_any ((w.alloc (.cells D 35)).drewN m) F rb n zs most ((Ro rb n zs most).keep h1 ((Upd.drewN NoF _ m).kept (fun _ _ _ h => h))) hv hn hm)
      by_cases hl : most ≤ (zs.length : Int)
      · have he : putE data most zs k = 7 := by unfold putE; rw [if_neg h0, hx]; simp [hl]
        have HR := Lib.hid (fun (m : Nat) => HSame.out _ (hu1.trans (Upd.drewN NoF _ m) (fun _ _ h => h)) (by rw [he]; decide))
        rw [he]
        clear h h1 hb hg hr he hu1 hv HSame hrk hrk0 hf h0 hn hx
        generalize (zs.length : Int) = len at *
        go_enter Tryz.func111, Tryz.ntmps111
        go_wp2
        go_quiet (first | (go_at_call 110; exact Calls.quiet_of_same ((HL.out _).mono (fun _ _ h => ⟨h.1, h.2.symm⟩))))
        go_wp2
        go_ret
        exact ⟨rfl, HR.out _⟩
      · have he : putE data most zs k = 0 := by unfold putE; rw [if_neg h0, hx]; simp [hl]
        have hlb : ¬ most ≤ (zs.length : Int) := hl
        have hrec : recOf (putS data most zs (k : Int) D) k = recA true true D := by
          unfold recOf
          have hm : (⟨k, D, true⟩ : Bk) ∈ putS data most zs (k : Int) D := by unfold putS; rw [if_pos he]; simp
          rw [(find_some_iff (hv.put (k : Int) hD)).2 ⟨hm, rfl⟩]
        have q1 := Blk.new w D 35
        have HQ := Lib.hid (fun (m : Nat) => by
          have hum := hu1.trans (Upd.drewN NoF (w.alloc (.cells D 35)) m) (fun _ _ h => h)
          have hbm := hb.upd hum (fun h => h)
          have hgm := hg.upd hum (fun h => h)
          have hst := ro_store (w' := ((w.alloc (.cells D 35)).drewN m).setCells g (k * 18) (recA true true D).toList) hv (hv.put (k : Int) hD) hk (fun b' hb' => put_otherB hv (k : Int) b' (by omega) hD) hbm hgm hFb hFg hne (by rw [hrec])
          have hth : ((w.alloc (.cells D 35)).drewN m).there g (k * 18) (recA true true D).size := there_of hgm (by
            have hfl := flat_len (recs_isN hv n)
            have : (recs zs n).length = n := by simp [recs]
            rw [this] at hfl
            simp only [List.size_toArray]
            rw [hfl, (recA_isN hD).1, ← Nat.succ_mul]
            exact Nat.mul_le_mul_right _ hk)
          have s1 : (TRbk.st (.pointer (some ⟨g, k * 18, none⟩)) (.agg (recA true true D))).run Tryz.prog ((w.alloc (.cells D 35)).drewN m) = .ok () (((w.alloc (.cells D 35)).drewN m).setCells g (k * 18) (recA true true D).toList) := run_storeAt_mid _ g (k * 18) 127 (recA true true D) hth (by rw [TRbk.infoS, (recA_isN hD).1]) (recA_isN hD).all
          have l1 := TBlk.ld_at hD (q1.upd (Upd.drewN NoF _ m) (fun h => h)).whole
          exact And.intro l1 (And.intro s1 (And.intro ((hum.mono (G := F) (fun _ _ h => h.elim)).trans hst.1 (fun _ _ h => h)) ((Ro rb n (putS data most zs (k : Int) D) most).mono hst.2 (AndNew.le hum.size)))))
        rw [he]
        obtain ⟨d0, d1, d2, d3, d4, d5, d6, d7, d8, d9, d10, d11, d12, d13, d14, d15, rfl⟩ := split16 hD.1
        have hl1 := fun m => (HQ.out m).1
        have hs1 : ∀ m : Nat, (TRbk.st (.pointer (some ⟨g, k * 18, none⟩)) (.agg #[.bool true, .bool true, d0, d1, d2, d3, d4, d5, d6, d7, d8, d9, d10, d11, d12, d13, d14, d15])).run Tryz.prog ((w.alloc (.cells #[d0, d1, d2, d3, d4, d5, d6, d7, d8, d9, d10, d11, d12, d13, d14, d15] 35)).drewN m) = .ok () (((w.alloc (.cells #[d0, d1, d2, d3, d4, d5, d6, d7, d8, d9, d10, d11, d12, d13, d14, d15] 35)).drewN m).setCells g (k * 18) (recA true true #[d0, d1, d2, d3, d4, d5, d6, d7, d8, d9, d10, d11, d12, d13, d14, d15]).toList) := fun m => by
          have e : recA true true #[d0, d1, d2, d3, d4, d5, d6, d7, d8, d9, d10, d11, d12, d13, d14, d15] = #[.bool true, .bool true, d0, d1, d2, d3, d4, d5, d6, d7, d8, d9, d10, d11, d12, d13, d14, d15] := by kernel_rfl
          rw [← e]; exact (HQ.out m).2.1
        have HR := Lib.hid (fun m => (HQ.out m).2.2)
        clear h h1 hb hg hr he hu1 hv HSame hrk hrk0 hf h0 hn hx HQ q1 hrec hD
        generalize (zs.length : Int) = len at *
        go_enter Tryz.func111, Tryz.ntmps111
        go_wp2
        go_quiet (first | (go_at_call 110; exact Calls.quiet_of_same ((HL.out _).mono (fun _ _ h => ⟨h.1, h.2.symm⟩))))
        go_wp2
        go_region_with (fail)
        all_goals
          go_wp2
          go_ret
          exact ⟨rfl, HR.out _⟩
end Go.Proofs.YtjgeflbhmhmjdaaGreat.BK
namespace Go.Proofs.YtjgeflbhmhmjdaaGreat.BK
open Go.RowKit
open PL (Cfg CC CV May)
attribute [local go_sem] Oper.semAt_some
attribute [local go_sem ↓] TBlk.ld_eq TBlk.st_eq TBlk.al_eq TBlk.bx_eq TRbk.ld_eq TRbk.st_eq TRbk.al_eq TRbk.bx_eq
attribute [local go_sem] TBlk.al_run TBlk.bx_run TRbk.al_run TRbk.bx_run

theorem made_rep {c : Nat} {z : Array Value} (hz : z.size = c) (hc : 0 < c) (n : Nat) : madeCells z (n * c) = (rowsOf (List.replicate n z)).flatten.toArray := by
  apply Array.ext_getElem?
  intro j
  obtain ⟨q, r, hr, rfl⟩ : ∃ q r, r < c ∧ j = q * c + r := ⟨j / c, j % c, Nat.mod_lt _ hc, by rw [Nat.mul_comm]; exact (Nat.div_add_mod j c).symm⟩
  have hL : ∀ (m : Nat) (q : Nat), (rowsOf (List.replicate m z)).flatten[q * c + r]? = if q < m then z.toList[r]? else none := by
    intro m
    induction m with
    | zero => intro q; simp [rowsOf]
    | succ m ih =>
      intro q
      rw [List.replicate_succ]
      show (z.toList ++ (rowsOf (List.replicate m z)).flatten)[q * c + r]? = _
      cases q with
      | zero =>
        rw [List.getElem?_append_left (by simp [hz]; omega)]
        simp
      | succ q =>
        have e : (q + 1) * c + r - c = q * c + r := by rw [Nat.succ_mul]; omega
        rw [List.getElem?_append_right (by simp [hz, Nat.succ_mul]; omega), Array.length_toList, hz, e, ih q]
        simp
  have e1 : ((rowsOf (List.replicate n z)).flatten.toArray)[q * c + r]? = (rowsOf (List.replicate n z)).flatten[q * c + r]? := by simp
  rw [e1, hL n q]
  unfold madeCells
  by_cases hq : q < n
  · have hb : q * c + r < n * c := by
      have := Nat.mul_le_mul_right c (Nat.succ_le_of_lt hq)
      rw [Nat.succ_mul] at this; omega
    rw [if_pos hq, Array.getElem?_map, Array.getElem?_range, if_pos hb]
    have hm : (q * c + r) % z.size = r := by rw [hz, Nat.add_comm, Nat.add_mul_mod_self_right, Nat.mod_eq_of_lt hr]
    show some z[(q * c + r) % z.size]! = _
    rw [hm]
    have hrz : r < z.size := by omega
    simp [hrz]
  · have hb : ¬ q * c + r < n * c := by
      have := Nat.mul_le_mul_right c (Nat.le_of_not_lt hq)
      omega
    rw [if_neg hq, Array.getElem?_map, Array.getElem?_range, if_neg hb]
    rfl
theorem recs_nil (n : Nat) : recs [] n = List.replicate n TRbk.Z := by
  unfold recs
  rw [List.eq_replicate_iff]
  refine ⟨by simp, fun b hb => ?_⟩
  obtain ⟨k, _, rfl⟩ := List.mem_map.1 hb
  kernel_rfl

def mkR (l c : Value) : Sem Value := Instr.makeSlice 128 l c
theorem mkR_eq (l c : Value) : Instr.makeSlice 128 l c = mkR l c := rfl
attribute [local go_sem ↓] mkR_eq
theorem mkR_run (n : Nat) (hn : n ≤ 65536) (w : World) : (mkR (.int .i64 n) (.int .i64 n)).run Tryz.prog w = .ok (.slice (some ⟨w.heap.size, 0, none⟩) n n) (w.alloc (.cells (rowsOf (recs [] n)).flatten.toArray 127)) := by
  have hi : (Tryz.prog.info? 127).map (fun i => (i.zero, i.size, i.bytes)) = some (some (.agg TRbk.Z), 18, 68) := by kernel_rfl
  cases hq : Tryz.prog.info? 127 with
  | none => rw [hq] at hi; cases hi
  | some i =>
    rw [hq] at hi
    simp at hi
    have := run_make (P := Tryz.prog) w 128 127 i (.agg TRbk.Z) Tryz.underlying128 hq hi.1 .i64 .i64 n n (by omega) (by omega) (by rw [hi.2.2]; omega) (by omega)
    rw [hi.2.1] at this
    rw [recs_nil, ← made_rep TRbk.size_Z (by decide) n]
    exact this

set_option maxRecDepth 100000 in
set_option maxHeartbeats 2000000 in
theorem rnew_any (c : Cfg) (hc : May c) (n : Nat) (hn : (n : Int) = c.blocks - c.cores * c.logs) (w : World) :
    Calls Tryz.prog 65 #[CV c] w fun e w' => ∃ rb, e = .returned (ptr rb) ∧ Upd NoF w w' ∧ (Ro rb n [] c.backs).is w' (fun k => w.heap.size ≤ k) := by
  have HD := Lib.hid (PL.rdata_any c hc.1 hc.2.2.1 hc.2.1)
  have hn6 : n ≤ 65536 := by
    have h2 := hc.2.1.2
    have h3 := Int.mul_nonneg (show (0:Int) ≤ c.cores by have := hc.1.1; omega) (show (0:Int) ≤ c.logs by have := hc.2.2.1.1; omega)
    omega
  have hmk := mkR_run n hn6
  have q1 := Blk.new w (CC c) 27
  obtain ⟨w1, hw1⟩ : ∃ W, w.alloc (.cells (CC c) 27) = W := ⟨_, rfl⟩
  have hu1 : Upd NoF w w1 := by rw [← hw1]; exact Upd.alloc NoF w _
  rw [hw1] at q1
  rw [← hn] at HD
  have HQ1 := Lib.hid q1; have HU1 := Lib.hid hu1; have HW1 := Lib.hid hw1
  have f0 := q1.cell 0; have f1 := q1.cell 1; have f2 := q1.cell 2; have f3 := q1.cell 3; have f4 := q1.cell 4; have f5 := q1.cell 5; have f6 := q1.cell 6; have f7 := q1.cell 7
  change w1.cell? ⟨w.heap.size, 0, none⟩ = some (.int .i64 c.cores) at f0
  change w1.cell? ⟨w.heap.size, 1, none⟩ = some (.int .i64 c.sets) at f1
  change w1.cell? ⟨w.heap.size, 2, none⟩ = some (.int .i64 c.ways) at f2
  change w1.cell? ⟨w.heap.size, 3, none⟩ = some (.int .i64 c.blocks) at f3
  change w1.cell? ⟨w.heap.size, 4, none⟩ = some (.int .i64 c.logs) at f4
  change w1.cell? ⟨w.heap.size, 5, none⟩ = some (.int .i64 c.backs) at f5
  change w1.cell? ⟨w.heap.size, 6, none⟩ = some (.int .i64 c.nest) at f6
  change w1.cell? ⟨w.heap.size, 7, none⟩ = some (.int .i64 c.tries) at f7
  clear q1 hu1 hw1 hc hn
  go_enter Tryz.func65, Tryz.ntmps65
  go_wp2_with fail
  rw [HW1.out]
  go_region_held3 (fun W => Upd NoF w W ∧ W.cell? ⟨w.heap.size, 0, none⟩ = some (.int .i64 c.cores) ∧ W.cell? ⟨w.heap.size, 1, none⟩ = some (.int .i64 c.sets) ∧ W.cell? ⟨w.heap.size, 2, none⟩ = some (.int .i64 c.ways) ∧ W.cell? ⟨w.heap.size, 3, none⟩ = some (.int .i64 c.blocks) ∧ W.cell? ⟨w.heap.size, 4, none⟩ = some (.int .i64 c.logs) ∧ W.cell? ⟨w.heap.size, 5, none⟩ = some (.int .i64 c.backs) ∧ W.cell? ⟨w.heap.size, 6, none⟩ = some (.int .i64 c.nest) ∧ W.cell? ⟨w.heap.size, 7, none⟩ = some (.int .i64 c.tries)) (first | assumption | exact ⟨HU1.out.trans (Upd.drew NoF w1) (fun _ _ h => h), f0, f1, f2, f3, f4, f5, f6, f7⟩ | (have hS : Upd NoF w _ ∧ _ := ‹_›; exact ⟨hS.1.trans (Upd.alloc NoF _ _) (fun _ _ h => h), (Upd.alloc NoF _ _).cell hS.2.1 (fun h => h), (Upd.alloc NoF _ _).cell hS.2.2.1 (fun h => h), (Upd.alloc NoF _ _).cell hS.2.2.2.1 (fun h => h), (Upd.alloc NoF _ _).cell hS.2.2.2.2.1 (fun h => h), (Upd.alloc NoF _ _).cell hS.2.2.2.2.2.1 (fun h => h), (Upd.alloc NoF _ _).cell hS.2.2.2.2.2.2.1 (fun h => h), (Upd.alloc NoF _ _).cell hS.2.2.2.2.2.2.2.1 (fun h => h), (Upd.alloc NoF _ _).cell hS.2.2.2.2.2.2.2.2 (fun h => h)⟩)) (first | (go_at_call 28; have hS : Upd NoF w _ ∧ _ := ‹_›; refine (HD.out _).mono ?_; rintro e w2 ⟨rfl, hu⟩; have HU2 := Lib.hid (hS.1.trans hu (fun _ _ h => h)); have hS' : (fun W => Upd NoF w W ∧ W.cell? ⟨w.heap.size, 0, none⟩ = some (.int .i64 c.cores) ∧ W.cell? ⟨w.heap.size, 1, none⟩ = some (.int .i64 c.sets) ∧ W.cell? ⟨w.heap.size, 2, none⟩ = some (.int .i64 c.ways) ∧ W.cell? ⟨w.heap.size, 3, none⟩ = some (.int .i64 c.blocks) ∧ W.cell? ⟨w.heap.size, 4, none⟩ = some (.int .i64 c.logs) ∧ W.cell? ⟨w.heap.size, 5, none⟩ = some (.int .i64 c.backs) ∧ W.cell? ⟨w.heap.size, 6, none⟩ = some (.int .i64 c.nest) ∧ W.cell? ⟨w.heap.size, 7, none⟩ = some (.int .i64 c.tries)) w2 := ⟨HU2.out, hu.cell hS.2.1 (fun h => h), hu.cell hS.2.2.1 (fun h => h), hu.cell hS.2.2.2.1 (fun h => h), hu.cell hS.2.2.2.2.1 (fun h => h), hu.cell hS.2.2.2.2.2.1 (fun h => h), hu.cell hS.2.2.2.2.2.2.1 (fun h => h), hu.cell hS.2.2.2.2.2.2.2.1 (fun h => h), hu.cell hS.2.2.2.2.2.2.2.2 (fun h => h)⟩; clear hu hS))
  all_goals
    go_wp2
    go_ret
    refine ⟨_, rfl, (HU2.out.trans (Upd.alloc NoF _ _) (fun _ _ h => h)).trans (Upd.alloc NoF _ _) (fun _ _ h => h), ?_⟩
    have hsz := HU2.out.size
    have q1 : Blk (w2.alloc (.cells (rowsOf (recs [] n)).flatten.toArray 127)) w2.heap.size (rowsOf (recs [] n)).flatten.toArray 127 := Blk.new w2 _ _
    have q2 := Blk.new (w2.alloc (.cells (rowsOf (recs [] n)).flatten.toArray 127)) #[.slice (some ⟨w2.heap.size, 0, none⟩) n n, .int .i64 c.backs] 130
    rw [World.size_alloc] at q2
    exact ⟨w2.heap.size, (fun k => k = w2.heap.size + 1), (fun k => k = w2.heap.size), fun k hk => by have e : k = w2.heap.size + 1 := hk; show w.heap.size ≤ k; omega, fun k hk => by have e : k = w2.heap.size := hk; show w.heap.size ≤ k; omega, fun k h1 h2 => by have e1 : k = w2.heap.size + 1 := h1; have e2 : k = w2.heap.size := h2; omega, ⟨q2, rfl⟩, ⟨q1.alloc _, rfl⟩⟩
end Go.Proofs.YtjgeflbhmhmjdaaGreat.BK
namespace Go.Proofs.YtjgeflbhmhmjdaaGreat.MK
open Go.RowKit
open PL (Cfg CC CV May)
attribute [local go_sem] Oper.semAt_some
theorem data_le {c : Cfg} (h : May c) : c.blocks - c.cores * c.logs ≤ 256 := by
  have := PL.mul_small h.1 h.2.2.1
  have := h.2.1
  omega
abbrev BT : TypeId := 4
abbrev RT : TypeId := 133
abbrev sl (g d : Nat) : Value := .slice (some ⟨g, 0, none⟩) d d
def rowB (d : Nat) (p : Int → Bool) : Array Value := Array.ofFn (n := d) (fun i => .bool (p ((i : Nat) : Int)))
theorem rowB_size (d : Nat) (p : Int → Bool) : (rowB d p).size = d := by simp [rowB]
theorem rowB_get {d k : Nat} (p : Int → Bool) (h : k < d) : (rowB d p)[k]? = some (.bool (p k)) := by
  rw [Array.getElem?_eq_getElem (by rw [rowB_size]; exact h)]
  simp [rowB]
theorem rowB_set {d : Nat} (p : Int → Bool) (k : Nat) (b : Bool) : (rowB d p).setIfInBounds k (.bool b) = rowB d (fun x => if x = (k : Int) then b else p x) := by
  apply Array.ext
  · simp [rowB]
  · intro i h1 h2
    rw [Array.getElem_setIfInBounds (by simpa [rowB] using h1)]
    by_cases e : k = i
    · subst e; simp [rowB]
    · have : ¬ ((i : Int) = (k : Int)) := by omega
      rw [if_neg e]
      simp [rowB, this]
theorem rowB_made (d : Nat) : madeCells #[.bool false] (d * 1) = rowB d (fun _ => false) := by
  apply Array.ext
  · simp [madeCells, rowB]
  · intro i h1 h2
    simp [madeCells, rowB, Nat.mod_one]
def mkB (l c : Value) : Sem Value := Instr.makeSlice 131 l c
theorem mkB_eq (l c : Value) : Instr.makeSlice 131 l c = mkB l c := rfl
attribute [local go_sem ↓] mkB_eq
theorem mkB_run (n : Nat) (hn : n ≤ 65536) (w : World) : (mkB (.int .i64 n) (.int .i64 n)).run Tryz.prog w = .ok (sl w.heap.size n) (w.alloc (.cells (rowB n (fun _ => false)) BT)) := by
  have hi : (Tryz.prog.info? BT).map (fun i => (i.zero, i.size, i.bytes)) = some (some (.bool false), 1, 1) := by kernel_rfl
  cases hq : Tryz.prog.info? BT with
  | none => rw [hq] at hi; cases hi
  | some i =>
    rw [hq] at hi
    simp at hi
    have := run_make (P := Tryz.prog) w 131 BT i (.bool false) Tryz.underlying131 hq hi.1 .i64 .i64 n n (by omega) (by omega) (by rw [hi.2.2]; omega) (by omega)
    rw [hi.2.1] at this
    rw [← rowB_made n]
    exact this
theorem swap23 {G : Nat → Prop} {w0 W : World} {A B C : Obj} {L : List Obj} (h : Sep G w0 W (A :: B :: C :: L)) : Sep G w0 W (A :: C :: B :: L) := ((h.sink 2).sink 2).swap
theorem set_self {L : List Obj} {i : Nat} {Φ : Obj} (h : L[i]? = some Φ) : L.set i Φ = L := by
  apply List.ext_getElem?
  intro j
  rw [List.getElem?_set]
  split
  · rename_i e; subst e; rw [h]; simp [(List.getElem?_eq_some_iff.1 h).1]
  · rfl
section
variable {w0 W W' : World} {rb gr gw d : Nat} {pr qr : Int → Bool} {L : List Obj}
set_option maxRecDepth 100000 in
theorem rnew_any (h : Sep NoF w0 W L) (c : Cfg) (hc : May c) (hd : c.blocks - c.cores * c.logs = (d : Nat)) : Calls Tryz.prog 66 #[CV c] W fun e W' =>
    ∃ rb gr gw, e = .returned (ptr rb) ∧ Sep NoF w0 W' (boxO rb #[sl gr d, sl gw d] RT :: boxO gr (rowB d (fun _ => false)) BT :: boxO gw (rowB d (fun _ => false)) BT :: L) ∧ Upd NoF W W' := by
  have hle := data_le hc
  have HD := Lib.hid (PL.rdata_any c hc.1 hc.2.2.1 hc.2.1)
  rw [hd] at HD hle
  have h1 := h.alloc (CC c) 27
  obtain ⟨W1, hW1⟩ : ∃ X, W.alloc (.cells (CC c) 27) = X := ⟨_, rfl⟩
  rw [hW1] at h1
  have hu1 : Upd NoF W W1 := by rw [← hW1]; exact Upd.alloc NoF W _
  have HU1 := Lib.hid hu1
  have HS := Lib.hid h1; have HW1 := Lib.hid hW1
  have mk := mkB_run d (by omega)
  clear hc hW1 h h1 hd hu1
  go_enter Tryz.func66, Tryz.ntmps66
  go_wp2_with fail
  rw [HW1.out]
  refine (HD.out _).mono ?_
  rintro e W2 ⟨rfl, hu⟩
  have HS2 := Lib.hid (((HS.out.drop 0 (Nat.succ_pos _)).upd0 hu))
  have HU2 := Lib.hid (HU1.out.trans hu (fun _ _ h => h))
  clear hu HD HS HW1 HU1
  go_wp2_with fail
  have h9 : ∀ x y, Sep NoF w0 (((W2.alloc (.cells (rowB d (fun _ => false)) BT)).alloc (.cells (rowB d (fun _ => false)) BT)).alloc (.cells #[x, y] RT)).drew (boxO (W2.heap.size + 1 + 1) #[x, y] RT :: boxO (W2.heap.size + 1) (rowB d (fun _ => false)) BT :: boxO W2.heap.size (rowB d (fun _ => false)) BT :: L) ∧ Upd NoF W (((W2.alloc (.cells (rowB d (fun _ => false)) BT)).alloc (.cells (rowB d (fun _ => false)) BT)).alloc (.cells #[x, y] RT)).drew := fun x y => by
    have a1 := ((HS2.out.alloc (rowB d (fun _ => false)) BT).alloc (rowB d (fun _ => false)) BT).alloc #[x, y] RT
    rw [World.size_alloc, World.size_alloc] at a1
    exact ⟨a1.upd0 (Upd.drew NoF _), (((HU2.out.trans (Upd.alloc NoF _ _) (fun _ _ h => h)).trans (Upd.alloc NoF _ _) (fun _ _ h => h)).trans (Upd.alloc NoF _ _) (fun _ _ h => h)).trans (Upd.drew NoF _) (fun _ _ h => h)⟩
  have H9 := Lib.hid h9
  clear h9
  go_region
  · go_wp2
    go_ret
    exact ⟨_, rfl, ⟨_, _, swap23 (H9.out _ _).1⟩, (H9.out _ _).2⟩
  · go_wp2
    go_ret
    exact ⟨_, rfl, ⟨_, _, (H9.out _ _).1⟩, (H9.out _ _).2⟩
set_option maxRecDepth 100000 in
theorem rread_any (h : Sep NoF w0 W L) (i : Nat) (h0 : L[i]? = some (boxO rb #[sl gr d, sl gw d] RT)) (h1 : L[i + 1]? = some (boxO gr (rowB d pr) BT)) (x : Int) : Calls Tryz.prog 114 #[ptr rb, .int .i64 x] W fun e W' =>
    e = .returned (.int .i64 (putE d x)) ∧ Sep NoF w0 W' (L.set (i + 1) (boxO gr (rowB d (fun j => if mayB d x ∧ j = x then true else pr j)) BT)) ∧ KeepsOthers W W' := by
  have k0 : W.cell? ⟨rb, 0, none⟩ = some (sl gr d) := (h.box i h0).cell 0
  have k1 : W.cell? ⟨rb, 1, none⟩ = some (sl gw d) := (h.box i h0).cell 1
  unfold putE
  by_cases x0 : x < 0
  · have g0 : decide (x < 0) = true := by simp; omega
    have hm : mayB d x = false := by simp [mayB]; omega
    have HS := Lib.hid h
    rw [hm]
    simp only [Bool.false_eq_true, if_false, false_and, set_self h1]
    clear h hm
    go_enter Tryz.func114, Tryz.ntmps114
    go_wp2
    go_ret
    exact ⟨rfl, HS.out, KeepsOthers.refl _⟩
  · have g0 : decide (x < 0) = false := by simp; omega
    obtain ⟨k, rfl⟩ : ∃ k : Nat, x = k := ⟨x.toNat, by omega⟩
    by_cases x1 : d ≤ k
    · have g1 : decide ((d : Int) ≤ (k : Int)) = true := by simp; omega
      have hm : mayB d k = false := by simp [mayB]; omega
      have HS := Lib.hid h
      rw [hm]
      simp only [Bool.false_eq_true, if_false, false_and, set_self h1]
      clear h hm
      go_enter Tryz.func114, Tryz.ntmps114
      go_wp2
      go_ret
      exact ⟨rfl, HS.out, KeepsOthers.refl _⟩
    · have g1 : decide ((d : Int) ≤ (k : Int)) = false := by simp; omega
      have hm : mayB d k = true := by simp [mayB]; omega
      have hkd : k < d := by omega
      have hs := h.set (i + 1) h1 k (.bool true)
      rw [rowB_set] at hs
      have hz := (h.box (i + 1) h1).frozen k
      have hc : W.cell? ⟨gr, k, none⟩ = some (.bool (pr k)) := ((h.box (i + 1) h1).cell k).trans (rowB_get pr hkd)
      have HS := Lib.hid hs
      rw [hm]
      simp only [if_true, true_and]
      clear h hm hs x0 x1
      go_enter Tryz.func114, Tryz.ntmps114
      go_wp2
      go_ret
      exact ⟨rfl, HS.out, KeepsOthers.setCell _ _ _⟩
set_option maxRecDepth 100000 in
theorem rwrite_any (h : Sep NoF w0 W L) (i : Nat) (h0 : L[i]? = some (boxO rb #[sl gr d, sl gw d] RT)) (h1 : L[i + 2]? = some (boxO gw (rowB d qr) BT)) (x : Int) : Calls Tryz.prog 116 #[ptr rb, .int .i64 x] W fun e W' =>
    e = .returned (.int .i64 (putE d x)) ∧ Sep NoF w0 W' (L.set (i + 2) (boxO gw (rowB d (fun j => if mayB d x ∧ j = x then true else qr j)) BT)) ∧ KeepsOthers W W' := by
  have k0 : W.cell? ⟨rb, 0, none⟩ = some (sl gr d) := (h.box i h0).cell 0
  have k1 : W.cell? ⟨rb, 1, none⟩ = some (sl gw d) := (h.box i h0).cell 1
  unfold putE
  by_cases x0 : x < 0
  · have g0 : decide (x < 0) = true := by simp; omega
    have hm : mayB d x = false := by simp [mayB]; omega
    have HS := Lib.hid h
    rw [hm]
    simp only [Bool.false_eq_true, if_false, false_and, set_self h1]
    clear h hm
    go_enter Tryz.func116, Tryz.ntmps116
    go_wp2
    go_ret
    exact ⟨rfl, HS.out, KeepsOthers.refl _⟩
  · have g0 : decide (x < 0) = false := by simp; omega
    obtain ⟨k, rfl⟩ : ∃ k : Nat, x = k := ⟨x.toNat, by omega⟩
    by_cases x1 : d ≤ k
    · have g1 : decide ((d : Int) ≤ (k : Int)) = true := by simp; omega
      have hm : mayB d k = false := by simp [mayB]; omega
      have HS := Lib.hid h
      rw [hm]
      simp only [Bool.false_eq_true, if_false, false_and, set_self h1]
      clear h hm
      go_enter Tryz.func116, Tryz.ntmps116
      go_wp2
      go_ret
      exact ⟨rfl, HS.out, KeepsOthers.refl _⟩
    · have g1 : decide ((d : Int) ≤ (k : Int)) = false := by simp; omega
      have hm : mayB d k = true := by simp [mayB]; omega
      have hkd : k < d := by omega
      have hs := h.set (i + 2) h1 k (.bool true)
      rw [rowB_set] at hs
      have hz := (h.box (i + 2) h1).frozen k
      have hc : W.cell? ⟨gw, k, none⟩ = some (.bool (qr k)) := ((h.box (i + 2) h1).cell k).trans (rowB_get qr hkd)
      have HS := Lib.hid hs
      rw [hm]
      simp only [if_true, true_and]
      clear h hm hs x0 x1
      go_enter Tryz.func116, Tryz.ntmps116
      go_wp2
      go_ret
      exact ⟨rfl, HS.out, KeepsOthers.setCell _ _ _⟩
set_option maxRecDepth 100000 in
theorem rhas_any (h : Sep NoF w0 W L) (i : Nat) (h0 : L[i]? = some (boxO rb #[sl gr d, sl gw d] RT)) (h1 : L[i + 1]? = some (boxO gr (rowB d pr) BT)) (h2 : L[i + 2]? = some (boxO gw (rowB d qr) BT)) (x : Int) :
    Calls Tryz.prog 32 #[ptr rb, .int .i64 x] W fun e W' => e = .returned (.tuple #[.bool (mayB d x && pr x), .bool (mayB d x && qr x)]) ∧ Upd NoF W W' := by
  have k0 : W.cell? ⟨rb, 0, none⟩ = some (sl gr d) := (h.box i h0).cell 0
  have k1 : W.cell? ⟨rb, 1, none⟩ = some (sl gw d) := (h.box i h0).cell 1
  by_cases x0 : x < 0
  · have g0 : decide (x < 0) = true := by simp; omega
    have hm : mayB d x = false := by simp [mayB]; omega
    rw [hm]
    simp only [Bool.false_and]
    clear h hm
    go_enter Tryz.func32, Tryz.ntmps32
    go_wp2
    go_ret2
    exact ⟨rfl, Upd.refl _ _⟩
  · have g0 : decide (x < 0) = false := by simp; omega
    obtain ⟨k, rfl⟩ : ∃ k : Nat, x = k := ⟨x.toNat, by omega⟩
    by_cases x1 : d ≤ k
    · have g1 : decide ((d : Int) ≤ (k : Int)) = true := by simp; omega
      have hm : mayB d k = false := by simp [mayB]; omega
      rw [hm]
      simp only [Bool.false_and]
      clear h hm
      go_enter Tryz.func32, Tryz.ntmps32
      go_wp2
      go_ret2
      exact ⟨rfl, Upd.refl _ _⟩
    · have g1 : decide ((d : Int) ≤ (k : Int)) = false := by simp; omega
      have hm : mayB d k = true := by simp [mayB]; omega
      have hkd : k < d := by omega
      have hc : W.cell? ⟨gr, k, none⟩ = some (.bool (pr k)) := ((h.box (i + 1) h1).cell k).trans (rowB_get pr hkd)
      have hq : W.cell? ⟨gw, k, none⟩ = some (.bool (qr k)) := ((h.box (i + 2) h2).cell k).trans (rowB_get qr hkd)
      rw [hm]
      simp only [Bool.true_and]
      clear h hm x0 x1
      go_enter Tryz.func32, Tryz.ntmps32
      go_wp2
      go_quiet (fail)
      go_wp2
      go_ret2
      exact ⟨rfl, Upd.drewN NoF _ _⟩
set_option maxRecDepth 100000 in
theorem rmeets_any (h : Sep NoF w0 W L) (i : Nat) (h0 : L[i]? = some (boxO rb #[sl gr d, sl gw d] RT)) (h1 : L[i + 1]? = some (boxO gr (rowB d pr) BT)) (h2 : L[i + 2]? = some (boxO gw (rowB d qr) BT)) (k x : Int) :
    Calls Tryz.prog 144 #[ptr rb, .int .u8 k, .int .i64 x] W fun e W' => e = .returned (.bool (meetB k (mayB d x && pr x, mayB d x && qr x))) ∧ Upd NoF W W' := by
  have HH := Lib.hid (rhas_any h i h0 h1 h2 x)
  clear h h0 h1 h2
  generalize (mayB d x && pr x) = a at *
  generalize (mayB d x && qr x) = b at *
  unfold meetB
  by_cases h4 : k = 4
  · subst h4
    rw [if_pos rfl]
    cases b
    all_goals
      go_enter Tryz.func144, Tryz.ntmps144
      go_wp2_with fail
      refine HH.out.mono ?_
      rintro e w' ⟨rfl, hu⟩
      have HU := Lib.hid hu
      clear hu
      go_wp2
      go_ret
      exact ⟨rfl, HU.out⟩
  · have g4 : (k == 4) = false := by simpa using h4
    rw [if_neg h4]
    by_cases h5 : k = 5
    · subst h5
      rw [if_pos rfl]
      cases a
      all_goals
        go_enter Tryz.func144, Tryz.ntmps144
        go_wp2_with fail
        refine HH.out.mono ?_
        rintro e w' ⟨rfl, hu⟩
        have HU := Lib.hid hu
        clear hu
        go_wp2
        go_ret
        exact ⟨by simp, HU.out⟩
    · have g5 : (k == 5) = false := by simpa using h5
      rw [if_neg h5]
      go_enter Tryz.func144, Tryz.ntmps144
      go_wp2_with fail
      refine HH.out.mono ?_
      rintro e w' ⟨rfl, hu⟩
      have HU := Lib.hid hu
      clear hu
      go_wp2
      go_ret
      exact ⟨rfl, HU.out⟩
set_option maxRecDepth 100000 in
theorem rclear_any {A B : Obj} {L : List Obj} (h : Sep NoF w0 W (A :: B :: boxO rb #[sl gr d, sl gw d] RT :: boxO gr (rowB d pr) BT :: boxO gw (rowB d qr) BT :: L)) (hd : d ≤ 256) : Calls Tryz.prog 79 #[ptr rb] W fun e W' =>
    e = .returned (.tuple #[]) ∧ KeepsOthers W W' ∧ ∃ g1 g2, Sep NoF w0 W' (A :: B :: boxO rb #[sl g1 d, sl g2 d] RT :: boxO g1 (rowB d (fun _ => false)) BT :: boxO g2 (rowB d (fun _ => false)) BT :: L) := by
  have mk := mkB_run d (by omega)
  have k0 : W.cell? ⟨rb, 0, none⟩ = some (sl gr d) := (h.box 2 rfl).cell 0
  have a1 := (h.alloc (rowB d (fun _ => false)) BT).set 3 rfl 0 (sl W.heap.size d)
  have k0a : (W.alloc (.cells (rowB d (fun _ => false)) BT)).cell? ⟨rb, 0, none⟩ = some (sl gr d) := ((h.alloc (rowB d (fun _ => false)) BT).box 3 rfl).cell 0
  have z0a : (W.alloc (.cells (rowB d (fun _ => false)) BT)).frozen? ⟨rb, 0, none⟩ = false := ((h.alloc (rowB d (fun _ => false)) BT).box 3 rfl).frozen 0
  obtain ⟨W1, hW1⟩ : ∃ X, (W.alloc (.cells (rowB d (fun _ => false)) BT)).setCell ⟨rb, 0, none⟩ (sl W.heap.size d) = X := ⟨_, rfl⟩
  rw [hW1] at a1
  have b1 : Sep NoF w0 W1 (A :: B :: boxO rb #[sl W.heap.size d, sl gw d] RT :: boxO W.heap.size (rowB d (fun _ => false)) BT :: boxO gw (rowB d qr) BT :: L) := (a1.drop 4 (by simp)).sink 3
  have k1 : W1.cell? ⟨rb, 1, none⟩ = some (sl gw d) := (b1.box 2 rfl).cell 1
  have a2 := (b1.alloc (rowB d (fun _ => false)) BT).set 3 rfl 1 (sl W1.heap.size d)
  have k1a : (W1.alloc (.cells (rowB d (fun _ => false)) BT)).cell? ⟨rb, 1, none⟩ = some (sl gw d) := ((b1.alloc (rowB d (fun _ => false)) BT).box 3 rfl).cell 1
  have z1a : (W1.alloc (.cells (rowB d (fun _ => false)) BT)).frozen? ⟨rb, 1, none⟩ = false := ((b1.alloc (rowB d (fun _ => false)) BT).box 3 rfl).frozen 1
  have b2 : Sep NoF w0 ((W1.alloc (.cells (rowB d (fun _ => false)) BT)).setCell ⟨rb, 1, none⟩ (sl W1.heap.size d)) (A :: B :: boxO rb #[sl W.heap.size d, sl W1.heap.size d] RT :: boxO W.heap.size (rowB d (fun _ => false)) BT :: boxO W1.heap.size (rowB d (fun _ => false)) BT :: L) := (a2.drop 5 (by simp)).sink 4
  have ho1 : KeepsOthers W W1 := by rw [← hW1]; exact (KeepsOthers.alloc W _).trans (KeepsOthers.setCell _ _ _)
  have HO := Lib.hid (ho1.trans ((KeepsOthers.alloc W1 (.cells (rowB d (fun _ => false)) BT)).trans (KeepsOthers.setCell _ ⟨rb, 1, none⟩ (sl W1.heap.size d))))
  have HB := Lib.hid b2; have HW1 := Lib.hid hW1
  clear h a1 b1 a2 b2 hW1 ho1
  go_enter Tryz.func79, Tryz.ntmps79
  go_upto_region 1 with fail
  rw [HW1.out]
  go_wp2
  go_end0
  exact ⟨rfl, HO.out, _, _, HB.out⟩
end
end Go.Proofs.YtjgeflbhmhmjdaaGreat.MK
