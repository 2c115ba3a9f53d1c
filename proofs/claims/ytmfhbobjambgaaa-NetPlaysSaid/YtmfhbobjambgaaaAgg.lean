/- Structs and arrays of many cells, made, loaded and stored at one stroke, whatever is in them. -/
import Derived.Test.YtmfhbobjambgaaaSep
import Derived.Test.YtmfhbobjambgaaaLong
set_option linter.unusedSimpArgs false
set_option linter.unusedVariables false
namespace Go.Proofs.Ytmfhbobjambgaaa
open Go.RowKit

/-- n cells. -/
def IsN (n : Nat) (x : Array Value) : Prop := x.size = n ∧ ∀ u ∈ x, u.oneCell' = true
theorem IsN.all {n : Nat} {x : Array Value} (h : IsN n x) : x.all (·.oneCell') = true := Array.all_eq_true_iff_forall_mem.2 h.2

theorem setCell_alloc (w : World) (Z : Array Value) (T : TypeId) (i : Nat) (v : Value) : (w.alloc (.cells Z T)).setCell ⟨w.heap.size, i, none⟩ v = w.alloc (.cells (Z.setIfInBounds i v) T) := by
  unfold World.setCell World.alloc
  congr 1
  apply Array.ext
  · simp
  · intro j h1 h2
    simp only [Array.getElem_modify]
    simp at h1 h2
    split
    · rename_i e
      subst e
      simp
    · rename_i e
      rw [Array.getElem_push_lt (by omega), Array.getElem_push_lt (by omega)]
theorem setCells_alloc (w : World) (T : TypeId) : ∀ (vs : List Value) (i : Nat) (Z : Array Value), (w.alloc (.cells Z T)).setCells w.heap.size i vs = w.alloc (.cells (setMany Z i vs) T)
  | [], _, _ => rfl
  | v :: vs, i, Z => by
    show ((w.alloc (.cells Z T)).setCell ⟨w.heap.size, i, none⟩ v).setCells w.heap.size (i + 1) vs = _
    rw [setCell_alloc, setCells_alloc w T vs (i + 1)]
    rfl
theorem size_setMany : ∀ (vs : List Value) (i : Nat) (Z : Array Value), (setMany Z i vs).size = Z.size
  | [], _, _ => rfl
  | v :: vs, i, Z => by show (setMany (Z.setIfInBounds i v) (i + 1) vs).size = _; rw [size_setMany]; simp
theorem get_setMany : ∀ (vs : List Value) (i : Nat) (Z : Array Value) (j : Nat), (setMany Z i vs)[j]? = if i ≤ j ∧ j < i + vs.length ∧ j < Z.size then vs[j - i]? else Z[j]?
  | [], i, Z, j => by
    show Z[j]? = _
    rw [if_neg (by simp only [List.length_nil]; omega)]
  | v :: vs, i, Z, j => by
    show (setMany (Z.setIfInBounds i v) (i + 1) vs)[j]? = _
    rw [get_setMany vs (i + 1)]
    simp only [Array.size_setIfInBounds, List.length_cons]
    by_cases h1 : j = i
    · subst h1
      rw [if_neg (by omega)]
      by_cases h2 : j < Z.size
      · rw [if_pos (by omega)]
        simp [h2]
      · rw [if_neg (by omega)]
        rw [Array.getElem?_eq_none (by simp; omega), Array.getElem?_eq_none (by omega)]
    · by_cases h2 : i + 1 ≤ j ∧ j < i + 1 + vs.length ∧ j < Z.size
      · rw [if_pos h2, if_pos (by omega)]
        obtain ⟨m, rfl⟩ : ∃ m, j = i + 1 + m := ⟨j - (i + 1), by omega⟩
        rw [show i + 1 + m - (i + 1) = m from by omega, show i + 1 + m - i = m + 1 from by omega]
        simp
      · rw [if_neg h2, if_neg (by omega)]
        rw [Array.getElem?_setIfInBounds_ne (by omega)]
theorem setMany_all (Z x : Array Value) (h : x.size = Z.size) : setMany Z 0 x.toList = x := by
  apply Array.ext_getElem?
  intro j
  rw [get_setMany]
  by_cases hj : j < Z.size
  · rw [if_pos ⟨Nat.zero_le _, by simpa [h] using hj, hj⟩]
    simp
  · rw [if_neg (by omega), Array.getElem?_eq_none (by omega), Array.getElem?_eq_none (by omega)]

/-- A part of a block's cells. -/
theorem Blk.range {w : World} {b : Nat} {cs : Array Value} {T : TypeId} (h : Blk w b cs T) (o : Nat) (x : List Value) (hx : ∀ j v, x[j]? = some v → cs[o + j]? = some v) : w.rangeAt b o x := fun j v hv => by
  rw [h.cell]; exact hx j v hv
theorem Blk.whole {w : World} {b : Nat} {cs : Array Value} {T : TypeId} (h : Blk w b cs T) : w.rangeAt b 0 cs.toList := h.range 0 _ (fun j v hv => by simpa using hv)

/-- Things of many cells, as rows. -/
def rowsOf (zs : List (Array Value)) : List (List Value) := zs.map Array.toList
theorem rowsOf_length (zs : List (Array Value)) : (rowsOf zs).length = zs.length := by simp [rowsOf]
theorem flat_take {c : Nat} : ∀ (zs : List (Array Value)) (k : Nat), (∀ x ∈ zs, IsN c x) → (rowsOf zs).flatten.take (k * c) = (rowsOf (zs.take k)).flatten
  | [], k, _ => by simp [rowsOf]
  | z :: zs, 0, _ => by simp [rowsOf]
  | z :: zs, k + 1, h => by
    have hz := (h z (by simp)).1
    have ih := flat_take zs k (fun x hx => h x (by simp [hx]))
    show (z.toList ++ (rowsOf zs).flatten).take ((k + 1) * c) = z.toList ++ (rowsOf (zs.take k)).flatten
    rw [← ih, List.take_append, List.take_of_length_le (by simp [hz, Nat.succ_mul]), Array.length_toList, hz, show (k + 1) * c - c = k * c from by rw [Nat.succ_mul]; omega]
theorem flat_drop {c : Nat} : ∀ (zs : List (Array Value)) (k : Nat), (∀ x ∈ zs, IsN c x) → (rowsOf zs).flatten.drop (k * c) = (rowsOf (zs.drop k)).flatten
  | [], k, _ => by simp [rowsOf]
  | z :: zs, 0, _ => by simp [rowsOf]
  | z :: zs, k + 1, h => by
    have hz := (h z (by simp)).1
    have ih := flat_drop zs k (fun x hx => h x (by simp [hx]))
    show (z.toList ++ (rowsOf zs).flatten).drop ((k + 1) * c) = (rowsOf (zs.drop k)).flatten
    rw [← ih, List.drop_append, List.drop_of_length_le (by simp [hz, Nat.succ_mul]), Array.length_toList, hz, show (k + 1) * c - c = k * c from by rw [Nat.succ_mul]; omega, List.nil_append]
theorem flat_get {c : Nat} {zs : List (Array Value)} {k : Nat} {z : Array Value} (h : ∀ x ∈ zs, IsN c x) (hz : zs[k]? = some z) (j : Nat) (v : Value) (hv : z.toList[j]? = some v) : (rowsOf zs).flatten[k * c + j]? = some v := by
  obtain ⟨hk, rfl⟩ := List.getElem?_eq_some_iff.1 hz
  rw [← List.getElem?_drop, flat_drop zs k h, List.drop_eq_getElem_cons hk]
  show (zs[k].toList ++ _)[j]? = some v
  rw [List.getElem?_append_left (List.getElem?_eq_some_iff.1 hv).1]
  exact hv
theorem flat_one {c : Nat} {zs : List (Array Value)} (h : ∀ x ∈ zs, IsN c x) : ∀ u ∈ (rowsOf zs).flatten, u.oneCell' = true := fun u hu => by
  obtain ⟨l, hl, hul⟩ := List.mem_flatten.1 hu
  obtain ⟨x, hx, rfl⟩ := List.mem_map.1 hl
  exact (h x hx).2 u (by simpa using hul)
theorem flat_len {c : Nat} : ∀ {zs : List (Array Value)}, (∀ x ∈ zs, IsN c x) → (rowsOf zs).flatten.length = zs.length * c
  | [], _ => by simp [rowsOf]
  | z :: zs, h => by
    show (z.toList ++ (rowsOf zs).flatten).length = _
    rw [List.length_append, flat_len (fun x hx => h x (by simp [hx])), Array.length_toList, (h z (by simp)).1, List.length_cons, Nat.succ_mul]
    omega
theorem rows_len {c : Nat} {zs : List (Array Value)} (h : ∀ x ∈ zs, IsN c x) : ∀ y ∈ rowsOf zs, y.length = c := fun y hy => by
  obtain ⟨x, hx, rfl⟩ := List.mem_map.1 hy
  simpa using (h x hx).1

section
variable {P : Program} {T : TypeId} {Z : Array Value} {d : TypeDesc}
theorem agg_alloc (hz : ∀ w, (zeroValue T).run P w = .ok (.agg Z) w) (w : World) :
    (Instr.alloc T true (.tuple #[])).run P w = .ok (.pointer (some ⟨w.heap.size, 0, none⟩)) (w.alloc (.cells Z T)) := by
  simp [Instr.alloc, hz, newVar, newRow, run_newObj_alloc, Value.cells]
theorem agg_box (x : Array Value) (w : World) :
    (Instr.box T (.agg x)).run P w = .ok (.pointer (some ⟨w.heap.size, 0, none⟩)) (w.alloc (.cells x T)) := by
  simp [Instr.box, newVar, newRow, run_newObj_alloc, Value.cells]
theorem agg_st_new (hi : (P.info? T).map (·.size) = some Z.size) {n : Nat} (hn : Z.size = n) {x : Array Value} (hx : IsN n x) (w : World) :
    (Instr.storeAt T (.pointer (some ⟨w.heap.size, 0, none⟩)) (.agg x)).run P (w.alloc (.cells Z T)) = .ok () (w.alloc (.cells x T)) := by
  have h := run_storeAt_mid (P := P) (w.alloc (.cells Z T)) w.heap.size 0 T x (there_of (Blk.new w Z T) (by rw [hx.1, hn]; omega)) (by rw [hi, hx.1, hn]) hx.all
  rw [h, setCells_alloc, setMany_all Z x (by rw [hx.1, hn])]
theorem agg_ld (hu : P.underlying T = some d) (hd : d.isRow = true) {n : Nat} (hi : (P.info? T).map (·.size) = some n) {x : Array Value} (hx : IsN n x) {w : World} {b o : Nat} (h : w.rangeAt b o x.toList) :
    (Instr.loadAt T (.pointer (some ⟨b, o, none⟩))).run P w = .ok (.agg x) w := by
  have := run_loadAt_mid w b o T x.toList d h hu hd (by rw [hi]; simp [hx.1])
  simpa using this
theorem agg_ldV (hu : P.underlying T = some d) (hd : d.isRow = true) {n : Nat} (hi : (P.info? T).map (·.size) = some n) {x : Array Value} (hx : IsN n x) {w : World} {b o : Nat} (h : w.rangeAt b o x.toList) :
    (loadVar T ⟨b, o, none⟩).run P w = .ok (.agg x) w := by
  have := run_loadVar_mid (P := P) w b o T x.toList d h hu hd (by rw [hi]; simp [hx.1])
  simpa using this
theorem agg_ld_new (hu : P.underlying T = some d) (hd : d.isRow = true) {n : Nat} (hi : (P.info? T).map (·.size) = some n) {x : Array Value} (hx : IsN n x) (w : World) :
    (Instr.loadAt T (.pointer (some ⟨w.heap.size, 0, none⟩))).run P (w.alloc (.cells x T)) = .ok (.agg x) (w.alloc (.cells x T)) :=
  agg_ld hu hd hi hx (Blk.new w x T).whole
theorem agg_zero {n : Nat} (h : (P.info? T).map (fun i => (i.zero, i.size)) = some (some (.agg Z), n)) (w : World) : (zeroValue T).run P w = .ok (.agg Z) w := by
  cases hq : P.info? T with
  | none => simp [hq] at h
  | some i =>
    simp [hq] at h
    simp [zeroValue, typeInfo, hq, h.1]
theorem fold_zip (off : Nat) : ∀ (vs : List Value) (k : Nat) (Z : Array Value), (vs.zipIdx k).foldl (fun cs (p : Value × Nat) => cs.setIfInBounds (off + p.2) p.1) Z = setMany Z (off + k) vs
  | [], _, _ => rfl
  | v :: vs, k, Z => by
    simp only [List.zipIdx_cons, List.foldl_cons]
    rw [fold_zip off vs (k + 1)]
    rfl
theorem fold_all (Z x : Array Value) (h : x.size = Z.size) : Array.foldl (fun cs (p : Value × Nat) => cs.setIfInBounds p.snd p.fst) Z x.zipIdx 0 Z.size = x := by
  have e : (x.zipIdx.foldl (fun cs (p : Value × Nat) => cs.setIfInBounds (0 + p.2) p.1) Z) = x := by
    rw [← Array.foldl_toList, Array.toList_zipIdx]
    rw [fold_zip 0 x.toList 0 Z]
    exact setMany_all Z x h
  simp only [Nat.zero_add] at e
  have hs : Z.size = x.zipIdx.size := by simp [h]
  rw [hs]
  exact e
theorem fill_one (Z x : Array Value) (h : x.size = Z.size) : Instr.fill (fun i => some (i * Z.size, Z.size)) Z [(0, .agg x)] = some x := by
  have e := fold_all Z x h
  simp [Instr.fill, Value.cells, h]
  exact e
theorem range_map_get (Z : Array Value) : ((Array.range Z.size).map fun i => Z[i % Z.size]!) = Z := by
  apply Array.ext
  · simp
  · intro i h1 h2
    simp [Nat.mod_eq_of_lt h2, h2]
/-- append of a whole row. -/
theorem run_append_all (w : World) (t ty e : TypeId) (i : TypeInfo) (z : Value) (size bytes : Nat) (ht : P.underlying t = some (.slice e)) (hi : P.info? e = some i) (hz : i.zero = some z)
    (hsize : i.size = size) (hby : i.bytes = bytes) (hzs : z.cells.size = size) (hsz : 0 < size)
    (v : Value) (n : Nat) (xs : List Value) (hown : Row w e size v n xs) (u : Value) (m : Nat) (news : List Value) (hu : Row w e size u m news) (h1 : ∀ x ∈ news, x.oneCell' = true)
    (h63 : n + m ≤ maxLen) (hbytes : (n + m) * bytes ≤ 140737488355328) :
    ∃ v' w', (Builtin.append_ #[t, t] ty #[v, u]).run P w = .ok v' w' ∧ Row w' e size v' (n + m) (xs ++ news) ∧ w.grownBy w' v.ownBlock ∧
      (v'.ownBlock = v.ownBlock ∨ ∃ g, v'.ownBlock = some g ∧ w.heap.size ≤ g) := by
  rcases hu.2 with ⟨rfl, rfl⟩ | ⟨g, cap, cur, rfl, hgg, hnc, hcm, hcs, htake⟩
  · have hnil : news = [] := List.eq_nil_of_length_eq_zero (by simpa using hu.1)
    subst hnil
    obtain ⟨b, cv, rfl, hn, _, _⟩ := hown.slice
    exact ⟨_, w, run_append_zero w t ty e i ht hi b n cv hn none 0, by simpa using hown, ⟨rfl, rfl, rfl, Nat.le_refl _, fun _ _ _ => rfl⟩, .inl rfl⟩
  · exact run_append_row w t ty e i z size bytes ht hi hz hsize hby hzs hsz v n xs hown ⟨g, 0, none⟩ m cap news hu.1 (fun j x hx => by
      have := (hu.cells).2 j x hx
      rw [Addr.add_lit]; simpa using this) h1 h63 hbytes
/-- A slice of one thing is made. -/
theorem agg_bs {TS : TypeId} (ht : P.underlying TS = some (.slice T)) {n : Nat} (h : (P.info? T).map (fun i => (i.zero, i.size)) = some (some (.agg Z), n)) (hn : Z.size = n) (h0 : 0 < n) (h1 : n ≤ 16777216) {x : Array Value} (hx : x.size = n) (w : World) :
    (Instr.buildSlice TS 1 #[(0, .agg x)]).run P w = .ok (.slice (some ⟨w.heap.size, 0, none⟩) 1 1) (w.alloc (.cells x T)) := by
  have hz := agg_zero h w
  cases hq : P.info? T with
  | none => simp [hq] at h
  | some i =>
    simp [hq] at h
    subst hn
    have hs : (sizeOf T).run P w = .ok Z.size w := by simp [sizeOf, typeInfo, hq, h.2]
    have hf := fill_one Z x hx
    have hr := range_map_get Z
    have h2 : ¬ (16777216 < Z.size) := by omega
    have h3 : Z.size ≠ 0 := by omega
    simp [Instr.buildSlice, run_underlying ht, hs, hz, h2, h3, newRow, run_newObj_alloc, hr, hf, Value.cells]
end
end Go.Proofs.Ytmfhbobjambgaaa
