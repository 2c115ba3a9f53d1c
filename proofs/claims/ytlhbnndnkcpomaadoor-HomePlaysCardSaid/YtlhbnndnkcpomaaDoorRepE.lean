/- slices.Repeat of one entry. -/
import Derived.Test.YtlhbnndnkcpomaaDoorRowG
import Derived.Test.YtlhbnndnkcpomaaDoorAggEntry
import Derived.Test.YtlhbnndnkcpomaaDoorReg
import Derived.Laws.CopyRow
import Derived.IntWalk
import Derived.Test.YtlhbnndnkcpomaaDoorMemC
import Derived.Shelf.SlMaps.Clone
import Derived.Ground.SlmcProg
import Derived.Test.YtlhbnndnkcpomaaDoorProg
set_option linter.unusedSimpArgs false
set_option linter.unusedVariables false
namespace Go.Proofs.YtlhbnndnkcpomaaDoor.RE
open Go.RowKit
attribute [local go_sem] Oper.semAt_some
attribute [local go_sem ↓] TEnt.ld_eq TEnt.st_eq TEnt.al_eq TEnt.bx_eq
abbrev EY : TypeId := 59
abbrev ES : TypeId := 85
abbrev sl (g n cap : Nat) : Value := .slice (some ⟨g, 0, none⟩) n cap
theorem run_copy_many {P : Program} (w : World) (dT sT ty elem : TypeId) (g o dLen dCap : Nat) (a : Addr) (sLen sCap : Nat) (cur : Array Value) (t : TypeId) (cs : List Value) (k : Nat)
    (hu : P.underlying dT = some (.slice elem)) (hs : (P.info? elem).map (·.size) = some k)
    (hg : w.heap[g]? = some (.cells cur t (0, 0))) (hn : cs.length = Nat.min sLen dLen * k)
    (hsrc : ∀ j v, cs[j]? = some v → w.cell? (a.add j) = some v) (hfit : o + cs.length ≤ cur.size) (h1 : ∀ v ∈ cs, v.oneCell' = true) :
    (Builtin.copy_ #[dT, sT] ty #[.slice (some ⟨g, o, none⟩) dLen dCap, .slice (some a) sLen sCap]).run P w =
      .ok (goInt (Nat.min sLen dLen)) (w.setRow g (cur.toList.take o ++ cs ++ cur.toList.drop (o + cs.length)).toArray) := by
  have hl := run_loadCells_list (P := P) w a cs hsrc
  have hst := run_storeCells_at P g o t cs 0 cur w hg (by simpa using hfit) h1
  cases hq : P.info? elem with
  | none => simp [hq] at hs
  | some i =>
    have hi : i.size = k := by simpa [hq] using hs
    simp [Builtin.copy_, run_underlying hu, Builtin.lenOf, Builtin.firstCells, sizeOf, typeInfo, hq, hi, ← hn, hl, hst]
theorem and_low (n : Nat) (h : n ≤ 255) : bits .and .u64 (n : Int) 4294967295 = (n : Int) := by
  have key : ∀ k : Fin 256, bits .and .u64 (k.val : Int) 4294967295 = (k.val : Int) := by decide +kernel
  exact key ⟨n, by omega⟩
theorem mul64_one (n : Nat) (h : n ≤ 255) (w : World) : Calls Tryd.prog 92 #[.int .u64 1, .int .u64 n] w fun e w' => e = .returned (.tuple #[.int .u64 0, .int .u64 n]) ∧ w = w' := by
  have key : ∀ k : Fin 256, ∀ w, Calls Tryd.prog 92 #[.int .u64 1, .int .u64 (k.val : Int)] w fun e w' => e = .returned (.tuple #[.int .u64 0, .int .u64 (k.val : Int)]) ∧ w = w' := by
    intro k w
    have a1 := and_low k.val (by omega)
    have a2 : (k.val : Int) / 4294967296 = 0 := by omega
    have a3 : (k.val : Int) % 18446744073709551616 = k.val := by omega
    have a4 : bits .and .u64 (1 : Int) 4294967295 = 1 := by decide +kernel
    have a5 : bits .and .u64 (0 : Int) 4294967295 = 0 := by decide +kernel
    generalize (k.val : Int) = n at *
    go_enter Tryd.func92, Tryd.ntmps92
    go_wp2
    go_ret2
    refine ⟨?_, rfl⟩
    simp [a1, a2, a3, a4, a5]
  exact key ⟨n, by omega⟩ w
theorem mul_one (n : Nat) (h : n ≤ 255) (w : World) : Calls Tryd.prog 73 #[.int .u64 1, .int .u64 n] w fun e w' => e = .returned (.tuple #[.int .u64 0, .int .u64 n]) ∧ w = w' := by
  have HM := Lib.hid (fun w => mul64_one n h w)
  go_enter Tryd.func73, Tryd.ntmps73
  go_wp2_with (go_at_call 92; refine (HM.out _).mono ?_; rintro e w2 ⟨rfl, rfl⟩)
  go_ret2
  exact ⟨rfl, rfl⟩
/-- m times x, and what was there. -/
def upTo (x z : Array Value) (m : Nat) : Nat → Array Value := fun i => if i < m then x else z
theorem upTo_size {x z : Array Value} {k : Nat} (hx : x.size = k) (hz : z.size = k) (m i : Nat) : (upTo x z m i).size = k := by unfold upTo; split; exact hx; exact hz
theorem upTo_isN {x z : Array Value} {k : Nat} (hx : IsN k x) (hz : IsN k z) (m i : Nat) : IsN k (upTo x z m i) := by unfold upTo; split; exact hx; exact hz
/-- The first c things behind the first m ones. -/
theorem fill_more {x z : Array Value} {k N m c : Nat} (hx : x.size = k) (hz : z.size = k) (hc : m + c ≤ N) :
    ((rowG k N (upTo x z m)).toList.take (m * k) ++ (rowG k c (fun _ => x)).toList ++ (rowG k N (upTo x z m)).toList.drop (m * k + c * k)).toArray = rowG k N (upTo x z (m + c)) := by
  have hmk : m * k + c * k ≤ N * k := by rw [← Nat.add_mul]; exact Nat.mul_le_mul_right k hc
  have e1 : (m + c) * k = m * k + c * k := Nat.add_mul m c k
  apply Array.ext_getElem?
  intro j
  rw [List.getElem?_toArray]
  have hl1 : ((rowG k N (upTo x z m)).toList.take (m * k)).length = m * k := by rw [List.length_take, Array.length_toList, rowG_size]; omega
  have hl2 : ((rowG k c (fun _ => x)).toList).length = c * k := by rw [Array.length_toList, rowG_size]
  by_cases hj : j < N * k
  · obtain ⟨q, r, rfl, hr, hq⟩ := idx_split hj
    rw [rowG_get (upTo_size hx hz _ _) hq hr]
    by_cases h1 : q < m
    · have hlt := idx_lt (k := k) h1 hr
      rw [List.getElem?_append_left (by rw [List.length_append, hl1]; omega), List.getElem?_append_left (by rw [hl1]; exact hlt), List.getElem?_take, if_pos hlt, Array.getElem?_toList, rowG_get (upTo_size hx hz _ _) hq hr]
      unfold upTo
      rw [if_pos h1, if_pos (by omega)]
    · have hge : m * k ≤ q * k := Nat.mul_le_mul_right k (by omega)
      by_cases h2 : q < m + c
      · obtain ⟨q', rfl⟩ : ∃ q', q = m + q' := ⟨q - m, by omega⟩
        have hlt := idx_lt (k := k) (show q' < c by omega) hr
        have e2 : (m + q') * k + r - m * k = q' * k + r := by rw [Nat.add_mul]; omega
        rw [List.getElem?_append_left (by rw [List.length_append, hl1, hl2, Nat.add_mul]; omega), List.getElem?_append_right (by rw [hl1]; omega), hl1, e2, Array.getElem?_toList, rowG_get (f := fun _ => x) hx (by omega) hr]
        unfold upTo
        rw [if_pos h2]
      · have hge2 : (m + c) * k ≤ q * k := Nat.mul_le_mul_right k (by omega)
        rw [List.getElem?_append_right (by rw [List.length_append, hl1, hl2]; omega), List.length_append, hl1, hl2, List.getElem?_drop, show m * k + c * k + (q * k + r - (m * k + c * k)) = q * k + r by omega, Array.getElem?_toList, rowG_get (upTo_size hx hz _ _) hq hr]
        unfold upTo
        rw [if_neg h1, if_neg h2]
  · rw [Array.getElem?_eq_none (by rw [rowG_size]; omega), List.getElem?_eq_none (by simp only [List.length_append, hl1, hl2, List.length_drop, Array.length_toList, rowG_size]; omega)]
theorem setRow_blk {W : World} {g : Nat} {cur new : Array Value} {T : TypeId} (h : Blk W g cur T) : Blk (W.setRow g new) g new T := setRow_heap W g cur new T _ h
theorem setRow_upd {W : World} {g : Nat} {cur : Array Value} {T : TypeId} (h : Blk W g cur T) (new : Array Value) : Upd (fun k => k = g) W (W.setRow g new) :=
  ⟨rfl, rfl, rfl, by simp, fun k hk hF => setRow_other W g k _ (fun e => by
    rcases hF with hF | hF
    · exact hF e
    · subst e; have := hF _ h; cases this)⟩
/-- One step of the copying. -/
theorem copy_step {W : World} {g N m o c dL dC sL sC : Nat} {x z : Array Value} {T : TypeId} (hx : IsN 2 x) (hz : IsN 2 z) (h : Blk W g (rowG 2 N (upTo x z m)) T) (hc : Nat.min sL dL = c) (hcm : c ≤ m) (hN : m + c ≤ N) (ho : o = m * 2) (ty : TypeId) :
    (Builtin.copy_ #[ES, ES] ty #[.slice (some ⟨g, o, none⟩) dL dC, .slice (some ⟨g, 0, none⟩) sL sC]).run Tryd.prog W = .ok (.int .i64 c) (W.setRow g (rowG 2 N (upTo x z (m + c)))) ∧ Blk (W.setRow g (rowG 2 N (upTo x z (m + c)))) g (rowG 2 N (upTo x z (m + c))) T ∧
      Upd (fun k => k = g) W (W.setRow g (rowG 2 N (upTo x z (m + c)))) := by
  subst ho
  have hr := run_copy_many (P := Tryd.prog) W ES ES ty EY g (m * 2) dL dC ⟨g, 0, none⟩ sL sC _ T (rowG 2 c (fun _ => x)).toList 2 Tryd.underlying85 TEnt.infoS h (by rw [Array.length_toList, rowG_size, hc]) (fun j v hj => by
      have hjl : j < c * 2 := by have := (List.getElem?_eq_some_iff.1 hj).1; rwa [Array.length_toList, rowG_size] at this
      obtain ⟨q, r, rfl, hr, hq⟩ := idx_split hjl
      rw [Array.getElem?_toList, rowG_get (f := fun _ => x) hx.1 hq hr] at hj
      rw [Addr.add_lit]
      show W.cell? ⟨g, 0 + (q * 2 + r), none⟩ = some v
      rw [Nat.zero_add, h.cell, rowG_get (upTo_size hx.1 hz.1 _ _) (by omega) hr]
      unfold upTo
      rw [if_pos (by omega)]
      exact hj) (by rw [Array.length_toList, rowG_size, rowG_size, ← Nat.add_mul]; exact Nat.mul_le_mul_right 2 hN) (rowG_one (fun _ => hx))
  rw [Array.length_toList, rowG_size, fill_more hx.1 hz.1 hN, hc] at hr
  exact ⟨hr, setRow_blk h, setRow_upd h _⟩
def mkE (l c : Value) : Sem Value := Instr.makeSlice ES l c
theorem mkE_eq (l c : Value) : Instr.makeSlice ES l c = mkE l c := rfl
theorem infoEn : (Tryd.prog.info? EY).map (fun i => (i.zero, i.size, i.bytes)) = some (some (.agg TEnt.Z), 2, 16) := by kernel_rfl
theorem mkE_run (n : Nat) (hn : n ≤ 255) (w : World) : (mkE (.int .i64 n) (.int .i64 n)).run Tryd.prog w = .ok (sl w.heap.size n n) (w.alloc (.cells (rowG 2 n (fun _ => TEnt.Z)) EY)) := by
  obtain ⟨i0, hi, hz0, hz1, hz2⟩ := info_parts infoEn
  have h := run_makeSlice (P := Tryd.prog) (w := w) ES EY i0 (.agg TEnt.Z) Tryd.underlying85 hi hz0 .i64 .i64 (n : Int) (n : Int) (by omega) (Int.le_refl _) (by rw [hz1]; omega) (by rw [hz2]; omega) (by omega)
  unfold mkE
  rw [h, hz1]
  have e := rowG_made TEnt.Z n
  rw [TEnt.size_Z] at e
  show Result.ok (Value.slice (some ⟨w.heap.size, 0, none⟩) (n : Int).toNat (n : Int).toNat) (w.alloc (.cells (madeCells TEnt.Z ((n : Int).toNat * 2)) EY)) = _
  rw [Int.toNat_natCast, e]
attribute [local go_sem ↓] mkE_eq
set_option maxRecDepth 100000 in
set_option maxHeartbeats 4000000 in
theorem repeat_is (w : World) (g0 : Nat) (x : Array Value) (hx : IsN 2 x) (h : Blk w g0 x EY) (N : Nat) (h1 : 1 ≤ N) (h2 : N ≤ 255) : Calls Tryd.prog 41 #[sl g0 1 1, .int .i64 N] w fun e w' =>
    ∃ g, e = .returned (sl g N N) ∧ Upd NoF w w' ∧ Blk w' g (rowG 2 N (fun _ => x)) EY ∧ w.heap.size ≤ g := by
  have HM := Lib.hid (fun w => mul_one N h2 w)
  have mk := mkE_run N h2 w
  have e0 : (fun _ : Nat => TEnt.Z) = upTo x TEnt.Z 0 := by funext i; unfold upTo; rw [if_neg (by omega)]
  rw [e0] at mk
  obtain ⟨V, hV⟩ : ∃ V, w.alloc (.cells (rowG 2 N (upTo x TEnt.Z 0)) EY) = V := ⟨_, rfl⟩
  have hu := Upd.alloc NoF w (.cells (rowG 2 N (upTo x TEnt.Z 0)) EY)
  have hq := Blk.new w (rowG 2 N (upTo x TEnt.Z 0)) EY
  rw [hV] at mk hu hq
  obtain ⟨g, hg⟩ : ∃ g, w.heap.size = g := ⟨_, rfl⟩
  rw [hg] at mk hq
  have hxV := h.upd hu (fun h => h)
  have hcp := run_copy_many (P := Tryd.prog) V ES ES 3 EY g 0 N N ⟨g0, 0, none⟩ 1 1 _ EY x.toList 2 Tryd.underlying85 TEnt.infoS hq (by rw [Array.length_toList, hx.1, show Nat.min 1 N = 1 from Nat.min_eq_left h1]) (fun j v hj => by
      rw [Addr.add_lit]
      show V.cell? ⟨g0, 0 + j, none⟩ = some v
      rw [Nat.zero_add, hxV.cell]
      simpa using hj) (by rw [Array.length_toList, hx.1, rowG_size]; omega) (fun u hu => hx.2 u (by simpa using hu))
  have ex : (rowG 2 1 (fun _ => x)) = x := by
    apply Array.ext_getElem?
    intro j
    by_cases hj : j < 2
    · have := rowG_get (k := 2) (n := 1) (i := 0) (r := j) (f := fun _ => x) hx.1 (by omega) hj
      simpa using this
    · rw [Array.getElem?_eq_none (by rw [rowG_size]; omega), Array.getElem?_eq_none (by rw [hx.1]; omega)]
  have efm := fill_more (x := x) (z := TEnt.Z) (k := 2) (N := N) (m := 0) (c := 1) hx.1 TEnt.size_Z (by omega)
  rw [ex, Nat.zero_mul, Nat.zero_add, Nat.one_mul, Nat.zero_add] at efm
  rw [show Nat.min 1 N = 1 from Nat.min_eq_left h1, Array.length_toList, hx.1, efm] at hcp
  obtain ⟨V1, hV1⟩ : ∃ V1, V.setRow g (rowG 2 N (upTo x TEnt.Z 1)) = V1 := ⟨_, rfl⟩
  have hq1 := setRow_blk (new := rowG 2 N (upTo x TEnt.Z 1)) hq
  have hu1 := hu.trans (setRow_upd hq (rowG 2 N (upTo x TEnt.Z 1))) (fun i hi e => by have e : i = g := e; omega)
  rw [hV1] at hcp hq1 hu1
  change (Builtin.copy_ #[ES, ES] 3 #[sl g N N, sl g0 1 1]).run Tryd.prog V = .ok (.int .i64 1) V1 at hcp
  have HI := Lib.hid (And.intro hu1 hq1)
  have HG := Lib.hid hg
  have HXN := Lib.hid hx
  have d1 : decide ((N : Int) < 0) = false := by simp
  have n1 : (N : Int) % 18446744073709551616 = N := by omega
  have n2 : IntKind.i64.wrap (N : Int) = N := IntWalk.i64_in _ (by omega)
  have d2 : decide ((9223372036854775807 : Int) < (N : Int)) = false := by simp; omega
  clear h hV hu hq hxV ex efm hV1 hq1 hu1 e0 hg hx
  go_enter Tryd.func41, Tryd.ntmps41
  go_wp2_with (go_at_call 73; refine (HM.out _).mono ?_; rintro e w2 ⟨rfl, rfl⟩)
  go_loopw [8] (fun nv wr => ∃ m : Nat, 1 ≤ m ∧ m ≤ N ∧ nv = .int .i64 m ∧ Hid (Upd NoF w wr ∧ Blk wr g (rowG 2 N (upTo x TEnt.Z m)) EY)) (fun nv _ => N - (intOf nv).toNat)
  case atStart => exact ⟨1, Nat.le_refl _, h1, rfl, HI.out⟩
  case round =>
    obtain ⟨m, hm1, hmN, rfl, HR⟩ := hrel
    by_cases hlt : m < N
    · have hlt2 : (m : Int) < (N : Int) := by omega
      have hlt3 : (m : Int) ≤ (N : Int) := by omega
      obtain ⟨c, hc⟩ : ∃ c, Nat.min m (N - m) = c := ⟨_, rfl⟩
      have hcm : c ≤ m := by rw [← hc]; exact Nat.min_le_left _ _
      have hcN : m + c ≤ N := by have : c ≤ N - m := by rw [← hc]; exact Nat.min_le_right _ _
                                 omega
      have hc1 : 1 ≤ c := by rw [← hc]; exact Nat.le_min.2 ⟨hm1, by omega⟩
      obtain ⟨hcp2, hb2, hu2⟩ := copy_step (W := wr.drew) (o := m * 2) (dL := N - m) (dC := N - m) (sL := m) (sC := N) HXN.out TEnt.isZ (HR.out.2.upd (Upd.drew NoF wr) (fun h => h)) hc hcm hcN rfl 3
      obtain ⟨X2, hX2⟩ : ∃ X2, wr.drew.setRow g (rowG 2 N (upTo x TEnt.Z (m + c))) = X2 := ⟨_, rfl⟩
      rw [hX2] at hcp2 hb2 hu2
      have hw1 : IntKind.i64.wrap ((m : Int) + (c : Int)) = ((m + c : Nat) : Int) := by
        rw [show ((m : Int) + (c : Int)) = ((m + c : Nat) : Int) by simp]
        exact IntWalk.i64_in _ (by omega)
      have hgw : w.heap.size ≤ g := by rw [HG.out]; exact Nat.le_refl _
      have HI2 := Lib.hid (And.intro ((HR.out.1.trans (Upd.drew NoF wr) (fun _ _ h => h)).trans hu2 (fun i hi e => by have e : i = g := e; omega)) hb2)
      have HHD : Hid (Upd NoF w wr.drew) := Lib.hid (HR.out.1.trans (Upd.drew NoF wr) (fun _ _ h => h))
      have s4 : m ≤ N := hmN
      have s6 : ¬ N = m := by omega
      have HCC := Lib.hid (And.intro hcN hc1)
      clear hX2 hb2 hu2 HR hc hcm hcN hc1 hgw HI HG
      go_wp2_with fail
      refine wp_region_held_drew (S := (fun X : World => Upd NoF w X)) (by kernel_rfl) (HHD.out) (fun hHeld => ?_)
      refine rgn 0 (v := ?vq1) hHeld ?yq1 ?_
      case yq1 => (intro w hSw; go_simp; try with_reducible rfl)
      simp only [Act.put, rn1, rn2, rn3, rn4, rn5, rn6]
      refine rgn 1 (v := ?vq2) hHeld ?yq2 ?_
      case yq2 => (intro w hSw; go_simp; try with_reducible rfl)
      simp only [Act.put, rn1, rn2, rn3, rn4, rn5, rn6]
      refine rgn 2 (v := ?vq3) hHeld ?yq3 ?_
      case yq3 => (intro w hSw; go_simp; try with_reducible rfl)
      simp only [Act.put, rn1, rn2, rn3, rn4, rn5, rn6]
      refine rgn 3 (v := ?vq4) hHeld ?yq4 ?_
      case yq4 => (intro w hSw; go_simp; try with_reducible rfl)
      simp only [Act.put, rn1, rn2, rn3, rn4, rn5, rn6]
      refine rgn 4 (v := ?vq5) hHeld ?yq5 ?_
      case yq5 => (intro w hSw; go_simp; try with_reducible rfl)
      simp only [Act.put, rn1, rn2, rn3, rn4, rn5, rn6]
      refine rgn 5 (v := ?vq6) hHeld ?yq6 ?_
      case yq6 => (intro w hSw; go_simp; try with_reducible rfl)
      simp only [Act.put, rn1, rn2, rn3, rn4, rn5, rn6]
      refine rgn 6 (v := ?vq7) hHeld ?yq7 ?_
      case yq7 => (intro w hSw; go_simp; try with_reducible rfl)
      simp only [Act.put, rn1, rn2, rn3, rn4, rn5, rn6]
      refine reg_step (i := 7) (by kernel_rfl) rfl (by kernel_rfl) (fun K hK => ?_)
      go_simp
      have HS : (fun X : World => Upd NoF w X) X2 := HI2.out.1
      refine hK.out _ _ HS (fun hHeld2 => ?_)
      clear hK hHeld2 hHeld; have hHeld := HS; clear HS
      try simp only [Act.put, rn1, rn2, rn3, rn4, rn5, rn6]
      refine rgn 8 (v := .int .i64 ((m + c : Nat) : Int)) hHeld ?yq8 ?_
      case yq8 => (intro w hSw; go_simp; try with_reducible rfl)
      simp only [Act.put, rn1, rn2, rn3, rn4, rn5, rn6]
      refine rgn 9 (v := .int .i64 ((m + c : Nat) : Int)) hHeld ?yq9 ?_
      case yq9 => (intro w hSw; go_simp; try with_reducible rfl)
      simp only [Act.put, rn1, rn2, rn3, rn4, rn5, rn6]
      refine wpAnyH_done (by kernel_rfl) ?_ _
      clear hHeld
      go_wp2_with fail
      go_roundw
      case rel => exact ⟨m + c, by omega, HCC.out.1, by simp [hw1], HI2.out⟩
      case measure => simp [intOf]; have := HCC.out; omega
    · obtain rfl : m = N := by omega
      have HF := Lib.hid HR.out
      have HG2 := Lib.hid HG.out
      clear HR
      go_wp2
      go_ret
      refine ⟨g, rfl, HF.out.1, ?_, by rw [HG2.out]; exact Nat.le_refl _⟩
      have := HF.out.2
      rwa [rowG_ext (g := fun _ => x) (fun i hi => by unfold upTo; rw [if_pos hi])] at this
end Go.Proofs.YtlhbnndnkcpomaaDoor.RE
set_option linter.unusedSimpArgs false
set_option linter.unusedVariables false
namespace Go.Proofs.YtlhbnndnkcpomaaDoor.ME
open Go.RowKit
open BU (IsU words)
attribute [local go_sem] Oper.semAt_some
def mkB (l c : Value) : Sem Value := Instr.makeSlice 92 l c
theorem mkB_eq (l c : Value) : Instr.makeSlice 92 l c = mkB l c := rfl
attribute [local go_sem ↓] mkB_eq
theorem infoB : (Tryd.prog.info? BT).map (fun i => (i.zero, i.size, i.bytes)) = some (some (.agg TBlk.Z), 16, 64) := by kernel_rfl
theorem mkB_run (n : Nat) (hn : n ≤ 256) (w : World) : (mkB (.int .i64 n) (.int .i64 n)).run Tryd.prog w = .ok (sl w.heap.size n n) (w.alloc (.cells (rowG 16 n (fun _ => TBlk.Z)) BT)) := by
  obtain ⟨i0, hi, hz0, hz1, hz2⟩ := info_parts infoB
  have h := run_makeSlice (P := Tryd.prog) (w := w) 92 BT i0 (.agg TBlk.Z) Tryd.underlying92 hi hz0 .i64 .i64 (n : Int) (n : Int) (by omega) (Int.le_refl _) (by rw [hz1]; omega) (by rw [hz2]; omega) (by omega)
  unfold mkB
  rw [h, hz1]
  have e := rowG_made TBlk.Z n
  rw [TBlk.size_Z] at e
  show Result.ok (Value.slice (some ⟨w.heap.size, 0, none⟩) (n : Int).toNat (n : Int).toNat) (w.alloc (.cells (madeCells TBlk.Z ((n : Int).toNat * 16)) BT)) = _
  rw [Int.toNat_natCast, e]
section
variable {W W' : World} {F : Nat → Prop} {mb n : Nat} {B : Nat → Array Value}
theorem new_ok (n : Nat) (h1 : 1 ≤ n) (h2 : n ≤ 256) (W : World) : Calls Tryd.prog 11 #[.int .i64 n] W fun e W' =>
    ∃ mb, e = .returned (.tuple #[ptr mb, .int .i64 0]) ∧ Upd NoF W W' ∧ (memO mb n (fun _ => TBlk.Z)).is W' (fun k => W.heap.size ≤ k) := by
  have hm := mkB_run n h2 W
  have HF := Lib.hid ((Upd.alloc NoF W (.cells (rowG 16 n (fun _ => TBlk.Z)) BT)).trans (Upd.alloc NoF _ (.cells #[sl W.heap.size n n] MT)) (fun _ _ h => h))
  have hq := Blk.new (W.alloc (.cells (rowG 16 n (fun _ => TBlk.Z)) BT)) #[sl W.heap.size n n] MT
  have hr := (Blk.new W (rowG 16 n (fun _ => TBlk.Z)) BT).alloc (.cells #[sl W.heap.size n n] MT)
  rw [World.size_alloc] at hq
  have HQ := Lib.hid (And.intro hq hr)
  have d1 : decide ((n : Int) < 1) = false := by simp; omega
  have d2 : decide ((256 : Int) < (n : Int)) = false := by simp; omega
  clear hq hr
  go_enter Tryd.func11, Tryd.ntmps11
  go_wp2
  go_ret2
  refine ⟨W.heap.size + 1, rfl, HF.out, ?_⟩
  exact mem_shut (tl := #[]) (fun i => BU.isU_Z) (Nat.le_refl _) (by unfold maxLen; omega) (by simp) HQ.out.1 (by omega) (by rw [Array.append_empty]; exact HQ.out.2) (Nat.le_refl _) (by omega)
theorem new_bad (n : Int) (h : n < 1 ∨ 256 < n) (W : World) : Calls Tryd.prog 11 #[.int .i64 n] W fun e W' => e = .returned (.tuple #[.pointer none, .int .i64 2]) ∧ W = W' := by
  by_cases h1 : n < 1
  · go_enter Tryd.func11, Tryd.ntmps11
    go_wp2
    go_ret2
    exact ⟨rfl, rfl⟩
  · have h2 : 256 < n := by omega
    go_enter Tryd.func11, Tryd.ntmps11
    go_wp2
    go_ret2
    exact ⟨rfl, rfl⟩
set_option maxHeartbeats 1000000 in
theorem clone_b (w : World) (g n cap : Nat) (A : Nat → Array Value) (tl : Array Value) (hA : ∀ i, IsU (A i)) (hB : Blk w g (rowG 16 n A ++ tl) BT) (hn : n ≤ 256) (h1 : 1 ≤ n) (hc : n ≤ cap) (hm : cap ≤ maxLen) (htl : cap * 16 ≤ (rowG 16 n A ++ tl).size) :
    Calls Tryd.prog 54 #[.slice (some ⟨g, 0, none⟩) n cap] w fun e w' => ∃ g' cap' tl', e = .returned (.slice (some ⟨g', 0, none⟩) n cap') ∧ Upd NoF w w' ∧ Blk w' g' (rowG 16 n A ++ tl') BT ∧ n ≤ cap' ∧ cap' ≤ maxLen ∧ cap' * 16 ≤ (rowG 16 n A ++ tl').size ∧ w.heap.size ≤ g' := by
  have hrow : Row w BT 16 (.slice (some ⟨g, 0, none⟩) n cap) n (rowG 16 n A).toList := ⟨by rw [Array.length_toList, rowG_size], .inr ⟨g, cap, _, rfl, hB, hc, hm, htl, rowG_take⟩⟩
  have he := fun W => Lib.run_eql_slice_nil (P := Tryd.prog) (w := W) 92 BT (some ⟨g, 0, none⟩) n cap 0 0 Tryd.underlying92
  obtain ⟨i0, hi, hz0, hz1, hz2⟩ := info_parts infoB
  obtain ⟨v9, w1, hrun, hrow9, hgr, hf⟩ := run_append_all (P := Tryd.prog) (w.alloc (.cells #[] BT)) 92 92 BT i0 (.agg TBlk.Z) 16 64 Tryd.underlying92 hi hz0 hz1 hz2 TBlk.size_Z (by decide) (.slice (some ⟨w.heap.size, 0, none⟩) 0 0) 0 []
    ⟨rfl, .inr ⟨_, 0, #[], rfl, World.alloc_heap_new w _, Nat.le_refl _, by unfold maxLen; omega, by simp, by simp⟩⟩ _ n _ (hrow.alloc (.cells #[] BT)) (rowG_one (fun i => (hA i).isN)) (by unfold maxLen; omega) (by omega)
  have hU : Upd NoF w w1 := (Upd.alloc NoF w _).trans (Upd.grown (F := fun k => k = w.heap.size) hgr (fun k hk _ => by simp [Value.ownBlock] at hk; subst hk; exact ⟨rfl, _, World.alloc_heap_new w _, rfl⟩)) (fun i hi h => by omega)
  have hfr : ∀ k, v9.ownBlock = some k → w.heap.size ≤ k := by
    intro k hk
    rcases hf with h | ⟨g', h, h'⟩
    · rw [h] at hk; simp [Value.ownBlock] at hk; omega
    · rw [h] at hk; cases hk; simp at h'; omega
  simp only [Nat.zero_add, List.nil_append] at hrow9 hfr
  have HR := Lib.hid hrun
  rcases hrow9.2 with ⟨_, h0⟩ | ⟨g9, cap9, cur, rfl, hg9, hc9, hm9, hs9, ht9⟩
  · omega
  obtain ⟨tl9, rfl⟩ := split_takeG ht9
  have HF := Lib.hid (And.intro hU (And.intro (show Blk w1 g9 (rowG 16 n A ++ tl9) BT from hg9) (And.intro hc9 (And.intro hm9 (And.intro hs9 (hfr g9 rfl))))))
  clear hrun hrow9 hgr hf hU hfr hrow hg9 hc9 hm9 hs9 ht9 hB htl hm hA
  go_enter Tryd.func54, Tryd.ntmps54
  go_wp2_with (at_builtin; refine wpList_append_run rfl _ _ 92 rfl rfl rfl HR.out ?_)
  go_ret
  exact ⟨_, _, _, rfl, HF.out⟩
theorem copy_is (h : (memO mb n B).is W F) (hn : n ≤ 256) (h1 : 1 ≤ n) : Calls Tryd.prog 22 #[ptr mb] W fun e W' =>
    ∃ mb', e = .returned (ptr mb') ∧ Upd NoF W W' ∧ (memO mb' n B).is W' (fun k => W.heap.size ≤ k) := by
  obtain ⟨g, cap, tl, q1, q2, q3, q4, b1, c1, b2, c2, hne⟩ := mem_open h
  have m0 : W.cell? ⟨mb, 0, none⟩ = some (sl g n cap) := b1.cell 0
  have HC := Lib.hid (clone_b W g n cap B tl q1 b2 hn h1 q2 q3 (by rw [Array.size_append, rowG_size]; exact q4))
  have HQ := Lib.hid q1
  clear h b1 b2 c1 c2 hne q1 q2 q3 q4
  go_enter Tryd.func22, Tryd.ntmps22
  go_wp2_with fail
  refine HC.out.mono ?_
  rintro e W2 ⟨g', cap', tl', rfl, hu, hb, hc, hm, ht, hg⟩
  have HF := Lib.hid (hu.trans (Upd.alloc NoF W2 (.cells #[sl g' n cap'] MT)) (fun _ _ h => h))
  have HB := Lib.hid (And.intro (hb.alloc (.cells #[sl g' n cap'] MT)) (And.intro (Blk.new W2 #[sl g' n cap'] MT) (And.intro hc (And.intro hm (And.intro ht (And.intro hg (And.intro hu.size hb.lt)))))))
  clear hu hb hc hm ht hg
  go_wp2
  go_ret
  obtain ⟨a1, a2, a3, a4, a5, a6, a7, a8⟩ := HB.out
  refine ⟨_, rfl, HF.out, ?_⟩
  exact mem_shut HQ.out a3 a4 (by rw [Array.size_append, rowG_size] at a5; exact a5) a2 a7 a1 a6 (by omega)
end
end Go.Proofs.YtlhbnndnkcpomaaDoor.ME
namespace Go.Proofs
open Go.Shelf
def Tryd.cloneJ_ren : Go.Shelf.Ren := ⟨fun | 5 => 57 | 7 => 82 | n => n, fun | 23 => 100 | 25 => 3 | 3 => 105 | 4 => 4 | 20 => 20 | n => n, fun | n => n⟩
theorem Tryd.cloneJ : Go.Proofs.SlLaysW.n5 Tryd.prog Tryd.cloneJ_ren := {
  mixed := by kernel_rfl
  f5 := ⟨Tryd.f57.name, by decide, Tryd.func57.trans (congrArg some (by kernel_rfl))⟩
  f7 := Tryd.func82.trans (congrArg some (by kernel_rfl))
  t4 := Tryd.underlying4
  a4 := Tryd.isAgg4
  z4 := Tryd.sizeOf4
  v4 := Tryd.zeroValue4
  t20 := Tryd.underlying20
  a20 := Tryd.isAgg20
  z20 := Tryd.sizeOf20
  v20 := Tryd.zeroValue20
  t23 := Tryd.underlying100
  a23 := Tryd.isAgg100
  z23 := Tryd.sizeOf100
  v23 := Tryd.zeroValue100 }
end Go.Proofs
