/- PoolOnce: what the Go function does. -/
import Derived.Test.YtlkpbhmifhoaiaaPoolPlaysW
set_option linter.unusedSimpArgs false
set_option linter.unusedVariables false
namespace Go.Proofs.Ytlkpbhmifhoaiaa.PW
open Go.RowKit
open PI (Po Vint)
attribute [local go_sem] Oper.semAt_some

/-- What is not in a row is not found in it. -/
theorem index_no (v : Value) (zs : List Int) (x : Int) (hx : x ∉ zs) (w : World) (h : Row w 3 1 v zs.length (zs.map Vint)) :
    Calls Try.prog 31 #[v, .int .i64 x] w fun e w' => e = .returned (.int .i64 (-1)) ∧ w = w' := by
  obtain ⟨a, cap, rfl, hn, hm, hnil⟩ := h.slice
  have HC : Hid (∀ k, k < zs.length → ∃ g z, a = some ⟨g, 0, none⟩ ∧ w.cell? ⟨g, k, none⟩ = some (.int .i64 z) ∧ (x == z) = false) := Lib.hid (fun k hk => by
    cases a with
    | none => have := (hnil rfl).1; omega
    | some a =>
      obtain ⟨⟨g, rfl⟩, hcell⟩ := h.cells
      have ck := hcell k (.int .i64 zs[k]) (by rw [List.getElem?_map, List.getElem?_eq_getElem hk]; rfl)
      exact ⟨g, zs[k], rfl, by simpa using ck, by simp; intro e; exact hx (e ▸ List.getElem_mem hk)⟩)
  unfold maxLen at hm
  clear h hnil hx
  generalize zs.length = n at *
  go_enter Try.func31, Try.ntmps31
  go_wp2_with fail
  go_loopw [8] (fun i wr => ∃ k : Nat, k ≤ n ∧ i = .int .i64 k ∧ w = wr) (fun i _ => n - (intOf i).toNat)
  case atStart => exact ⟨0, Nat.zero_le _, rfl, rfl⟩
  case round =>
    obtain ⟨k, hk, rfl, rfl⟩ := hrel
    by_cases hlt : k < n
    · obtain ⟨g, z, rfl, cz, hxz⟩ := HC.out k hlt
      go_wp2_with fail
      exact ⟨⟨k + 1, by omega, by go_num, by first | trivial | rfl⟩, by simp [intOf]; omega⟩
    · obtain rfl : n = k := by omega
      go_wp2_with fail
      go_ret
      exact ⟨rfl, rfl⟩
theorem contains_no (v : Value) (zs : List Int) (x : Int) (hx : x ∉ zs) (w : World) (h : Row w 3 1 v zs.length (zs.map Vint)) :
    Calls Try.prog 17 #[v, .int .i64 x] w fun e w' => e = .returned (.bool false) ∧ w = w' := by
  have HI := Lib.hid (index_no v zs x hx w h)
  clear h hx
  go_enter Try.func17, Try.ntmps17
  go_wp2_with fail
  refine HI.out.mono ?_
  rintro e w' ⟨rfl, rfl⟩
  go_wp2
  go_ret
  exact ⟨rfl, rfl⟩

theorem s_takeZ {G : Nat → Prop} {w0 W : World} {L : List Obj} {p : Value} {zs : List Int} {room : Int} (h : Sep G w0 W L) (i : Nat) (hi : L[i]? = some (Po p zs room)) (j : Int) (z : Int) (h0 : 0 ≤ j) (hl : zs[j.toNat]? = some z) (hb : zs.length ≤ 65536) :
    Calls Try.prog 12 #[p, .int .i64 j] W fun e W' => e = .returned (.tuple #[.int .i64 z, .int .i64 0]) ∧ Sep G w0 W' (L.set i (Po p (zs.eraseIdx j.toNat) room)) := by
  have := PI.s_take h i hi j.toNat z hl hb
  rwa [Int.toNat_of_nonneg h0] at this

/-- What is left, what was taken: in order, no number twice, n in all. -/
structure OnceI (n : Nat) (zs ts : List Int) : Prop where
  sorted : zs.Pairwise (· < ·)
  lo : ∀ x ∈ zs, 0 ≤ x
  apart : ∀ x ∈ zs, x ∉ ts
  many : zs.length + ts.length = n
theorem OnceI.take {n : Nat} {zs ts : List Int} {j : Nat} {z : Int} (h : OnceI n zs ts) (hz : zs[j]? = some z) : z ∉ ts ∧ OnceI n (zs.eraseIdx j) (ts ++ [z]) := by
  obtain ⟨hj, rfl⟩ := List.getElem?_eq_some_iff.1 hz
  refine ⟨h.apart _ (List.getElem_mem hj), h.sorted.sublist (List.eraseIdx_sublist zs j), fun x hx => h.lo x (List.mem_of_mem_eraseIdx hx), fun x hx => ?_, ?_⟩
  · rw [List.mem_append]
    rintro (hm | hm)
    · exact h.apart x (List.mem_of_mem_eraseIdx hx) hm
    · simp at hm
      obtain ⟨i, hi, e⟩ := List.mem_eraseIdx_iff_getElem.1 hx
      obtain ⟨hne, e⟩ := e
      rw [hm] at e
      rcases Nat.lt_or_gt_of_ne hne with hlt | hlt
      · have := (List.pairwise_iff_getElem.1 h.sorted) i j hi hj hlt
        omega
      · have := (List.pairwise_iff_getElem.1 h.sorted) j i hj hi hlt
        omega
  · rw [List.length_eraseIdx, if_pos hj, List.length_append]
    have := h.many
    simp
    omega
theorem onceI_start (n : Nat) : OnceI n ((List.range n).map fun (i : Nat) => (i : Int)) [] := by
  refine ⟨?_, fun x hx => ?_, fun x _ h => (by cases h), by simp⟩
  · rw [List.pairwise_map]
    exact List.pairwise_lt_range.imp (fun h => by omega)
  · obtain ⟨i, _, rfl⟩ := List.mem_map.1 hx
    omega
theorem run_nil_row (w : World) : Row w 3 1 (.slice none 0 0) ([] : List Int).length (([] : List Int).map Vint) := Row.nil _ _ _

/-- A row that is the call's own, in a variable of its own, is appended to. -/
theorem Sep.grow {G : Nat → Prop} {w0 W W1 : World} {L : List Obj} (h : Sep G w0 W L) (i : Nat) {e : TypeId} {c n m : Nat} {v v' : Value} {xs ys : List Value} (hi : L[i]? = some (rowO e c v n xs))
    (hr : Row W1 e c v' m ys) (hg : W.grownBy W1 v.ownBlock) (hf : v'.ownBlock = v.ownBlock ∨ ∃ g, v'.ownBlock = some g ∧ W.heap.size ≤ g) : Sep G w0 W1 (L.set i (rowO e c v' m ys)) := by
  obtain ⟨F, h2, h3⟩ := h.step i hi
  refine h3 _ _ (Upd.grown hg (fun k hk _ => ⟨h2.2 k hk, h2.1.isCells k hk⟩)) ⟨hr, fun k hk => ?_⟩
  rcases hf with e1 | ⟨g, e1, hge⟩
  · rw [e1] at hk; exact .inl (h2.2 k hk)
  · rw [e1] at hk; cases hk; exact .inr hge

set_option maxRecDepth 100000 in
set_option maxHeartbeats 4000000 in
theorem once_any (a : Option Addr) (len cap : Nat) (a2 : Option Addr) (len2 cap2 : Nat) (Z Z2 : Nat → Int) (w : World) (h1 : IsRow1 w a len cap (fun i => .int .i64 (Z i))) (h2 : IsRow1 w a2 len2 cap2 (fun i => .int .i64 (Z2 i)))
    (hZ2 : ∀ i, i < len2 → -9223372036854775808 ≤ Z2 i ∧ Z2 i ≤ 9223372036854775807) :
    Calls Try.prog 5 #[.slice a len cap, .slice a2 len2 cap2] w fun e w' => e = .returned (.bool true) ∧ Below w.heap.size w w' := by
  obtain ⟨l1, m1, c1⟩ := h1
  obtain ⟨l2, m2, c2⟩ := h2
  unfold maxLen at m1 m2
  have C2 := Lib.hid c2
  have HZ2 := Lib.hid hZ2
  clear c1 c2 hZ2
  obtain ⟨W0, hW0⟩ : ∃ W0, w.alloc (.cells #[.bool false] 4) = W0 := ⟨_, rfl⟩
  have HS0 : Hid (Sep NoF w W0 [resO w]) := Lib.hid (by rw [← hW0]; exact (Sep.zero NoF w).alloc _ _)
  refine calls_of_wp_marks Try.func5 rfl ?_
  simp only [Try.ntmps5, List.size_toArray, List.length_cons, List.length_nil, Nat.reduceAdd, Nat.reduceSub, Array.replicate_succ, Array.replicate_zero, List.push_toArray, List.append_toArray, List.nil_append, List.cons_append]
  have HW0 := Lib.hid hW0
  clear hW0
  go_wp2_with fail
  rw [HW0.out]
  refine (works_any W0).mono ?_
  rintro e w1 ⟨rfl, hb⟩
  have HS1 := Lib.hid (HS0.out.upd0 (Below.upd hb NoF))
  clear hb
  by_cases hbig : 300 < len
  · have hb0 : decide ((300 : Int) < (len : Int)) = true := by simp; omega
    go_wp2_with fail
    refine (works_any _).mono ?_
    rintro e w2 ⟨rfl, hb⟩
    have hs2 := HS1.out.upd0 (Below.upd hb NoF)
    have d4 := (hs2.box 0 rfl).cell 0
    have f4 := (hs2.box 0 rfl).frozen 0
    change w2.cell? ⟨w.heap.size, 0, none⟩ = some (.bool false) at d4
    have HS9 := Lib.hid (hs2.set 0 rfl 0 (.bool true))
    clear hb hs2
    go_wp2
    have hc5 : _ = some (Value.bool true) := (HS9.out.box 0 rfl).cell 0
    refine postM_ret0 (v := .bool true) (by simp [results, Try.f5, go_sem, hc5]) ⟨rfl, HS9.out.below⟩
  · have hb0 : decide ((300 : Int) < (len : Int)) = false := by simp; omega
    by_cases hbig2 : 300 < len2
    · have hb1 : decide ((300 : Int) < (len2 : Int)) = true := by simp; omega
      go_wp2_with fail
      refine (works_any _).mono ?_
      rintro e w2 ⟨rfl, hb⟩
      have hs2 := HS1.out.upd0 (Below.upd hb NoF)
      have d4 := (hs2.box 0 rfl).cell 0
      have f4 := (hs2.box 0 rfl).frozen 0
      change w2.cell? ⟨w.heap.size, 0, none⟩ = some (.bool false) at d4
      have HS9 := Lib.hid (hs2.set 0 rfl 0 (.bool true))
      clear hb hs2
      go_wp2
      have hc5 : _ = some (Value.bool true) := (HS9.out.box 0 rfl).cell 0
      refine postM_ret0 (v := .bool true) (by simp [results, Try.f5, go_sem, hc5]) ⟨rfl, HS9.out.below⟩
    · have hb1 : decide ((300 : Int) < (len2 : Int)) = false := by simp; omega
      go_wp2_with fail
      refine (PI.s_new HS1.out 300 (by omega) (by omega)).mono ?_
      rintro e w2 ⟨b, rfl, hs⟩
      have HS2 := Lib.hid hs
      clear hs
      go_wp2_with fail
      go_loopw [35] (fun i wr => ∃ k : Nat, k ≤ len ∧ i = .int .i64 k ∧ Hid (Sep NoF w wr [Po (ptr b) ((List.range k).map fun (i : Nat) => (i : Int)) 300, resO w])) (fun i _ => len - (intOf i).toNat)
      case atStart => exact ⟨0, Nat.zero_le _, rfl, HS2.out⟩
      case round =>
        obtain ⟨k, hk, rfl, HI⟩ := hrel
        by_cases hlt : k < len
        · have hput := PI.s_put HI.out 0 rfl (k : Int) (by simp; omega) (by omega)
          have HP := Lib.hid hput
          clear hput
          go_wp2_with fail
          refine HP.out.mono ?_
          rintro e w3 ⟨rfl, hs⟩
          have HS3 : Hid (Sep NoF w w3 [Po (ptr b) ((List.range (k + 1)).map fun (i : Nat) => (i : Int)) 300, resO w]) := Lib.hid (by rw [List.range_succ, List.map_append]; exact hs)
          clear hs
          go_wp2_with fail
          exact ⟨⟨k + 1, by omega, by go_num, HS3.out⟩, by simp [intOf]; omega⟩
        · obtain rfl : len = k := by omega
          have HO := Lib.hid (onceI_start len)
          have HS4 := Lib.hid HI.out
          clear HI
          generalize ((List.range len).map fun (i : Nat) => (i : Int)) = zs0 at *
          obtain ⟨w4, hw4⟩ : ∃ W, wr.alloc (.cells #[.slice none 0 0] 42) = W := ⟨_, rfl⟩
          have hrow : (rowO 3 1 (.slice none 0 0) ([] : List Int).length (([] : List Int).map Vint)).is w4 (fun k => w4.heap.size ≤ k) := ⟨Row.nil _ _ _, fun k hk => by simp [Value.ownBlock] at hk⟩
          have HS5 : Hid (Sep NoF w w4 [rowO 3 1 (.slice none 0 0) ([] : List Int).length (([] : List Int).map Vint), boxO wr.heap.size #[.slice none 0 0] 42, Po (ptr b) zs0 300, resO w]) := Lib.hid (by
            have h5 : Sep NoF w w4 [boxO wr.heap.size #[.slice none 0 0] 42, Po (ptr b) zs0 300, resO w] := by rw [← hw4]; exact HS4.out.alloc _ _
            exact h5.push (Upd.refl NoF w4) hrow)
          have HW4 := Lib.hid hw4
          clear hw4 hrow
          go_wp2_with fail
          rw [HW4.out]
          obtain ⟨tb, htb⟩ : ∃ t, wr.heap.size = t := ⟨_, rfl⟩
          rw [htb] at HS5 ⊢
          clear htb HW4
          obtain ⟨wo, rfl⟩ : ∃ x, x = wr := ⟨_, rfl⟩
          go_loopw [45] (fun i wr => ∃ (k : Nat) (zs ts : List Int) (tv : Value), k ≤ len2 ∧ i = .int .i64 k ∧ Hid (OnceI len zs ts ∧ Sep NoF w wr [rowO 3 1 tv ts.length (ts.map Vint), boxO tb #[tv] 42, Po (ptr b) zs 300, resO w])) (fun i _ => len2 - (intOf i).toNat)
          case atStart => exact ⟨0, zs0, [], .slice none 0 0, Nat.zero_le _, rfl, HO.out, HS5.out⟩
          case round =>
            obtain ⟨k, zs, ts, tv, hk, rfl, HI⟩ := hrel
            have hmany := HI.out.1.many
            by_cases hgo : k < len2 ∧ 0 < zs.length
            · obtain ⟨hlt, hpos⟩ := hgo
              obtain ⟨x1, rfl, g1⟩ := C2.out k hlt
              have g2 := HI.out.2.old g1
              have hzb := HZ2.out k hlt
              generalize Z2 k = ii at *
              have hn0 : ((zs.length : Int) == 0) = false := by rw [beq_eq_false_iff_ne]; omega
              have hlen := Lib.hid (fun (W : World) (h : Upd NoF wr W) => PI.s_len (HI.out.2.upd0 h) 2 rfl)
              obtain ⟨nn, hnn⟩ : ∃ n : Int, (zs.length : Int) = n := ⟨_, rfl⟩
              have hnp : 0 < nn ∧ nn ≤ 300 := by omega
              have hr1 : -nn < ii.tmod nn ∧ ii.tmod nn < nn := ⟨by have := Int.lt_tmod_of_pos ii hnp.1; omega, Int.tmod_lt_of_pos ii hnp.1⟩
              have hr2 : 0 ≤ (ii.tmod nn + nn).tmod nn ∧ (ii.tmod nn + nn).tmod nn < nn := ⟨Int.tmod_nonneg _ (by omega), Int.tmod_lt_of_pos _ hnp.1⟩
              have hnz : ¬ nn = 0 := by omega
              have hwr1 : IntKind.i64.wrap (ii.tmod nn) = ii.tmod nn := IntWalk.i64_in _ (by omega)
              have hwr2 : IntKind.i64.wrap ((ii.tmod nn + nn).tmod nn) = (ii.tmod nn + nn).tmod nn := IntWalk.i64_in _ (by omega)
              have hwr : IntKind.i64.wrap (ii.tmod nn + nn) = ii.tmod nn + nn := IntWalk.i64_in _ (by omega)
              obtain ⟨j, hj⟩ : ∃ j, (ii.tmod nn + nn).tmod nn = j := ⟨_, rfl⟩
              rw [hj] at hr2
              have hzj : zs[j.toNat]? = some (zs[j.toNat]'(by omega)) := List.getElem?_eq_getElem _
              generalize zs[j.toNat]'(by omega) = z at hzj
              obtain ⟨hzt, hO2⟩ := HI.out.1.take hzj
              have hzl : zs.length ≤ 65536 := by omega
              have HTK := Lib.hid (fun (W : World) (h : Upd NoF wr W) => s_takeZ (HI.out.2.upd0 h) 2 rfl j z hr2.1 hzj hzl)
              have HZT := Lib.hid hzt; have HO2 := Lib.hid hO2
              clear hzt hO2 hzj
              rw [hnn] at hlen hn0
              have hwj := Lib.hid hj
              clear hj
              go_wp2_with (go_at_call 13; refine (hlen.out _ (Upd.refl _ _)).mono ?_; rintro e wm ⟨rfl, rfl⟩)
              go_region_held3 (fun W => Upd NoF wr W ∨ True) (first | assumption | exact .inr trivial) (first | (go_at_call 13; refine (hlen.out _ (Upd.drew NoF wr)).mono ?_; rintro e wm ⟨rfl, rfl⟩) | (go_at_call 12; rw [hwj.out]; refine (HTK.out _ (Upd.drew NoF wr)).mono ?_; rintro e wa ⟨rfl, hs⟩; have HSa : Hid (Sep NoF w wa [rowO 3 1 tv ts.length (ts.map Vint), boxO tb #[tv] 42, Po (ptr b) (zs.eraseIdx j.toNat) 300, resO w]) := Lib.hid hs; have hT : (fun W => Upd NoF wr W ∨ True) wa := .inr trivial; clear hs))
              have ct : wa.cell? ⟨tb, 0, none⟩ = some tv := (HSa.out.box 1 rfl).cell 0
              go_wp2_with fail
              refine (contains_no tv ts z HZT.out wa (HSa.out.row 0 rfl)).mono ?_
              rintro e wb ⟨rfl, rfl⟩
              obtain ⟨i0, hi, hz0, hz1, hz2⟩ := info_parts PI.infoE
              obtain ⟨v9, w9, hrun, hrow9, hg, hf⟩ := run_append_row (P := Try.prog) (wa.alloc (.cells #[Vint z] 3)) 42 42 3 i0 (.int .i64 0) 1 8 Try.underlying42 hi hz0 hz1 hz2 rfl (by decide) tv ts.length (ts.map Vint)
                ((HSa.out.row 0 rfl).alloc _) ⟨wa.heap.size, 0, none⟩ 1 1 [Vint z] rfl (cell_one_new _ _ _) (by simp [Value.oneCell']) (by unfold maxLen; omega) (by omega)
              have hs9 := Sep.grow (HSa.out.upd0 (Upd.alloc NoF wa (.cells #[Vint z] 3))) 0 rfl hrow9 hg hf
              have c9 : w9.cell? ⟨tb, 0, none⟩ = some tv := (hs9.box 1 rfl).cell 0
              have f9 := (hs9.box 1 rfl).frozen 0
              have HS9 : Hid (Sep NoF w (w9.setCell ⟨tb, 0, none⟩ v9) [rowO 3 1 v9 (ts ++ [z]).length ((ts ++ [z]).map Vint), boxO tb #[v9] 42, Po (ptr b) (zs.eraseIdx j.toNat) 300, resO w]) := Lib.hid (by have := hs9.set 1 rfl 0 v9; rw [List.length_append, List.map_append]; exact this)
              have HR := Lib.hid hrun
              obtain ⟨at9, ct9, htv, _⟩ := (HSa.out.row 0 rfl).slice
              subst htv
              obtain ⟨a9, cap9, rfl, _⟩ := hrow9.slice
              clear hrun hrow9 hg hf hs9
              go_wp2_with (at_builtin; refine wpList_append_run (w := wa.alloc (.cells #[Vint z] 3)) rfl _ _ 42 rfl rfl rfl HR.out ?_)
              exact ⟨⟨k + 1, zs.eraseIdx j.toNat, ts ++ [z], _, by omega, by go_num, HO2.out, HS9.out⟩, by simp [intOf]; omega⟩
            · by_cases hlt : k < len2
              · obtain ⟨x1, rfl, g1⟩ := C2.out k hlt
                have g2 := HI.out.2.old g1
                have hz0 : zs.length = 0 := by omega
                have hle0 := PI.s_len HI.out.2 2 rfl
                rw [hz0] at hle0
                have hle := Lib.hid hle0
                clear hle0 hz0 hgo
                obtain ⟨w6, hw6⟩ : ∃ W, wr.alloc (.cells #[.int .i64 (-1)] 3) = W := ⟨_, rfl⟩
                have HS7 : Hid (Sep NoF w w6 (boxO wr.heap.size #[.int .i64 (-1)] 3 :: [rowO 3 1 tv ts.length (ts.map Vint), boxO tb #[tv] 42, Po (ptr b) zs 300, resO w])) := Lib.hid (by rw [← hw6]; exact HI.out.2.alloc _ _)
                have HW6 := Lib.hid hw6
                have HO := Lib.hid HI.out.1
                clear hw6 HI
                go_wp2_with (go_at_call 13; refine hle.out.mono ?_; rintro e wm ⟨rfl, rfl⟩)
                rw [HW6.out]
                refine (PI.all_any _ _ ⟨_, rfl⟩).mono ?_
                rintro e w' ⟨rfl, rfl⟩
                obtain ⟨w7, hw7⟩ : ∃ W, w6.alloc (.cells #[ptr b] 24) = W := ⟨_, rfl⟩
                have HS8 : Hid (Sep NoF w w7 (boxO wr.heap.size #[.int .i64 (-1)] 3 :: [rowO 3 1 tv ts.length (ts.map Vint), boxO tb #[tv] 42, Po (ptr b) zs 300, resO w])) := Lib.hid (by rw [← hw7]; exact HS7.out.upd0 (Upd.alloc NoF w6 _))
                have qp : Blk w7 w6.heap.size #[ptr b] 24 := by rw [← hw7]; exact Blk.new w6 _ _
                have hsz : w7.heap.size = w6.heap.size + 1 := by rw [← hw7]; simp
                have hnb : wr.heap.size < w6.heap.size := (HS7.out.box 0 rfl).lt
                have hwl := HS8.out.size
                have HW7 := Lib.hid hw7
                clear hw7
                go_wp2_with fail
                rw [HW7.out]
                obtain ⟨nb, hnb0⟩ : ∃ n, wr.heap.size = n := ⟨_, rfl⟩
                rw [hnb0] at HS8 hnb ⊢
                clear HW6 HS7 HW7
                obtain ⟨F, hF, hFl, hFo⟩ := HS8.out.get 3 rfl
                have hnF : ¬ F nb := (hFo.box 0 rfl).2.2
                refine wp_range (gf := 32) (lb := #[ptr w6.heap.size]) rfl (enters_of Try.func32 (by kernel_rfl) rfl)
                  (PI.all_seq w6.heap.size zs _ 300 F (fun k => k = nb ∨ w7.heap.size ≤ k) (fun k hk => by have := (hFl k hk).2; intro h; rcases h with rfl | h; exact hnF hk; omega) (by omega) w7 (qp.cell 0) hF) (fun _ => rfl) (fun _ h => h.elim) (fun k hk => .inr hk)
                  (fun k W => ∃ last : Int, (∀ i z, zs[i]? = some z → k ≤ i → last < z) ∧ Sep NoF w W (boxO nb #[.int .i64 last] 3 :: [rowO 3 1 tv ts.length (ts.map Vint), boxO tb #[tv] 42, Po (ptr b) zs 300, resO w]))
                  (fun _ _ _ => False)
                  (fun k A B hs hb => by obtain ⟨l, h1, h2⟩ := hs; exact ⟨l, h1, h2.bk hb hwl⟩)
                  (fun _ _ _ _ h _ => h)
                  ⟨-1, fun i z hz _ => by have := HO.out.lo z (List.mem_of_getElem? hz); omega, HS8.out⟩
                  ?rnd ?dn ?stp
                case rnd =>
                  intro l k x hx W9 K' hK'
                  gi_wp2
                  rintro W hs
                  obtain ⟨last, hl1, hs⟩ := hs
                  rw [idxs_get, Option.map_eq_some_iff] at hx
                  obtain ⟨z, hz, rfl⟩ := hx
                  have HS := Lib.hid hs
                  clear hs
                  have hlz : last < z := hl1 k z hz (Nat.le_refl _)
                  have hzt : z ∉ ts := HO.out.apart z (List.mem_of_getElem? hz)
                  have un : W.cell? ⟨nb, 0, none⟩ = some (.int .i64 last) := (HS.out.box 0 rfl).cell 0
                  have unf := (HS.out.box 0 rfl).frozen 0
                  have ut : W.cell? ⟨tb, 0, none⟩ = some tv := (HS.out.box 2 rfl).cell 0
                  have hd : decide (z ≤ last) = false := by simp; omega
                  have HCN := Lib.hid (contains_no tv ts z hzt W (HS.out.row 1 rfl))
                  have hnx : ∀ i y, zs[i]? = some y → k + 1 ≤ i → z < y := fun i y hy hi => by
                    obtain ⟨hkl, rfl⟩ := List.getElem?_eq_some_iff.1 hz
                    obtain ⟨hil, rfl⟩ := List.getElem?_eq_some_iff.1 hy
                    exact (List.pairwise_iff_getElem.1 HO.out.sorted) k i hkl hil (by omega)
                  have HNX := Lib.hid hnx
                  obtain ⟨at9, ct9, htv, _⟩ := (HS.out.row 1 rfl).slice
                  subst htv
                  clear hnx hzt hl1 hz hF hFl hFo hlz
                  gi_wp2_with (refine ⟨trivial, ?_⟩; refine (CallsIn.inRound l (callsIn_wide.2 HCN.out)).mono ?_; rintro e w9 ⟨rfl, rfl⟩)
                  exact ⟨Upd.setCell _ (p := ⟨nb, 0, none⟩) (.inl rfl) _, z, HNX.out, HS.out.set 0 rfl 0 _⟩
                case dn =>
                  rintro D W hD hs hK
                  obtain ⟨last, _, hs⟩ := hs
                  have HS := Lib.hid hs
                  clear hs hF hFl hFo
                  obtain ⟨at9, ct9, htv, _⟩ := (HS.out.row 1 rfl).slice
                  subst htv
                  have ut : W.cell? ⟨tb, 0, none⟩ = some (.slice at9 ts.length ct9) := (HS.out.box 2 rfl).cell 0
                  have HK := Lib.hid hK
                  clear hK
                  have hsum : ((zs.length : Int) + (ts.length : Int) == (len : Int)) = true := by simp; omega
                  have hws : IntKind.i64.wrap ((zs.length : Int) + (ts.length : Int)) = (zs.length : Int) + (ts.length : Int) := IntWalk.i64_in _ (by omega)
                  have hws2 : IntKind.i64.wrap (len : Int) = (len : Int) := IntWalk.i64_in _ (by omega)
                  clear hmany
                  have hbt : tb ≠ w.heap.size := by
                    obtain ⟨F3, h3, _, h4⟩ := HS.out.get 2 rfl
                    intro e
                    exact (h4.box 3 rfl).2.2 (e ▸ h3.2)
                  go_wp2_with fail
                  go_region_held3 (fun X => X.cell? ⟨tb, 0, none⟩ = some (.slice at9 ts.length ct9)) (first | assumption | exact ut | exact (HS9.out.box 2 rfl).cell 0) (first | (go_at_call 13; refine (PI.s_len (HS.out.upd0 (Upd.drew NoF W)) 3 rfl).mono ?_; rintro e wl ⟨rfl, rfl⟩) | (go_at_call 9; refine (works_any _).mono ?_; rintro e wm ⟨rfl, hb⟩; have hu9 := (Upd.drew NoF W).trans (Below.upd hb NoF) (fun _ _ h => h); have hs2 := HS.out.upd0 hu9; have d4 : wm.cell? ⟨w.heap.size, 0, none⟩ = some (.bool false) := (hs2.box 4 rfl).cell 0; have f4 := (hs2.box 4 rfl).frozen 0; have HS9 := Lib.hid (hs2.set 4 rfl 0 (.bool true)); have HU9 := Lib.hid hu9; have hT : (fun (X : World) => X.cell? ⟨tb, 0, none⟩ = some (.slice at9 ts.length ct9)) wm := (hs2.box 2 rfl).cell 0; clear hb hs2 hu9))
                  all_goals
                    go_wp2
                    have hK5 := ((HU9.out.mono (G := fun k => k = w.heap.size) (fun _ _ h => h.elim)).trans (Upd.setCell (F := fun k => k = w.heap.size) wm (p := ⟨w.heap.size, 0, none⟩) rfl (.bool true)) (fun _ _ h => h)).others.same D _ HK.out rfl
                    have hs10 := HS9.out.bk (Bk.putObj (n := w.heap.size) (G := NoF) hK5 rfl (by omega) (.deferred none)) (Nat.le_refl _)
                    have hc5 : _ = some (Value.bool true) := (hs10.box 4 rfl).cell 0
                    refine postM_ret1 hK5 (v := .bool true) (by simp [results, Try.f5, go_sem, hc5]) ⟨rfl, hs10.below⟩
                case stp =>
                  rintro D c k W hD hkl h hK
                  exact h.elim
              · obtain rfl : len2 = k := by omega
                obtain ⟨w6, hw6⟩ : ∃ W, wr.alloc (.cells #[.int .i64 (-1)] 3) = W := ⟨_, rfl⟩
                have HS7 : Hid (Sep NoF w w6 (boxO wr.heap.size #[.int .i64 (-1)] 3 :: [rowO 3 1 tv ts.length (ts.map Vint), boxO tb #[tv] 42, Po (ptr b) zs 300, resO w])) := Lib.hid (by rw [← hw6]; exact HI.out.2.alloc _ _)
                have HW6 := Lib.hid hw6
                have HO := Lib.hid HI.out.1
                clear hw6 HI
                go_wp2_with fail
                rw [HW6.out]
                refine (PI.all_any _ _ ⟨_, rfl⟩).mono ?_
                rintro e w' ⟨rfl, rfl⟩
                obtain ⟨w7, hw7⟩ : ∃ W, w6.alloc (.cells #[ptr b] 24) = W := ⟨_, rfl⟩
                have HS8 : Hid (Sep NoF w w7 (boxO wr.heap.size #[.int .i64 (-1)] 3 :: [rowO 3 1 tv ts.length (ts.map Vint), boxO tb #[tv] 42, Po (ptr b) zs 300, resO w])) := Lib.hid (by rw [← hw7]; exact HS7.out.upd0 (Upd.alloc NoF w6 _))
                have qp : Blk w7 w6.heap.size #[ptr b] 24 := by rw [← hw7]; exact Blk.new w6 _ _
                have hsz : w7.heap.size = w6.heap.size + 1 := by rw [← hw7]; simp
                have hnb : wr.heap.size < w6.heap.size := (HS7.out.box 0 rfl).lt
                have hwl := HS8.out.size
                have HW7 := Lib.hid hw7
                clear hw7
                go_wp2_with fail
                rw [HW7.out]
                obtain ⟨nb, hnb0⟩ : ∃ n, wr.heap.size = n := ⟨_, rfl⟩
                rw [hnb0] at HS8 hnb ⊢
                clear HW6 HS7 HW7
                obtain ⟨F, hF, hFl, hFo⟩ := HS8.out.get 3 rfl
                have hnF : ¬ F nb := (hFo.box 0 rfl).2.2
                refine wp_range (gf := 32) (lb := #[ptr w6.heap.size]) rfl (enters_of Try.func32 (by kernel_rfl) rfl)
                  (PI.all_seq w6.heap.size zs _ 300 F (fun k => k = nb ∨ w7.heap.size ≤ k) (fun k hk => by have := (hFl k hk).2; intro h; rcases h with rfl | h; exact hnF hk; omega) (by omega) w7 (qp.cell 0) hF) (fun _ => rfl) (fun _ h => h.elim) (fun k hk => .inr hk)
                  (fun k W => ∃ last : Int, (∀ i z, zs[i]? = some z → k ≤ i → last < z) ∧ Sep NoF w W (boxO nb #[.int .i64 last] 3 :: [rowO 3 1 tv ts.length (ts.map Vint), boxO tb #[tv] 42, Po (ptr b) zs 300, resO w]))
                  (fun _ _ _ => False)
                  (fun k A B hs hb => by obtain ⟨l, h1, h2⟩ := hs; exact ⟨l, h1, h2.bk hb hwl⟩)
                  (fun _ _ _ _ h _ => h)
                  ⟨-1, fun i z hz _ => by have := HO.out.lo z (List.mem_of_getElem? hz); omega, HS8.out⟩
                  ?rnd ?dn ?stp
                case rnd =>
                  intro l k x hx W9 K' hK'
                  gi_wp2
                  rintro W hs
                  obtain ⟨last, hl1, hs⟩ := hs
                  rw [idxs_get, Option.map_eq_some_iff] at hx
                  obtain ⟨z, hz, rfl⟩ := hx
                  have HS := Lib.hid hs
                  clear hs
                  have hlz : last < z := hl1 k z hz (Nat.le_refl _)
                  have hzt : z ∉ ts := HO.out.apart z (List.mem_of_getElem? hz)
                  have un : W.cell? ⟨nb, 0, none⟩ = some (.int .i64 last) := (HS.out.box 0 rfl).cell 0
                  have unf := (HS.out.box 0 rfl).frozen 0
                  have ut : W.cell? ⟨tb, 0, none⟩ = some tv := (HS.out.box 2 rfl).cell 0
                  have hd : decide (z ≤ last) = false := by simp; omega
                  have HCN := Lib.hid (contains_no tv ts z hzt W (HS.out.row 1 rfl))
                  have hnx : ∀ i y, zs[i]? = some y → k + 1 ≤ i → z < y := fun i y hy hi => by
                    obtain ⟨hkl, rfl⟩ := List.getElem?_eq_some_iff.1 hz
                    obtain ⟨hil, rfl⟩ := List.getElem?_eq_some_iff.1 hy
                    exact (List.pairwise_iff_getElem.1 HO.out.sorted) k i hkl hil (by omega)
                  have HNX := Lib.hid hnx
                  obtain ⟨at9, ct9, htv, _⟩ := (HS.out.row 1 rfl).slice
                  subst htv
                  clear hnx hzt hl1 hz hF hFl hFo hlz
                  gi_wp2_with (refine ⟨trivial, ?_⟩; refine (CallsIn.inRound l (callsIn_wide.2 HCN.out)).mono ?_; rintro e w9 ⟨rfl, rfl⟩)
                  exact ⟨Upd.setCell _ (p := ⟨nb, 0, none⟩) (.inl rfl) _, z, HNX.out, HS.out.set 0 rfl 0 _⟩
                case dn =>
                  rintro D W hD hs hK
                  obtain ⟨last, _, hs⟩ := hs
                  have HS := Lib.hid hs
                  clear hs hF hFl hFo
                  obtain ⟨at9, ct9, htv, _⟩ := (HS.out.row 1 rfl).slice
                  subst htv
                  have ut : W.cell? ⟨tb, 0, none⟩ = some (.slice at9 ts.length ct9) := (HS.out.box 2 rfl).cell 0
                  have HK := Lib.hid hK
                  clear hK
                  have hsum : ((zs.length : Int) + (ts.length : Int) == (len : Int)) = true := by simp; omega
                  have hws : IntKind.i64.wrap ((zs.length : Int) + (ts.length : Int)) = (zs.length : Int) + (ts.length : Int) := IntWalk.i64_in _ (by omega)
                  have hws2 : IntKind.i64.wrap (len : Int) = (len : Int) := IntWalk.i64_in _ (by omega)
                  clear hmany
                  have hbt : tb ≠ w.heap.size := by
                    obtain ⟨F3, h3, _, h4⟩ := HS.out.get 2 rfl
                    intro e
                    exact (h4.box 3 rfl).2.2 (e ▸ h3.2)
                  go_wp2_with fail
                  go_region_held3 (fun X => X.cell? ⟨tb, 0, none⟩ = some (.slice at9 ts.length ct9)) (first | assumption | exact ut | exact (HS9.out.box 2 rfl).cell 0) (first | (go_at_call 13; refine (PI.s_len (HS.out.upd0 (Upd.drew NoF W)) 3 rfl).mono ?_; rintro e wl ⟨rfl, rfl⟩) | (go_at_call 9; refine (works_any _).mono ?_; rintro e wm ⟨rfl, hb⟩; have hu9 := (Upd.drew NoF W).trans (Below.upd hb NoF) (fun _ _ h => h); have hs2 := HS.out.upd0 hu9; have d4 : wm.cell? ⟨w.heap.size, 0, none⟩ = some (.bool false) := (hs2.box 4 rfl).cell 0; have f4 := (hs2.box 4 rfl).frozen 0; have HS9 := Lib.hid (hs2.set 4 rfl 0 (.bool true)); have HU9 := Lib.hid hu9; have hT : (fun (X : World) => X.cell? ⟨tb, 0, none⟩ = some (.slice at9 ts.length ct9)) wm := (hs2.box 2 rfl).cell 0; clear hb hs2 hu9))
                  all_goals
                    go_wp2
                    have hK5 := ((HU9.out.mono (G := fun k => k = w.heap.size) (fun _ _ h => h.elim)).trans (Upd.setCell (F := fun k => k = w.heap.size) wm (p := ⟨w.heap.size, 0, none⟩) rfl (.bool true)) (fun _ _ h => h)).others.same D _ HK.out rfl
                    have hs10 := HS9.out.bk (Bk.putObj (n := w.heap.size) (G := NoF) hK5 rfl (by omega) (.deferred none)) (Nat.le_refl _)
                    have hc5 : _ = some (Value.bool true) := (hs10.box 4 rfl).cell 0
                    refine postM_ret1 hK5 (v := .bool true) (by simp [results, Try.f5, go_sem, hc5]) ⟨rfl, hs10.below⟩
                case stp =>
                  rintro D c k W hD hkl h hK
                  exact h.elim
end Go.Proofs.Ytlkpbhmifhoaiaa.PW
