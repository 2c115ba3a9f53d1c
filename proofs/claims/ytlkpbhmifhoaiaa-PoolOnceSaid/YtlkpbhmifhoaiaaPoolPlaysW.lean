/- PoolPlays: what the Go function does. -/
import Derived.Test.YtlkpbhmifhoaiaaPoolWorks
import Derived.Test.YtlkpbhmifhoaiaaPoolRef
import Derived.Test.YtlkpbhmifhoaiaaRowF
import Derived.Deep.RegionHeld3
import Derived.Deep.CutBlock
import Derived.Deep.RegionWith
set_option linter.unusedSimpArgs false
set_option linter.unusedVariables false
namespace Go.Proofs.Ytlkpbhmifhoaiaa.PW
open Go.RowKit
open PI (Po)
open PR (RPo)
attribute [local go_sem] Oper.semAt_some

/-- The first place from c on that is so; -1: none is. -/
def fromAt (g : Int → Bool) (zs : List Int) (c : Nat) : Int := match (zs.drop c).findIdx? g with | some i => ((c + i : Nat) : Int) | none => -1
theorem fromAt_zero (g : Int → Bool) (zs : List Int) : fromAt g zs 0 = firstAt g zs := by
  unfold fromAt firstAt
  rw [List.drop_zero]
  cases zs.findIdx? g <;> simp
theorem fromAt_end (g : Int → Bool) (zs : List Int) : fromAt g zs zs.length = -1 := by
  unfold fromAt
  rw [List.drop_length]
  rfl
theorem fromAt_hit {g : Int → Bool} {zs : List Int} {c : Nat} {z : Int} (h : zs[c]? = some z) (hg : g z = true) : fromAt g zs c = c := by
  obtain ⟨hl, rfl⟩ := List.getElem?_eq_some_iff.1 h
  unfold fromAt
  rw [List.drop_eq_getElem_cons hl, List.findIdx?_cons, hg]
  simp
theorem fromAt_miss {g : Int → Bool} {zs : List Int} {c : Nat} {z : Int} (h : zs[c]? = some z) (hg : g z = false) : fromAt g zs c = fromAt g zs (c + 1) := by
  obtain ⟨hl, rfl⟩ := List.getElem?_eq_some_iff.1 h
  unfold fromAt
  rw [List.drop_eq_getElem_cons hl, List.findIdx?_cons, hg]
  cases (zs.drop (c + 1)).findIdx? g with
  | none => rfl
  | some i => simp; omega

abbrev ptr (b : Nat) : Value := .pointer (some ⟨b, 0, none⟩)
abbrev c7O (c7 rb : Nat) : Obj := boxO c7 #[ptr rb] 54
abbrev resO (w : World) : Obj := boxO w.heap.size #[.bool false] 4
abbrev opO (ob : Nat) (kk ii xx : Int) : Obj := boxO ob #[.int .i64 kk, .int .i64 ii, .int .i64 xx] 51
/-- p, m; the call's own variables. -/
abbrev LL (w : World) (b rb c7 : Nat) (zp zm : List Int) (room : Int) : List Obj := [c7O c7 rb, RPo (ptr rb) zm room, Po (ptr b) zp room, resO w]

theorem isx_any (x xx : Int) (ob : Nat) (kk ii : Int) (W : World) (h : Blk W ob #[.int .i64 kk, .int .i64 ii, .int .i64 xx] 51) :
    Calls Try.prog 26 (#[.int .i64 x] ++ #[ptr ob]) W fun e w' => e = .returned (.bool (x == xx)) ∧ W = w' := by
  have c2 : W.cell? ⟨ob, 2, none⟩ = some (.int .i64 xx) := h.cell 2
  go_enter Try.func26, Try.ntmps26
  go_wp2
  go_ret
  exact ⟨rfl, rfl⟩

set_option maxRecDepth 100000 in
set_option maxHeartbeats 4000000 in
theorem plays_any (room : Int) (a2 : Option Addr) (len2 cap2 : Nat) (V : Nat → Nat → Value) (K2 I2 X2 : Nat → Int) (w : World) (h2 : IsRowF w a2 len2 cap2 3 V)
    (hV : ∀ i, i < len2 → V i 0 = .int .i64 (K2 i) ∧ V i 1 = .int .i64 (I2 i) ∧ V i 2 = .int .i64 (X2 i)) :
    Calls Try.prog 8 #[.int .i64 room, .slice a2 len2 cap2] w fun e w' => e = .returned (.bool true) ∧ Below w.heap.size w w' := by
  have HC := Lib.hid (show ∀ i, i < len2 → ∃ x g q, a2 = some x ∧ x.add (i * 3) = ⟨g, q, none⟩ ∧ g < w.heap.size ∧ w.cell? ⟨g, q, none⟩ = some (.int .i64 (K2 i)) ∧ w.cell? ⟨g, q + 1, none⟩ = some (.int .i64 (I2 i)) ∧ w.cell? ⟨g, q + 2, none⟩ = some (.int .i64 (X2 i)) from fun i hi => by
    obtain ⟨x, g, q, hx, hxa, hg, hc⟩ := h2.at (by decide) hi
    obtain ⟨h0, h1, h2⟩ := hV i hi
    exact ⟨x, g, q, hx, hxa, hg, by rw [← h0]; exact hc 0 (by decide), by rw [← h1]; exact hc 1 (by decide), by rw [← h2]; exact hc 2 (by decide)⟩)
  obtain ⟨l2, m2, _⟩ := h2
  unfold maxLen at m2
  clear hV
  obtain ⟨W0, hW0⟩ : ∃ W0, w.alloc (.cells #[.bool false] 4) = W0 := ⟨_, rfl⟩
  have HS0 : Hid (Sep NoF w W0 [resO w]) := Lib.hid (by rw [← hW0]; exact (Sep.zero NoF w).alloc _ _)
  refine calls_of_wp_marks Try.func8 rfl ?_
  simp only [Try.ntmps8, List.size_toArray, List.length_cons, List.length_nil, Nat.reduceAdd, Nat.reduceSub, Array.replicate_succ, Array.replicate_zero, List.push_toArray, List.append_toArray, List.nil_append, List.cons_append]
  have HW0 := Lib.hid hW0
  clear hW0
  go_wp2_with fail
  rw [HW0.out]
  refine (works_any W0).mono ?_
  rintro e w1 ⟨rfl, hb⟩
  have HS1 := Lib.hid (HS0.out.upd0 (Below.upd hb NoF))
  clear hb
  by_cases hbig : 300 < len2
  · have hb0 : decide ((300 : Int) < (len2 : Int)) = true := by simp; omega
    go_wp2_with fail
    refine (works_any _).mono ?_
    rintro e w2 ⟨rfl, hb⟩
    have hs2 := HS1.out.upd0 (Below.upd hb NoF)
    have d4 := (hs2.box 0 rfl).cell 0
    have f4 := (hs2.box 0 rfl).frozen 0
    change w2.cell? ⟨w.heap.size, 0, none⟩ = some (.bool false) at d4
    have HS9 := Lib.hid (hs2.set 0 rfl 0 (.bool true))
    clear hb hs2
    go_wp2
    have hc5 : _ = some (Value.bool true) := (HS9.out.box 0 rfl).cell 0
    refine postM_ret0 (v := .bool true) (by simp [results, Try.f8, go_sem, hc5]) ⟨rfl, HS9.out.below⟩
  · have hb0 : decide ((300 : Int) < (len2 : Int)) = false := by simp; omega
    by_cases hroom : room < 1 ∨ 65536 < room
    · have HR := Lib.hid hroom
      clear hroom
      go_wp2_with fail
      refine (PI.new_bad room HR.out w1).mono ?_
      rintro e w9 ⟨rfl, rfl⟩
      go_wp2_with fail
      refine (PR.new_bad room HR.out w1).mono ?_
      rintro e w9 ⟨rfl, rfl⟩
      have HS2 := Lib.hid (HS1.out.alloc #[.pointer none] 54)
      go_wp2_with fail
      refine (works_any _).mono ?_
      rintro e w2 ⟨rfl, hb⟩
      have hs2 := HS2.out.upd0 (Below.upd hb NoF)
      have d4 := (hs2.box 1 rfl).cell 0
      have f4 := (hs2.box 1 rfl).frozen 0
      change w2.cell? ⟨w.heap.size, 0, none⟩ = some (.bool false) at d4
      have HS9 := Lib.hid (hs2.set 1 rfl 0 (.bool true))
      clear hb hs2
      go_wp2
      have hc5 : _ = some (Value.bool true) := (HS9.out.box 1 rfl).cell 0
      refine postM_ret0 (v := .bool true) (by simp [results, Try.f8, go_sem, hc5]) ⟨rfl, HS9.out.below⟩
    · have hr1 : 1 ≤ room := by omega
      have hr2 : room ≤ 65536 := by omega
      clear hroom
      go_wp2_with fail
      refine (PI.s_new HS1.out room hr1 hr2).mono ?_
      rintro e w2 ⟨b, rfl, hs⟩
      have HS2 := Lib.hid hs
      clear hs
      go_wp2_with fail
      refine (PR.new_ok room hr1 hr2 w2).mono ?_
      rintro e w3 ⟨rb, rfl, hu, hp⟩
      have HS3 := Lib.hid (HS2.out.push hu hp)
      clear hu hp
      obtain ⟨w4, hw4⟩ : ∃ W, w3.alloc (.cells #[ptr rb] 54) = W := ⟨_, rfl⟩
      have HS4 : Hid (Sep NoF w w4 (LL w b rb w3.heap.size [] [] room)) := Lib.hid (by rw [← hw4]; exact HS3.out.alloc _ _)
      have HW4 := Lib.hid hw4
      clear hw4
      go_wp2_with fail
      rw [HW4.out]
      obtain ⟨c7, hc7⟩ : ∃ c7, w3.heap.size = c7 := ⟨_, rfl⟩
      rw [hc7] at HS4 ⊢
      clear hc7
      go_loopw [5, 6, 8, 46] (fun pv ev fv i wr => ∃ (k : Nat) (zs : List Int) (bb : Nat) (er : Int), k ≤ len2 ∧ i = .int .i64 k ∧ pv = ptr bb ∧ ev = .int .i64 er ∧ fv = .int .i64 er ∧ Hid ((zs.length : Int) ≤ room ∧ Sep NoF w wr (LL w bb rb c7 zs zs room))) (fun _ _ _ i _ => len2 - (intOf i).toNat)
      case atStart => exact ⟨0, [], b, 0, Nat.zero_le _, rfl, rfl, rfl, rfl, by simp; omega, HS4.out⟩
      case round =>
        obtain ⟨k, zs, bb, er, hk, rfl, rfl, rfl, rfl, HI⟩ := hrel
        by_cases hlt : k < len2
        · obtain ⟨x, g, q, rfl, hxa, hgl, g0, g1, g2⟩ := HC.out k hlt
          replace g0 := HI.out.2.old g0
          replace g1 := HI.out.2.old g1
          replace g2 := HI.out.2.old g2
          generalize K2 k = kk at *
          generalize I2 k = ii at *
          generalize X2 k = xx at *
          have hzr := HI.out.1
          have hzl : zs.length ≤ 65536 := by omega
          obtain ⟨w5, hw5⟩ : ∃ W, wr.alloc (.cells #[.int .i64 kk, .int .i64 ii, .int .i64 xx] 51) = W := ⟨_, rfl⟩
          have HS5 : Hid (Sep NoF w w5 (opO wr.heap.size kk ii xx :: LL w bb rb c7 zs zs room)) := Lib.hid (by rw [← hw5]; exact HI.out.2.alloc _ _)
          have HW5 := Lib.hid hw5
          clear hw5 HI
          go_upto_block 2 with fail
          rw [HW5.out]
          clear HW5
          obtain ⟨ob, hob⟩ : ∃ ob, wr.heap.size = ob := ⟨_, rfl⟩
          rw [hob] at HS5 ⊢
          clear hob
          have p1 : w5.cell? ⟨ob, 1, none⟩ = some (.int .i64 ii) := (HS5.out.box 0 rfl).cell 1
          have p2 : w5.cell? ⟨ob, 2, none⟩ = some (.int .i64 xx) := (HS5.out.box 0 rfl).cell 2
          have p7 : w5.cell? ⟨c7, 0, none⟩ = some (ptr rb) := (HS5.out.box 1 rfl).cell 0
          have p0 : w5.cell? ⟨ob, 0, none⟩ = some (.int .i64 kk) := (HS5.out.box 0 rfl).cell 0
          go_cut [5, 6, 8, 11, 12] from 47 to 176 (fun s5 s6 s8 s11 s12 wx => ∃ (zz : List Int) (b9 : Nat) (er9 y9 : Int), s5 = ptr b9 ∧ s6 = .int .i64 er9 ∧ s8 = .int .i64 er9 ∧ s11 = .int .i64 y9 ∧ s12 = .int .i64 y9 ∧ Hid ((zz.length : Int) ≤ room ∧ Sep NoF w wx (opO ob kk ii xx :: LL w b9 rb c7 zz zz room)))
          case first =>
            by_cases h0 : kk = 0
            · subst h0
              by_cases hf : (zs.length : Int) < room
              · have hf9 := Lib.hid hf
                go_wp2_with fail
                go_region_held3 (fun W => W.cell? ⟨ob, 2, none⟩ = some (.int .i64 xx) ∧ W.cell? ⟨c7, 0, none⟩ = some (ptr rb)) (first | assumption | exact ⟨p2, p7⟩) (first | (go_at_call 11; refine (PI.s_put (HS5.out.upd0 (Upd.drew NoF w5)) 3 rfl xx hf9.out hr2).mono ?_; rintro e wa ⟨rfl, hs⟩; have HSa : Hid (Sep NoF w wa (opO ob 0 ii xx :: LL w bb rb c7 (zs ++ [xx]) zs room)) := Lib.hid hs; have hS' : (fun W => W.cell? ⟨ob, 2, none⟩ = some (.int .i64 xx) ∧ W.cell? ⟨c7, 0, none⟩ = some (ptr rb)) wa := ⟨(HSa.out.box 0 rfl).cell 2, (HSa.out.box 1 rfl).cell 0⟩; clear hs) | (go_at_call 24; refine (PR.s_put HSa.out 2 rfl xx hf9.out hr2).mono ?_; rintro e wb ⟨rfl, hs⟩; have HSb : Hid (Sep NoF w wb (opO ob 0 ii xx :: LL w bb rb c7 (zs ++ [xx]) (zs ++ [xx]) room)) := Lib.hid hs; have hS' : (fun W => W.cell? ⟨ob, 2, none⟩ = some (.int .i64 xx) ∧ W.cell? ⟨c7, 0, none⟩ = some (ptr rb)) wb := ⟨(HSb.out.box 0 rfl).cell 2, (HSb.out.box 1 rfl).cell 0⟩; clear hs))
                go_wp2_with fail
                go_meet
                exact ⟨(zs ++ [xx]), bb, 0, 0, rfl, rfl, rfl, rfl, rfl, by have := hf9.out; rw [List.length_append]; simp only [List.length_cons, List.length_nil]; omega, HSb.out⟩
              · have hf9 := Lib.hid hf
                go_wp2_with fail
                go_region_held3 (fun W => W.cell? ⟨ob, 2, none⟩ = some (.int .i64 xx) ∧ W.cell? ⟨c7, 0, none⟩ = some (ptr rb)) (first | assumption | exact ⟨p2, p7⟩) (first | (go_at_call 11; refine (PI.s_put_full (HS5.out.upd0 (Upd.drew NoF w5)) 3 rfl xx (by have := hf9.out; omega)).mono ?_; rintro e wa ⟨rfl, hs⟩; have HSa : Hid (Sep NoF w wa (opO ob 0 ii xx :: LL w bb rb c7 zs zs room)) := Lib.hid hs; have hS' : (fun W => W.cell? ⟨ob, 2, none⟩ = some (.int .i64 xx) ∧ W.cell? ⟨c7, 0, none⟩ = some (ptr rb)) wa := ⟨(HSa.out.box 0 rfl).cell 2, (HSa.out.box 1 rfl).cell 0⟩; clear hs) | (go_at_call 24; refine (PR.s_put_full HSa.out 2 rfl xx (by have := hf9.out; omega)).mono ?_; rintro e wb ⟨rfl, hs⟩; have HSb : Hid (Sep NoF w wb (opO ob 0 ii xx :: LL w bb rb c7 zs zs room)) := Lib.hid hs; have hS' : (fun W => W.cell? ⟨ob, 2, none⟩ = some (.int .i64 xx) ∧ W.cell? ⟨c7, 0, none⟩ = some (ptr rb)) wb := ⟨(HSb.out.box 0 rfl).cell 2, (HSb.out.box 1 rfl).cell 0⟩; clear hs))
                go_wp2_with fail
                go_meet
                exact ⟨zs, bb, 7, 0, rfl, rfl, rfl, rfl, rfl, hzr, HSb.out⟩
            · have h0b : (kk == 0) = false := by simpa using h0
              by_cases h1 : kk = 1
              · subst h1
                by_cases hin : 0 ≤ ii ∧ ii < zs.length
                · obtain ⟨n, rfl⟩ : ∃ n : Nat, ii = n := ⟨ii.toNat, by omega⟩
                  have hn : n < zs.length := by omega
                  have hzn : zs[n]? = some (zs[n]'hn) := List.getElem?_eq_getElem hn
                  generalize zs[n]'hn = z at *
                  have HZN := Lib.hid hzn
                  clear hzn
                  go_wp2_with fail
                  refine (PI.s_take HS5.out 3 rfl n z HZN.out hzl).mono ?_
                  rintro e wa ⟨rfl, hs⟩
                  have HSa : Hid (Sep NoF w wa (opO ob 1 n xx :: LL w bb rb c7 (zs.eraseIdx n) zs room)) := Lib.hid hs
                  clear hs
                  have q1 : wa.cell? ⟨ob, 1, none⟩ = some (.int .i64 n) := (HSa.out.box 0 rfl).cell 1
                  have q7 : wa.cell? ⟨c7, 0, none⟩ = some (ptr rb) := (HSa.out.box 1 rfl).cell 0
                  go_wp2_with fail
                  refine (PR.s_take HSa.out 2 rfl n z HZN.out hzl).mono ?_
                  rintro e wb ⟨rfl, hs⟩
                  have HSb : Hid (Sep NoF w wb (opO ob 1 n xx :: LL w bb rb c7 (zs.eraseIdx n) (zs.eraseIdx n) room)) := Lib.hid hs
                  clear hs
                  go_wp2_with fail
                  go_meet
                  exact ⟨(zs.eraseIdx n), bb, 0, z, rfl, rfl, rfl, rfl, rfl, by have := List.length_eraseIdx_le zs n; omega, HSb.out⟩
                · have HIN := Lib.hid hin
                  go_wp2_with fail
                  refine (PI.s_take_bad HS5.out 3 rfl ii (by have := HIN.out; omega)).mono ?_
                  rintro e wa ⟨rfl, rfl⟩
                  go_wp2_with fail
                  refine (PR.s_take_bad HS5.out 2 rfl ii (by have := HIN.out; omega)).mono ?_
                  rintro e wa ⟨rfl, rfl⟩
                  go_wp2_with fail
                  go_meet
                  exact ⟨zs, bb, 5, 0, rfl, rfl, rfl, rfl, rfl, hzr, HS5.out⟩
              · have h1b : (kk == 1) = false := by simpa using h1
                by_cases h2 : kk = 2
                · subst h2
                  by_cases hin : 0 ≤ ii ∧ ii < zs.length
                  · obtain ⟨_, hq⟩ := HS5.out.has 2 rfl
                    obtain ⟨ar0, capr0, s0, s1, hns, hms, _, hcell⟩ := PR.reads hq
                    unfold maxLen at hms
                    obtain ⟨n, rfl⟩ : ∃ n : Nat, ii = n := ⟨ii.toNat, by omega⟩
                    have hn : n < zs.length := by omega
                    have hzn : zs[n]? = some (zs[n]'hn) := List.getElem?_eq_getElem hn
                    generalize zs[n]'hn = z at *
                    have HZN := Lib.hid hzn
                    clear hzn
                    obtain ⟨gz, rfl, cz⟩ := hcell n z HZN.out
                    have t1 : decide ((0 : Int) ≤ (n : Int)) = true := by simp
                    have t2 : decide ((n : Int) < (zs.length : Int)) = true := by simp; exact hn
                    clear hcell hq
                    go_wp2_with fail
                    refine (PI.s_at HS5.out 3 rfl n z HZN.out).mono ?_
                    rintro e wa ⟨rfl, rfl⟩
                    go_wp2_with fail
                    go_quiet (fail)
                    go_wp2_with fail
                    go_quiet (fail)
                    go_wp2_with fail
                    go_meet
                    exact ⟨zs, bb, 0, z, rfl, rfl, rfl, rfl, rfl, hzr, (HS5.out.upd0 (Upd.drewN NoF _ _)).upd0 (Upd.drewN NoF _ _)⟩
                  · by_cases h0 : ii < 0
                    · have t1 : decide ((0 : Int) ≤ ii) = false := by simp; omega
                      have HIN := Lib.hid hin
                      obtain ⟨_, hq⟩ := HS5.out.has 2 rfl
                      obtain ⟨ar0, capr0, s0, s1, hns, hms, _⟩ := PR.reads hq
                      clear hq
                      go_wp2_with fail
                      refine (PI.s_at_bad HS5.out 3 rfl ii (by have := HIN.out; omega)).mono ?_
                      rintro e wa ⟨rfl, rfl⟩
                      go_wp2_with fail
                      go_quiet (fail)
                      go_wp2_with fail
                      go_meet
                      exact ⟨zs, bb, 5, 0, rfl, rfl, rfl, rfl, rfl, hzr, HS5.out.upd0 (Upd.drewN NoF _ _)⟩
                    · have t1 : decide ((0 : Int) ≤ ii) = true := by simp; omega
                      have t2 : decide (ii < (zs.length : Int)) = false := by simp; omega
                      have HIN := Lib.hid hin
                      obtain ⟨_, hq⟩ := HS5.out.has 2 rfl
                      obtain ⟨ar0, capr0, s0, s1, hns, hms, _⟩ := PR.reads hq
                      clear hq
                      go_wp2_with fail
                      refine (PI.s_at_bad HS5.out 3 rfl ii (by have := HIN.out; omega)).mono ?_
                      rintro e wa ⟨rfl, rfl⟩
                      go_wp2_with fail
                      go_quiet (fail)
                      go_wp2_with fail
                      go_meet
                      exact ⟨zs, bb, 5, 0, rfl, rfl, rfl, rfl, rfl, hzr, HS5.out.upd0 (Upd.drewN NoF _ _)⟩
                · have h2b : (kk == 2) = false := by simpa using h2
                  by_cases h3 : kk = 3
                  · subst h3
                    go_wp2_with fail
                    refine (PI.s_copy HS5.out 3 rfl hzl).mono ?_
                    rintro e wa ⟨q2, rfl, hs⟩
                    have HSa := Lib.hid hs
                    clear hs
                    by_cases hf : (zs.length : Int) < room
                    · have hf9 := Lib.hid hf
                      go_wp2_with fail
                      refine (PI.s_put HSa.out 4 rfl (-1) hf9.out hr2).mono ?_
                      rintro e wc ⟨rfl, hs⟩
                      have HSc : Hid (Sep NoF w wc (Po (ptr q2) zs room :: opO ob 3 ii xx :: LL w bb rb c7 (zs ++ [-1]) zs room)) := Lib.hid hs
                      clear hs
                      obtain ⟨y, hy⟩ : ∃ y, ((zs ++ [-1]))[0]? = some y := ⟨_, List.getElem?_eq_getElem (i := 0) (by rw [List.length_append]; simp)⟩
                      have HY := Lib.hid hy
                      clear hy
                      go_wp2_with fail
                      refine (PI.s_take HSc.out 4 rfl 0 y HY.out (by rw [List.length_append]; simp only [List.length_cons, List.length_nil]; omega)).mono ?_
                      rintro e wb ⟨rfl, hs⟩
                      have HSb : Hid (Sep NoF w wb (opO ob 3 ii xx :: LL w q2 rb c7 zs zs room)) := Lib.hid ((hs.drop 4 (Nat.lt_of_sub_pos (by simp))).sink 3)
                      clear hs
                      go_wp2_with fail
                      go_meet
                      exact ⟨zs, q2, er, 0, rfl, rfl, rfl, rfl, rfl, hzr, HSb.out⟩
                    · have hf9 := Lib.hid hf
                      go_wp2_with fail
                      refine (PI.s_put_full HSa.out 4 rfl (-1) (by have := hf9.out; omega)).mono ?_
                      rintro e wc ⟨rfl, hs⟩
                      have HSc : Hid (Sep NoF w wc (Po (ptr q2) zs room :: opO ob 3 ii xx :: LL w bb rb c7 zs zs room)) := Lib.hid hs
                      clear hs
                      obtain ⟨y, hy⟩ : ∃ y, (zs)[0]? = some y := ⟨_, List.getElem?_eq_getElem (i := 0) (by have := hf9.out; omega)⟩
                      have HY := Lib.hid hy
                      clear hy
                      go_wp2_with fail
                      refine (PI.s_take HSc.out 4 rfl 0 y HY.out (hzl)).mono ?_
                      rintro e wb ⟨rfl, hs⟩
                      have HSb : Hid (Sep NoF w wb (opO ob 3 ii xx :: LL w q2 rb c7 zs zs room)) := Lib.hid ((hs.drop 4 (Nat.lt_of_sub_pos (by simp))).sink 3)
                      clear hs
                      go_wp2_with fail
                      go_meet
                      exact ⟨zs, q2, er, 0, rfl, rfl, rfl, rfl, rfl, hzr, HSb.out⟩
                  · have h3b : (kk == 3) = false := by simpa using h3
                    by_cases h4 : kk = 4
                    · subst h4
                      have HX := Lib.hid (fun (x : Int) (W2 : World) (hu : Upd NoF w5 W2) => isx_any x xx ob 4 ii W2 ((HS5.out.box 0 rfl).upd hu (fun h => h)))
                      go_wp2_with fail
                      refine (PI.s_first HS5.out 3 rfl 26 #[ptr ob] (fun x => x == xx) (enters_of Try.func26 (by kernel_rfl) rfl) HX.out).mono ?_
                      rintro e wa ⟨rfl, hs⟩
                      have HSa := Lib.hid hs
                      clear hs
                      obtain ⟨_, hq⟩ := HSa.out.has 2 rfl
                      obtain ⟨ar0, capr0, s0, s1, hns, hms, _⟩ := PR.reads hq
                      unfold maxLen at hms
                      have q7 : wa.cell? ⟨c7, 0, none⟩ = some (ptr rb) := (HSa.out.box 1 rfl).cell 0
                      have hw0 : IntKind.i64.wrap ((zs.length : Int) - 1) = (zs.length : Int) - 1 := IntWalk.i64_in _ (by omega)
                      clear hq
                      clear HX
                      go_wp2_with fail
                      obtain ⟨wo, rfl⟩ : ∃ x, x = wr := ⟨_, rfl⟩
                      go_loopw [12, 14] (fun yv i wr => ∃ (c : Nat), c ≤ zs.length ∧ i = .int .i64 ((c : Int) - 1) ∧ yv = .int .i64 (fromAt (fun x => x == xx) zs c) ∧ Hid (Sep NoF w wr (opO ob 4 ii xx :: LL w bb rb c7 zs zs room))) (fun _ i _ => ((intOf i) + 1).toNat)
                      case atStart => exact ⟨zs.length, Nat.le_refl _, rfl, by rw [fromAt_end], HSa.out⟩
                      case round =>
                        obtain ⟨c, hc, rfl, rfl, HI2⟩ := hrel
                        cases c with
                        | zero =>
                          rw [fromAt_zero]
                          go_wp2_with fail
                          go_meet
                          exact ⟨zs, bb, er, (firstAt (fun x => x == xx) zs), rfl, rfl, rfl, rfl, rfl, hzr, HI2.out⟩
                        | succ c =>
                          have hn : c < zs.length := by omega
                          have hzn : zs[c]? = some (zs[c]'hn) := List.getElem?_eq_getElem hn
                          generalize zs[c]'hn = z at *
                          obtain ⟨_, hq⟩ := HI2.out.has 2 rfl
                          obtain ⟨ar1, capr1, u0, u1, hnu, hmu, _, hcell⟩ := PR.reads hq
                          obtain ⟨gz, rfl, cz⟩ := hcell c z hzn
                          unfold maxLen at hmu
                          have u7 : wr.cell? ⟨c7, 0, none⟩ = some (ptr rb) := (HI2.out.box 1 rfl).cell 0
                          have u2 : wr.cell? ⟨ob, 2, none⟩ = some (.int .i64 xx) := (HI2.out.box 0 rfl).cell 2
                          have ec : ((c + 1 : Nat) : Int) - 1 = (c : Int) := by omega
                          rw [ec]
                          have hwc : IntKind.i64.wrap ((c : Int) - 1) = (c : Int) - 1 := IntWalk.i64_in _ (by omega)
                          clear hcell hq
                          cases hzx : (z == xx)
                          · have hfa := fromAt_miss (g := fun x => x == xx) hzn hzx
                            have HFA := Lib.hid hfa
                            clear hfa hzn
                            go_wp2_with fail
                            go_quiet (fail)
                            rename_i nq
                            go_wp2_with fail
                            exact ⟨⟨c, by omega, rfl, by rw [HFA.out], HI2.out.upd0 (Upd.drewN NoF wr nq)⟩, by simp [intOf]⟩
                          · have hfa := fromAt_hit (g := fun x => x == xx) hzn hzx
                            have HFA := Lib.hid hfa
                            clear hfa hzn
                            go_wp2_with fail
                            go_quiet (fail)
                            rename_i nq
                            go_wp2_with fail
                            exact ⟨⟨c, by omega, rfl, by rw [HFA.out], HI2.out.upd0 (Upd.drewN NoF wr nq)⟩, by simp [intOf]⟩
                    · have h4b : (kk == 4) = false := by simpa using h4
                      go_wp2_with fail
                      go_meet
                      exact ⟨zs, bb, er, 0, rfl, rfl, rfl, rfl, rfl, hzr, HS5.out⟩
          case rest =>
            obtain ⟨zz, b9, er9, y9, rfl, rfl, rfl, rfl, rfl, hz0, hs0⟩ := hcut
            have HSc := Lib.hid hs0
            have HZc := Lib.hid hz0
            clear hs0 hz0 HS5 p0 p1 p2 p7
            have hz9 : ((zz).length : Int) ≤ room := HZc.out
            have HZ9 := Lib.hid hz9
            obtain ⟨_, hq⟩ := HSc.out.has 2 rfl
            obtain ⟨ar, capr, rb0, rb1, hnr, _⟩ := PR.reads hq
            have cc7 : wc.cell? ⟨c7, 0, none⟩ = some (ptr rb) := (HSc.out.box 1 rfl).cell 0
            have hw1 : IntKind.i64.wrap (room - ((zz).length : Int)) = room - ((zz).length : Int) := IntWalk.i64_in _ (by omega)
            clear hq
            go_wp2_with fail
            go_region_held3 (fun W => Upd NoF wc W ∧ W.cell? ⟨c7, 0, none⟩ = some (ptr rb) ∧ W.cell? ⟨rb, 0, none⟩ = some (.slice ar (zz).length capr) ∧ W.cell? ⟨rb, 1, none⟩ = some (.int .i64 room)) (first | assumption | exact ⟨Upd.drew NoF wc, cc7, rb0, rb1⟩) (first | (go_at_call 13; have hS : Upd NoF wc _ ∧ _ := ‹_›; refine (PI.s_len (HSc.out.upd0 hS.1) 3 rfl).mono ?_; rintro e wm ⟨rfl, rfl⟩; clear hS) | (go_at_call 20; have hS : Upd NoF wc _ ∧ _ := ‹_›; refine (PI.s_room (HSc.out.upd0 hS.1) 3 rfl (by omega) hr2 HZ9.out).mono ?_; rintro e wm ⟨rfl, hu⟩; have hS' : (fun W => Upd NoF wc W ∧ W.cell? ⟨c7, 0, none⟩ = some (ptr rb) ∧ W.cell? ⟨rb, 0, none⟩ = some (.slice ar (zz).length capr) ∧ W.cell? ⟨rb, 1, none⟩ = some (.int .i64 room)) wm := ⟨hS.1.trans hu (fun _ _ h => h), hu.cell hS.2.1 (fun h => h), hu.cell hS.2.2.1 (fun h => h), hu.cell hS.2.2.2 (fun h => h)⟩; clear hu hS))
            obtain ⟨hum, _⟩ : Upd NoF wc wm ∧ _ := ‹Upd NoF wc wm ∧ _›
            have HSm := Lib.hid ((HSc.out.upd0 hum).drop 0 (Nat.succ_pos _))
            clear hum
            go_wp2_with fail
            exact ⟨⟨k + 1, zz, b9, er9, by omega, by go_num, rfl, rfl, rfl, HZ9.out, HSm.out⟩, by simp [intOf]; omega⟩
        · obtain rfl : len2 = k := by omega
          have HS6 := Lib.hid HI.out.2
          have HZ6 := Lib.hid HI.out.1
          clear HI
          obtain ⟨w6, hw6⟩ : ∃ W, wr.alloc (.cells #[.int .i64 0] 3) = W := ⟨_, rfl⟩
          have HS7 : Hid (Sep NoF w w6 (boxO wr.heap.size #[.int .i64 0] 3 :: LL w bb rb c7 zs zs room)) := Lib.hid (by rw [← hw6]; exact HS6.out.alloc _ _)
          have HW6 := Lib.hid hw6
          clear hw6
          go_wp2_with fail
          rw [HW6.out]
          refine (PI.all_any _ _ ⟨_, rfl⟩).mono ?_
          rintro e w' ⟨rfl, rfl⟩
          obtain ⟨w7, hw7⟩ : ∃ W, w6.alloc (.cells #[ptr bb] 24) = W := ⟨_, rfl⟩
          have HS8 : Hid (Sep NoF w w7 (boxO wr.heap.size #[.int .i64 0] 3 :: LL w bb rb c7 zs zs room)) := Lib.hid (by rw [← hw7]; exact HS7.out.upd0 (Upd.alloc NoF w6 _))
          have qp : Blk w7 w6.heap.size #[ptr bb] 24 := by rw [← hw7]; exact Blk.new w6 _ _
          have hsz : w7.heap.size = w6.heap.size + 1 := by rw [← hw7]; simp
          have hnb : wr.heap.size < w6.heap.size := (HS7.out.box 0 rfl).lt
          have hwl := HS8.out.size
          have HW7 := Lib.hid hw7
          clear hw7
          go_wp2_with fail
          rw [HW7.out]
          obtain ⟨nb, hnb0⟩ : ∃ n, wr.heap.size = n := ⟨_, rfl⟩
          rw [hnb0] at HS8 hnb ⊢
          clear HW6 HS7 HS6 HW7
          obtain ⟨F, hF, hFl, hFo⟩ := HS8.out.get 3 rfl
          have hnF : ¬ F nb := (hFo.box 0 rfl).2.2
          refine wp_range (gf := 32) (lb := #[ptr w6.heap.size]) rfl (enters_of Try.func32 (by kernel_rfl) rfl)
            (PI.all_seq w6.heap.size zs _ room F (fun k => k = nb ∨ w7.heap.size ≤ k) (fun k hk => by have := (hFl k hk).2; intro h; rcases h with rfl | h; exact hnF hk; omega) (by omega) w7 (qp.cell 0) hF) (fun _ => rfl) (fun _ h => h.elim) (fun k hk => .inr hk)
            (fun k W => Sep NoF w W (boxO nb #[.int .i64 (k : Int)] 3 :: LL w bb rb c7 zs zs room))
            (fun _ _ _ => False)
            (fun k A B hs hb => hs.bk hb hwl)
            (fun _ _ _ _ h _ => h)
            HS8.out
            ?rnd ?dn ?stp
          case rnd =>
            intro l k x hx W9 K' hK'
            gi_wp2
            rintro W hs
            rw [idxs_get, Option.map_eq_some_iff] at hx
            obtain ⟨z, hz, rfl⟩ := hx
            have HS := Lib.hid hs
            clear hs
            obtain ⟨_, hq⟩ := HS.out.has 2 rfl
            obtain ⟨ar1, capr1, u0, u1, hnu, hmu, _, hcell⟩ := PR.reads hq
            obtain ⟨gz, rfl, cz⟩ := hcell k z hz
            unfold maxLen at hmu
            have hkl : k < zs.length := (List.getElem?_eq_some_iff.1 hz).1
            have u7 : W.cell? ⟨c7, 0, none⟩ = some (ptr rb) := (HS.out.box 1 rfl).cell 0
            have un : W.cell? ⟨nb, 0, none⟩ = some (.int .i64 (k : Int)) := (HS.out.box 0 rfl).cell 0
            have unf := (HS.out.box 0 rfl).frozen 0
            have hw9 : IntKind.i64.wrap ((k : Int) + 1) = (k : Int) + 1 := IntWalk.i64_in _ (by omega)
            clear hcell hq hz hF hFl hFo
            gi_wp2
            exact ⟨Upd.setCell _ (p := ⟨nb, 0, none⟩) (.inl rfl) _, HS.out.set 0 rfl 0 _⟩
          case dn =>
            rintro D W hD hs hK
            rw [idxs_length] at hs
            have HS := Lib.hid hs
            clear hs
            obtain ⟨_, hq⟩ := HS.out.has 2 rfl
            obtain ⟨ar1, capr1, u0, u1, hnu, hmu, _⟩ := PR.reads hq
            clear hq hF hFl hFo
            have u7 : W.cell? ⟨c7, 0, none⟩ = some (ptr rb) := (HS.out.box 1 rfl).cell 0
            have un : W.cell? ⟨nb, 0, none⟩ = some (.int .i64 (zs.length : Int)) := (HS.out.box 0 rfl).cell 0
            have HK := Lib.hid hK
            clear hK
            obtain ⟨F2, hF2, _, hFo2⟩ := HS.out.get 2 rfl
            obtain ⟨b2, v2, hb2, hat2⟩ := hF2
            cases hb2
            have hrc : rb ≠ w.heap.size := fun e => (hFo2.box 3 rfl).2.2 (e ▸ hat2.foot)
            clear hFo2 hat2
            go_wp2_with fail
            go_region_held3 (fun X => X.cell? ⟨nb, 0, none⟩ = some (.int .i64 (zs.length : Int)) ∧ X.cell? ⟨c7, 0, none⟩ = some (ptr rb) ∧ X.cell? ⟨rb, 0, none⟩ = some (.slice ar1 zs.length capr1)) (first | assumption | exact ⟨un, u7, u0⟩ | exact ⟨(HS9.out.box 0 rfl).cell 0, (HS9.out.box 1 rfl).cell 0, (Upd.setCell (F := fun k => k = w.heap.size) wm (p := ⟨w.heap.size, 0, none⟩) rfl _).cell u0m hrc⟩) (first | (go_at_call 9; refine (works_any _).mono ?_; rintro e wm ⟨rfl, hb⟩; have hu9 := (Upd.drew NoF W).trans (Below.upd hb NoF) (fun _ _ h => h); have hs2 := HS.out.upd0 hu9; have d4 : wm.cell? ⟨w.heap.size, 0, none⟩ = some (.bool false) := (hs2.box 4 rfl).cell 0; have f4 := (hs2.box 4 rfl).frozen 0; have HS9 := Lib.hid (hs2.set 4 rfl 0 (.bool true)); have HU9 := Lib.hid hu9; have u0m := hu9.cell u0 (fun h => h); have hT : (fun (X : World) => X.cell? ⟨nb, 0, none⟩ = some (.int .i64 (zs.length : Int)) ∧ X.cell? ⟨c7, 0, none⟩ = some (ptr rb) ∧ X.cell? ⟨rb, 0, none⟩ = some (.slice ar1 zs.length capr1)) wm := ⟨(hs2.box 0 rfl).cell 0, (hs2.box 1 rfl).cell 0, u0m⟩; clear hb hs2 hu9))
            all_goals
              go_wp2
              have hK5 := ((HU9.out.mono (G := fun k => k = w.heap.size) (fun _ _ h => h.elim)).trans (Upd.setCell (F := fun k => k = w.heap.size) wm (p := ⟨w.heap.size, 0, none⟩) rfl (.bool true)) (fun _ _ h => h)).others.same D _ HK.out rfl
              have hs10 := HS9.out.bk (Bk.putObj (n := w.heap.size) (G := NoF) hK5 rfl (by omega) (.deferred none)) (Nat.le_refl _)
              have hc5 : _ = some (Value.bool true) := (hs10.box 4 rfl).cell 0
              refine postM_ret1 hK5 (v := .bool true) (by simp [results, Try.f8, go_sem, hc5]) ⟨rfl, hs10.below⟩
          case stp =>
            rintro D c k W hD hkl h hK
            exact h.elim
end Go.Proofs.Ytlkpbhmifhoaiaa.PW
