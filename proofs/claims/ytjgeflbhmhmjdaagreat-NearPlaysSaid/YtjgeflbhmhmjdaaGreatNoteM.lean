/- The reference undertowref08: May. -/
import Derived.Test.YtjgeflbhmhmjdaaGreatDealRef
set_option linter.unusedSimpArgs false
set_option linter.unusedVariables false
namespace Go.Proofs.YtjgeflbhmhmjdaaGreat.NC
open Go.RowKit
open BU (IsU words)
attribute [local go_sem] Oper.semAt_some
attribute [local go_sem ↓] eqN_eq neN_eq eqB_eq neB_eq TNot.ld_eq TNot.st_eq TNot.al_eq TNot.bx_eq TBlk.ld_eq TBlk.st_eq TBlk.al_eq
attribute [local go_sem] TNot.al_run TNot.bx_run TBlk.al_run
def mayC (H St T S N : Bool) (n : Nt) : Bool :=
  !decide (n.blk < 0) && (!decide (255 < n.blk) && (((if H then n.too else n.frm) == -1) && (!decide ((if H then n.frm else n.too) < 0) && (!decide (15 < (if H then n.frm else n.too)) && ((St || n.stamp == 0) &&
  ((if S then !decide (n.state < 1) && !decide (3 < n.state) else n.state == 0) && ((T || !n.stick) && ((!(T || S) || n.has) && ((!n.has || (T || S || N)) && (n.has || words n.D == words TBlk.Z))))))))))
theorem may_c {n : Nt} (hk : kindB n.kind = true) : MayN n = mayC (toHome n.kind) (stamped n.kind) (n.kind == 3) (n.kind == 6) (n.kind == 9) n := by
  have e1 : decide (0 ≤ n.blk) = !decide (n.blk < 0) := by rw [← decide_not]; exact decide_eq_decide.2 (by omega)
  have e2 : decide (n.blk ≤ 255) = !decide (255 < n.blk) := by rw [← decide_not]; exact decide_eq_decide.2 (by omega)
  have e3 : ∀ x, coreB x = (!decide (x < 0) && !decide (15 < x)) := fun x => by
    unfold coreB
    rw [← decide_not, ← decide_not, ← Bool.decide_and, ← Bool.decide_and]
    exact decide_eq_decide.2 (by omega)
  have e4 : decide (1 ≤ n.state) = !decide (n.state < 1) := by rw [← decide_not]; exact decide_eq_decide.2 (by omega)
  have e5 : decide (n.state ≤ 3) = !decide (3 < n.state) := by rw [← decide_not]; exact decide_eq_decide.2 (by omega)
  unfold MayN mayC
  rw [hk, e1, e2, e3, e4, e5]
  generalize hA : decide (n.blk < 0) = A
  generalize hB : decide (255 < n.blk) = B
  generalize hC : decide ((if toHome n.kind then n.frm else n.too) < 0) = C
  generalize hD : decide (15 < (if toHome n.kind then n.frm else n.too)) = D
  generalize hE : ((if toHome n.kind then n.too else n.frm) == -1) = E
  generalize (if n.kind == 6 then !decide (n.state < 1) && !decide (3 < n.state) else n.state == 0) = G
  cases A <;> cases B <;> cases C <;> cases D <;> cases E <;> simp [Bool.and_assoc, Bool.or_assoc]

set_option maxRecDepth 100000 in
set_option maxHeartbeats 2000000 in
theorem rmay_a (n : Nt) (hn : n.Ok) (hk : n.kind = 1 ∨ n.kind = 2 ∨ n.kind = 10) (w : World) : Calls Tryz.prog 140 #[.agg n.cells] w fun e w' => e = .returned (.bool (MayN n)) ∧ Upd NoF w w' := by
  have hkb : kindB n.kind = true := by rcases hk with h | h | h <;> rw [h] <;> rfl
  have hH : toHome n.kind = true := by rcases hk with h | h | h <;> rw [h] <;> rfl
  have hSt : stamped n.kind = true := by rcases hk with h | h | h <;> rw [h] <;> rfl
  have h3 : (n.kind == 3) = false := by rcases hk with h | h | h <;> rw [h] <;> rfl
  have h6 : (n.kind == 6) = false := by rcases hk with h | h | h <;> rw [h] <;> rfl
  have h9 : (n.kind == 9) = false := by rcases hk with h | h | h <;> rw [h] <;> rfl
  have n3 : (n.kind != 3) = true := by simp [bne, h3]
  have n6 : (n.kind != 6) = true := by simp [bne, h6]
  have n9 : (n.kind != 9) = true := by simp [bne, h9]
  have k1 : decide (n.kind < 1) = false := by simp; omega
  have k2 : decide (11 < n.kind) = false := by simp; omega
  have hM := may_c hkb
  rw [hH, hSt, h3, h6, h9] at hM
  have ht := fun W => rtoHome_any n.kind W
  rw [hH] at ht
  have hs := fun W => rstamped_any n.kind W
  rw [hSt] at hs
  have HT := Lib.hid ht; have HS := Lib.hid hs
  have HU := Lib.hid (Upd.alloc NoF w (.cells n.cells 37))
  have hB := Blk.new w n.cells 37
  have f0 : (w.alloc (.cells n.cells 37)).cell? ⟨w.heap.size, 0, none⟩ = some (.int .u8 n.kind) := (hB.cell 0).trans n.get0
  have e0 := n.get0
  have f1 : (w.alloc (.cells n.cells 37)).cell? ⟨w.heap.size, 1, none⟩ = some (.int .i64 n.frm) := (hB.cell 1).trans n.get1
  have e1 := n.get1
  have f2 : (w.alloc (.cells n.cells 37)).cell? ⟨w.heap.size, 2, none⟩ = some (.int .i64 n.too) := (hB.cell 2).trans n.get2
  have e2 := n.get2
  have f3 : (w.alloc (.cells n.cells 37)).cell? ⟨w.heap.size, 3, none⟩ = some (.int .i64 n.blk) := (hB.cell 3).trans n.get3
  have e3 := n.get3
  have f4 : (w.alloc (.cells n.cells 37)).cell? ⟨w.heap.size, 4, none⟩ = some (.int .u64 n.stamp) := (hB.cell 4).trans n.get4
  have e4 := n.get4
  have f5 : (w.alloc (.cells n.cells 37)).cell? ⟨w.heap.size, 5, none⟩ = some (.int .u8 n.state) := (hB.cell 5).trans n.get5
  have e5 := n.get5
  have f6 : (w.alloc (.cells n.cells 37)).cell? ⟨w.heap.size, 6, none⟩ = some (.bool n.has) := (hB.cell 6).trans n.get6
  have e6 := n.get6
  have f7 : (w.alloc (.cells n.cells 37)).cell? ⟨w.heap.size, 7, none⟩ = some (.bool n.stick) := (hB.cell 7).trans n.get7
  have e7 := n.get7
  have l8 : (TBlk.ld (.pointer (some ⟨w.heap.size, 8, none⟩))).run Tryz.prog (w.alloc (.cells n.cells 37)) = .ok (.agg n.D) (w.alloc (.cells n.cells 37)) := by
    refine TBlk.ld_at (BU.IsU.isN hn.isU) ?_
    intro j v hv
    have h9 : n.cells.toList[8 + j]? = some v := by
      have := n.getD j
      simpa [this] using hv
    simpa using hB.whole (8 + j) v h9
  clear hkb ht hs hB hSt hH hk
  by_cases a1 : n.blk < 0
  · skip
    have ga1 : decide (n.blk < 0) = true := by simp; omega
    have hf : MayN n = false := by rw [hM]; simp [mayC, *]
    rw [hf]
    clear hf hM
    go_enter Tryz.func140, Tryz.ntmps140
    go_wp2
    go_ret
    exact ⟨rfl, HU.out⟩
  · skip
    have ga1 : decide (n.blk < 0) = false := by simp; omega
    by_cases a2 : 255 < n.blk
    · skip
      have ga2 : decide (255 < n.blk) = true := by simp; omega
      have hf : MayN n = false := by rw [hM]; simp [mayC, *]
      rw [hf]
      clear hf hM
      go_enter Tryz.func140, Tryz.ntmps140
      go_wp2
      go_ret
      exact ⟨rfl, HU.out⟩
    · skip
      have ga2 : decide (255 < n.blk) = false := by simp; omega
      by_cases a3 : n.too = -1
      rotate_left
      · skip
        have ga3 : (n.too == -1) = false := by simpa using a3
        have ka3 : (n.too != -1) = true := by simp [bne, ga3]
        have hf : MayN n = false := by rw [hM]; simp [mayC, *]
        rw [hf]
        clear hf hM
        go_enter Tryz.func140, Tryz.ntmps140
        go_wp2_with fail
        refine (HT.out _).mono ?_
        rintro e w2 ⟨rfl, rfl⟩
        go_wp2
        go_ret
        exact ⟨rfl, HU.out⟩
      · skip
        have ga3 : (n.too == -1) = true := by simpa using a3
        have ka3 : (n.too != -1) = false := by simp [bne, ga3]
        by_cases a4 : n.frm < 0
        · skip
          have ga4 : decide (n.frm < 0) = true := by simp; omega
          have hf : MayN n = false := by rw [hM]; simp [mayC, *]
          rw [hf]
          clear hf hM
          go_enter Tryz.func140, Tryz.ntmps140
          go_wp2_with fail
          refine (HT.out _).mono ?_
          rintro e w2 ⟨rfl, rfl⟩
          go_wp2
          go_ret
          exact ⟨rfl, HU.out⟩
        · skip
          have ga4 : decide (n.frm < 0) = false := by simp; omega
          by_cases a5 : 15 < n.frm
          · skip
            have ga5 : decide (15 < n.frm) = true := by simp; omega
            have hf : MayN n = false := by rw [hM]; simp [mayC, *]
            rw [hf]
            clear hf hM
            go_enter Tryz.func140, Tryz.ntmps140
            go_wp2_with fail
            refine (HT.out _).mono ?_
            rintro e w2 ⟨rfl, rfl⟩
            go_wp2
            go_ret
            exact ⟨rfl, HU.out⟩
          · skip
            have ga5 : decide (15 < n.frm) = false := by simp; omega
            by_cases a7 : n.state = 0
            rotate_left
            · skip
              have ga7 : (n.state == 0) = false := by simpa using a7
              have ka7 : (n.state != 0) = true := by simp [bne, ga7]
              have hf : MayN n = false := by rw [hM]; simp [mayC, *]
              rw [hf]
              clear hf hM
              go_enter Tryz.func140, Tryz.ntmps140
              go_wp2_with fail
              refine (HT.out _).mono ?_
              rintro e w2 ⟨rfl, rfl⟩
              go_wp2_with fail
              refine (HS.out _).mono ?_
              rintro e w2 ⟨rfl, rfl⟩
              go_wp2
              go_ret
              exact ⟨rfl, HU.out⟩
            · skip
              have ga7 : (n.state == 0) = true := by simpa using a7
              have ka7 : (n.state != 0) = false := by simp [bne, ga7]
              cases b1 : n.stick
              rotate_left
              · skip
                rw [b1] at f7 e7
                have hf : MayN n = false := by rw [hM]; simp [mayC, *]
                rw [hf]
                clear hf hM
                go_enter Tryz.func140, Tryz.ntmps140
                go_wp2_with fail
                refine (HT.out _).mono ?_
                rintro e w2 ⟨rfl, rfl⟩
                go_wp2_with fail
                refine (HS.out _).mono ?_
                rintro e w2 ⟨rfl, rfl⟩
                go_wp2
                go_ret
                exact ⟨rfl, HU.out⟩
              · skip
                rw [b1] at f7 e7
                cases b2 : n.has
                rotate_left
                · skip
                  rw [b2] at f6 e6
                  have hf : MayN n = false := by rw [hM]; simp [mayC, *]
                  rw [hf]
                  clear hf hM
                  go_enter Tryz.func140, Tryz.ntmps140
                  go_wp2_with fail
                  refine (HT.out _).mono ?_
                  rintro e w2 ⟨rfl, rfl⟩
                  go_wp2_with fail
                  refine (HS.out _).mono ?_
                  rintro e w2 ⟨rfl, rfl⟩
                  go_wp2
                  go_ret
                  exact ⟨rfl, HU.out⟩
                · skip
                  rw [b2] at f6 e6
                  have hz : ∀ W, (eqB (.agg n.D) (.agg #[.int .u32 0, .int .u32 0, .int .u32 0, .int .u32 0, .int .u32 0, .int .u32 0, .int .u32 0, .int .u32 0, .int .u32 0, .int .u32 0, .int .u32 0, .int .u32 0, .int .u32 0, .int .u32 0, .int .u32 0, .int .u32 0])).run Tryz.prog W = .ok (.bool (words n.D == words TBlk.Z)) W := fun W => eqB_run hn.isU BU.isU_Z W
                  cases hw : (words n.D == words TBlk.Z)
                  · skip
                    rw [hw] at hz
                    have hf : MayN n = false := by rw [hM]; simp [mayC, *]
                    rw [hf]
                    clear hf hM
                    go_enter Tryz.func140, Tryz.ntmps140
                    go_wp2_with fail
                    refine (HT.out _).mono ?_
                    rintro e w2 ⟨rfl, rfl⟩
                    go_wp2_with fail
                    refine (HS.out _).mono ?_
                    rintro e w2 ⟨rfl, rfl⟩
                    go_wp2
                    go_ret
                    exact ⟨rfl, HU.out⟩
                  · skip
                    rw [hw] at hz
                    have hf : MayN n = true := by rw [hM]; simp [mayC, *]
                    rw [hf]
                    clear hf hM
                    go_enter Tryz.func140, Tryz.ntmps140
                    go_wp2_with fail
                    refine (HT.out _).mono ?_
                    rintro e w2 ⟨rfl, rfl⟩
                    go_wp2_with fail
                    refine (HS.out _).mono ?_
                    rintro e w2 ⟨rfl, rfl⟩
                    go_wp2
                    go_ret
                    exact ⟨rfl, HU.out⟩
set_option maxRecDepth 100000 in
set_option maxHeartbeats 2000000 in
theorem rmay_b (n : Nt) (hn : n.Ok) (hk : n.kind = 3) (w : World) : Calls Tryz.prog 140 #[.agg n.cells] w fun e w' => e = .returned (.bool (MayN n)) ∧ Upd NoF w w' := by
  have hkb : kindB n.kind = true := by rw [hk]; rfl
  have hH : toHome n.kind = true := by rw [hk]; rfl
  have hSt : stamped n.kind = false := by rw [hk]; rfl
  have h3 : (n.kind == 3) = true := by rw [hk]; rfl
  have h6 : (n.kind == 6) = false := by rw [hk]; rfl
  have h9 : (n.kind == 9) = false := by rw [hk]; rfl
  have n3 : (n.kind != 3) = false := by simp [bne, h3]
  have n6 : (n.kind != 6) = true := by simp [bne, h6]
  have n9 : (n.kind != 9) = true := by simp [bne, h9]
  have k1 : decide (n.kind < 1) = false := by simp; omega
  have k2 : decide (11 < n.kind) = false := by simp; omega
  have hM := may_c hkb
  rw [hH, hSt, h3, h6, h9] at hM
  have ht := fun W => rtoHome_any n.kind W
  rw [hH] at ht
  have hs := fun W => rstamped_any n.kind W
  rw [hSt] at hs
  have HT := Lib.hid ht; have HS := Lib.hid hs
  have HU := Lib.hid (Upd.alloc NoF w (.cells n.cells 37))
  have hB := Blk.new w n.cells 37
  have f0 : (w.alloc (.cells n.cells 37)).cell? ⟨w.heap.size, 0, none⟩ = some (.int .u8 n.kind) := (hB.cell 0).trans n.get0
  have e0 := n.get0
  have f1 : (w.alloc (.cells n.cells 37)).cell? ⟨w.heap.size, 1, none⟩ = some (.int .i64 n.frm) := (hB.cell 1).trans n.get1
  have e1 := n.get1
  have f2 : (w.alloc (.cells n.cells 37)).cell? ⟨w.heap.size, 2, none⟩ = some (.int .i64 n.too) := (hB.cell 2).trans n.get2
  have e2 := n.get2
  have f3 : (w.alloc (.cells n.cells 37)).cell? ⟨w.heap.size, 3, none⟩ = some (.int .i64 n.blk) := (hB.cell 3).trans n.get3
  have e3 := n.get3
  have f4 : (w.alloc (.cells n.cells 37)).cell? ⟨w.heap.size, 4, none⟩ = some (.int .u64 n.stamp) := (hB.cell 4).trans n.get4
  have e4 := n.get4
  have f5 : (w.alloc (.cells n.cells 37)).cell? ⟨w.heap.size, 5, none⟩ = some (.int .u8 n.state) := (hB.cell 5).trans n.get5
  have e5 := n.get5
  have f6 : (w.alloc (.cells n.cells 37)).cell? ⟨w.heap.size, 6, none⟩ = some (.bool n.has) := (hB.cell 6).trans n.get6
  have e6 := n.get6
  have f7 : (w.alloc (.cells n.cells 37)).cell? ⟨w.heap.size, 7, none⟩ = some (.bool n.stick) := (hB.cell 7).trans n.get7
  have e7 := n.get7
  have l8 : (TBlk.ld (.pointer (some ⟨w.heap.size, 8, none⟩))).run Tryz.prog (w.alloc (.cells n.cells 37)) = .ok (.agg n.D) (w.alloc (.cells n.cells 37)) := by
    refine TBlk.ld_at (BU.IsU.isN hn.isU) ?_
    intro j v hv
    have h9 : n.cells.toList[8 + j]? = some v := by
      have := n.getD j
      simpa [this] using hv
    simpa using hB.whole (8 + j) v h9
  clear hkb ht hs hB hSt hH hk
  by_cases a1 : n.blk < 0
  · skip
    have ga1 : decide (n.blk < 0) = true := by simp; omega
    have hf : MayN n = false := by rw [hM]; simp [mayC, *]
    rw [hf]
    clear hf hM
    go_enter Tryz.func140, Tryz.ntmps140
    go_wp2
    go_ret
    exact ⟨rfl, HU.out⟩
  · skip
    have ga1 : decide (n.blk < 0) = false := by simp; omega
    by_cases a2 : 255 < n.blk
    · skip
      have ga2 : decide (255 < n.blk) = true := by simp; omega
      have hf : MayN n = false := by rw [hM]; simp [mayC, *]
      rw [hf]
      clear hf hM
      go_enter Tryz.func140, Tryz.ntmps140
      go_wp2
      go_ret
      exact ⟨rfl, HU.out⟩
    · skip
      have ga2 : decide (255 < n.blk) = false := by simp; omega
      by_cases a3 : n.too = -1
      rotate_left
      · skip
        have ga3 : (n.too == -1) = false := by simpa using a3
        have ka3 : (n.too != -1) = true := by simp [bne, ga3]
        have hf : MayN n = false := by rw [hM]; simp [mayC, *]
        rw [hf]
        clear hf hM
        go_enter Tryz.func140, Tryz.ntmps140
        go_wp2_with fail
        refine (HT.out _).mono ?_
        rintro e w2 ⟨rfl, rfl⟩
        go_wp2
        go_ret
        exact ⟨rfl, HU.out⟩
      · skip
        have ga3 : (n.too == -1) = true := by simpa using a3
        have ka3 : (n.too != -1) = false := by simp [bne, ga3]
        by_cases a4 : n.frm < 0
        · skip
          have ga4 : decide (n.frm < 0) = true := by simp; omega
          have hf : MayN n = false := by rw [hM]; simp [mayC, *]
          rw [hf]
          clear hf hM
          go_enter Tryz.func140, Tryz.ntmps140
          go_wp2_with fail
          refine (HT.out _).mono ?_
          rintro e w2 ⟨rfl, rfl⟩
          go_wp2
          go_ret
          exact ⟨rfl, HU.out⟩
        · skip
          have ga4 : decide (n.frm < 0) = false := by simp; omega
          by_cases a5 : 15 < n.frm
          · skip
            have ga5 : decide (15 < n.frm) = true := by simp; omega
            have hf : MayN n = false := by rw [hM]; simp [mayC, *]
            rw [hf]
            clear hf hM
            go_enter Tryz.func140, Tryz.ntmps140
            go_wp2_with fail
            refine (HT.out _).mono ?_
            rintro e w2 ⟨rfl, rfl⟩
            go_wp2
            go_ret
            exact ⟨rfl, HU.out⟩
          · skip
            have ga5 : decide (15 < n.frm) = false := by simp; omega
            by_cases a6 : n.stamp = 0
            rotate_left
            · skip
              have ga6 : (n.stamp == 0) = false := by simpa using a6
              have ka6 : (n.stamp != 0) = true := by simp [bne, ga6]
              have hf : MayN n = false := by rw [hM]; simp [mayC, *]
              rw [hf]
              clear hf hM
              go_enter Tryz.func140, Tryz.ntmps140
              go_wp2_with fail
              refine (HT.out _).mono ?_
              rintro e w2 ⟨rfl, rfl⟩
              go_wp2_with fail
              refine (HS.out _).mono ?_
              rintro e w2 ⟨rfl, rfl⟩
              go_wp2
              go_ret
              exact ⟨rfl, HU.out⟩
            · skip
              have ga6 : (n.stamp == 0) = true := by simpa using a6
              have ka6 : (n.stamp != 0) = false := by simp [bne, ga6]
              by_cases a7 : n.state = 0
              rotate_left
              · skip
                have ga7 : (n.state == 0) = false := by simpa using a7
                have ka7 : (n.state != 0) = true := by simp [bne, ga7]
                have hf : MayN n = false := by rw [hM]; simp [mayC, *]
                rw [hf]
                clear hf hM
                go_enter Tryz.func140, Tryz.ntmps140
                go_wp2_with fail
                refine (HT.out _).mono ?_
                rintro e w2 ⟨rfl, rfl⟩
                go_wp2_with fail
                refine (HS.out _).mono ?_
                rintro e w2 ⟨rfl, rfl⟩
                go_wp2
                go_ret
                exact ⟨rfl, HU.out⟩
              · skip
                have ga7 : (n.state == 0) = true := by simpa using a7
                have ka7 : (n.state != 0) = false := by simp [bne, ga7]
                cases b2 : n.has
                · skip
                  rw [b2] at f6 e6
                  have hf : MayN n = false := by rw [hM]; simp [mayC, *]
                  rw [hf]
                  clear hf hM
                  go_enter Tryz.func140, Tryz.ntmps140
                  go_wp2_with fail
                  refine (HT.out _).mono ?_
                  rintro e w2 ⟨rfl, rfl⟩
                  go_wp2_with fail
                  refine (HS.out _).mono ?_
                  rintro e w2 ⟨rfl, rfl⟩
                  go_wp2
                  go_ret
                  exact ⟨rfl, HU.out⟩
                · skip
                  rw [b2] at f6 e6
                  have hf : MayN n = true := by rw [hM]; simp [mayC, *]
                  rw [hf]
                  clear hf hM
                  go_enter Tryz.func140, Tryz.ntmps140
                  go_wp2_with fail
                  refine (HT.out _).mono ?_
                  rintro e w2 ⟨rfl, rfl⟩
                  go_wp2_with fail
                  refine (HS.out _).mono ?_
                  rintro e w2 ⟨rfl, rfl⟩
                  go_wp2
                  go_ret
                  exact ⟨rfl, HU.out⟩
set_option maxRecDepth 100000 in
set_option maxHeartbeats 2000000 in
theorem rmay_c (n : Nt) (hn : n.Ok) (hk : n.kind = 4 ∨ n.kind = 5 ∨ n.kind = 7) (w : World) : Calls Tryz.prog 140 #[.agg n.cells] w fun e w' => e = .returned (.bool (MayN n)) ∧ Upd NoF w w' := by
  have hkb : kindB n.kind = true := by rcases hk with h | h | h <;> rw [h] <;> rfl
  have hH : toHome n.kind = false := by rcases hk with h | h | h <;> rw [h] <;> rfl
  have hSt : stamped n.kind = true := by rcases hk with h | h | h <;> rw [h] <;> rfl
  have h3 : (n.kind == 3) = false := by rcases hk with h | h | h <;> rw [h] <;> rfl
  have h6 : (n.kind == 6) = false := by rcases hk with h | h | h <;> rw [h] <;> rfl
  have h9 : (n.kind == 9) = false := by rcases hk with h | h | h <;> rw [h] <;> rfl
  have n3 : (n.kind != 3) = true := by simp [bne, h3]
  have n6 : (n.kind != 6) = true := by simp [bne, h6]
  have n9 : (n.kind != 9) = true := by simp [bne, h9]
  have k1 : decide (n.kind < 1) = false := by simp; omega
  have k2 : decide (11 < n.kind) = false := by simp; omega
  have hM := may_c hkb
  rw [hH, hSt, h3, h6, h9] at hM
  have ht := fun W => rtoHome_any n.kind W
  rw [hH] at ht
  have hs := fun W => rstamped_any n.kind W
  rw [hSt] at hs
  have HT := Lib.hid ht; have HS := Lib.hid hs
  have HU := Lib.hid (Upd.alloc NoF w (.cells n.cells 37))
  have hB := Blk.new w n.cells 37
  have f0 : (w.alloc (.cells n.cells 37)).cell? ⟨w.heap.size, 0, none⟩ = some (.int .u8 n.kind) := (hB.cell 0).trans n.get0
  have e0 := n.get0
  have f1 : (w.alloc (.cells n.cells 37)).cell? ⟨w.heap.size, 1, none⟩ = some (.int .i64 n.frm) := (hB.cell 1).trans n.get1
  have e1 := n.get1
  have f2 : (w.alloc (.cells n.cells 37)).cell? ⟨w.heap.size, 2, none⟩ = some (.int .i64 n.too) := (hB.cell 2).trans n.get2
  have e2 := n.get2
  have f3 : (w.alloc (.cells n.cells 37)).cell? ⟨w.heap.size, 3, none⟩ = some (.int .i64 n.blk) := (hB.cell 3).trans n.get3
  have e3 := n.get3
  have f4 : (w.alloc (.cells n.cells 37)).cell? ⟨w.heap.size, 4, none⟩ = some (.int .u64 n.stamp) := (hB.cell 4).trans n.get4
  have e4 := n.get4
  have f5 : (w.alloc (.cells n.cells 37)).cell? ⟨w.heap.size, 5, none⟩ = some (.int .u8 n.state) := (hB.cell 5).trans n.get5
  have e5 := n.get5
  have f6 : (w.alloc (.cells n.cells 37)).cell? ⟨w.heap.size, 6, none⟩ = some (.bool n.has) := (hB.cell 6).trans n.get6
  have e6 := n.get6
  have f7 : (w.alloc (.cells n.cells 37)).cell? ⟨w.heap.size, 7, none⟩ = some (.bool n.stick) := (hB.cell 7).trans n.get7
  have e7 := n.get7
  have l8 : (TBlk.ld (.pointer (some ⟨w.heap.size, 8, none⟩))).run Tryz.prog (w.alloc (.cells n.cells 37)) = .ok (.agg n.D) (w.alloc (.cells n.cells 37)) := by
    refine TBlk.ld_at (BU.IsU.isN hn.isU) ?_
    intro j v hv
    have h9 : n.cells.toList[8 + j]? = some v := by
      have := n.getD j
      simpa [this] using hv
    simpa using hB.whole (8 + j) v h9
  clear hkb ht hs hB hSt hH hk
  by_cases a1 : n.blk < 0
  · skip
    have ga1 : decide (n.blk < 0) = true := by simp; omega
    have hf : MayN n = false := by rw [hM]; simp [mayC, *]
    rw [hf]
    clear hf hM
    go_enter Tryz.func140, Tryz.ntmps140
    go_wp2
    go_ret
    exact ⟨rfl, HU.out⟩
  · skip
    have ga1 : decide (n.blk < 0) = false := by simp; omega
    by_cases a2 : 255 < n.blk
    · skip
      have ga2 : decide (255 < n.blk) = true := by simp; omega
      have hf : MayN n = false := by rw [hM]; simp [mayC, *]
      rw [hf]
      clear hf hM
      go_enter Tryz.func140, Tryz.ntmps140
      go_wp2
      go_ret
      exact ⟨rfl, HU.out⟩
    · skip
      have ga2 : decide (255 < n.blk) = false := by simp; omega
      by_cases a3 : n.frm = -1
      rotate_left
      · skip
        have ga3 : (n.frm == -1) = false := by simpa using a3
        have ka3 : (n.frm != -1) = true := by simp [bne, ga3]
        have hf : MayN n = false := by rw [hM]; simp [mayC, *]
        rw [hf]
        clear hf hM
        go_enter Tryz.func140, Tryz.ntmps140
        go_wp2_with fail
        refine (HT.out _).mono ?_
        rintro e w2 ⟨rfl, rfl⟩
        go_wp2
        go_ret
        exact ⟨rfl, HU.out⟩
      · skip
        have ga3 : (n.frm == -1) = true := by simpa using a3
        have ka3 : (n.frm != -1) = false := by simp [bne, ga3]
        by_cases a4 : n.too < 0
        · skip
          have ga4 : decide (n.too < 0) = true := by simp; omega
          have hf : MayN n = false := by rw [hM]; simp [mayC, *]
          rw [hf]
          clear hf hM
          go_enter Tryz.func140, Tryz.ntmps140
          go_wp2_with fail
          refine (HT.out _).mono ?_
          rintro e w2 ⟨rfl, rfl⟩
          go_wp2
          go_ret
          exact ⟨rfl, HU.out⟩
        · skip
          have ga4 : decide (n.too < 0) = false := by simp; omega
          by_cases a5 : 15 < n.too
          · skip
            have ga5 : decide (15 < n.too) = true := by simp; omega
            have hf : MayN n = false := by rw [hM]; simp [mayC, *]
            rw [hf]
            clear hf hM
            go_enter Tryz.func140, Tryz.ntmps140
            go_wp2_with fail
            refine (HT.out _).mono ?_
            rintro e w2 ⟨rfl, rfl⟩
            go_wp2
            go_ret
            exact ⟨rfl, HU.out⟩
          · skip
            have ga5 : decide (15 < n.too) = false := by simp; omega
            by_cases a7 : n.state = 0
            rotate_left
            · skip
              have ga7 : (n.state == 0) = false := by simpa using a7
              have ka7 : (n.state != 0) = true := by simp [bne, ga7]
              have hf : MayN n = false := by rw [hM]; simp [mayC, *]
              rw [hf]
              clear hf hM
              go_enter Tryz.func140, Tryz.ntmps140
              go_wp2_with fail
              refine (HT.out _).mono ?_
              rintro e w2 ⟨rfl, rfl⟩
              go_wp2_with fail
              refine (HS.out _).mono ?_
              rintro e w2 ⟨rfl, rfl⟩
              go_wp2
              go_ret
              exact ⟨rfl, HU.out⟩
            · skip
              have ga7 : (n.state == 0) = true := by simpa using a7
              have ka7 : (n.state != 0) = false := by simp [bne, ga7]
              cases b1 : n.stick
              rotate_left
              · skip
                rw [b1] at f7 e7
                have hf : MayN n = false := by rw [hM]; simp [mayC, *]
                rw [hf]
                clear hf hM
                go_enter Tryz.func140, Tryz.ntmps140
                go_wp2_with fail
                refine (HT.out _).mono ?_
                rintro e w2 ⟨rfl, rfl⟩
                go_wp2_with fail
                refine (HS.out _).mono ?_
                rintro e w2 ⟨rfl, rfl⟩
                go_wp2
                go_ret
                exact ⟨rfl, HU.out⟩
              · skip
                rw [b1] at f7 e7
                cases b2 : n.has
                rotate_left
                · skip
                  rw [b2] at f6 e6
                  have hf : MayN n = false := by rw [hM]; simp [mayC, *]
                  rw [hf]
                  clear hf hM
                  go_enter Tryz.func140, Tryz.ntmps140
                  go_wp2_with fail
                  refine (HT.out _).mono ?_
                  rintro e w2 ⟨rfl, rfl⟩
                  go_wp2_with fail
                  refine (HS.out _).mono ?_
                  rintro e w2 ⟨rfl, rfl⟩
                  go_wp2
                  go_ret
                  exact ⟨rfl, HU.out⟩
                · skip
                  rw [b2] at f6 e6
                  have hz : ∀ W, (eqB (.agg n.D) (.agg #[.int .u32 0, .int .u32 0, .int .u32 0, .int .u32 0, .int .u32 0, .int .u32 0, .int .u32 0, .int .u32 0, .int .u32 0, .int .u32 0, .int .u32 0, .int .u32 0, .int .u32 0, .int .u32 0, .int .u32 0, .int .u32 0])).run Tryz.prog W = .ok (.bool (words n.D == words TBlk.Z)) W := fun W => eqB_run hn.isU BU.isU_Z W
                  cases hw : (words n.D == words TBlk.Z)
                  · skip
                    rw [hw] at hz
                    have hf : MayN n = false := by rw [hM]; simp [mayC, *]
                    rw [hf]
                    clear hf hM
                    go_enter Tryz.func140, Tryz.ntmps140
                    go_wp2_with fail
                    refine (HT.out _).mono ?_
                    rintro e w2 ⟨rfl, rfl⟩
                    go_wp2_with fail
                    refine (HS.out _).mono ?_
                    rintro e w2 ⟨rfl, rfl⟩
                    go_wp2
                    go_ret
                    exact ⟨rfl, HU.out⟩
                  · skip
                    rw [hw] at hz
                    have hf : MayN n = true := by rw [hM]; simp [mayC, *]
                    rw [hf]
                    clear hf hM
                    go_enter Tryz.func140, Tryz.ntmps140
                    go_wp2_with fail
                    refine (HT.out _).mono ?_
                    rintro e w2 ⟨rfl, rfl⟩
                    go_wp2_with fail
                    refine (HS.out _).mono ?_
                    rintro e w2 ⟨rfl, rfl⟩
                    go_wp2
                    go_ret
                    exact ⟨rfl, HU.out⟩
set_option maxRecDepth 100000 in
set_option maxHeartbeats 2000000 in
theorem rmay_d (n : Nt) (hn : n.Ok) (hk : n.kind = 6) (w : World) : Calls Tryz.prog 140 #[.agg n.cells] w fun e w' => e = .returned (.bool (MayN n)) ∧ Upd NoF w w' := by
  have hkb : kindB n.kind = true := by rw [hk]; rfl
  have hH : toHome n.kind = false := by rw [hk]; rfl
  have hSt : stamped n.kind = false := by rw [hk]; rfl
  have h3 : (n.kind == 3) = false := by rw [hk]; rfl
  have h6 : (n.kind == 6) = true := by rw [hk]; rfl
  have h9 : (n.kind == 9) = false := by rw [hk]; rfl
  have n3 : (n.kind != 3) = true := by simp [bne, h3]
  have n6 : (n.kind != 6) = false := by simp [bne, h6]
  have n9 : (n.kind != 9) = true := by simp [bne, h9]
  have k1 : decide (n.kind < 1) = false := by simp; omega
  have k2 : decide (11 < n.kind) = false := by simp; omega
  have hM := may_c hkb
  rw [hH, hSt, h3, h6, h9] at hM
  have ht := fun W => rtoHome_any n.kind W
  rw [hH] at ht
  have hs := fun W => rstamped_any n.kind W
  rw [hSt] at hs
  have HT := Lib.hid ht; have HS := Lib.hid hs
  have HU := Lib.hid (Upd.alloc NoF w (.cells n.cells 37))
  have hB := Blk.new w n.cells 37
  have f0 : (w.alloc (.cells n.cells 37)).cell? ⟨w.heap.size, 0, none⟩ = some (.int .u8 n.kind) := (hB.cell 0).trans n.get0
  have e0 := n.get0
  have f1 : (w.alloc (.cells n.cells 37)).cell? ⟨w.heap.size, 1, none⟩ = some (.int .i64 n.frm) := (hB.cell 1).trans n.get1
  have e1 := n.get1
  have f2 : (w.alloc (.cells n.cells 37)).cell? ⟨w.heap.size, 2, none⟩ = some (.int .i64 n.too) := (hB.cell 2).trans n.get2
  have e2 := n.get2
  have f3 : (w.alloc (.cells n.cells 37)).cell? ⟨w.heap.size, 3, none⟩ = some (.int .i64 n.blk) := (hB.cell 3).trans n.get3
  have e3 := n.get3
  have f4 : (w.alloc (.cells n.cells 37)).cell? ⟨w.heap.size, 4, none⟩ = some (.int .u64 n.stamp) := (hB.cell 4).trans n.get4
  have e4 := n.get4
  have f5 : (w.alloc (.cells n.cells 37)).cell? ⟨w.heap.size, 5, none⟩ = some (.int .u8 n.state) := (hB.cell 5).trans n.get5
  have e5 := n.get5
  have f6 : (w.alloc (.cells n.cells 37)).cell? ⟨w.heap.size, 6, none⟩ = some (.bool n.has) := (hB.cell 6).trans n.get6
  have e6 := n.get6
  have f7 : (w.alloc (.cells n.cells 37)).cell? ⟨w.heap.size, 7, none⟩ = some (.bool n.stick) := (hB.cell 7).trans n.get7
  have e7 := n.get7
  have l8 : (TBlk.ld (.pointer (some ⟨w.heap.size, 8, none⟩))).run Tryz.prog (w.alloc (.cells n.cells 37)) = .ok (.agg n.D) (w.alloc (.cells n.cells 37)) := by
    refine TBlk.ld_at (BU.IsU.isN hn.isU) ?_
    intro j v hv
    have h9 : n.cells.toList[8 + j]? = some v := by
      have := n.getD j
      simpa [this] using hv
    simpa using hB.whole (8 + j) v h9
  clear hkb ht hs hB hSt hH hk
  by_cases a1 : n.blk < 0
  · skip
    have ga1 : decide (n.blk < 0) = true := by simp; omega
    have hf : MayN n = false := by rw [hM]; simp [mayC, *]
    rw [hf]
    clear hf hM
    go_enter Tryz.func140, Tryz.ntmps140
    go_wp2
    go_ret
    exact ⟨rfl, HU.out⟩
  · skip
    have ga1 : decide (n.blk < 0) = false := by simp; omega
    by_cases a2 : 255 < n.blk
    · skip
      have ga2 : decide (255 < n.blk) = true := by simp; omega
      have hf : MayN n = false := by rw [hM]; simp [mayC, *]
      rw [hf]
      clear hf hM
      go_enter Tryz.func140, Tryz.ntmps140
      go_wp2
      go_ret
      exact ⟨rfl, HU.out⟩
    · skip
      have ga2 : decide (255 < n.blk) = false := by simp; omega
      by_cases a3 : n.frm = -1
      rotate_left
      · skip
        have ga3 : (n.frm == -1) = false := by simpa using a3
        have ka3 : (n.frm != -1) = true := by simp [bne, ga3]
        have hf : MayN n = false := by rw [hM]; simp [mayC, *]
        rw [hf]
        clear hf hM
        go_enter Tryz.func140, Tryz.ntmps140
        go_wp2_with fail
        refine (HT.out _).mono ?_
        rintro e w2 ⟨rfl, rfl⟩
        go_wp2
        go_ret
        exact ⟨rfl, HU.out⟩
      · skip
        have ga3 : (n.frm == -1) = true := by simpa using a3
        have ka3 : (n.frm != -1) = false := by simp [bne, ga3]
        by_cases a4 : n.too < 0
        · skip
          have ga4 : decide (n.too < 0) = true := by simp; omega
          have hf : MayN n = false := by rw [hM]; simp [mayC, *]
          rw [hf]
          clear hf hM
          go_enter Tryz.func140, Tryz.ntmps140
          go_wp2_with fail
          refine (HT.out _).mono ?_
          rintro e w2 ⟨rfl, rfl⟩
          go_wp2
          go_ret
          exact ⟨rfl, HU.out⟩
        · skip
          have ga4 : decide (n.too < 0) = false := by simp; omega
          by_cases a5 : 15 < n.too
          · skip
            have ga5 : decide (15 < n.too) = true := by simp; omega
            have hf : MayN n = false := by rw [hM]; simp [mayC, *]
            rw [hf]
            clear hf hM
            go_enter Tryz.func140, Tryz.ntmps140
            go_wp2_with fail
            refine (HT.out _).mono ?_
            rintro e w2 ⟨rfl, rfl⟩
            go_wp2
            go_ret
            exact ⟨rfl, HU.out⟩
          · skip
            have ga5 : decide (15 < n.too) = false := by simp; omega
            by_cases a6 : n.stamp = 0
            rotate_left
            · skip
              have ga6 : (n.stamp == 0) = false := by simpa using a6
              have ka6 : (n.stamp != 0) = true := by simp [bne, ga6]
              have hf : MayN n = false := by rw [hM]; simp [mayC, *]
              rw [hf]
              clear hf hM
              go_enter Tryz.func140, Tryz.ntmps140
              go_wp2_with fail
              refine (HT.out _).mono ?_
              rintro e w2 ⟨rfl, rfl⟩
              go_wp2_with fail
              refine (HS.out _).mono ?_
              rintro e w2 ⟨rfl, rfl⟩
              go_wp2
              go_ret
              exact ⟨rfl, HU.out⟩
            · skip
              have ga6 : (n.stamp == 0) = true := by simpa using a6
              have ka6 : (n.stamp != 0) = false := by simp [bne, ga6]
              by_cases a7 : n.state < 1
              · skip
                have ga7 : decide (n.state < 1) = true := by simp; omega
                have hf : MayN n = false := by rw [hM]; simp [mayC, *]
                rw [hf]
                clear hf hM
                go_enter Tryz.func140, Tryz.ntmps140
                go_wp2_with fail
                refine (HT.out _).mono ?_
                rintro e w2 ⟨rfl, rfl⟩
                go_wp2_with fail
                refine (HS.out _).mono ?_
                rintro e w2 ⟨rfl, rfl⟩
                go_wp2
                go_ret
                exact ⟨rfl, HU.out⟩
              · skip
                have ga7 : decide (n.state < 1) = false := by simp; omega
                by_cases a8 : 3 < n.state
                · skip
                  have ga8 : decide (3 < n.state) = true := by simp; omega
                  have hf : MayN n = false := by rw [hM]; simp [mayC, *]
                  rw [hf]
                  clear hf hM
                  go_enter Tryz.func140, Tryz.ntmps140
                  go_wp2_with fail
                  refine (HT.out _).mono ?_
                  rintro e w2 ⟨rfl, rfl⟩
                  go_wp2_with fail
                  refine (HS.out _).mono ?_
                  rintro e w2 ⟨rfl, rfl⟩
                  go_wp2
                  go_ret
                  exact ⟨rfl, HU.out⟩
                · skip
                  have ga8 : decide (3 < n.state) = false := by simp; omega
                  cases b1 : n.stick
                  rotate_left
                  · skip
                    rw [b1] at f7 e7
                    have hf : MayN n = false := by rw [hM]; simp [mayC, *]
                    rw [hf]
                    clear hf hM
                    go_enter Tryz.func140, Tryz.ntmps140
                    go_wp2_with fail
                    refine (HT.out _).mono ?_
                    rintro e w2 ⟨rfl, rfl⟩
                    go_wp2_with fail
                    refine (HS.out _).mono ?_
                    rintro e w2 ⟨rfl, rfl⟩
                    go_wp2
                    go_ret
                    exact ⟨rfl, HU.out⟩
                  · skip
                    rw [b1] at f7 e7
                    cases b2 : n.has
                    · skip
                      rw [b2] at f6 e6
                      have hf : MayN n = false := by rw [hM]; simp [mayC, *]
                      rw [hf]
                      clear hf hM
                      go_enter Tryz.func140, Tryz.ntmps140
                      go_wp2_with fail
                      refine (HT.out _).mono ?_
                      rintro e w2 ⟨rfl, rfl⟩
                      go_wp2_with fail
                      refine (HS.out _).mono ?_
                      rintro e w2 ⟨rfl, rfl⟩
                      go_wp2
                      go_ret
                      exact ⟨rfl, HU.out⟩
                    · skip
                      rw [b2] at f6 e6
                      have hf : MayN n = true := by rw [hM]; simp [mayC, *]
                      rw [hf]
                      clear hf hM
                      go_enter Tryz.func140, Tryz.ntmps140
                      go_wp2_with fail
                      refine (HT.out _).mono ?_
                      rintro e w2 ⟨rfl, rfl⟩
                      go_wp2_with fail
                      refine (HS.out _).mono ?_
                      rintro e w2 ⟨rfl, rfl⟩
                      go_wp2
                      go_ret
                      exact ⟨rfl, HU.out⟩
set_option maxRecDepth 100000 in
set_option maxHeartbeats 2000000 in
theorem rmay_e (n : Nt) (hn : n.Ok) (hk : n.kind = 8) (w : World) : Calls Tryz.prog 140 #[.agg n.cells] w fun e w' => e = .returned (.bool (MayN n)) ∧ Upd NoF w w' := by
  have hkb : kindB n.kind = true := by rw [hk]; rfl
  have hH : toHome n.kind = false := by rw [hk]; rfl
  have hSt : stamped n.kind = false := by rw [hk]; rfl
  have h3 : (n.kind == 3) = false := by rw [hk]; rfl
  have h6 : (n.kind == 6) = false := by rw [hk]; rfl
  have h9 : (n.kind == 9) = false := by rw [hk]; rfl
  have n3 : (n.kind != 3) = true := by simp [bne, h3]
  have n6 : (n.kind != 6) = true := by simp [bne, h6]
  have n9 : (n.kind != 9) = true := by simp [bne, h9]
  have k1 : decide (n.kind < 1) = false := by simp; omega
  have k2 : decide (11 < n.kind) = false := by simp; omega
  have hM := may_c hkb
  rw [hH, hSt, h3, h6, h9] at hM
  have ht := fun W => rtoHome_any n.kind W
  rw [hH] at ht
  have hs := fun W => rstamped_any n.kind W
  rw [hSt] at hs
  have HT := Lib.hid ht; have HS := Lib.hid hs
  have HU := Lib.hid (Upd.alloc NoF w (.cells n.cells 37))
  have hB := Blk.new w n.cells 37
  have f0 : (w.alloc (.cells n.cells 37)).cell? ⟨w.heap.size, 0, none⟩ = some (.int .u8 n.kind) := (hB.cell 0).trans n.get0
  have e0 := n.get0
  have f1 : (w.alloc (.cells n.cells 37)).cell? ⟨w.heap.size, 1, none⟩ = some (.int .i64 n.frm) := (hB.cell 1).trans n.get1
  have e1 := n.get1
  have f2 : (w.alloc (.cells n.cells 37)).cell? ⟨w.heap.size, 2, none⟩ = some (.int .i64 n.too) := (hB.cell 2).trans n.get2
  have e2 := n.get2
  have f3 : (w.alloc (.cells n.cells 37)).cell? ⟨w.heap.size, 3, none⟩ = some (.int .i64 n.blk) := (hB.cell 3).trans n.get3
  have e3 := n.get3
  have f4 : (w.alloc (.cells n.cells 37)).cell? ⟨w.heap.size, 4, none⟩ = some (.int .u64 n.stamp) := (hB.cell 4).trans n.get4
  have e4 := n.get4
  have f5 : (w.alloc (.cells n.cells 37)).cell? ⟨w.heap.size, 5, none⟩ = some (.int .u8 n.state) := (hB.cell 5).trans n.get5
  have e5 := n.get5
  have f6 : (w.alloc (.cells n.cells 37)).cell? ⟨w.heap.size, 6, none⟩ = some (.bool n.has) := (hB.cell 6).trans n.get6
  have e6 := n.get6
  have f7 : (w.alloc (.cells n.cells 37)).cell? ⟨w.heap.size, 7, none⟩ = some (.bool n.stick) := (hB.cell 7).trans n.get7
  have e7 := n.get7
  have l8 : (TBlk.ld (.pointer (some ⟨w.heap.size, 8, none⟩))).run Tryz.prog (w.alloc (.cells n.cells 37)) = .ok (.agg n.D) (w.alloc (.cells n.cells 37)) := by
    refine TBlk.ld_at (BU.IsU.isN hn.isU) ?_
    intro j v hv
    have h9 : n.cells.toList[8 + j]? = some v := by
      have := n.getD j
      simpa [this] using hv
    simpa using hB.whole (8 + j) v h9
  clear hkb ht hs hB hSt hH hk
  by_cases a1 : n.blk < 0
  · skip
    have ga1 : decide (n.blk < 0) = true := by simp; omega
    have hf : MayN n = false := by rw [hM]; simp [mayC, *]
    rw [hf]
    clear hf hM
    go_enter Tryz.func140, Tryz.ntmps140
    go_wp2
    go_ret
    exact ⟨rfl, HU.out⟩
  · skip
    have ga1 : decide (n.blk < 0) = false := by simp; omega
    by_cases a2 : 255 < n.blk
    · skip
      have ga2 : decide (255 < n.blk) = true := by simp; omega
      have hf : MayN n = false := by rw [hM]; simp [mayC, *]
      rw [hf]
      clear hf hM
      go_enter Tryz.func140, Tryz.ntmps140
      go_wp2
      go_ret
      exact ⟨rfl, HU.out⟩
    · skip
      have ga2 : decide (255 < n.blk) = false := by simp; omega
      by_cases a3 : n.frm = -1
      rotate_left
      · skip
        have ga3 : (n.frm == -1) = false := by simpa using a3
        have ka3 : (n.frm != -1) = true := by simp [bne, ga3]
        have hf : MayN n = false := by rw [hM]; simp [mayC, *]
        rw [hf]
        clear hf hM
        go_enter Tryz.func140, Tryz.ntmps140
        go_wp2_with fail
        refine (HT.out _).mono ?_
        rintro e w2 ⟨rfl, rfl⟩
        go_wp2
        go_ret
        exact ⟨rfl, HU.out⟩
      · skip
        have ga3 : (n.frm == -1) = true := by simpa using a3
        have ka3 : (n.frm != -1) = false := by simp [bne, ga3]
        by_cases a4 : n.too < 0
        · skip
          have ga4 : decide (n.too < 0) = true := by simp; omega
          have hf : MayN n = false := by rw [hM]; simp [mayC, *]
          rw [hf]
          clear hf hM
          go_enter Tryz.func140, Tryz.ntmps140
          go_wp2_with fail
          refine (HT.out _).mono ?_
          rintro e w2 ⟨rfl, rfl⟩
          go_wp2
          go_ret
          exact ⟨rfl, HU.out⟩
        · skip
          have ga4 : decide (n.too < 0) = false := by simp; omega
          by_cases a5 : 15 < n.too
          · skip
            have ga5 : decide (15 < n.too) = true := by simp; omega
            have hf : MayN n = false := by rw [hM]; simp [mayC, *]
            rw [hf]
            clear hf hM
            go_enter Tryz.func140, Tryz.ntmps140
            go_wp2_with fail
            refine (HT.out _).mono ?_
            rintro e w2 ⟨rfl, rfl⟩
            go_wp2
            go_ret
            exact ⟨rfl, HU.out⟩
          · skip
            have ga5 : decide (15 < n.too) = false := by simp; omega
            by_cases a6 : n.stamp = 0
            rotate_left
            · skip
              have ga6 : (n.stamp == 0) = false := by simpa using a6
              have ka6 : (n.stamp != 0) = true := by simp [bne, ga6]
              have hf : MayN n = false := by rw [hM]; simp [mayC, *]
              rw [hf]
              clear hf hM
              go_enter Tryz.func140, Tryz.ntmps140
              go_wp2_with fail
              refine (HT.out _).mono ?_
              rintro e w2 ⟨rfl, rfl⟩
              go_wp2_with fail
              refine (HS.out _).mono ?_
              rintro e w2 ⟨rfl, rfl⟩
              go_wp2
              go_ret
              exact ⟨rfl, HU.out⟩
            · skip
              have ga6 : (n.stamp == 0) = true := by simpa using a6
              have ka6 : (n.stamp != 0) = false := by simp [bne, ga6]
              by_cases a7 : n.state = 0
              rotate_left
              · skip
                have ga7 : (n.state == 0) = false := by simpa using a7
                have ka7 : (n.state != 0) = true := by simp [bne, ga7]
                have hf : MayN n = false := by rw [hM]; simp [mayC, *]
                rw [hf]
                clear hf hM
                go_enter Tryz.func140, Tryz.ntmps140
                go_wp2_with fail
                refine (HT.out _).mono ?_
                rintro e w2 ⟨rfl, rfl⟩
                go_wp2_with fail
                refine (HS.out _).mono ?_
                rintro e w2 ⟨rfl, rfl⟩
                go_wp2
                go_ret
                exact ⟨rfl, HU.out⟩
              · skip
                have ga7 : (n.state == 0) = true := by simpa using a7
                have ka7 : (n.state != 0) = false := by simp [bne, ga7]
                cases b1 : n.stick
                rotate_left
                · skip
                  rw [b1] at f7 e7
                  have hf : MayN n = false := by rw [hM]; simp [mayC, *]
                  rw [hf]
                  clear hf hM
                  go_enter Tryz.func140, Tryz.ntmps140
                  go_wp2_with fail
                  refine (HT.out _).mono ?_
                  rintro e w2 ⟨rfl, rfl⟩
                  go_wp2_with fail
                  refine (HS.out _).mono ?_
                  rintro e w2 ⟨rfl, rfl⟩
                  go_wp2
                  go_ret
                  exact ⟨rfl, HU.out⟩
                · skip
                  rw [b1] at f7 e7
                  cases b2 : n.has
                  rotate_left
                  · skip
                    rw [b2] at f6 e6
                    have hf : MayN n = false := by rw [hM]; simp [mayC, *]
                    rw [hf]
                    clear hf hM
                    go_enter Tryz.func140, Tryz.ntmps140
                    go_wp2_with fail
                    refine (HT.out _).mono ?_
                    rintro e w2 ⟨rfl, rfl⟩
                    go_wp2_with fail
                    refine (HS.out _).mono ?_
                    rintro e w2 ⟨rfl, rfl⟩
                    go_wp2
                    go_ret
                    exact ⟨rfl, HU.out⟩
                  · skip
                    rw [b2] at f6 e6
                    have hz : ∀ W, (eqB (.agg n.D) (.agg #[.int .u32 0, .int .u32 0, .int .u32 0, .int .u32 0, .int .u32 0, .int .u32 0, .int .u32 0, .int .u32 0, .int .u32 0, .int .u32 0, .int .u32 0, .int .u32 0, .int .u32 0, .int .u32 0, .int .u32 0, .int .u32 0])).run Tryz.prog W = .ok (.bool (words n.D == words TBlk.Z)) W := fun W => eqB_run hn.isU BU.isU_Z W
                    cases hw : (words n.D == words TBlk.Z)
                    · skip
                      rw [hw] at hz
                      have hf : MayN n = false := by rw [hM]; simp [mayC, *]
                      rw [hf]
                      clear hf hM
                      go_enter Tryz.func140, Tryz.ntmps140
                      go_wp2_with fail
                      refine (HT.out _).mono ?_
                      rintro e w2 ⟨rfl, rfl⟩
                      go_wp2_with fail
                      refine (HS.out _).mono ?_
                      rintro e w2 ⟨rfl, rfl⟩
                      go_wp2
                      go_ret
                      exact ⟨rfl, HU.out⟩
                    · skip
                      rw [hw] at hz
                      have hf : MayN n = true := by rw [hM]; simp [mayC, *]
                      rw [hf]
                      clear hf hM
                      go_enter Tryz.func140, Tryz.ntmps140
                      go_wp2_with fail
                      refine (HT.out _).mono ?_
                      rintro e w2 ⟨rfl, rfl⟩
                      go_wp2_with fail
                      refine (HS.out _).mono ?_
                      rintro e w2 ⟨rfl, rfl⟩
                      go_wp2
                      go_ret
                      exact ⟨rfl, HU.out⟩
set_option maxRecDepth 100000 in
set_option maxHeartbeats 2000000 in
theorem rmay_f (n : Nt) (hn : n.Ok) (hk : n.kind = 9) (w : World) : Calls Tryz.prog 140 #[.agg n.cells] w fun e w' => e = .returned (.bool (MayN n)) ∧ Upd NoF w w' := by
  have hkb : kindB n.kind = true := by rw [hk]; rfl
  have hH : toHome n.kind = true := by rw [hk]; rfl
  have hSt : stamped n.kind = false := by rw [hk]; rfl
  have h3 : (n.kind == 3) = false := by rw [hk]; rfl
  have h6 : (n.kind == 6) = false := by rw [hk]; rfl
  have h9 : (n.kind == 9) = true := by rw [hk]; rfl
  have n3 : (n.kind != 3) = true := by simp [bne, h3]
  have n6 : (n.kind != 6) = true := by simp [bne, h6]
  have n9 : (n.kind != 9) = false := by simp [bne, h9]
  have k1 : decide (n.kind < 1) = false := by simp; omega
  have k2 : decide (11 < n.kind) = false := by simp; omega
  have hM := may_c hkb
  rw [hH, hSt, h3, h6, h9] at hM
  have ht := fun W => rtoHome_any n.kind W
  rw [hH] at ht
  have hs := fun W => rstamped_any n.kind W
  rw [hSt] at hs
  have HT := Lib.hid ht; have HS := Lib.hid hs
  have HU := Lib.hid (Upd.alloc NoF w (.cells n.cells 37))
  have hB := Blk.new w n.cells 37
  have f0 : (w.alloc (.cells n.cells 37)).cell? ⟨w.heap.size, 0, none⟩ = some (.int .u8 n.kind) := (hB.cell 0).trans n.get0
  have e0 := n.get0
  have f1 : (w.alloc (.cells n.cells 37)).cell? ⟨w.heap.size, 1, none⟩ = some (.int .i64 n.frm) := (hB.cell 1).trans n.get1
  have e1 := n.get1
  have f2 : (w.alloc (.cells n.cells 37)).cell? ⟨w.heap.size, 2, none⟩ = some (.int .i64 n.too) := (hB.cell 2).trans n.get2
  have e2 := n.get2
  have f3 : (w.alloc (.cells n.cells 37)).cell? ⟨w.heap.size, 3, none⟩ = some (.int .i64 n.blk) := (hB.cell 3).trans n.get3
  have e3 := n.get3
  have f4 : (w.alloc (.cells n.cells 37)).cell? ⟨w.heap.size, 4, none⟩ = some (.int .u64 n.stamp) := (hB.cell 4).trans n.get4
  have e4 := n.get4
  have f5 : (w.alloc (.cells n.cells 37)).cell? ⟨w.heap.size, 5, none⟩ = some (.int .u8 n.state) := (hB.cell 5).trans n.get5
  have e5 := n.get5
  have f6 : (w.alloc (.cells n.cells 37)).cell? ⟨w.heap.size, 6, none⟩ = some (.bool n.has) := (hB.cell 6).trans n.get6
  have e6 := n.get6
  have f7 : (w.alloc (.cells n.cells 37)).cell? ⟨w.heap.size, 7, none⟩ = some (.bool n.stick) := (hB.cell 7).trans n.get7
  have e7 := n.get7
  have l8 : (TBlk.ld (.pointer (some ⟨w.heap.size, 8, none⟩))).run Tryz.prog (w.alloc (.cells n.cells 37)) = .ok (.agg n.D) (w.alloc (.cells n.cells 37)) := by
    refine TBlk.ld_at (BU.IsU.isN hn.isU) ?_
    intro j v hv
    have h9 : n.cells.toList[8 + j]? = some v := by
      have := n.getD j
      simpa [this] using hv
    simpa using hB.whole (8 + j) v h9
  clear hkb ht hs hB hSt hH hk
  by_cases a1 : n.blk < 0
  · skip
    have ga1 : decide (n.blk < 0) = true := by simp; omega
    have hf : MayN n = false := by rw [hM]; simp [mayC, *]
    rw [hf]
    clear hf hM
    go_enter Tryz.func140, Tryz.ntmps140
    go_wp2
    go_ret
    exact ⟨rfl, HU.out⟩
  · skip
    have ga1 : decide (n.blk < 0) = false := by simp; omega
    by_cases a2 : 255 < n.blk
    · skip
      have ga2 : decide (255 < n.blk) = true := by simp; omega
      have hf : MayN n = false := by rw [hM]; simp [mayC, *]
      rw [hf]
      clear hf hM
      go_enter Tryz.func140, Tryz.ntmps140
      go_wp2
      go_ret
      exact ⟨rfl, HU.out⟩
    · skip
      have ga2 : decide (255 < n.blk) = false := by simp; omega
      by_cases a3 : n.too = -1
      rotate_left
      · skip
        have ga3 : (n.too == -1) = false := by simpa using a3
        have ka3 : (n.too != -1) = true := by simp [bne, ga3]
        have hf : MayN n = false := by rw [hM]; simp [mayC, *]
        rw [hf]
        clear hf hM
        go_enter Tryz.func140, Tryz.ntmps140
        go_wp2_with fail
        refine (HT.out _).mono ?_
        rintro e w2 ⟨rfl, rfl⟩
        go_wp2
        go_ret
        exact ⟨rfl, HU.out⟩
      · skip
        have ga3 : (n.too == -1) = true := by simpa using a3
        have ka3 : (n.too != -1) = false := by simp [bne, ga3]
        by_cases a4 : n.frm < 0
        · skip
          have ga4 : decide (n.frm < 0) = true := by simp; omega
          have hf : MayN n = false := by rw [hM]; simp [mayC, *]
          rw [hf]
          clear hf hM
          go_enter Tryz.func140, Tryz.ntmps140
          go_wp2_with fail
          refine (HT.out _).mono ?_
          rintro e w2 ⟨rfl, rfl⟩
          go_wp2
          go_ret
          exact ⟨rfl, HU.out⟩
        · skip
          have ga4 : decide (n.frm < 0) = false := by simp; omega
          by_cases a5 : 15 < n.frm
          · skip
            have ga5 : decide (15 < n.frm) = true := by simp; omega
            have hf : MayN n = false := by rw [hM]; simp [mayC, *]
            rw [hf]
            clear hf hM
            go_enter Tryz.func140, Tryz.ntmps140
            go_wp2_with fail
            refine (HT.out _).mono ?_
            rintro e w2 ⟨rfl, rfl⟩
            go_wp2
            go_ret
            exact ⟨rfl, HU.out⟩
          · skip
            have ga5 : decide (15 < n.frm) = false := by simp; omega
            by_cases a6 : n.stamp = 0
            rotate_left
            · skip
              have ga6 : (n.stamp == 0) = false := by simpa using a6
              have ka6 : (n.stamp != 0) = true := by simp [bne, ga6]
              have hf : MayN n = false := by rw [hM]; simp [mayC, *]
              rw [hf]
              clear hf hM
              go_enter Tryz.func140, Tryz.ntmps140
              go_wp2_with fail
              refine (HT.out _).mono ?_
              rintro e w2 ⟨rfl, rfl⟩
              go_wp2_with fail
              refine (HS.out _).mono ?_
              rintro e w2 ⟨rfl, rfl⟩
              go_wp2
              go_ret
              exact ⟨rfl, HU.out⟩
            · skip
              have ga6 : (n.stamp == 0) = true := by simpa using a6
              have ka6 : (n.stamp != 0) = false := by simp [bne, ga6]
              by_cases a7 : n.state = 0
              rotate_left
              · skip
                have ga7 : (n.state == 0) = false := by simpa using a7
                have ka7 : (n.state != 0) = true := by simp [bne, ga7]
                have hf : MayN n = false := by rw [hM]; simp [mayC, *]
                rw [hf]
                clear hf hM
                go_enter Tryz.func140, Tryz.ntmps140
                go_wp2_with fail
                refine (HT.out _).mono ?_
                rintro e w2 ⟨rfl, rfl⟩
                go_wp2_with fail
                refine (HS.out _).mono ?_
                rintro e w2 ⟨rfl, rfl⟩
                go_wp2
                go_ret
                exact ⟨rfl, HU.out⟩
              · skip
                have ga7 : (n.state == 0) = true := by simpa using a7
                have ka7 : (n.state != 0) = false := by simp [bne, ga7]
                cases b1 : n.stick
                rotate_left
                · skip
                  rw [b1] at f7 e7
                  have hf : MayN n = false := by rw [hM]; simp [mayC, *]
                  rw [hf]
                  clear hf hM
                  go_enter Tryz.func140, Tryz.ntmps140
                  go_wp2_with fail
                  refine (HT.out _).mono ?_
                  rintro e w2 ⟨rfl, rfl⟩
                  go_wp2_with fail
                  refine (HS.out _).mono ?_
                  rintro e w2 ⟨rfl, rfl⟩
                  go_wp2
                  go_ret
                  exact ⟨rfl, HU.out⟩
                · skip
                  rw [b1] at f7 e7
                  cases b2 : n.has
                  · skip
                    rw [b2] at f6 e6
                    have hz : ∀ W, (eqB (.agg n.D) (.agg #[.int .u32 0, .int .u32 0, .int .u32 0, .int .u32 0, .int .u32 0, .int .u32 0, .int .u32 0, .int .u32 0, .int .u32 0, .int .u32 0, .int .u32 0, .int .u32 0, .int .u32 0, .int .u32 0, .int .u32 0, .int .u32 0])).run Tryz.prog W = .ok (.bool (words n.D == words TBlk.Z)) W := fun W => eqB_run hn.isU BU.isU_Z W
                    cases hw : (words n.D == words TBlk.Z)
                    · skip
                      rw [hw] at hz
                      have hf : MayN n = false := by rw [hM]; simp [mayC, *]
                      rw [hf]
                      clear hf hM
                      go_enter Tryz.func140, Tryz.ntmps140
                      go_wp2_with fail
                      refine (HT.out _).mono ?_
                      rintro e w2 ⟨rfl, rfl⟩
                      go_wp2_with fail
                      refine (HS.out _).mono ?_
                      rintro e w2 ⟨rfl, rfl⟩
                      go_wp2
                      go_ret
                      exact ⟨rfl, HU.out⟩
                    · skip
                      rw [hw] at hz
                      have hf : MayN n = true := by rw [hM]; simp [mayC, *]
                      rw [hf]
                      clear hf hM
                      go_enter Tryz.func140, Tryz.ntmps140
                      go_wp2_with fail
                      refine (HT.out _).mono ?_
                      rintro e w2 ⟨rfl, rfl⟩
                      go_wp2_with fail
                      refine (HS.out _).mono ?_
                      rintro e w2 ⟨rfl, rfl⟩
                      go_wp2
                      go_ret
                      exact ⟨rfl, HU.out⟩
                  · skip
                    rw [b2] at f6 e6
                    have hf : MayN n = true := by rw [hM]; simp [mayC, *]
                    rw [hf]
                    clear hf hM
                    go_enter Tryz.func140, Tryz.ntmps140
                    go_wp2_with fail
                    refine (HT.out _).mono ?_
                    rintro e w2 ⟨rfl, rfl⟩
                    go_wp2_with fail
                    refine (HS.out _).mono ?_
                    rintro e w2 ⟨rfl, rfl⟩
                    go_wp2
                    go_ret
                    exact ⟨rfl, HU.out⟩
set_option maxRecDepth 100000 in
set_option maxHeartbeats 2000000 in
theorem rmay_g (n : Nt) (hn : n.Ok) (hk : n.kind = 11) (w : World) : Calls Tryz.prog 140 #[.agg n.cells] w fun e w' => e = .returned (.bool (MayN n)) ∧ Upd NoF w w' := by
  have hkb : kindB n.kind = true := by rw [hk]; rfl
  have hH : toHome n.kind = true := by rw [hk]; rfl
  have hSt : stamped n.kind = false := by rw [hk]; rfl
  have h3 : (n.kind == 3) = false := by rw [hk]; rfl
  have h6 : (n.kind == 6) = false := by rw [hk]; rfl
  have h9 : (n.kind == 9) = false := by rw [hk]; rfl
  have n3 : (n.kind != 3) = true := by simp [bne, h3]
  have n6 : (n.kind != 6) = true := by simp [bne, h6]
  have n9 : (n.kind != 9) = true := by simp [bne, h9]
  have k1 : decide (n.kind < 1) = false := by simp; omega
  have k2 : decide (11 < n.kind) = false := by simp; omega
  have hM := may_c hkb
  rw [hH, hSt, h3, h6, h9] at hM
  have ht := fun W => rtoHome_any n.kind W
  rw [hH] at ht
  have hs := fun W => rstamped_any n.kind W
  rw [hSt] at hs
  have HT := Lib.hid ht; have HS := Lib.hid hs
  have HU := Lib.hid (Upd.alloc NoF w (.cells n.cells 37))
  have hB := Blk.new w n.cells 37
  have f0 : (w.alloc (.cells n.cells 37)).cell? ⟨w.heap.size, 0, none⟩ = some (.int .u8 n.kind) := (hB.cell 0).trans n.get0
  have e0 := n.get0
  have f1 : (w.alloc (.cells n.cells 37)).cell? ⟨w.heap.size, 1, none⟩ = some (.int .i64 n.frm) := (hB.cell 1).trans n.get1
  have e1 := n.get1
  have f2 : (w.alloc (.cells n.cells 37)).cell? ⟨w.heap.size, 2, none⟩ = some (.int .i64 n.too) := (hB.cell 2).trans n.get2
  have e2 := n.get2
  have f3 : (w.alloc (.cells n.cells 37)).cell? ⟨w.heap.size, 3, none⟩ = some (.int .i64 n.blk) := (hB.cell 3).trans n.get3
  have e3 := n.get3
  have f4 : (w.alloc (.cells n.cells 37)).cell? ⟨w.heap.size, 4, none⟩ = some (.int .u64 n.stamp) := (hB.cell 4).trans n.get4
  have e4 := n.get4
  have f5 : (w.alloc (.cells n.cells 37)).cell? ⟨w.heap.size, 5, none⟩ = some (.int .u8 n.state) := (hB.cell 5).trans n.get5
  have e5 := n.get5
  have f6 : (w.alloc (.cells n.cells 37)).cell? ⟨w.heap.size, 6, none⟩ = some (.bool n.has) := (hB.cell 6).trans n.get6
  have e6 := n.get6
  have f7 : (w.alloc (.cells n.cells 37)).cell? ⟨w.heap.size, 7, none⟩ = some (.bool n.stick) := (hB.cell 7).trans n.get7
  have e7 := n.get7
  have l8 : (TBlk.ld (.pointer (some ⟨w.heap.size, 8, none⟩))).run Tryz.prog (w.alloc (.cells n.cells 37)) = .ok (.agg n.D) (w.alloc (.cells n.cells 37)) := by
    refine TBlk.ld_at (BU.IsU.isN hn.isU) ?_
    intro j v hv
    have h9 : n.cells.toList[8 + j]? = some v := by
      have := n.getD j
      simpa [this] using hv
    simpa using hB.whole (8 + j) v h9
  clear hkb ht hs hB hSt hH hk
  by_cases a1 : n.blk < 0
  · skip
    have ga1 : decide (n.blk < 0) = true := by simp; omega
    have hf : MayN n = false := by rw [hM]; simp [mayC, *]
    rw [hf]
    clear hf hM
    go_enter Tryz.func140, Tryz.ntmps140
    go_wp2
    go_ret
    exact ⟨rfl, HU.out⟩
  · skip
    have ga1 : decide (n.blk < 0) = false := by simp; omega
    by_cases a2 : 255 < n.blk
    · skip
      have ga2 : decide (255 < n.blk) = true := by simp; omega
      have hf : MayN n = false := by rw [hM]; simp [mayC, *]
      rw [hf]
      clear hf hM
      go_enter Tryz.func140, Tryz.ntmps140
      go_wp2
      go_ret
      exact ⟨rfl, HU.out⟩
    · skip
      have ga2 : decide (255 < n.blk) = false := by simp; omega
      by_cases a3 : n.too = -1
      rotate_left
      · skip
        have ga3 : (n.too == -1) = false := by simpa using a3
        have ka3 : (n.too != -1) = true := by simp [bne, ga3]
        have hf : MayN n = false := by rw [hM]; simp [mayC, *]
        rw [hf]
        clear hf hM
        go_enter Tryz.func140, Tryz.ntmps140
        go_wp2_with fail
        refine (HT.out _).mono ?_
        rintro e w2 ⟨rfl, rfl⟩
        go_wp2
        go_ret
        exact ⟨rfl, HU.out⟩
      · skip
        have ga3 : (n.too == -1) = true := by simpa using a3
        have ka3 : (n.too != -1) = false := by simp [bne, ga3]
        by_cases a4 : n.frm < 0
        · skip
          have ga4 : decide (n.frm < 0) = true := by simp; omega
          have hf : MayN n = false := by rw [hM]; simp [mayC, *]
          rw [hf]
          clear hf hM
          go_enter Tryz.func140, Tryz.ntmps140
          go_wp2_with fail
          refine (HT.out _).mono ?_
          rintro e w2 ⟨rfl, rfl⟩
          go_wp2
          go_ret
          exact ⟨rfl, HU.out⟩
        · skip
          have ga4 : decide (n.frm < 0) = false := by simp; omega
          by_cases a5 : 15 < n.frm
          · skip
            have ga5 : decide (15 < n.frm) = true := by simp; omega
            have hf : MayN n = false := by rw [hM]; simp [mayC, *]
            rw [hf]
            clear hf hM
            go_enter Tryz.func140, Tryz.ntmps140
            go_wp2_with fail
            refine (HT.out _).mono ?_
            rintro e w2 ⟨rfl, rfl⟩
            go_wp2
            go_ret
            exact ⟨rfl, HU.out⟩
          · skip
            have ga5 : decide (15 < n.frm) = false := by simp; omega
            by_cases a6 : n.stamp = 0
            rotate_left
            · skip
              have ga6 : (n.stamp == 0) = false := by simpa using a6
              have ka6 : (n.stamp != 0) = true := by simp [bne, ga6]
              have hf : MayN n = false := by rw [hM]; simp [mayC, *]
              rw [hf]
              clear hf hM
              go_enter Tryz.func140, Tryz.ntmps140
              go_wp2_with fail
              refine (HT.out _).mono ?_
              rintro e w2 ⟨rfl, rfl⟩
              go_wp2_with fail
              refine (HS.out _).mono ?_
              rintro e w2 ⟨rfl, rfl⟩
              go_wp2
              go_ret
              exact ⟨rfl, HU.out⟩
            · skip
              have ga6 : (n.stamp == 0) = true := by simpa using a6
              have ka6 : (n.stamp != 0) = false := by simp [bne, ga6]
              by_cases a7 : n.state = 0
              rotate_left
              · skip
                have ga7 : (n.state == 0) = false := by simpa using a7
                have ka7 : (n.state != 0) = true := by simp [bne, ga7]
                have hf : MayN n = false := by rw [hM]; simp [mayC, *]
                rw [hf]
                clear hf hM
                go_enter Tryz.func140, Tryz.ntmps140
                go_wp2_with fail
                refine (HT.out _).mono ?_
                rintro e w2 ⟨rfl, rfl⟩
                go_wp2_with fail
                refine (HS.out _).mono ?_
                rintro e w2 ⟨rfl, rfl⟩
                go_wp2
                go_ret
                exact ⟨rfl, HU.out⟩
              · skip
                have ga7 : (n.state == 0) = true := by simpa using a7
                have ka7 : (n.state != 0) = false := by simp [bne, ga7]
                cases b1 : n.stick
                rotate_left
                · skip
                  rw [b1] at f7 e7
                  have hf : MayN n = false := by rw [hM]; simp [mayC, *]
                  rw [hf]
                  clear hf hM
                  go_enter Tryz.func140, Tryz.ntmps140
                  go_wp2_with fail
                  refine (HT.out _).mono ?_
                  rintro e w2 ⟨rfl, rfl⟩
                  go_wp2_with fail
                  refine (HS.out _).mono ?_
                  rintro e w2 ⟨rfl, rfl⟩
                  go_wp2
                  go_ret
                  exact ⟨rfl, HU.out⟩
                · skip
                  rw [b1] at f7 e7
                  cases b2 : n.has
                  rotate_left
                  · skip
                    rw [b2] at f6 e6
                    have hf : MayN n = false := by rw [hM]; simp [mayC, *]
                    rw [hf]
                    clear hf hM
                    go_enter Tryz.func140, Tryz.ntmps140
                    go_wp2_with fail
                    refine (HT.out _).mono ?_
                    rintro e w2 ⟨rfl, rfl⟩
                    go_wp2_with fail
                    refine (HS.out _).mono ?_
                    rintro e w2 ⟨rfl, rfl⟩
                    go_wp2
                    go_ret
                    exact ⟨rfl, HU.out⟩
                  · skip
                    rw [b2] at f6 e6
                    have hz : ∀ W, (eqB (.agg n.D) (.agg #[.int .u32 0, .int .u32 0, .int .u32 0, .int .u32 0, .int .u32 0, .int .u32 0, .int .u32 0, .int .u32 0, .int .u32 0, .int .u32 0, .int .u32 0, .int .u32 0, .int .u32 0, .int .u32 0, .int .u32 0, .int .u32 0])).run Tryz.prog W = .ok (.bool (words n.D == words TBlk.Z)) W := fun W => eqB_run hn.isU BU.isU_Z W
                    cases hw : (words n.D == words TBlk.Z)
                    · skip
                      rw [hw] at hz
                      have hf : MayN n = false := by rw [hM]; simp [mayC, *]
                      rw [hf]
                      clear hf hM
                      go_enter Tryz.func140, Tryz.ntmps140
                      go_wp2_with fail
                      refine (HT.out _).mono ?_
                      rintro e w2 ⟨rfl, rfl⟩
                      go_wp2_with fail
                      refine (HS.out _).mono ?_
                      rintro e w2 ⟨rfl, rfl⟩
                      go_wp2
                      go_ret
                      exact ⟨rfl, HU.out⟩
                    · skip
                      rw [hw] at hz
                      have hf : MayN n = true := by rw [hM]; simp [mayC, *]
                      rw [hf]
                      clear hf hM
                      go_enter Tryz.func140, Tryz.ntmps140
                      go_wp2_with fail
                      refine (HT.out _).mono ?_
                      rintro e w2 ⟨rfl, rfl⟩
                      go_wp2_with fail
                      refine (HS.out _).mono ?_
                      rintro e w2 ⟨rfl, rfl⟩
                      go_wp2
                      go_ret
                      exact ⟨rfl, HU.out⟩
set_option maxRecDepth 100000 in
theorem rMay_any (n : Nt) (hn : n.Ok) (w : World) : Calls Tryz.prog 140 #[.agg n.cells] w fun e w' => e = .returned (.bool (MayN n)) ∧ Upd NoF w w' := by
  by_cases hk : 1 ≤ n.kind ∧ n.kind ≤ 11
  · have : (n.kind = 1 ∨ n.kind = 2 ∨ n.kind = 10) ∨ n.kind = 3 ∨ (n.kind = 4 ∨ n.kind = 5 ∨ n.kind = 7) ∨ n.kind = 6 ∨ n.kind = 8 ∨ n.kind = 9 ∨ n.kind = 11 := by omega
    rcases this with h | h | h | h | h | h | h
    · exact rmay_a n hn h w
    · exact rmay_b n hn h w
    · exact rmay_c n hn h w
    · exact rmay_d n hn h w
    · exact rmay_e n hn h w
    · exact rmay_f n hn h w
    · exact rmay_g n hn h w
  · have hkb : kindB n.kind = false := by unfold kindB; by_cases h1 : 1 ≤ n.kind <;> simp_all <;> omega
    have hf : MayN n = false := by unfold MayN; rw [hkb]; simp
    rw [hf]
    have e0 := n.get0
    have f0 : (w.alloc (.cells n.cells 37)).cell? ⟨w.heap.size, 0, none⟩ = some (.int .u8 n.kind) := ((Blk.new w n.cells 37).cell 0).trans n.get0
    have HU := Lib.hid (Upd.alloc NoF w (.cells n.cells 37))
    clear hf hkb
    by_cases k1 : n.kind < 1
    · have g1 : decide (n.kind < 1) = true := by simp; omega
      go_enter Tryz.func140, Tryz.ntmps140
      go_wp2
      go_ret
      exact ⟨rfl, HU.out⟩
    · have g1 : decide (n.kind < 1) = false := by simp; omega
      have g2 : decide (11 < n.kind) = true := by simp; omega
      go_enter Tryz.func140, Tryz.ntmps140
      go_wp2
      go_ret
      exact ⟨rfl, HU.out⟩
end Go.Proofs.YtjgeflbhmhmjdaaGreat.NC
