/- The calls of a script on package backs (for BacksCopies). -/
import Derived.Test.YtoddipfgkbaeaaaBacksOps
import Derived.Test.YtoddipfgkbaeaaaBacksMostW
set_option linter.unusedSimpArgs false
set_option linter.unusedVariables false
namespace Go.Proofs.Ytoddipfgkbaeaaa.BK
open Go.RowKit
open PL (Cfg CC CV May)
attribute [local go_sem] Oper.semAt_some
attribute [local go_sem ↓] TBlk.ld_eq TBlk.st_eq TBlk.al_eq
attribute [local go_sem] TBlk.al_run

/-- Sixteen words. -/
def IsU (D : Array Value) : Prop := D.size = 16 ∧ ∀ u ∈ D, ∃ n : Int, u = .int .u32 n
theorem IsU.isN {D : Array Value} (h : IsU D) : IsN 16 D := ⟨h.1, fun u hu => by obtain ⟨n, rfl⟩ := h.2 u hu; rfl⟩
theorem isU_Z : IsU TBlk.Z := ⟨TBlk.size_Z, fun u hu => by
  simp only [TBlk.Z, List.mem_toArray, List.mem_cons, List.not_mem_nil, or_false, or_self] at hu
  exact ⟨0, hu⟩⟩
theorem neqU {D : Array Value} (h : IsU D) (w : World) : (Op.equalIn 10000 32 (.agg D) (.agg D)).run Try.prog w = .ok true w := by
  obtain ⟨d0, d1, d2, d3, d4, d5, d6, d7, d8, d9, d10, d11, d12, d13, d14, d15, rfl⟩ := split16 h.1
  have k : ∀ u ∈ #[d0, d1, d2, d3, d4, d5, d6, d7, d8, d9, d10, d11, d12, d13, d14, d15], ∃ n : Int, u = .int .u32 n := h.2
  clear h
  obtain ⟨n0, e0⟩ := k d0 (by simp); subst e0
  obtain ⟨n1, e1⟩ := k d1 (by simp); subst e1
  obtain ⟨n2, e2⟩ := k d2 (by simp); subst e2
  obtain ⟨n3, e3⟩ := k d3 (by simp); subst e3
  obtain ⟨n4, e4⟩ := k d4 (by simp); subst e4
  obtain ⟨n5, e5⟩ := k d5 (by simp); subst e5
  obtain ⟨n6, e6⟩ := k d6 (by simp); subst e6
  obtain ⟨n7, e7⟩ := k d7 (by simp); subst e7
  obtain ⟨n8, e8⟩ := k d8 (by simp); subst e8
  obtain ⟨n9, e9⟩ := k d9 (by simp); subst e9
  obtain ⟨n10, e10⟩ := k d10 (by simp); subst e10
  obtain ⟨n11, e11⟩ := k d11 (by simp); subst e11
  obtain ⟨n12, e12⟩ := k d12 (by simp); subst e12
  obtain ⟨n13, e13⟩ := k d13 (by simp); subst e13
  obtain ⟨n14, e14⟩ := k d14 (by simp); subst e14
  obtain ⟨n15, e15⟩ := k d15 (by simp); subst e15
  have hi : (Try.prog.info? 30).isSome = true := by kernel_rfl
  obtain ⟨i, hi⟩ := Option.isSome_iff_exists.1 hi
  have hc : Try.prog.cellsOf 30 = 1 := by kernel_rfl
  have hA := fun xs ys => run_equalIn_array (P := Try.prog) (w := w) 9999 xs ys Try.underlying32 hi
  rw [hA]
  simp [go_sem, hc, Op.eqItems]
def DX (x : Int) : Array Value := #[.int .u32 x, .int .u32 0, .int .u32 0, .int .u32 0, .int .u32 0, .int .u32 0, .int .u32 0, .int .u32 0, .int .u32 0, .int .u32 0, .int .u32 0, .int .u32 0, .int .u32 0, .int .u32 0, .int .u32 0, .int .u32 0]
theorem isU_DX (x : Int) : IsU (DX x) := ⟨by kernel_rfl, fun u hu => by
  simp only [DX, List.mem_toArray, List.mem_cons, List.not_mem_nil, or_false, or_self] at hu
  rcases hu with hu | hu
  · exact ⟨x, hu⟩
  · exact ⟨0, hu⟩⟩

def AllU (zs : List Bk) : Prop := ∀ z ∈ zs, IsU z.D
/-- One call of the script. -/
def stepC (data room : Int) (zs : List Bk) (k b x : Int) : List Bk := if k = 0 then putS data room zs b (DX x) else if k = 2 then killS zs b else if k = 3 then dropS zs b else zs
def runC (data room : Int) (zs : List Bk) (K B X : Nat → Int) : Nat → List Bk
  | 0 => zs
  | n + 1 => stepC data room (runC data room zs K B X n) (K n) (B n) (X n)
theorem allU_drop {zs : List Bk} (h : AllU zs) (b : Int) : AllU (dropS zs b) := fun z hz => by
  unfold dropS at hz
  cases hx : ixB zs b with
  | none => rw [hx] at hz; exact h z hz
  | some i => rw [hx] at hz; exact h z (List.mem_of_mem_eraseIdx hz)
theorem allU_put {data room : Int} {zs : List Bk} (h : AllU zs) (b : Int) {D : Array Value} (hD : IsU D) : AllU (putS data room zs b D) := fun z hz => by
  unfold putS at hz
  split at hz
  · rcases List.mem_append.1 hz with hz | hz
    · exact h z hz
    · simp at hz; subst hz; exact hD
  · exact h z hz
theorem allU_kill {zs : List Bk} (h : AllU zs) (b : Int) : AllU (killS zs b) := fun z hz => by
  unfold killS at hz
  cases hx : findB zs b with
  | none => rw [hx] at hz; exact h z hz
  | some y =>
    rw [hx] at hz
    obtain ⟨i, h1, h2, h3⟩ := find_of hx
    replace hz : z ∈ (if y.live then dropS zs b ++ [⟨b, y.D, false⟩] else zs) := hz
    split at hz
    · rcases List.mem_append.1 hz with hz | hz
      · exact allU_drop h b z hz
      · simp at hz; subst hz; exact h y (List.mem_of_getElem? h2)
    · exact h z hz
theorem step_ok {data room : Int} {zs : List Bk} (h : Inv data room zs) (hu : AllU zs) (k b x : Int) : Inv data room (stepC data room zs k b x) ∧ AllU (stepC data room zs k b x) := by
  unfold stepC
  split
  · exact ⟨h.put b (isU_DX x).isN, allU_put hu b (isU_DX x)⟩
  · split
    · exact ⟨h.kill b, allU_kill hu b⟩
    · split
      · exact ⟨h.drop b, allU_drop hu b⟩
      · exact ⟨h, hu⟩
theorem find_tuple {zs : List Bk} (h : AllU zs) (b : Int) : ∃ D lv is, findV zs b = .tuple #[.agg D, .bool lv, .bool is] ∧ IsU D := by
  unfold findV
  cases hx : findB zs b with
  | none => exact ⟨_, _, _, rfl, isU_Z⟩
  | some z =>
    obtain ⟨i, h1, h2, h3⟩ := find_of hx
    exact ⟨_, _, _, rfl, h z (List.mem_of_getElem? h2)⟩

/-- A step on the i-th object, whose blocks are all new. -/
theorem Sep.callN {P : Program} {G : Nat → Prop} {w0 W : World} {L : List Obj} {Φ Φ' : Obj} (h : Sep G w0 W L) (i : Nat) (hi : L[i]? = some Φ) {f : FuncId} {args : Array Value} {E : Ending → Prop}
    (hc : ∀ F, Φ.is W F → (∀ k, F k → AndNew G w0 k) → Calls P f args W fun e W' => E e ∧ Upd F W W' ∧ Φ'.is W' (AndNew F W)) : Calls P f args W fun e W' => E e ∧ Sep G w0 W' (L.set i Φ') := by
  obtain ⟨F, h1, h2, _, h4⟩ := h.own.at i hi h.newM
  refine (hc F h2 (fun k hk => (h1 k hk).1)).mono fun e W' ⟨he, hu, hi'⟩ => ⟨he, h.upd.trans hu (fun k hk hf => ?_), h4 Φ' W' hu hi'⟩
  rcases (h1 k hf).1 with hg | hg
  · exact hg
  · omega

abbrev opB (ob : Nat) (k b x : Int) : Obj := boxO ob #[.int .i64 k, .int .i64 b, .int .u32 x] 41
set_option maxRecDepth 100000 in
set_option maxHeartbeats 2000000 in
/-- The calls of a script. -/
theorem do_any (w : World) (F : Nat → Prop) (kb : Nat) (data room : Int) (zs : List Bk) (a : Option Addr) (len cap : Nat) (K B X : Nat → Int) (h : (Bo kb data zs room).is w F) (hv : Inv data room zs) (hu : AllU zs) (hr : room ≤ 65536) (hlc : len ≤ cap) (hcm : cap ≤ maxLen)
    (hc : ∀ i, i < len → ∃ x g q, a = some x ∧ x.add (i * 3) = ⟨g, q, none⟩ ∧ ¬ F g ∧ w.cell? ⟨g, q, none⟩ = some (.int .i64 (K i)) ∧ w.cell? ⟨g, q + 1, none⟩ = some (.int .i64 (B i)) ∧ w.cell? ⟨g, q + 2, none⟩ = some (.int .u32 (X i))) :
    Calls Try.prog 17 #[ptr kb, .slice a len cap] w fun e w' => (∃ v, e = .returned v) ∧ Upd F w w' ∧ (Bo kb data (runC data room zs K B X len) room).is w' (AndNew F w) := by
  have HC := Lib.hid hc
  have HS0 := Lib.hid (Sep.start (Φ := Bo kb data zs room) h)
  have HV := Lib.hid hv; have HU := Lib.hid hu
  unfold maxLen at hcm
  clear hc h hv hu
  go_enter Try.func17, Try.ntmps17
  go_wp2_with fail
  go_loopw [8] (fun i wr => ∃ (k : Nat) (ys : List Bk), k ≤ len ∧ i = .int .i64 k ∧ Hid (ys = runC data room zs K B X k ∧ Inv data room ys ∧ AllU ys ∧ Sep F w wr [Bo kb data ys room])) (fun i _ => len - (intOf i).toNat)
  case atStart => exact ⟨0, zs, Nat.zero_le _, rfl, rfl, HV.out, HU.out, HS0.out⟩
  case round =>
    obtain ⟨k, ys, hk, rfl, HI⟩ := hrel
    by_cases hlt : k < len
    · obtain ⟨x, g, q, rfl, hxa, hgF, g0, g1, g2⟩ := HC.out k hlt
      replace g0 := HI.out.2.2.2.upd.cell g0 hgF
      replace g1 := HI.out.2.2.2.upd.cell g1 hgF
      replace g2 := HI.out.2.2.2.upd.cell g2 hgF
      have hnx : runC data room zs K B X (k + 1) = stepC data room ys (K k) (B k) (X k) := by rw [HI.out.1]; rfl
      have hok := step_ok HI.out.2.1 HI.out.2.2.1 (K k) (B k) (X k)
      generalize K k = kk at *
      generalize B k = bb at *
      generalize X k = xx at *
      obtain ⟨w5, hw5⟩ : ∃ W, wr.alloc (.cells #[.int .i64 kk, .int .i64 bb, .int .u32 xx] 41) = W := ⟨_, rfl⟩
      have HS5 : Hid (Sep F w w5 [opB wr.heap.size kk bb xx, Bo kb data ys room]) := Lib.hid (by rw [← hw5]; exact HI.out.2.2.2.alloc _ _)
      have HW5 := Lib.hid hw5
      have HVy := Lib.hid HI.out.2.1
      have p1 : w5.cell? ⟨wr.heap.size, 1, none⟩ = some (.int .i64 bb) := (HS5.out.box 0 rfl).cell 1
      have p2 : w5.cell? ⟨wr.heap.size, 2, none⟩ = some (.int .u32 xx) := (HS5.out.box 0 rfl).cell 2
      have HNX := Lib.hid hnx; have HOK := Lib.hid hok
      clear hw5 hnx hok HI
      by_cases h0 : kk = 0
      · subst h0
        have es : stepC data room ys 0 bb xx = putS data room ys bb (DX xx) := rfl
        rw [es] at HNX HOK
        go_wp2_with fail
        rw [HW5.out]
        refine (s_put HS5.out 1 rfl HVy.out hr bb (DX xx) (isU_DX xx).isN).mono ?_
        rintro e w6 ⟨rfl, hs⟩
        have HS6 : Hid (Sep F w w6 [Bo kb data (putS data room ys bb (DX xx)) room]) := Lib.hid (hs.drop 0 (Nat.succ_pos _))
        clear hs
        go_wp2_with fail
        exact ⟨⟨k + 1, _, by omega, by go_num, HNX.out.symm, HOK.out.1, HOK.out.2, HS6.out⟩, by simp [intOf]; omega⟩
      · have h0b : (kk == 0) = false := by simpa using h0
        by_cases h2 : kk = 2
        · subst h2
          have es : stepC data room ys 2 bb xx = killS ys bb := rfl
          rw [es] at HNX HOK
          go_wp2_with fail
          rw [HW5.out]
          refine (s_kill HS5.out 1 rfl HVy.out hr bb).mono ?_
          rintro e w6 ⟨rfl, hs⟩
          have HS6 : Hid (Sep F w w6 [Bo kb data (killS ys bb) room]) := Lib.hid (hs.drop 0 (Nat.succ_pos _))
          clear hs
          go_wp2_with fail
          exact ⟨⟨k + 1, _, by omega, by go_num, HNX.out.symm, HOK.out.1, HOK.out.2, HS6.out⟩, by simp [intOf]; omega⟩
        · have h2b : (kk == 2) = false := by simpa using h2
          by_cases h3 : kk = 3
          · subst h3
            have es : stepC data room ys 3 bb xx = dropS ys bb := rfl
            rw [es] at HNX HOK
            go_wp2_with fail
            rw [HW5.out]
            refine (s_drop HS5.out 1 rfl HVy.out hr bb).mono ?_
            rintro e w6 ⟨rfl, hs⟩
            have HS6 : Hid (Sep F w w6 [Bo kb data (dropS ys bb) room]) := Lib.hid (hs.drop 0 (Nat.succ_pos _))
            clear hs
            go_wp2_with fail
            exact ⟨⟨k + 1, _, by omega, by go_num, HNX.out.symm, HOK.out.1, HOK.out.2, HS6.out⟩, by simp [intOf]; omega⟩
          · have h3b : (kk == 3) = false := by simpa using h3
            have es : stepC data room ys kk bb xx = ys := by unfold stepC; rw [if_neg h0, if_neg h2, if_neg h3]
            rw [es] at HNX HOK
            go_wp2_with fail
            rw [HW5.out]
            have HS6 : Hid (Sep F w w5 [Bo kb data ys room]) := Lib.hid (HS5.out.drop 0 (Nat.succ_pos _))
            exact ⟨⟨k + 1, _, by omega, by go_num, HNX.out.symm, HOK.out.1, HOK.out.2, HS6.out⟩, by simp [intOf]; omega⟩
    · obtain rfl : len = k := by omega
      go_wp2_with fail
      go_end0
      obtain ⟨r1, r2⟩ := HI.out.2.2.2.fin
      rw [HI.out.1] at r2
      exact ⟨⟨_, rfl⟩, r1, r2⟩
end Go.Proofs.Ytoddipfgkbaeaaa.BK
