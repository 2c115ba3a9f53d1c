/- The contracts of the reference undertowref12: Put, Kill. -/
import Derived.Test.YtoddipfgkbaeaaaBacksRef
set_option linter.unusedSimpArgs false
set_option linter.unusedVariables false
namespace Go.Proofs.Ytoddipfgkbaeaaa.BK
open Go.RowKit
open PL (Cfg CC CV May)
attribute [local go_sem] Oper.semAt_some
attribute [local go_sem ↓] TBlk.ld_eq TBlk.st_eq TBlk.al_eq TBlk.bx_eq TRbk.ld_eq TRbk.st_eq TRbk.al_eq TRbk.bx_eq
attribute [local go_sem] TBlk.al_run TBlk.bx_run TRbk.al_run TRbk.bx_run

set_option maxRecDepth 100000 in
set_option maxHeartbeats 2000000 in
theorem rkill_any {data room : Int} (w : World) (F : Nat → Prop) (rb n : Nat) (zs : List Bk) (most b : Int) (h : (Ro rb n zs most).is w F) (hv : Inv data room zs) (hn : (n : Int) = data) (hm : n ≤ 65536) :
    Calls Try.prog 23 #[ptr rb, .int .i64 b] w fun e w' => e = .returned (.bool (killB zs b)) ∧ Upd F w w' ∧ (Ro rb n (killS zs b) most).is w' (AndNew F w) := by
  have HH := rhas_any w F rb n zs most b h hv hn hm
  cases hf : findB zs b with
  | none =>
    have e1 : killB zs b = false := by unfold killB; rw [hf]
    have e2 : killS zs b = zs := by unfold killS; rw [hf]
    rw [hf] at HH
    rw [e1, e2]
    have HH' := Lib.hid HH
    have HF := Lib.hid ((Ro rb n zs most).mono h (G := AndNew F w) (fun k hk => .inl hk))
    clear HH h hf e1 e2
    go_enter Try.func23, Try.ntmps23
    go_wp2_with fail
    refine HH'.out.mono ?_
    rintro e w2 ⟨rfl, rfl⟩
    go_wp2
    go_ret
    exact ⟨rfl, Upd.refl _ _, HF.out⟩
  | some z =>
    obtain ⟨i, hx, hi2, hzb⟩ := find_of hf
    have hrg := hv.rng z (List.mem_of_getElem? hi2)
    rw [hzb] at hrg
    obtain ⟨k, rfl⟩ : ∃ k : Nat, b = k := ⟨b.toNat, by omega⟩
    have hk : k < n := by omega
    have hkn : (k : Int) < (n : Int) := by omega
    obtain ⟨g, hb, hg, hFb, hFg, hne, hr⟩ := open_ro h hv
    have c0 : w.cell? ⟨rb, 0, none⟩ = some (.slice (some ⟨g, 0, none⟩) n n) := hb.cell 0
    have hrk := hr k hk
    have hrec : recOf zs k = recA true z.live z.D := by unfold recOf; rw [hf]
    rw [hrec] at hrk
    obtain ⟨_, r1, _⟩ := rec_cells hrk
    have e1 : killB zs k = z.live := by unfold killB; rw [hf]
    rw [hf] at HH
    rw [e1]
    have HH' := Lib.hid HH
    cases hl : z.live with
    | false =>
      have e2 : killS zs k = zs := by unfold killS; rw [hf]; show (if z.live then _ else zs) = zs; rw [hl]; rfl
      rw [e2]
      rw [hl] at r1
      have HF := Lib.hid ((Ro rb n zs most).mono h (G := AndNew F w) (fun k hk => .inl hk))
      clear HH h hf hx e1 e2 hb hg hFb hFg hne hr hrk hrec hi2 hzb hrg hv hl
      go_enter Try.func23, Try.ntmps23
      go_wp2_with fail
      refine HH'.out.mono ?_
      rintro e w2 ⟨rfl, rfl⟩
      go_wp2
      go_ret
      exact ⟨rfl, Upd.refl _ _, HF.out⟩
    | true =>
      have hks := kill_same hv (k : Int) hf
      have hfk : ∃ y, findB (killS zs (k : Int)) k = some y ∧ y.D = z.D ∧ y.live = false := by
        have hm : (⟨k, z.D, false⟩ : Bk) ∈ killS zs (k : Int) := by unfold killS; rw [hf]; show _ ∈ (if z.live then _ else zs); rw [hl, if_pos rfl]; simp
        exact ⟨_, (find_some_iff (hv.kill (k : Int))).2 ⟨hm, rfl⟩, rfl, rfl⟩
      obtain ⟨y, hy1, hy2, hy3⟩ := hfk
      have hrec' : recOf (killS zs (k : Int)) k = (recOf zs k).setIfInBounds 1 (.bool false) := by
        rw [hrec]; unfold recOf; rw [hy1]
        show recA true y.live y.D = _
        rw [hy2, hy3, hl]
        unfold recA
        apply Array.ext_getElem?
        intro j
        rw [Array.getElem?_setIfInBounds]
        rcases Nat.lt_or_ge j 2 with hj | hj
        · have : j = 0 ∨ j = 1 := by omega
          rcases this with rfl | rfl
          · rw [if_neg (by decide), Array.getElem?_append_left (by simp), Array.getElem?_append_left (by simp)]
            rfl
          · rw [if_pos rfl, if_pos (by simp; omega), Array.getElem?_append_left (by simp)]
            rfl
        · rw [if_neg (by omega), Array.getElem?_append_right (by simpa using hj), Array.getElem?_append_right (by simpa using hj)]
          rfl
      have hget : (recs zs n)[k]? = some (recOf zs k) := recs_get zs hk
      have hset := recs_set (ys := killS zs (k : Int)) hk (fun b' hb' => kill_otherB hv (k : Int) b' (by omega))
      have hq := hg.set (k * 18 + 1) (.bool false)
      rw [flat_set1 (recs_isN hv n) (by decide) hget (by decide) (.bool false) rfl, ← hrec', ← hset] at hq
      have hu : Upd (fun i => i = g) w (w.setCell ⟨g, k * 18 + 1, none⟩ (.bool false)) := Upd.setCell (F := fun i => i = g) w (p := ⟨g, k * 18 + 1, none⟩) rfl _
      have HF : Hid (Upd F w (w.setCell ⟨g, k * 18 + 1, none⟩ (.bool false)) ∧ (Ro rb n (killS zs (k : Int)) most).is (w.setCell ⟨g, k * 18 + 1, none⟩ (.bool false)) (AndNew F w)) :=
        ⟨hu.mono (fun i _ hi => by subst hi; exact hFg), g, (fun i => i = rb), (fun i => i = g), fun i hi => by subst hi; exact .inl hFb, fun i hi => by subst hi; exact .inl hFg, fun i hi hj => by omega, ⟨hb.upd hu (fun e => hne e.symm), rfl⟩, ⟨hq, rfl⟩⟩
      rw [hl] at r1
      have fz := hg.frozen (k * 18 + 1)
      clear HH h hf hx e1 hb hg hFb hFg hne hr hrk hrec hi2 hzb hrg hv hl hks hy1 hy2 hy3 hrec' hget hset hq hu
      go_enter Try.func23, Try.ntmps23
      go_wp2_with fail
      refine HH'.out.mono ?_
      rintro e w2 ⟨rfl, rfl⟩
      go_wp2
      go_ret
      exact ⟨rfl, HF.out⟩
set_option maxRecDepth 100000 in
set_option maxHeartbeats 2000000 in
theorem rput_any {data : Int} (w : World) (F : Nat → Prop) (rb n : Nat) (zs : List Bk) (most b : Int) (D : Array Value) (hD : IsN 16 D) (h : (Ro rb n zs most).is w F) (hv : Inv data most zs) (hn : (n : Int) = data) (hm : n ≤ 65536) :
    Calls Try.prog 22 #[ptr rb, .int .i64 b, .agg D] w fun e w' => e = .returned (.int .i64 (putE data most zs b)) ∧ Upd F w w' ∧ (Ro rb n (putS data most zs b D) most).is w' (AndNew F w) := by
  have hu1 := Upd.alloc NoF w (.cells D 32)
  have h1 := (Ro rb n zs most).keep h (hu1.kept (fun _ _ _ h => h))
  obtain ⟨g, hb, hg, hFb, hFg, hne, hr⟩ := open_ro h hv
  have c0 : (w.alloc (.cells D 32)).cell? ⟨rb, 0, none⟩ = some (.slice (some ⟨g, 0, none⟩) n n) := (hb.alloc _).cell 0
  have c1 : (w.alloc (.cells D 32)).cell? ⟨rb, 1, none⟩ = some (.int .i64 most) := (hb.alloc _).cell 1
  have same : ∀ w' : World, Upd NoF w w' → putE data most zs b ≠ 0 → Upd F w w' ∧ (Ro rb n (putS data most zs b D) most).is w' (AndNew F w) := fun w' hu he => by
    rw [put_none he]
    exact ⟨hu.mono (fun _ _ h => h.elim), (Ro rb n zs most).mono ((Ro rb n zs most).keep h (hu.kept (fun _ _ _ h => h))) (fun k hk => .inl hk)⟩
  have HSame := Lib.hid same
  clear same
  by_cases h0 : b < 0 ∨ data ≤ b
  · have he : putE data most zs b = 2 := by unfold putE; rw [if_pos h0]
    have HR := Lib.hid (HSame.out _ hu1 (by rw [he]; decide))
    rw [he]
    clear h h1 hb hg hr he hu1 hv HSame
    subst hn
    by_cases h1 : b < 0
    · go_enter Try.func22, Try.ntmps22
      go_wp2
      go_ret
      exact ⟨rfl, HR.out⟩
    · have h2 : (n : Int) ≤ b := by omega
      go_enter Try.func22, Try.ntmps22
      go_wp2
      go_ret
      exact ⟨rfl, HR.out⟩
  · obtain ⟨k, rfl⟩ : ∃ k : Nat, b = k := ⟨b.toNat, by omega⟩
    have hk : k < n := by omega
    have hkn : (k : Int) < (n : Int) := by omega
    have hk0 : ¬ ((n : Int) ≤ (k : Int)) := by omega
    have hrk := hr k hk
    cases hf : findB zs (k : Int) with
    | some z =>
      have he := putE_there hv hf
      have HR := Lib.hid (HSame.out _ hu1 (by rw [he]; decide))
      rw [he]
      unfold recOf at hrk
      rw [hf] at hrk
      have k0 := hu1.cell (rec_cells hrk).1 (fun h => h)
      clear h h1 hb hg hr he hu1 hv HSame hrk hf h0 hn
      go_enter Try.func22, Try.ntmps22
      go_wp2
      go_ret
      exact ⟨rfl, HR.out⟩
    | none =>
      have hx := find_none_of hf
      have hrk0 := hrk
      unfold recOf at hrk0
      rw [hf] at hrk0
      have k0 := hu1.cell (rec_cells hrk0).1 (fun h => h)
      have HL := Lib.hid (fun (m : Nat) => rlen_any ((w.alloc (.cells D 32)).drewN m) F rb n zs most ((Ro rb n zs most).keep h1 ((Upd.drewN NoF _ m).kept (fun _ _ _ h => h))) hv hn hm)
      by_cases hl : most ≤ (zs.length : Int)
      · have he : putE data most zs k = 7 := by unfold putE; rw [if_neg h0, hx]; simp [hl]
        have HR := Lib.hid (fun (m : Nat) => HSame.out _ (hu1.trans (Upd.drewN NoF _ m) (fun _ _ h => h)) (by rw [he]; decide))
        rw [he]
        clear h h1 hb hg hr he hu1 hv HSame hrk hrk0 hf h0 hn hx
        generalize (zs.length : Int) = len at *
        go_enter Try.func22, Try.ntmps22
        go_wp2
        go_quiet (first | (go_at_call 26; exact Calls.quiet_of_same ((HL.out _).mono (fun _ _ h => ⟨h.1, h.2.symm⟩))))
        go_wp2
        go_ret
        exact ⟨rfl, HR.out _⟩
      · have he : putE data most zs k = 0 := by unfold putE; rw [if_neg h0, hx]; simp [hl]
        have hlb : ¬ most ≤ (zs.length : Int) := hl
        have hrec : recOf (putS data most zs (k : Int) D) k = recA true true D := by
          unfold recOf
          have hm : (⟨k, D, true⟩ : Bk) ∈ putS data most zs (k : Int) D := by unfold putS; rw [if_pos he]; simp
          rw [(find_some_iff (hv.put (k : Int) hD)).2 ⟨hm, rfl⟩]
        have q1 := Blk.new w D 32
        have HQ := Lib.hid (fun (m : Nat) => by
          have hum := hu1.trans (Upd.drewN NoF (w.alloc (.cells D 32)) m) (fun _ _ h => h)
          have hbm := hb.upd hum (fun h => h)
          have hgm := hg.upd hum (fun h => h)
          have hst := ro_store (w' := ((w.alloc (.cells D 32)).drewN m).setCells g (k * 18) (recA true true D).toList) hv (hv.put (k : Int) hD) hk (fun b' hb' => put_otherB hv (k : Int) b' (by omega) hD) hbm hgm hFb hFg hne (by rw [hrec])
          have hth : ((w.alloc (.cells D 32)).drewN m).there g (k * 18) (recA true true D).size := there_of hgm (by
            have hfl := flat_len (recs_isN hv n)
            have : (recs zs n).length = n := by simp [recs]
            rw [this] at hfl
            simp only [List.size_toArray]
            rw [hfl, (recA_isN hD).1, ← Nat.succ_mul]
            exact Nat.mul_le_mul_right _ hk)
          have s1 : (TRbk.st (.pointer (some ⟨g, k * 18, none⟩)) (.agg (recA true true D))).run Try.prog ((w.alloc (.cells D 32)).drewN m) = .ok () (((w.alloc (.cells D 32)).drewN m).setCells g (k * 18) (recA true true D).toList) := run_storeAt_mid _ g (k * 18) 70 (recA true true D) hth (by rw [TRbk.infoS, (recA_isN hD).1]) (recA_isN hD).all
          have l1 := TBlk.ld_at hD (q1.upd (Upd.drewN NoF _ m) (fun h => h)).whole
          exact And.intro l1 (And.intro s1 (And.intro ((hum.mono (G := F) (fun _ _ h => h.elim)).trans hst.1 (fun _ _ h => h)) ((Ro rb n (putS data most zs (k : Int) D) most).mono hst.2 (AndNew.le hum.size)))))
        rw [he]
        obtain ⟨d0, d1, d2, d3, d4, d5, d6, d7, d8, d9, d10, d11, d12, d13, d14, d15, rfl⟩ := split16 hD.1
        have hl1 := fun m => (HQ.out m).1
        have hs1 : ∀ m : Nat, (TRbk.st (.pointer (some ⟨g, k * 18, none⟩)) (.agg #[.bool true, .bool true, d0, d1, d2, d3, d4, d5, d6, d7, d8, d9, d10, d11, d12, d13, d14, d15])).run Try.prog ((w.alloc (.cells #[d0, d1, d2, d3, d4, d5, d6, d7, d8, d9, d10, d11, d12, d13, d14, d15] 32)).drewN m) = .ok () (((w.alloc (.cells #[d0, d1, d2, d3, d4, d5, d6, d7, d8, d9, d10, d11, d12, d13, d14, d15] 32)).drewN m).setCells g (k * 18) (recA true true #[d0, d1, d2, d3, d4, d5, d6, d7, d8, d9, d10, d11, d12, d13, d14, d15]).toList) := fun m => by
          have e : recA true true #[d0, d1, d2, d3, d4, d5, d6, d7, d8, d9, d10, d11, d12, d13, d14, d15] = #[.bool true, .bool true, d0, d1, d2, d3, d4, d5, d6, d7, d8, d9, d10, d11, d12, d13, d14, d15] := by kernel_rfl
          rw [← e]; exact (HQ.out m).2.1
        have HR := Lib.hid (fun m => (HQ.out m).2.2)
        clear h h1 hb hg hr he hu1 hv HSame hrk hrk0 hf h0 hn hx HQ q1 hrec hD
        generalize (zs.length : Int) = len at *
        go_enter Try.func22, Try.ntmps22
        go_wp2
        go_quiet (first | (go_at_call 26; exact Calls.quiet_of_same ((HL.out _).mono (fun _ _ h => ⟨h.1, h.2.symm⟩))))
        go_wp2
        go_region_with (fail)
        all_goals
          go_wp2
          go_ret
          exact ⟨rfl, HR.out _⟩
end Go.Proofs.Ytoddipfgkbaeaaa.BK
