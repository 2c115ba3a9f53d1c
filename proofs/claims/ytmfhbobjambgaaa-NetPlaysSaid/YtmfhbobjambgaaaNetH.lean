/- The contracts of package net: Room. -/
import Derived.Test.YtmfhbobjambgaaaNetG
set_option linter.unusedSimpArgs false
set_option linter.unusedVariables false
namespace Go.Proofs.Ytmfhbobjambgaaa.NE
open Go.RowKit
open BU (IsU words)
open PL (Cfg CC CV May)
attribute [local go_sem] Oper.semAt_some
attribute [local go_sem ↓] eqN_eq neN_eq eqB_eq neB_eq TNot.ld_eq TNot.st_eq TNot.al_eq TNot.bx_eq
attribute [local go_sem] TNot.al_run TNot.bx_run
theorem run_store_fn {P : Program} {w : World} {a : Addr} {m : Mode} (fn : Fn) (x y : Array Value) : (store a (.func fn x y) m).run P w = stored P w a (.func fn x y) m := run_store P w a _ m rfl
attribute [local go_sem] run_store_fn
theorem cnt_le (node net : Int) (ns : List Nt) : 0 ≤ cntN node net ns ∧ cntN node net ns ≤ ns.length := by
  unfold cntN
  have := List.countP_le_length (p := isB node net) (l := ns)
  omega
theorem cnt_succ (node net : Int) (ns : List Nt) (k : Nat) (n : Nt) (h : ns[k]? = some n) : cntN node net (ns.take (k + 1)) = cntN node net (ns.take k) + (if isB node net n then 1 else 0) := by
  unfold cntN
  obtain ⟨hk, rfl⟩ := List.getElem?_eq_some_iff.1 h
  rw [List.take_succ_eq_append_getElem hk, List.countP_append]
  simp only [List.countP_cons, List.countP_nil, Nat.zero_add]
  split <;> omega
set_option maxRecDepth 100000 in
set_option maxHeartbeats 2000000 in
theorem room_any (w : World) (F0 : Nat → Prop) (tb : Nat) (c : Cfg) (room : Int) (ns : List Nt) (hops node net : Int) (h0 : (To tb c room ns hops).is w F0) (hl : ns.length ≤ 65536) (hr1 : 1 ≤ room) (hr2 : room ≤ 1024) :
    Calls Try.prog 16 #[ptr tb, .int .i64 node, .int .i64 net] w fun e w' => e = .returned (.int .i64 (roomN c room ns node net)) ∧ Upd NoF w w' := by
  obtain ⟨F, h, hF0⟩ := (To tb c room ns hops).tight h0
  obtain ⟨l, F2, hN, hb, _, hF2, _, hp⟩ := open_to h
  have hF : ∀ k, F2 k → k < w.heap.size := fun k hk => (hF0 k (hF2 k hk)).2
  have HS0 := ((Sep.zero NoF w).alloc #[.int .i64 node] 3).alloc #[.int .i64 net] 3
  obtain ⟨V, hV⟩ : ∃ V, (w.alloc (.cells #[.int .i64 node] 3)).alloc (.cells #[.int .i64 net] 3) = V := ⟨_, rfl⟩
  rw [hV, World.size_alloc] at HS0
  have HSV := Lib.hid HS0
  have HV := Lib.hid hV; have HB := Lib.hid hb; have HP := Lib.hid hp; have HN := Lib.hid hN; have HF := Lib.hid hF
  have c4 : V.cell? ⟨w.heap.size, 0, none⟩ = some (.int .i64 node) := (HSV.out.box 1 rfl).cell 0
  have c5 : V.cell? ⟨w.heap.size + 1, 0, none⟩ = some (.int .i64 net) := (HSV.out.box 0 rfl).cell 0
  have c0 : V.cell? ⟨tb, 0, none⟩ = some (.int .i64 c.cores) := HSV.out.old (hb.cell 0)
  clear h0 h hF0 hF2 hF hp hb hN HS0 hV
  refine calls_of_wp_marks Try.func16 rfl ?_
  simp only [Try.ntmps16, List.size_toArray, List.length_cons, List.length_nil, Nat.reduceAdd, Nat.reduceSub, Array.replicate_succ, Array.replicate_zero, List.push_toArray, List.append_toArray, List.nil_append, List.cons_append]
  by_cases n1 : node < -1
  · have g1 : decide (node < -1) = true := by simp; omega
    have hrr : roomN c room ns node net = 0 := by unfold roomN; rw [if_pos (.inl n1)]
    rw [hrr]
    go_wp2_with fail
    rw [HV.out]
    go_quiet (fail)
    go_wp2
    exact postM_ret0 (v := .int .i64 0) (by simp [results, Try.f16, go_sem]) ⟨rfl, HSV.out.upd.trans (Upd.drewN NoF _ _) (fun _ _ h => h)⟩
  · have g1 : decide (node < -1) = false := by simp; omega
    by_cases n2 : c.cores ≤ node
    · have g2 : decide (c.cores ≤ node) = true := by simp; omega
      have hrr : roomN c room ns node net = 0 := by unfold roomN; rw [if_pos (.inr (.inl n2))]
      rw [hrr]
      go_wp2_with fail
      rw [HV.out]
      go_quiet (fail)
      go_wp2
      exact postM_ret0 (v := .int .i64 0) (by simp [results, Try.f16, go_sem]) ⟨rfl, HSV.out.upd.trans (Upd.drewN NoF _ _) (fun _ _ h => h)⟩
    · have g2 : decide (c.cores ≤ node) = false := by simp; omega
      by_cases n3 : net < 0
      · have g3 : decide (net < 0) = true := by simp; omega
        have hrr : roomN c room ns node net = 0 := by unfold roomN; rw [if_pos (.inr (.inr (.inl n3)))]
        rw [hrr]
        go_wp2_with fail
        rw [HV.out]
        go_quiet (fail)
        go_wp2
        exact postM_ret0 (v := .int .i64 0) (by simp [results, Try.f16, go_sem]) ⟨rfl, HSV.out.upd.trans (Upd.drewN NoF _ _) (fun _ _ h => h)⟩
      · have g3 : decide (net < 0) = false := by simp; omega
        by_cases n4 : 3 ≤ net
        · have g4 : decide (3 ≤ net) = true := by simp; omega
          have hrr : roomN c room ns node net = 0 := by unfold roomN; rw [if_pos (.inr (.inr (.inr n4)))]
          rw [hrr]
          go_wp2_with fail
          rw [HV.out]
          go_quiet (fail)
          go_wp2
          exact postM_ret0 (v := .int .i64 0) (by simp [results, Try.f16, go_sem]) ⟨rfl, HSV.out.upd.trans (Upd.drewN NoF _ _) (fun _ _ h => h)⟩
        · have g4 : decide (3 ≤ net) = false := by simp; omega
          have hrr : roomN c room ns node net = room - cntN node net ns := by unfold roomN; rw [if_neg (by omega)]
          rw [hrr]
          have HNN := Lib.hid (And.intro (And.intro n1 n2) (And.intro n3 n4))
          clear n1 n2 n3 n4 hrr
          go_wp2_with fail
          rw [HV.out]
          go_quiet (fail)
          obtain ⟨v1, hv1, hhe, hu⟩ := drewN_is V nq
          rw [hv1]
          have hs1 : v1.heap.size = V.heap.size := by rw [hhe]
          have HS1 := Lib.hid (HSV.out.upd0 hu)
          have hb1 : Blk v1 tb (NetA c room hops l) NetT := HB.out.upd HS1.out.upd (fun h => h)
          have t8 : v1.cell? ⟨tb, 8, none⟩ = some (.int .i64 room) := hb1.cell 8
          have t9 : v1.cell? ⟨tb, 9, none⟩ = some (ptr l) := hb1.cell 9
          have t8a : (v1.alloc (.cells #[.func (.func 38) #[] #[ptr w.heap.size, ptr (w.heap.size + 1)]] 75)).cell? ⟨tb, 8, none⟩ = some (.int .i64 room) := (Upd.alloc NoF v1 _).cell t8 (fun h => h)
          have t9a : ((v1.alloc (.cells #[.func (.func 38) #[] #[ptr w.heap.size, ptr (w.heap.size + 1)]] 75)).alloc (.cells #[.int .i64 room] 3)).cell? ⟨tb, 9, none⟩ = some (ptr l) := (Upd.alloc NoF _ _).cell ((Upd.alloc NoF v1 _).cell t9 (fun h => h)) (fun h => h)
          clear t8 t9
          clear hv1 hhe hu c4 c5 c0 g1 g2 g3 g4 hb1 hs1
          have HS2 := Lib.hid ((HS1.out.alloc #[.func (.func 38) #[] #[ptr w.heap.size, ptr (w.heap.size + 1)]] 75).alloc #[.int .i64 room] 3)
          go_wp2_with fail
          refine (PN.all_any _ _).mono ?_
          rintro e w' ⟨rfl, rfl⟩
          go_wp2_with fail
          obtain ⟨b7, hb7⟩ : ∃ b, v1.heap.size = b := ⟨_, rfl⟩
          have hv1s : w.heap.size + 2 ≤ b7 := by have := (HS1.out.box 0 rfl).lt; omega
          have HS3 := Lib.hid (HS2.out.upd0 (Upd.alloc NoF _ (.cells #[ptr l] 70)))
          have qB := Blk.new ((v1.alloc (.cells #[.func (.func 38) #[] #[ptr w.heap.size, ptr (w.heap.size + 1)]] 75)).alloc (.cells #[.int .i64 room] 3)) #[ptr l] 70
          obtain ⟨W0, hW0⟩ : ∃ W0, (((v1.alloc (.cells #[.func (.func 38) #[] #[ptr w.heap.size, ptr (w.heap.size + 1)]] 75)).alloc (.cells #[.int .i64 room] 3)).alloc (.cells #[ptr l] 70)) = W0 := ⟨_, rfl⟩
          have hs0 : W0.heap.size = b7 + 3 := by rw [← hW0]; simp [hb7]
          rw [hW0] at HS3 qB
          rw [World.size_alloc, World.size_alloc, hb7] at qB
          rw [World.size_alloc, hb7] at HS3
          have q7 := HS3.out.box 1 rfl
          have q8 := HS3.out.box 0 rfl
          have q4 := HS3.out.box 3 rfl
          have q5 := HS3.out.box 2 rfl
          have hU0 : Upd NoF w W0 := HS3.out.upd
          have hP0 := (PN.Po (ptr l) (ns.map Nt.cells) 52224).keep HP.out (hU0.kept (fun _ _ _ h => h))
          simp only [World.size_alloc, hb7]
          rw [hW0]
          clear hW0 t8a t9a HS2 HSV HV
          refine wp_rangeA (gf := 55) (lb := #[ptr (b7 + 1 + 1)]) rfl (enters_of Try.func55 (by kernel_rfl) rfl)
            (PN.all_seq (b7 + 1 + 1) l (ns.map Nt.cells) 52224 F2 (fun k => k = b7 + 1 ∨ b7 + 3 ≤ k) (fun k hk => by have := HF.out k hk; omega) (by omega) W0 (qB.cell 0) hP0 (fun k hk => .inr (by omega))) (fun _ => rfl) (fun _ h => h.elim) (fun k hk => .inr (by omega))
            (fun k W => Blk W w.heap.size #[.int .i64 node] 3 ∧ Blk W (w.heap.size + 1) #[.int .i64 net] 3 ∧ Blk W b7 #[.func (.func 38) #[] #[ptr w.heap.size, ptr (w.heap.size + 1)]] 75 ∧ Blk W (b7 + 1) #[.int .i64 (room - cntN node net (ns.take k))] 3 ∧ Upd NoF w W)
            (fun _ _ _ => False)
            (fun k A B hs hb => ⟨hs.1.bk hb (fun h => h), hs.2.1.bk hb (fun h => h), hs.2.2.1.bk hb (fun h => h), hs.2.2.2.1.bk hb (fun h => h), hs.2.2.2.2.bk hb (by omega) (fun _ h => h.elim)⟩)
            (fun _ _ _ _ h _ => h)
            ⟨q4, q5, q7, by simpa [cntN] using q8, hU0⟩
            ?round ?done ?stop
          case round =>
            intro lp k x hx U K' hK'
            rw [idxs_get, Option.map_eq_some_iff] at hx
            obtain ⟨z, hz, rfl⟩ := hx
            rw [List.getElem?_map, Option.map_eq_some_iff] at hz
            obtain ⟨n, hn, rfl⟩ := hz
            have hno := (HN.out n (List.mem_of_getElem? hn)).isU
            have s1 := TNot.st_new (Nt.Ok.isN hno) U
            have HK := Lib.hid hK'
            have HNo := Lib.hid hno; have Hn := Lib.hid hn
            clear hK' hno hn
            gi_wp2
            refine HK.out _ _ (Upd.alloc NoF U _) ?_
            rintro W ⟨r4, r5, r7, r8, hB⟩ hbk
            have q10 := (Blk.new U n.cells 37).bk hbk (fun h => h)
            have hfx := is_any n node net w.heap.size (w.heap.size + 1) W (r4.cell 0) (r5.cell 0)
            have d7 : W.cell? ⟨b7, 0, none⟩ = some (.func (.func 38) #[] #[ptr w.heap.size, ptr (w.heap.size + 1)]) := r7.cell 0
            have l10 := TNot.ld_at (Nt.Ok.isN HNo.out) q10.whole
            have hcs := cnt_succ node net ns k n Hn.out
            have hcb := cnt_le node net (ns.take k)
            have hlk : (ns.take k).length ≤ ns.length := by rw [List.length_take]; omega
            generalize cntN node net (ns.take k) = ck at *
            have hw1 : IntKind.i64.wrap (room - ck - 1) = room - ck - 1 := IntWalk.i64_in _ (by omega)
            have R4 := Lib.hid r4; have R5 := Lib.hid r5; have R7 := Lib.hid r7; have R8 := Lib.hid r8; have HBh := Lib.hid hB; have HCS := Lib.hid hcs
            clear s1 q10 r4 r5 r7 r8 hB hcs hcb hlk
            cases hix : isB node net n
            · rw [hix] at hfx HCS
              have HFX := Lib.hid hfx
              clear hfx hix
              gi_wp2_with (refine ⟨trivial, ?_⟩; refine (CallsIn.inRound lp (callsIn_wide.2 HFX.out)).mono ?_; rintro e w' ⟨rfl, hu⟩; have HU := Lib.hid hu; clear hu)
              refine ⟨HU.out.mono (fun _ _ h => h.elim), R4.out.upd HU.out (fun h => h), R5.out.upd HU.out (fun h => h), R7.out.upd HU.out (fun h => h), ?_, HBh.out.trans HU.out (fun _ _ h => h)⟩
              rw [HCS.out]
              simpa using R8.out.upd HU.out (fun h => h)
            · rw [hix] at hfx HCS
              have HFX := Lib.hid hfx
              clear hfx hix
              gi_wp2_with (refine ⟨trivial, ?_⟩; refine (CallsIn.inRound lp (callsIn_wide.2 HFX.out)).mono ?_; rintro e w' ⟨rfl, hu⟩; have HU := Lib.hid hu; have d8 : w'.cell? ⟨b7 + 1, 0, none⟩ = some (.int .i64 (room - ck)) := (R8.out.upd hu (fun h => h)).cell 0; have z8 := (R8.out.upd hu (fun h => h)).frozen 0; clear hu)
              have hsw := Upd.setCell (F := fun k => k = b7 + 1) w' (p := ⟨b7 + 1, 0, none⟩) rfl (.int .i64 (room - ck - 1))
              have R8n := (R8.out.upd HU.out (fun h => h)).set 0 (.int .i64 (room - ck - 1))
              refine ⟨(HU.out.mono (fun _ _ h => h.elim)).trans hsw (fun i _ e => .inl e), (R4.out.upd HU.out (fun h => h)).upd hsw (fun e => by omega), (R5.out.upd HU.out (fun h => h)).upd hsw (fun e => by omega), (R7.out.upd HU.out (fun h => h)).upd hsw (fun e => by omega), ?_, (HBh.out.trans HU.out (fun _ _ h => h)).trans hsw (fun i hi e => by omega)⟩
              rw [HCS.out]
              have e9 : room - (ck + 1) = room - ck - 1 := by omega
              simp only [if_true, e9]
              exact R8n
          case done =>
            rintro D W hD ⟨r4, r5, r7, r8, hB⟩ hK
            rw [idxs_length, List.length_map, List.take_length] at r8
            have d8 : W.cell? ⟨b7 + 1, 0, none⟩ = some (.int .i64 (room - cntN node net ns)) := r8.cell 0
            have HBh := Lib.hid hB
            obtain ⟨ck, hck⟩ : ∃ ck, cntN node net ns = ck := ⟨_, rfl⟩
            rw [hck] at d8
            have HCK := Lib.hid hck
            clear r4 r5 r7 r8 hB hck
            have HK := Lib.hid hK
            clear hK
            go_wp2
            refine postM_ret1 HK.out (v := .int .i64 (room - ck)) (by simp [results, Try.f16, go_sem]) ⟨by rw [HCK.out], ?_⟩
            exact HBh.out.bk (Bk.putObj (n := w.heap.size) (G := NoF) HK.out rfl (by omega) _) (Nat.le_refl _) (fun _ h => h.elim)
          case stop =>
            rintro D cc k W hD hkl h hK
            exact h.elim
end Go.Proofs.Ytmfhbobjambgaaa.NE
