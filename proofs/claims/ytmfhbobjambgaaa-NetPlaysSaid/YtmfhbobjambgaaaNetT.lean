/- The contracts of package net: Take. -/
import Derived.Test.YtmfhbobjambgaaaNetS
set_option linter.unusedSimpArgs false
set_option linter.unusedVariables false
namespace Go.Proofs.Ytmfhbobjambgaaa.NE
open Go.RowKit
open BU (IsU words)
open PL (Cfg CC CV May)
open GR (hopsN)
attribute [local go_sem] Oper.semAt_some
attribute [local go_sem ↓] eqN_eq neN_eq eqB_eq neB_eq TNot.ld_eq TNot.st_eq TNot.al_eq TNot.bx_eq
attribute [local go_sem] TNot.al_run TNot.bx_run
theorem hopsN_le {n : Nt} (h : MayN n = true) : 0 ≤ hopsN n.frm n.too ∧ hopsN n.frm n.too ≤ 8 := by
  have dis : ∀ x : Int, 0 ≤ x → x < 16 → x = 0 ∨ x = 1 ∨ x = 2 ∨ x = 3 ∨ x = 4 ∨ x = 5 ∨ x = 6 ∨ x = 7 ∨ x = 8 ∨ x = 9 ∨ x = 10 ∨ x = 11 ∨ x = 12 ∨ x = 13 ∨ x = 14 ∨ x = 15 := fun x h1 h2 => by omega
  rcases may_ends h with ⟨h1, h2, h3⟩ | ⟨h1, h2, h3⟩
  · rw [h1]
    rcases dis _ h2 h3 with e | e | e | e | e | e | e | e | e | e | e | e | e | e | e | e <;> rw [e] <;> decide
  · rw [h1]
    rcases dis _ h2 h3 with e | e | e | e | e | e | e | e | e | e | e | e | e | e | e | e <;> rw [e] <;> decide
set_option maxRecDepth 100000 in
set_option maxHeartbeats 1000000 in
theorem take_bad (w : World) (F : Nat → Prop) (tb : Nat) (c : Cfg) (room : Int) (ns : List Nt) (hops i : Int) (h : (To tb c room ns hops).is w F) (hi : i < 0 ∨ (ns.length : Int) ≤ i) :
    Calls Try.prog 17 #[ptr tb, .int .i64 i] w fun e w' => e = .returned (.tuple #[.agg Nt.nil.cells, .int .i64 5]) ∧ Upd NoF w w' := by
  obtain ⟨l, F2, hN, hb, _, _, _, hp⟩ := open_to h
  have hu := Upd.alloc NoF w (.cells TNot.Z 37)
  have q := Blk.new w TNot.Z 37
  have t9 : (w.alloc (.cells TNot.Z 37)).cell? ⟨tb, 9, none⟩ = some (ptr l) := (hb.upd hu (fun h => h)).cell 9
  have HPB := Lib.hid (PN.take_bad _ F2 l (ns.map Nt.cells) 52224 i ((PN.Po (ptr l) (ns.map Nt.cells) 52224).keep hp (hu.kept (fun _ _ _ h => h))) (by rw [List.length_map]; exact hi))
  have HU := Lib.hid hu; have HQ := Lib.hid q
  clear hN hb hp h hu q hi
  rw [Nt.nil_cells]
  go_enter Try.func17, Try.ntmps17
  go_wp2_with fail
  refine HPB.out.mono ?_
  rintro e w2 ⟨rfl, hu⟩
  have s6 := TNot.st_new TNot.isZ w2
  have l6 := TNot.ld_new TNot.isZ w2
  obtain ⟨s4, q4⟩ := TNot.st_at TNot.isZ TNot.isZ ((HQ.out.upd hu (fun h => h)).alloc (.cells TNot.Z 37))
  have HV := Lib.hid (TNot.ldV_at TNot.isZ q4.whole)
  have HUF := Lib.hid (((HU.out.trans hu (fun _ _ h => h)).trans (Upd.alloc NoF w2 (.cells TNot.Z 37)) (fun _ _ h => h)).trans (upd_setCells (b := w.heap.size) TNot.Z.toList 0 _) (fun i hi h => by have : i = w.heap.size := h; omega))
  clear q4 hu
  go_wp2
  have hv := HV.out
  refine bodyPost_ret (v := .tuple #[.agg TNot.Z, .int .i64 5]) ?_ ?_ ?_
  · simp [results, Try.f17, asAddr, hv]
  · rfl
  exact ⟨rfl, HUF.out⟩

set_option maxRecDepth 100000 in
set_option maxHeartbeats 2000000 in
theorem take_ok (w : World) (F : Nat → Prop) (tb : Nat) (c : Cfg) (room : Int) (ns : List Nt) (hops : Int) (k : Nat) (n : Nt) (h : (To tb c room ns hops).is w F) (hk : ns[k]? = some n) (hm : MayN n = true) (hlen : ns.length ≤ 65536) (h0 : 0 ≤ hops) (h1 : hops ≤ 4611686018427387904) :
    Calls Try.prog 17 #[ptr tb, .int .i64 k] w fun e w' => e = .returned (.tuple #[.agg n.cells, .int .i64 0]) ∧ Upd F w w' ∧ (To tb c room (ns.eraseIdx k) (hops + hopsN n.frm n.too)).is w' (AndNew F w) := by
  obtain ⟨l, F2, hN, hb, hFt, hF2, hnt, hp⟩ := open_to h
  obtain ⟨F3, hp3, hF3⟩ := (PN.Po (ptr l) (ns.map Nt.cells) 52224).tight hp
  have hno := hN n (List.mem_of_getElem? hk)
  have hhb := hopsN_le hm
  have HW := Lib.hid (fun w => way_any n hno hm w)
  have hz : IsN 24 n.cells := Nt.Ok.isN hno.isU
  have hN9 : ∀ m ∈ ns.eraseIdx k, m.Ok := fun m hm => hN m (List.mem_of_mem_eraseIdx hm)
  have hmap : (ns.map Nt.cells).eraseIdx k = (ns.eraseIdx k).map Nt.cells := by simp [List.eraseIdx_eq_take_drop_succ, List.map_append, List.map_take, List.map_drop]
  have hu := Upd.alloc NoF w (.cells TNot.Z 37)
  have q := Blk.new w TNot.Z 37
  have hbu := hb.upd hu (fun h => h)
  have t9 : (w.alloc (.cells TNot.Z 37)).cell? ⟨tb, 9, none⟩ = some (ptr l) := hbu.cell 9
  have hpt := PN.take_ok _ F3 l (ns.map Nt.cells) 52224 k n.cells ((PN.Po (ptr l) (ns.map Nt.cells) 52224).keep hp3 (hu.kept (fun _ _ _ h => h))) (by rw [List.getElem?_map, hk]; rfl) (by rw [List.length_map]; exact hlen)
  rw [hmap] at hpt
  have HPT := Lib.hid hpt
  have hnt3 : ¬ F3 tb := fun hf => hnt (hF3 _ hf).1
  have hn43 : ¬ F3 w.heap.size := fun hf => by have := (hF3 _ hf).2; omega
  have hbl := hb.lt
  have HU := Lib.hid hu; have HQ := Lib.hid q; have HB := Lib.hid hbu; have HN9 := Lib.hid hN9; have HF := Lib.hid (And.intro hFt (And.intro hF2 hF3)); have HZ := Lib.hid hz; have HB0 := Lib.hid hb
  generalize hopsN n.frm n.too = hh at *
  have hwr : IntKind.i64.wrap (hops + hh) = hops + hh := IntWalk.i64_in _ (by omega)
  clear hN hb hp hp3 h hu q hk hm hno hz hN9 hmap hpt hbu hFt hF2 hF3 hnt
  go_enter Try.func17, Try.ntmps17
  go_wp2_with fail
  refine HPT.out.mono ?_
  rintro e w2 ⟨rfl, hu2, hp2⟩
  have hs2 := hu2.size
  rw [World.size_alloc] at hs2
  have s6 := TNot.st_new HZ.out w2
  have hU2 : Upd F3 w w2 := (HU.out.mono (G := F3) (fun _ _ h => h.elim)).trans hu2 (fun _ _ h => h)
  have hb2 := HB.out.upd hu2 hnt3
  have q42 := HQ.out.upd hu2 hn43
  have hua := Upd.alloc NoF w2 (.cells n.cells 37)
  obtain ⟨w3, hw3⟩ : ∃ W, w2.alloc (.cells n.cells 37) = W := ⟨_, rfl⟩
  have q6 := Blk.new w2 n.cells 37
  rw [hw3] at hua q6
  have hp3 := (PN.Po (ptr l) ((ns.eraseIdx k).map Nt.cells) 52224).mono hp2 (G := fun i => F3 i ∨ (w.heap.size < i ∧ i < w2.heap.size))
  have HP2 := Lib.hid hp2
  have HU3 := Lib.hid (hU2.trans hua (fun _ _ h => h.elim))
  have HB3 := Lib.hid (hb2.upd hua (fun h => h)); have HQ43 := Lib.hid (q42.upd hua (fun h => h)); have HQ63 := Lib.hid q6; have HUA := Lib.hid hua
  have HW3 := Lib.hid hw3
  clear hp2 hp3 hu2 hU2 hb2 q42 hua q6 hw3 t9
  go_upto_region 5 with fail
  rw [HW3.out]
  clear HW3 s6
  obtain ⟨b6, hb6⟩ : ∃ b, w2.heap.size = b := ⟨_, rfl⟩
  rw [hb6] at HQ63 hs2 ⊢
  have hd := Upd.drew NoF w3
  have hbd := HB3.out.upd hd (fun h => h)
  have c10 : w3.drew.cell? ⟨tb, 10, none⟩ = some (.int .i64 hops) := hbd.cell 10
  have z10 := hbd.frozen 10
  have l6 := TNot.ld_at HZ.out (HQ63.out.upd hd (fun h => h)).whole
  have HD := Lib.hid hd
  clear hd hbd
  have FIN : ∀ w4 : World, Upd NoF w3 w4 → Hid ((TNot.ld (ptr b6)).run Try.prog (w4.setCell ⟨tb, 10, none⟩ (.int .i64 (hops + hh))) = .ok (.agg n.cells) (w4.setCell ⟨tb, 10, none⟩ (.int .i64 (hops + hh))) ∧
      (TNot.st (ptr w.heap.size) (.agg n.cells)).run Try.prog (w4.setCell ⟨tb, 10, none⟩ (.int .i64 (hops + hh))) = .ok () ((w4.setCell ⟨tb, 10, none⟩ (.int .i64 (hops + hh))).setCells w.heap.size 0 n.cells.toList) ∧
      (loadVar 37 ⟨w.heap.size, 0, none⟩).run Try.prog ((w4.setCell ⟨tb, 10, none⟩ (.int .i64 (hops + hh))).setCells w.heap.size 0 n.cells.toList) = .ok (.agg n.cells) ((w4.setCell ⟨tb, 10, none⟩ (.int .i64 (hops + hh))).setCells w.heap.size 0 n.cells.toList) ∧
      Upd F w ((w4.setCell ⟨tb, 10, none⟩ (.int .i64 (hops + hh))).setCells w.heap.size 0 n.cells.toList) ∧ (To tb c room (ns.eraseIdx k) (hops + hh)).is ((w4.setCell ⟨tb, 10, none⟩ (.int .i64 (hops + hh))).setCells w.heap.size 0 n.cells.toList) (AndNew F w)) := fun w4 hu4 => by
    have hb4 := HB3.out.upd hu4 (fun h => h)
    have hset := Upd.setCell (F := fun i => i = tb) w4 (p := ⟨tb, 10, none⟩) rfl (.int .i64 (hops + hh))
    have hb5 := hb4.set 10 (.int .i64 (hops + hh))
    have q45 := (HQ43.out.upd hu4 (fun h => h)).upd hset (fun e => by have e' : w.heap.size = tb := e; omega)
    have q65 := (HQ63.out.upd hu4 (fun h => h)).upd hset (fun e => by have e' : b6 = tb := e; omega)
    obtain ⟨s4, r4⟩ := TNot.st_at TNot.isZ HZ.out q45
    have us := upd_setCells (b := w.heap.size) n.cells.toList 0 (w4.setCell ⟨tb, 10, none⟩ (.int .i64 (hops + hh)))
    obtain ⟨F4, p4, hF4⟩ := (PN.Po (ptr l) ((ns.eraseIdx k).map Nt.cells) 52224).tight HP2.out
    have hF4' : ∀ i, F4 i → (F3 i ∨ w.heap.size + 1 ≤ i) ∧ i < b6 := fun i hi => by
      have := hF4 i hi
      rw [hb6] at this
      refine ⟨?_, this.2⟩
      rcases this.1 with h | h
      · exact .inl h
      · rw [World.size_alloc] at h; exact .inr h
    refine ⟨TNot.ld_at HZ.out q65.whole, s4, TNot.ldV_at HZ.out r4.whole, ?_, l, HN9.out, (fun i => i = tb), F4, fun i hi => by subst hi; exact .inl HF.out.1, fun i hi => ?_, fun i hi hf => ?_, ⟨?_, rfl⟩, ?_⟩
    · refine (((HU3.out.mono (G := F) (fun i _ hi => HF.out.2.1 i (HF.out.2.2 i hi).1)).trans hu4 (fun _ _ h => h.elim)).trans hset (fun i _ e => by have e' : i = tb := e; subst e'; exact HF.out.1)).trans us (fun i hi e => by have e' : i = w.heap.size := e; omega)
    · rcases (hF4' i hi).1 with h | h
      · exact .inl (HF.out.2.1 i (HF.out.2.2 i h).1)
      · exact .inr (by omega)
    · have e' : i = tb := hi
      subst e'
      rcases (hF4' i hf).1 with h | h
      · exact hnt3 h
      · omega
    · exact hb5.upd us (fun e => by have e' : tb = w.heap.size := e; omega)
    · refine (PN.Po (ptr l) ((ns.eraseIdx k).map Nt.cells) 52224).keep ((PN.Po (ptr l) ((ns.eraseIdx k).map Nt.cells) 52224).keep ((PN.Po (ptr l) ((ns.eraseIdx k).map Nt.cells) 52224).keep ((PN.Po (ptr l) ((ns.eraseIdx k).map Nt.cells) 52224).keep p4 (HUA.out.kept (fun _ _ _ h => h))) (hu4.kept (fun _ _ _ h => h))) (hset.kept (fun i _ hi e => ?_))) (us.kept (fun i _ hi e => ?_))
      · have e' : i = tb := e
        subst e'
        rcases (hF4' i hi).1 with h | h
        · exact hnt3 h
        · omega
      · have e' : i = w.heap.size := e
        subst e'
        rcases (hF4' _ hi).1 with h | h
        · exact hn43 h
        · omega
  have HFIN := Lib.hid FIN
  clear FIN
  go_region_with (first | (go_at_call 41; refine (HW.out _).mono ?_; rintro e w4 ⟨rfl, hu⟩; have c10a : w4.cell? ⟨tb, 10, none⟩ = some (.int .i64 hops) := ((HB3.out.upd HD.out (fun h => h)).upd hu (fun h => h)).cell 10; have z10a := ((HB3.out.upd HD.out (fun h => h)).upd hu (fun h => h)).frozen 10; have HU4 := Lib.hid (HD.out.trans hu (fun _ _ h => h)); clear hu))
  all_goals
    have hfin := (HFIN.out w4 HU4.out).out
    have l9 := hfin.1
    have s9 := hfin.2.1
    have HV := Lib.hid hfin.2.2.1
    have HR := Lib.hid hfin.2.2.2
    clear hfin
    go_wp2
    have hv := HV.out
    refine bodyPost_ret (v := .tuple #[.agg n.cells, .int .i64 0]) ?_ ?_ ?_
    · simp [results, Try.f17, asAddr, hv]
    · rfl
    exact ⟨rfl, HR.out⟩
end Go.Proofs.Ytmfhbobjambgaaa.NE
