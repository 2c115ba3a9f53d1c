/- The contracts of the functions of package backs. -/
import Derived.Test.YtjgeflbhmhmjdaaGreatPoolFBack
import Derived.Test.YtjgeflbhmhmjdaaGreatSep
import Derived.Test.YtjgeflbhmhmjdaaGreatPlan
import Derived.Deep.RegionHeld3
import Derived.ChangeKeysEq
import Derived.Lib.SmallJoins
set_option linter.unusedSimpArgs false
set_option linter.unusedVariables false
namespace Go.Proofs.YtjgeflbhmhmjdaaGreat.BK
open Go.RowKit
open PL (Cfg CC CV May)
attribute [local go_sem] Oper.semAt_some
attribute [local go_sem ↓] TBak.ld_eq TBak.st_eq TBak.bx_eq TBak.al_eq TBlk.ld_eq TBlk.st_eq TBlk.bx_eq TBlk.al_eq
attribute [local go_sem] TBak.al_run TBak.bx_run TBlk.al_run TBlk.bx_run

structure Bk where
  blk : Int
  D : Array Value
  live : Bool
def Bk.cells (z : Bk) : Array Value := #[.int .i64 z.blk] ++ z.D ++ #[.bool z.live]
theorem Bk.isN {z : Bk} (h : IsN 16 z.D) : IsN 18 z.cells := by
  refine ⟨by simp [Bk.cells, h.1], fun u hu => ?_⟩
  simp [Bk.cells] at hu
  rcases hu with rfl | hu | rfl
  · rfl
  · exact h.2 u hu
  · rfl
theorem Bk.get0 (z : Bk) : z.cells[0]? = some (.int .i64 z.blk) := by
  unfold Bk.cells
  rw [Array.getElem?_append_left (by simp; omega), Array.getElem?_append_left (by simp)]
  rfl
theorem Bk.getD (z : Bk) (j : Nat) (v : Value) (h : z.D.toList[j]? = some v) : z.cells[1 + j]? = some v := by
  have hj : j < z.D.size := by have := (List.getElem?_eq_some_iff.1 h).1; simpa using this
  have h' : z.D[j]? = some v := by simpa using h
  unfold Bk.cells
  rw [Array.getElem?_append_left (by simp; omega), Array.getElem?_append_right (by simp)]
  simpa using h'
theorem Bk.get17 {z : Bk} (h : IsN 16 z.D) : z.cells[17]? = some (.bool z.live) := by
  unfold Bk.cells
  rw [Array.getElem?_append_right (by simp [h.1])]
  simp [h.1]

theorem split16 {D : Array Value} (h : D.size = 16) : ∃ d0 d1 d2 d3 d4 d5 d6 d7 d8 d9 d10 d11 d12 d13 d14 d15, D = #[d0, d1, d2, d3, d4, d5, d6, d7, d8, d9, d10, d11, d12, d13, d14, d15] := by
  refine ⟨D[0], D[1], D[2], D[3], D[4], D[5], D[6], D[7], D[8], D[9], D[10], D[11], D[12], D[13], D[14], D[15], ?_⟩
  apply Array.ext
  · simp [h]
  · intro i h1 h2
    have hi : i < 16 := by omega
    have : i = 0 ∨ i = 1 ∨ i = 2 ∨ i = 3 ∨ i = 4 ∨ i = 5 ∨ i = 6 ∨ i = 7 ∨ i = 8 ∨ i = 9 ∨ i = 10 ∨ i = 11 ∨ i = 12 ∨ i = 13 ∨ i = 14 ∨ i = 15 := by omega
    rcases this with rfl | rfl | rfl | rfl | rfl | rfl | rfl | rfl | rfl | rfl | rfl | rfl | rfl | rfl | rfl | rfl <;> rfl

abbrev ptr (b : Nat) : Value := .pointer (some ⟨b, 0, none⟩)
def Bo (kb : Nat) (data : Int) (zs : List Bk) (room : Int) : Obj :=
  exO fun l => andO (∀ z ∈ zs, IsN 16 z.D) (starO (boxO kb #[.int .i64 data, ptr l] 142) (PB.Po (ptr l) (zs.map Bk.cells) room))

theorem open_bo {w : World} {F : Nat → Prop} {kb : Nat} {data : Int} {zs : List Bk} {room : Int} (h : (Bo kb data zs room).is w F) :
    ∃ l F2, (∀ z ∈ zs, IsN 16 z.D) ∧ Blk w kb #[.int .i64 data, ptr l] 142 ∧ F kb ∧ (∀ k, F2 k → F k) ∧ ¬ F2 kb ∧ (PB.Po (ptr l) (zs.map Bk.cells) room).is w F2 := by
  obtain ⟨l, hN, F1, F2, h1, h2, h3, h4, h5⟩ := h
  exact ⟨l, F2, hN, h4.1, h1 kb h4.2, h2, fun hf => h3 kb h4.2 hf, h5⟩
theorem shut_bo {w w' : World} {F F2 : Nat → Prop} {kb l : Nat} {data : Int} {zs : List Bk} {room : Int} (hN : ∀ z ∈ zs, IsN 16 z.D) (hb : Blk w kb #[.int .i64 data, ptr l] 142) (hF : F kb) (h2 : ∀ k, F2 k → F k) (hn : ¬ F2 kb)
    (hu : Upd F2 w w') (hp : (PB.Po (ptr l) (zs.map Bk.cells) room).is w' (AndNew F2 w)) : Upd F w w' ∧ (Bo kb data zs room).is w' (AndNew F w) := by
  refine ⟨hu.mono (fun k _ hk => h2 k hk), l, hN, fun k => k = kb, AndNew F2 w, fun k hk => by subst hk; exact .inl hF, fun k hk => hk.imp (h2 k) id, fun k hk hf => ?_, ⟨hb.upd hu hn, rfl⟩, hp⟩
  subst hk
  rcases hf with hf | hf
  · exact hn hf
  · have := hb.lt; omega

def gx (block : Int) (x : Array Value) : Bool := match x[0]? with | some (Value.int _ n) => n == block | _ => false
theorem gx_cells (block : Int) (z : Bk) : gx block z.cells = (z.blk == block) := by unfold gx; rw [z.get0]
theorem firstAt_cells (block : Int) (zs : List Bk) : firstAt (gx block) (zs.map Bk.cells) = firstAt (fun z => z.blk == block) zs := by
  unfold firstAt
  rw [List.findIdx?_map]
  congr 2
  funext z
  exact gx_cells block z

theorem cl_any (x : Array Value) (n block : Int) (hx : x[0]? = some (.int .i64 n)) (cb : Nat) (W : World) (hc : W.cell? ⟨cb, 0, none⟩ = some (.int .i64 block)) :
    Calls Tryz.prog 128 (#[.agg x] ++ #[ptr cb]) W fun e w' => e = .returned (.bool (n == block)) ∧ Upd NoF W w' := by
  have h0 : (W.alloc (.cells x 140)).cell? ⟨W.heap.size, 0, none⟩ = some (.int .i64 n) := ((Blk.new W x _).cell 0).trans hx
  have h1 := (Upd.alloc NoF W (.cells x 140)).cell hc (fun h => h)
  clear hc
  go_enter Tryz.func128, Tryz.ntmps128
  go_wp2
  go_ret
  exact ⟨rfl, Upd.alloc NoF W _⟩
theorem at_any (w : World) (F : Nat → Prop) (kb : Nat) (data : Int) (zs : List Bk) (room block : Int) (h : (Bo kb data zs room).is w F) :
    Calls Tryz.prog 88 #[ptr kb, .int .i64 block] w fun e w' => e = .returned (.int .i64 (firstAt (fun z => z.blk == block) zs)) ∧ Upd NoF w w' := by
  obtain ⟨l, F2, hN, hb, _, _, _, hp⟩ := open_bo h
  have hu := Upd.alloc NoF w (.cells #[.int .i64 block] 3)
  have c1 : (w.alloc (.cells #[.int .i64 block] 3)).cell? ⟨kb, 1, none⟩ = some (ptr l) := (hb.alloc _).cell 1
  have q := Blk.new w #[.int .i64 block] 3
  have hp1 := (PB.Po (ptr l) (zs.map Bk.cells) room).keep hp (hu.kept (fun _ _ _ h => h))
  have HF := Lib.hid (PB.first_any _ F2 l (zs.map Bk.cells) room hp1 128 #[ptr w.heap.size] (gx block) (enters_of Tryz.func128 (by kernel_rfl) rfl) (fun x W hx hu => by
    obtain ⟨z, _, rfl⟩ := List.mem_map.1 hx
    rw [gx_cells]
    exact cl_any z.cells z.blk block z.get0 w.heap.size W ((q.upd hu (fun h => h)).cell 0)))
  rw [firstAt_cells] at HF
  have HU := Lib.hid hu
  clear hp hp1 hb q hu h hN
  generalize firstAt (fun z => z.blk == block) zs = r at *
  go_enter Tryz.func88, Tryz.ntmps88
  go_wp2_with fail
  refine HF.out.mono ?_
  rintro e w' ⟨rfl, hu⟩
  have HU2 := Lib.hid (HU.out.trans hu (fun _ _ h => h))
  clear hu
  go_wp2
  go_ret
  exact ⟨rfl, HU2.out⟩
theorem room_any (w : World) (F : Nat → Prop) (kb : Nat) (data : Int) (zs : List Bk) (room : Int) (h : (Bo kb data zs room).is w F) (h0 : 0 ≤ room) (h1 : room ≤ 65536) (h2 : zs.length ≤ room) :
    Calls Tryz.prog 46 #[ptr kb] w fun e w' => e = .returned (.int .i64 (room - zs.length)) ∧ Upd NoF w w' := by
  obtain ⟨l, F2, hN, hb, _, _, _, hp⟩ := open_bo h
  have c1 : w.cell? ⟨kb, 1, none⟩ = some (ptr l) := hb.cell 1
  have HL := PB.room_any w F2 l (zs.map Bk.cells) room hp h0 h1 (by rw [List.length_map]; exact h2)
  rw [List.length_map] at HL
  have HL' := Lib.hid HL
  clear hp hb h hN HL
  go_enter Tryz.func46, Tryz.ntmps46
  go_wp2_with fail
  refine HL'.out.mono ?_
  rintro e w' ⟨rfl, hu⟩
  have HU := Lib.hid hu
  clear hu
  go_wp2
  go_ret
  exact ⟨rfl, HU.out⟩

theorem drop_no (w : World) (F : Nat → Prop) (kb : Nat) (data : Int) (zs : List Bk) (room block : Int) (h : (Bo kb data zs room).is w F) (hz : firstAt (fun z => z.blk == block) zs = -1) :
    Calls Tryz.prog 103 #[ptr kb, .int .i64 block] w fun e w' => e = .returned (.bool false) ∧ Upd NoF w w' := by
  have HA := at_any w F kb data zs room block h
  rw [hz] at HA
  have HA' := Lib.hid HA
  clear HA h hz
  go_enter Tryz.func103, Tryz.ntmps103
  go_wp2_with fail
  refine HA'.out.mono ?_
  rintro e w' ⟨rfl, hu⟩
  have HU := Lib.hid hu
  clear hu
  go_wp2
  go_ret
  exact ⟨rfl, HU.out⟩
theorem drop_yes (w : World) (F : Nat → Prop) (kb : Nat) (data : Int) (zs : List Bk) (room block : Int) (i : Nat) (z : Bk) (h : (Bo kb data zs room).is w F) (hz : firstAt (fun z => z.blk == block) zs = i) (hi : zs[i]? = some z) (hl : zs.length ≤ 65536) :
    Calls Tryz.prog 103 #[ptr kb, .int .i64 block] w fun e w' => e = .returned (.bool true) ∧ Upd F w w' ∧ (Bo kb data (zs.eraseIdx i) room).is w' (AndNew F w) := by
  have HA := at_any w F kb data zs room block h
  rw [hz] at HA
  have HA' := Lib.hid HA
  obtain ⟨l, F2, hN, hb, hFk, h2F, hnk, hp⟩ := open_bo h
  have HQ := Lib.hid (And.intro hN (And.intro hb (And.intro hFk (And.intro h2F (And.intro hnk hp)))))
  have HI := Lib.hid (show (zs.map Bk.cells)[i]? = some z.cells by rw [List.getElem?_map, hi]; rfl)
  have hi0 : ¬ ((i : Int) < 0) := by omega
  have hL := Lib.hid (show (zs.map Bk.cells).length ≤ 65536 by rw [List.length_map]; exact hl)
  clear HA h hz hN hb hFk h2F hnk hp hi hl
  go_enter Tryz.func103, Tryz.ntmps103
  go_wp2_with fail
  refine HA'.out.mono ?_
  rintro e w2 ⟨rfl, hu⟩
  have c1 : w2.cell? ⟨kb, 1, none⟩ = some (ptr l) := (HQ.out.2.1.upd hu (fun h => h)).cell 1
  have HU := Lib.hid hu
  have hp2 := (PB.Po (ptr l) (zs.map Bk.cells) room).keep HQ.out.2.2.2.2.2 (hu.kept (fun _ _ _ h => h))
  have HT := Lib.hid (PB.take_ok w2 F2 l (zs.map Bk.cells) room i z.cells hp2 HI.out hL.out)
  clear hu hp2
  go_wp2_with fail
  refine HT.out.mono ?_
  rintro e w3 ⟨rfl, hu3, hp3⟩
  have e1 : (zs.map Bk.cells).eraseIdx i = (zs.eraseIdx i).map Bk.cells := by rw [List.eraseIdx_eq_take_drop_succ, List.eraseIdx_eq_take_drop_succ, List.map_append, List.map_take, List.map_drop]
  rw [e1] at hp3
  obtain ⟨r1, r2⟩ := shut_bo (zs := zs.eraseIdx i) (fun y hy => HQ.out.1 y (List.mem_of_mem_eraseIdx hy)) (HQ.out.2.1.upd HU.out (fun h => h)) HQ.out.2.2.1 HQ.out.2.2.2.1 HQ.out.2.2.2.2.1 hu3 hp3
  have HF := Lib.hid (And.intro ((HU.out.mono (G := F) (fun _ _ h => h.elim)).trans r1 (fun _ _ h => h)) ((Bo kb data (zs.eraseIdx i) room).mono r2 (AndNew.le HU.out.size)))
  clear r1 r2 hu3 hp3 e1
  go_wp2
  go_ret
  exact ⟨rfl, HF.out⟩

theorem blkV (x : Array Value) (hx : IsN 16 x) (w : World) (b : Nat) (T : TypeId) (h : Blk w b x T) : (loadVar 35 ⟨b, 0, none⟩).run Tryz.prog w = .ok (.agg x) w := TBlk.ldV_at hx h.whole
set_option maxRecDepth 100000 in
theorem find_no (w : World) (F : Nat → Prop) (kb : Nat) (data : Int) (zs : List Bk) (room block : Int) (h : (Bo kb data zs room).is w F) (hz : firstAt (fun z => z.blk == block) zs = -1) :
    Calls Tryz.prog 44 #[ptr kb, .int .i64 block] w fun e w' => e = .returned (.tuple #[.agg TBlk.Z, .bool false, .bool false]) ∧ Upd NoF w w' := by
  have hu1 := Upd.alloc NoF w (.cells TBlk.Z 35)
  have h1 := (Bo kb data zs room).keep h (hu1.kept (fun _ _ _ h => h))
  have HA := at_any _ F kb data zs room block h1
  rw [hz] at HA
  have HA' := Lib.hid HA
  have q1 := Lib.hid (Blk.new w TBlk.Z 35)
  have HU1 := Lib.hid hu1
  clear HA h hz h1 hu1
  go_enter Tryz.func44, Tryz.ntmps44
  go_wp2_with fail
  refine HA'.out.mono ?_
  rintro e w2 ⟨rfl, hu2⟩
  obtain ⟨s4, q4⟩ := TBlk.st_at TBlk.isZ TBlk.isZ (q1.out.upd hu2 (fun h => h))
  have HV := Lib.hid (blkV _ TBlk.isZ _ _ _ q4)
  have HU := Lib.hid ((HU1.out.trans hu2 (fun _ _ h => h)).trans (upd_setCells (b := w.heap.size) TBlk.Z.toList 0 _) (fun i hi h => by have : i = w.heap.size := h; omega))
  have s4' : (TBlk.st (.pointer (some ⟨w.heap.size, 0, none⟩)) (.agg #[.int .u32 0, .int .u32 0, .int .u32 0, .int .u32 0, .int .u32 0, .int .u32 0, .int .u32 0, .int .u32 0, .int .u32 0, .int .u32 0, .int .u32 0, .int .u32 0, .int .u32 0, .int .u32 0, .int .u32 0, .int .u32 0])).run Tryz.prog w2 = .ok () (w2.setCells w.heap.size 0 TBlk.Z.toList) := s4
  clear q4 hu2 s4
  go_wp2
  have hv := HV.out
  refine bodyPost_ret (v := .tuple #[.agg TBlk.Z, .bool false, .bool false]) ?_ ?_ ?_
  · simp [results, Tryz.f44, asAddr, hv]
  · rfl
  exact ⟨rfl, HU.out⟩
set_option maxRecDepth 100000 in
theorem find_yes (w : World) (F : Nat → Prop) (kb : Nat) (data : Int) (zs : List Bk) (room block : Int) (i : Nat) (z : Bk) (h : (Bo kb data zs room).is w F) (hz : firstAt (fun z => z.blk == block) zs = i) (hi : zs[i]? = some z) :
    Calls Tryz.prog 44 #[ptr kb, .int .i64 block] w fun e w' => e = .returned (.tuple #[.agg z.D, .bool z.live, .bool true]) ∧ Upd NoF w w' := by
  have hu1 := Upd.alloc NoF w (.cells TBlk.Z 35)
  have h1 := (Bo kb data zs room).keep h (hu1.kept (fun _ _ _ h => h))
  have HA := at_any _ F kb data zs room block h1
  rw [hz] at HA
  have HA' := Lib.hid HA
  have q1 := Lib.hid (Blk.new w TBlk.Z 35)
  have HU1 := Lib.hid hu1
  obtain ⟨l, F2, hN, hb, hFk, h2F, hnk, hp⟩ := open_bo h1
  have HP := Lib.hid hp; have HB := Lib.hid hb
  have HD := Lib.hid (hN z (List.mem_of_getElem? hi))
  have HI := Lib.hid (show (zs.map Bk.cells)[i]? = some z.cells by rw [List.getElem?_map, hi]; rfl)
  have hi0 : ¬ ((i : Int) < 0) := by omega
  clear HA h hz h1 hu1 hN hb hFk h2F hnk hp hi
  go_enter Tryz.func44, Tryz.ntmps44
  go_wp2_with fail
  refine HA'.out.mono ?_
  rintro e w2 ⟨rfl, hu2⟩
  have c1 : w2.cell? ⟨kb, 1, none⟩ = some (ptr l) := (HB.out.upd hu2 (fun h => h)).cell 1
  have HT := Lib.hid (PB.at_ok w2 F2 l (zs.map Bk.cells) room i z.cells ((PB.Po (ptr l) (zs.map Bk.cells) room).keep HP.out (hu2.kept (fun _ _ _ h => h))) HI.out)
  have HU2 := Lib.hid (HU1.out.trans hu2 (fun _ _ h => h))
  have Q2 := Lib.hid (q1.out.upd hu2 (fun h => h))
  clear hu2
  go_wp2_with fail
  refine HT.out.mono ?_
  rintro e w3 ⟨rfl, hu3⟩
  have s8 := TBak.st_new (Bk.isN HD.out) w3
  have hu8 := Upd.alloc NoF w3 (.cells z.cells 140)
  have hU4 := (HU2.out.trans hu3 (fun _ _ h => h)).trans hu8 (fun _ _ h => h)
  have q8 := Blk.new w3 z.cells 140
  have q8d := q8.upd (Upd.drew NoF _) (fun h => h)
  have l8 := TBlk.ld_at HD.out (q8d.range 1 z.D.toList (fun j v hv => z.getD j v hv))
  have l17 : (w3.alloc (.cells z.cells 140)).cell? ⟨w3.heap.size, 17, none⟩ = some (.bool z.live) := (q8.cell 17).trans (Bk.get17 HD.out)
  have q4 := ((Q2.out.upd hu3 (fun h => h)).upd hu8 (fun h => h)).upd (Upd.drew NoF _) (fun h => h)
  obtain ⟨s4, q5⟩ := TBlk.st_at TBlk.isZ HD.out q4
  have HV := Lib.hid (blkV _ HD.out _ _ _ q5)
  have us := upd_setCells (b := w.heap.size) z.D.toList 0 (w3.alloc (.cells z.cells 140)).drew
  have HU := Lib.hid ((hU4.trans (Upd.drew NoF _) (fun _ _ h => h)).trans us (fun i hi h => by have : i = w.heap.size := h; omega))
  have l17b : ((w3.alloc (.cells z.cells 140)).drew.setCells w.heap.size 0 z.D.toList).cell? ⟨w3.heap.size, 17, none⟩ = some (.bool z.live) := us.cell l17 (fun h => by have e : w3.heap.size = w.heap.size := h; have := HU2.out.size; have := hu3.size; have := Q2.out.lt; omega)
  clear hu3 hu8 hU4 q8 q8d q4 q5 us
  go_wp2
  go_region_with (fail)
  all_goals
    go_wp2
    have hv := HV.out
    refine bodyPost_ret (v := .tuple #[.agg z.D, .bool z.live, .bool true]) ?_ ?_ ?_
    · simp [results, Tryz.f44, asAddr, Act.put, hv]
    · rfl
    exact ⟨rfl, HU.out⟩
set_option maxRecDepth 100000 in
theorem put_arg (w : World) (F : Nat → Prop) (kb : Nat) (data : Int) (zs : List Bk) (room block : Int) (D : Array Value) (h : (Bo kb data zs room).is w F) (hb : block < 0 ∨ data ≤ block) :
    Calls Tryz.prog 47 #[ptr kb, .int .i64 block, .agg D] w fun e w' => e = .returned (.int .i64 2) ∧ Upd NoF w w' := by
  obtain ⟨l, F2, hN, hbk, hFk, h2F, hnk, hp⟩ := open_bo h
  have c0 : (w.alloc (.cells D 35)).cell? ⟨kb, 0, none⟩ = some (.int .i64 data) := (hbk.alloc _).cell 0
  clear h hN hbk hFk h2F hnk hp
  by_cases h0 : block < 0
  · go_enter Tryz.func47, Tryz.ntmps47
    go_wp2
    go_ret
    exact ⟨rfl, Upd.alloc NoF w _⟩
  · have h1 : data ≤ block := by omega
    go_enter Tryz.func47, Tryz.ntmps47
    go_wp2
    go_ret
    exact ⟨rfl, Upd.alloc NoF w _⟩
set_option maxRecDepth 100000 in
theorem put_state (w : World) (F : Nat → Prop) (kb : Nat) (data : Int) (zs : List Bk) (room block : Int) (i : Nat) (D : Array Value) (h : (Bo kb data zs room).is w F) (h0 : 0 ≤ block) (h1 : block < data) (hz : firstAt (fun z => z.blk == block) zs = i) :
    Calls Tryz.prog 47 #[ptr kb, .int .i64 block, .agg D] w fun e w' => e = .returned (.int .i64 8) ∧ Upd NoF w w' := by
  obtain ⟨l, F2, hN, hbk, hFk, h2F, hnk, hp⟩ := open_bo h
  have c0 : (w.alloc (.cells D 35)).cell? ⟨kb, 0, none⟩ = some (.int .i64 data) := (hbk.alloc _).cell 0
  have HA := at_any _ F kb data zs room block ((Bo kb data zs room).keep h ((Upd.alloc NoF w (.cells D 35)).kept (fun _ _ _ h => h)))
  rw [hz] at HA
  have HA' := Lib.hid HA
  have hi0 : (0 : Int) ≤ (i : Int) := by omega
  clear h hN hbk hFk h2F hnk hp HA hz
  go_enter Tryz.func47, Tryz.ntmps47
  go_wp2_with fail
  refine HA'.out.mono ?_
  rintro e w2 ⟨rfl, hu⟩
  have HU := Lib.hid ((Upd.alloc NoF w (.cells D 35)).trans hu (fun _ _ h => h))
  clear hu
  go_wp2
  go_ret
  exact ⟨rfl, HU.out⟩
set_option maxRecDepth 100000 in
set_option maxHeartbeats 2000000 in
theorem put_full (w : World) (F : Nat → Prop) (kb : Nat) (data : Int) (zs : List Bk) (room block : Int) (D : Array Value) (hD : IsN 16 D) (h : (Bo kb data zs room).is w F) (h0 : 0 ≤ block) (h1 : block < data) (hz : firstAt (fun z => z.blk == block) zs = -1) (hl : room ≤ zs.length) :
    Calls Tryz.prog 47 #[ptr kb, .int .i64 block, .agg D] w fun e w' => e = .returned (.int .i64 7) ∧ Upd NoF w w' := by
  obtain ⟨l, F2, hN, hbk, hFk, h2F, hnk, hp⟩ := open_bo h
  have c0 : (w.alloc (.cells D 35)).cell? ⟨kb, 0, none⟩ = some (.int .i64 data) := (hbk.alloc _).cell 0
  have HA := at_any _ F kb data zs room block ((Bo kb data zs room).keep h ((Upd.alloc NoF w (.cells D 35)).kept (fun _ _ _ h => h)))
  rw [hz] at HA
  have HA' := Lib.hid HA
  have q0 := Lib.hid (Blk.new w D 35)
  have HP := Lib.hid hp; have HB := Lib.hid hbk; have HD := Lib.hid hD
  have HL := Lib.hid (show room ≤ ((zs.map Bk.cells).length : Int) by rw [List.length_map]; exact hl)
  clear h hN hbk hFk h2F hnk hp HA hz hl
  obtain ⟨d0, d1, d2, d3, d4, d5, d6, d7, d8, d9, d10, d11, d12, d13, d14, d15, rfl⟩ := split16 hD.1
  have HCX : Hid (Bk.cells ⟨block, #[d0, d1, d2, d3, d4, d5, d6, d7, d8, d9, d10, d11, d12, d13, d14, d15], true⟩ = #[.int .i64 block, d0, d1, d2, d3, d4, d5, d6, d7, d8, d9, d10, d11, d12, d13, d14, d15, .bool true]) := Lib.hid (by kernel_rfl)
  clear hD
  go_enter Tryz.func47, Tryz.ntmps47
  go_wp2_with fail
  refine HA'.out.mono ?_
  rintro e w2 ⟨rfl, hu⟩
  have hU := (Upd.alloc NoF w (.cells #[d0, d1, d2, d3, d4, d5, d6, d7, d8, d9, d10, d11, d12, d13, d14, d15] 35)).trans hu (fun _ _ h => h)
  have c1 : w2.cell? ⟨kb, 1, none⟩ = some (ptr l) := (HB.out.upd hU (fun h => h)).cell 1
  have q2 := (q0.out.upd hu (fun h => h)).upd (Upd.drew NoF _) (fun h => h)
  have lD := TBlk.ld_at HD.out q2.whole
  have hUd := hU.trans (Upd.drew NoF _) (fun _ _ h => h)
  have HPd := Lib.hid ((PB.Po (ptr l) (zs.map Bk.cells) room).keep HP.out (hUd.kept (fun _ _ _ h => h)))
  have HU := Lib.hid hUd
  clear hu hU q2 hUd
  go_wp2_with fail
  go_region_with (go_at_call 94; refine (PB.put_full w2.drew F2 l (zs.map Bk.cells) room (#[.int .i64 block, d0, d1, d2, d3, d4, d5, d6, d7, d8, d9, d10, d11, d12, d13, d14, d15, .bool true]) HPd.out HL.out).mono ?_; rintro e w3 ⟨rfl, hu⟩; have HU3 := Lib.hid (HU.out.trans hu (fun _ _ h => h)); clear hu)
  all_goals
    go_wp2
    go_ret
    exact ⟨rfl, HU3.out⟩
set_option maxRecDepth 100000 in
set_option maxHeartbeats 2000000 in
theorem put_ok (w : World) (F : Nat → Prop) (kb : Nat) (data : Int) (zs : List Bk) (room block : Int) (D : Array Value) (hD : IsN 16 D) (h : (Bo kb data zs room).is w F) (h0 : 0 ≤ block) (h1 : block < data) (hz : firstAt (fun z => z.blk == block) zs = -1) (hl : (zs.length : Int) < room) (hr : room ≤ 65536) :
    Calls Tryz.prog 47 #[ptr kb, .int .i64 block, .agg D] w fun e w' => e = .returned (.int .i64 0) ∧ Upd F w w' ∧ (Bo kb data (zs ++ [⟨block, D, true⟩]) room).is w' (AndNew F w) := by
  obtain ⟨l, F2, hN, hbk, hFk, h2F, hnk, hp⟩ := open_bo h
  have c0 : (w.alloc (.cells D 35)).cell? ⟨kb, 0, none⟩ = some (.int .i64 data) := (hbk.alloc _).cell 0
  have HA := at_any _ F kb data zs room block ((Bo kb data zs room).keep h ((Upd.alloc NoF w (.cells D 35)).kept (fun _ _ _ h => h)))
  rw [hz] at HA
  have HA' := Lib.hid HA
  have q0 := Lib.hid (Blk.new w D 35)
  have HP := Lib.hid hp; have HB := Lib.hid hbk; have HD := Lib.hid hD; have HFk := Lib.hid hFk; have H2F := Lib.hid h2F; have Hnk := Lib.hid hnk
  have HL := Lib.hid (show ((zs.map Bk.cells).length : Int) < room by rw [List.length_map]; exact hl)
  have HN := Lib.hid (show ∀ z ∈ zs ++ [(⟨block, D, true⟩ : Bk)], IsN 16 z.D from fun z hz => by
    rcases List.mem_append.1 hz with hz | hz
    · exact hN z hz
    · simp at hz; subst hz; exact hD)
  have HC := Lib.hid (Bk.isN (z := ⟨block, D, true⟩) hD)
  clear h hN hbk hFk h2F hnk hp HA hz hl
  obtain ⟨d0, d1, d2, d3, d4, d5, d6, d7, d8, d9, d10, d11, d12, d13, d14, d15, rfl⟩ := split16 hD.1
  have HCX : Hid (Bk.cells ⟨block, #[d0, d1, d2, d3, d4, d5, d6, d7, d8, d9, d10, d11, d12, d13, d14, d15], true⟩ = #[.int .i64 block, d0, d1, d2, d3, d4, d5, d6, d7, d8, d9, d10, d11, d12, d13, d14, d15, .bool true]) := Lib.hid (by kernel_rfl)
  rw [HCX.out] at HC
  clear hD
  go_enter Tryz.func47, Tryz.ntmps47
  go_wp2_with fail
  refine HA'.out.mono ?_
  rintro e w2 ⟨rfl, hu⟩
  have hU := (Upd.alloc NoF w (.cells #[d0, d1, d2, d3, d4, d5, d6, d7, d8, d9, d10, d11, d12, d13, d14, d15] 35)).trans hu (fun _ _ h => h)
  have c1 : w2.cell? ⟨kb, 1, none⟩ = some (ptr l) := (HB.out.upd hU (fun h => h)).cell 1
  have q2 := (q0.out.upd hu (fun h => h)).upd (Upd.drew NoF _) (fun h => h)
  have lD := TBlk.ld_at HD.out q2.whole
  have hUd := hU.trans (Upd.drew NoF _) (fun _ _ h => h)
  have HPd := Lib.hid ((PB.Po (ptr l) (zs.map Bk.cells) room).keep HP.out (hUd.kept (fun _ _ _ h => h)))
  have HBd := Lib.hid (HB.out.upd hUd (fun h => h))
  have HU := Lib.hid hUd
  clear hu hU q2 hUd
  go_wp2_with fail
  go_region_with (go_at_call 94; refine (PB.put_ok w2.drew F2 l (zs.map Bk.cells) room (#[.int .i64 block, d0, d1, d2, d3, d4, d5, d6, d7, d8, d9, d10, d11, d12, d13, d14, d15, .bool true]) HC.out HPd.out HL.out hr).mono ?_; rintro e w3 ⟨rfl, hu3, hp3⟩; have HU3 := Lib.hid (And.intro hu3 hp3); clear hu3 hp3)
  all_goals
    go_wp2
    go_ret
    have hp3 := HU3.out.2
    have e9 : zs.map Bk.cells ++ [#[.int .i64 block, d0, d1, d2, d3, d4, d5, d6, d7, d8, d9, d10, d11, d12, d13, d14, d15, .bool true]] = (zs ++ [(⟨block, #[d0, d1, d2, d3, d4, d5, d6, d7, d8, d9, d10, d11, d12, d13, d14, d15], true⟩ : Bk)]).map Bk.cells := by rw [← HCX.out]; simp
    rw [e9] at hp3
    obtain ⟨r1, r2⟩ := shut_bo HN.out HBd.out HFk.out H2F.out Hnk.out HU3.out.1 hp3
    exact ⟨rfl, (HU.out.mono (G := F) (fun _ _ h => h.elim)).trans r1 (fun _ _ h => h), (Bo kb data _ room).mono r2 (AndNew.le HU.out.size)⟩

set_option maxRecDepth 100000 in
theorem kill_no (w : World) (F : Nat → Prop) (kb : Nat) (data : Int) (zs : List Bk) (room block : Int) (h : (Bo kb data zs room).is w F) (hz : firstAt (fun z => z.blk == block) zs = -1) :
    Calls Tryz.prog 98 #[ptr kb, .int .i64 block] w fun e w' => e = .returned (.bool false) ∧ Upd NoF w w' := by
  have HA := Lib.hid (find_no w F kb data zs room block h hz)
  clear h hz
  go_enter Tryz.func98, Tryz.ntmps98
  go_wp2_with fail
  refine HA.out.mono ?_
  rintro e w2 ⟨rfl, hu⟩
  have s5 := TBlk.st_new TBlk.isZ w2
  have HU := Lib.hid (hu.trans (Upd.alloc NoF w2 (.cells TBlk.Z 35)) (fun _ _ h => h))
  clear hu
  go_wp2
  go_ret
  exact ⟨rfl, HU.out⟩
set_option maxRecDepth 100000 in
theorem kill_dead (w : World) (F : Nat → Prop) (kb : Nat) (data : Int) (zs : List Bk) (room block : Int) (i : Nat) (z : Bk) (h : (Bo kb data zs room).is w F) (hz : firstAt (fun z => z.blk == block) zs = i) (hi : zs[i]? = some z) (hd : z.live = false) :
    Calls Tryz.prog 98 #[ptr kb, .int .i64 block] w fun e w' => e = .returned (.bool false) ∧ Upd NoF w w' := by
  have HA := find_yes w F kb data zs room block i z h hz hi
  rw [hd] at HA
  have HA' := Lib.hid HA
  have HD := (open_bo h).choose_spec.choose_spec.1 z (List.mem_of_getElem? hi)
  clear h hz hi HA
  go_enter Tryz.func98, Tryz.ntmps98
  go_wp2_with fail
  refine HA'.out.mono ?_
  rintro e w2 ⟨rfl, hu⟩
  have s5 := TBlk.st_new HD w2
  have HU := Lib.hid (hu.trans (Upd.alloc NoF w2 (.cells z.D 35)) (fun _ _ h => h))
  clear hu
  go_wp2
  go_ret
  exact ⟨rfl, HU.out⟩
set_option maxRecDepth 100000 in
set_option maxHeartbeats 2000000 in
theorem kill_yes (w : World) (F : Nat → Prop) (kb : Nat) (data : Int) (zs : List Bk) (room block : Int) (i : Nat) (D : Array Value) (h : (Bo kb data zs room).is w F) (hz : firstAt (fun z => z.blk == block) zs = i) (hi : zs[i]? = some ⟨block, D, true⟩) (hl : (zs.length : Int) ≤ room) (hr : room ≤ 65536) :
    Calls Tryz.prog 98 #[ptr kb, .int .i64 block] w fun e w' => e = .returned (.bool true) ∧ Upd F w w' ∧ (Bo kb data (zs.eraseIdx i ++ [⟨block, D, false⟩]) room).is w' (AndNew F w) := by
  refine PB.of_tight (E := fun e => e = _) h ?_
  clear h
  intro F h hF
  have HA := Lib.hid (find_yes w F kb data zs room block i _ h hz hi)
  have hN := (open_bo h).choose_spec.choose_spec.1
  have hD : IsN 16 D := hN _ (List.mem_of_getElem? hi)
  have HD := Lib.hid hD
  have H := Lib.hid h; have HZ := Lib.hid hz; have HI := Lib.hid hi; have HFl := Lib.hid hF
  have hik : i < zs.length := (List.getElem?_eq_some_iff.1 hi).1
  have HL := Lib.hid (show (((zs.eraseIdx i).map Bk.cells).length : Int) < room by rw [List.length_map, List.length_eraseIdx, if_pos hik]; omega)
  have hl6 : zs.length ≤ 65536 := by omega
  have HN := Lib.hid (show ∀ z ∈ zs.eraseIdx i ++ [(⟨block, D, false⟩ : Bk)], IsN 16 z.D from fun z hz => by
    rcases List.mem_append.1 hz with hz | hz
    · exact hN z (List.mem_of_mem_eraseIdx hz)
    · simp at hz; subst hz; exact hD)
  have HC := Lib.hid (Bk.isN (z := ⟨block, D, false⟩) hD)
  clear h hz hi hF hN hl hik
  obtain ⟨d0, d1, d2, d3, d4, d5, d6, d7, d8, d9, d10, d11, d12, d13, d14, d15, rfl⟩ := split16 hD.1
  have HCX : Hid (Bk.cells ⟨block, #[d0, d1, d2, d3, d4, d5, d6, d7, d8, d9, d10, d11, d12, d13, d14, d15], false⟩ = #[.int .i64 block, d0, d1, d2, d3, d4, d5, d6, d7, d8, d9, d10, d11, d12, d13, d14, d15, .bool false]) := Lib.hid (by kernel_rfl)
  rw [HCX.out] at HC
  clear hD
  go_enter Tryz.func98, Tryz.ntmps98
  go_wp2_with fail
  refine HA.out.mono ?_
  rintro e w2 ⟨rfl, hu⟩
  have s5 := TBlk.st_new HD.out w2
  have q5 := Lib.hid (Blk.new w2 #[d0, d1, d2, d3, d4, d5, d6, d7, d8, d9, d10, d11, d12, d13, d14, d15] 35)
  have hU := hu.trans (Upd.alloc NoF w2 (.cells #[d0, d1, d2, d3, d4, d5, d6, d7, d8, d9, d10, d11, d12, d13, d14, d15] 35)) (fun _ _ h => h)
  have HU := Lib.hid hU
  have HDr := Lib.hid (drop_yes _ F kb data zs room block i _ ((Bo kb data zs room).keep H.out (hU.kept (fun _ _ _ h => h))) HZ.out HI.out hl6)
  have HS := Lib.hid hu.size
  clear hu hU
  go_wp2_with fail
  refine HDr.out.mono ?_
  rintro e w3 ⟨rfl, hu3, hb3⟩
  obtain ⟨l, F2, hN3, hbk, hFk, h2F, hnk, hp⟩ := open_bo hb3
  have hs3 : (w2.alloc (.cells #[d0, d1, d2, d3, d4, d5, d6, d7, d8, d9, d10, d11, d12, d13, d14, d15] 35)).heap.size = w2.heap.size + 1 := by simp
  have hn5 : ¬ F w2.heap.size := fun hf => by have := HFl.out _ hf; have := HS.out; omega
  have c1 : w3.cell? ⟨kb, 1, none⟩ = some (ptr l) := hbk.cell 1
  have q3 := (q5.out.upd hu3 hn5).upd (Upd.drew NoF _) (fun h => h)
  have lD := TBlk.ld_at HD.out q3.whole
  have hd3 := Upd.drew NoF w3
  have HPd := Lib.hid ((PB.Po (ptr l) ((zs.eraseIdx i).map Bk.cells) room).keep hp (hd3.kept (fun _ _ _ h => h)))
  have HBd := Lib.hid (hbk.upd hd3 (fun h => h))
  have HUF := Lib.hid (((HU.out.mono (G := F) (fun _ _ h => h.elim)).trans hu3 (fun _ _ h => h)).trans (hd3.mono (G := F) (fun _ _ h => h.elim)) (fun _ _ h => h))
  have HFk := Lib.hid hFk; have H2F := Lib.hid h2F; have Hnk := Lib.hid hnk
  have hsz : w.heap.size ≤ (w2.alloc (.cells #[d0, d1, d2, d3, d4, d5, d6, d7, d8, d9, d10, d11, d12, d13, d14, d15] 35)).heap.size := HU.out.size
  clear hu3 hb3 hN3 hbk hFk h2F hnk hp q3 hd3 hs3
  go_wp2_with fail
  go_region_with (go_at_call 94; refine (PB.put_ok w3.drew F2 l ((zs.eraseIdx i).map Bk.cells) room (#[.int .i64 block, d0, d1, d2, d3, d4, d5, d6, d7, d8, d9, d10, d11, d12, d13, d14, d15, .bool false]) HC.out HPd.out HL.out hr).mono ?_; rintro e w4 ⟨rfl, hu4, hp4⟩; have HU4 := Lib.hid (And.intro hu4 hp4); clear hu4 hp4)
  all_goals
    go_wp2
    go_ret
    have hp3 := HU4.out.2
    have e9 : (zs.eraseIdx i).map Bk.cells ++ [#[.int .i64 block, d0, d1, d2, d3, d4, d5, d6, d7, d8, d9, d10, d11, d12, d13, d14, d15, .bool false]] = (zs.eraseIdx i ++ [(⟨block, #[d0, d1, d2, d3, d4, d5, d6, d7, d8, d9, d10, d11, d12, d13, d14, d15], false⟩ : Bk)]).map Bk.cells := by rw [← HCX.out]; simp
    rw [e9] at hp3
    obtain ⟨r1, r2⟩ := shut_bo HN.out HBd.out HFk.out H2F.out Hnk.out HU4.out.1 hp3
    refine ⟨rfl, HUF.out.trans r1 (fun k hk hf => hf.elim id (fun hf => by omega)), (Bo kb data _ room).mono r2 (fun k hk => ?_)⟩
    rcases hk with (hk | hk) | hk
    · exact .inl hk
    · exact .inr (by omega)
    · exact .inr (by have := HUF.out.size; omega)
theorem copy_any (w : World) (F : Nat → Prop) (kb : Nat) (data : Int) (zs : List Bk) (room : Int) (h : (Bo kb data zs room).is w F) (hl : zs.length ≤ 65536) :
    Calls Tryz.prog 60 #[ptr kb] w fun e w' => ∃ q, e = .returned (ptr q) ∧ Upd NoF w w' ∧ (Bo q data zs room).is w' (fun k => w.heap.size ≤ k) := by
  obtain ⟨l, F2, hN, hbk, hFk, h2F, hnk, hp⟩ := open_bo h
  have c0 : w.cell? ⟨kb, 0, none⟩ = some (.int .i64 data) := hbk.cell 0
  have c1 : w.cell? ⟨kb, 1, none⟩ = some (ptr l) := hbk.cell 1
  have HPd := Lib.hid ((PB.Po (ptr l) (zs.map Bk.cells) room).keep hp ((Upd.drew NoF w).kept (fun _ _ _ h => h)))
  have HN := Lib.hid hN; have HB := Lib.hid hbk
  have HL := Lib.hid (show (zs.map Bk.cells).length ≤ 65536 by rw [List.length_map]; exact hl)
  clear h hN hbk hFk h2F hnk hp hl
  go_enter Tryz.func60, Tryz.ntmps60
  go_wp2
  go_region_with (go_at_call 106; refine (PB.copy_any w.drew F2 l (zs.map Bk.cells) room HPd.out HL.out).mono ?_; rintro e w2 ⟨q, rfl, hu, hq⟩; have c0' : w2.cell? ⟨kb, 0, none⟩ = some (.int .i64 data) := ((HB.out.upd (Upd.drew NoF w) (fun h => h)).upd hu (fun h => h)).cell 0; have HQ := Lib.hid (And.intro hu hq); clear hu hq)
  all_goals
    go_wp2
    go_ret
    have hu := (Upd.drew NoF w).trans HQ.out.1 (fun _ _ h => h)
    refine ⟨_, rfl, hu.trans (Upd.alloc NoF _ _) (fun _ _ h => h), q, HN.out, (fun k => k = w2.heap.size), (fun k => w.heap.size ≤ k ∧ k < w2.heap.size), fun k hk => by subst hk; exact hu.size, fun k hk => hk.1, fun k hk hf => by omega, ⟨Blk.new w2 _ _, rfl⟩, ?_⟩
    obtain ⟨F', t1, t2⟩ := (PB.Po (ptr q) (zs.map Bk.cells) room).tight HQ.out.2
    exact (PB.Po (ptr q) (zs.map Bk.cells) room).keep ((PB.Po (ptr q) (zs.map Bk.cells) room).mono t1 (fun k hk => ⟨(t2 k hk).1, (t2 k hk).2⟩)) ((Upd.alloc NoF w2 _).kept (fun _ _ _ h => h))
theorem new_yes (c : Cfg) (hc : May c) (w : World) : Calls Tryz.prog 35 #[CV c] w fun e w' => ∃ kb, e = .returned (.tuple #[ptr kb, .int .i64 0]) ∧ Upd NoF w w' ∧ (Bo kb (c.blocks - c.cores * c.logs) [] c.backs).is w' (fun k => w.heap.size ≤ k) := by
  have HM := Lib.hid (PL.pMay_yes c hc)
  have HD := Lib.hid (PL.pData_yes c hc)
  have HN := Lib.hid (PB.new_ok c.backs hc.2.2.2.1.1 (by have := hc.2.2.2.1.2; omega))
  clear hc
  generalize c.blocks - c.cores * c.logs = data at *
  go_enter Tryz.func35, Tryz.ntmps35
  have q1 := Blk.new w (CC c) 27
  obtain ⟨w1, hw1⟩ : ∃ W, w.alloc (.cells (CC c) 27) = W := ⟨_, rfl⟩
  have hu1 : Upd NoF w w1 := by rw [← hw1]; exact Upd.alloc NoF w _
  rw [hw1] at q1
  have HQ1 := Lib.hid q1; have HU1 := Lib.hid hu1; have HW1 := Lib.hid hw1
  clear q1 hu1 hw1
  go_wp2_with fail
  rw [HW1.out]
  refine (HM.out _).mono ?_
  rintro e w2 ⟨rfl, hu⟩
  have r2 := HQ1.out.upd hu (fun h => h)
  have HU2 := Lib.hid (HU1.out.trans hu (fun _ _ h => h))
  have g5 : w2.cell? ⟨w.heap.size, 5, none⟩ = some (.int .i64 c.backs) := r2.cell 5
  have HQ2 := Lib.hid r2
  clear hu r2
  go_wp2_with fail
  refine (HN.out _).mono ?_
  rintro e w3 ⟨l, rfl, hu, hp⟩
  have r := HQ2.out.upd hu (fun h => h)
  have HU3 := Lib.hid (HU2.out.trans hu (fun _ _ h => h))
  have f0 := r.cell 0; have f1 := r.cell 1; have f2 := r.cell 2; have f3 := r.cell 3; have f4 := r.cell 4; have f5 := r.cell 5; have f6 := r.cell 6; have f7 := r.cell 7
  change w3.cell? ⟨w.heap.size, 0, none⟩ = some (.int .i64 c.cores) at f0
  change w3.cell? ⟨w.heap.size, 1, none⟩ = some (.int .i64 c.sets) at f1
  change w3.cell? ⟨w.heap.size, 2, none⟩ = some (.int .i64 c.ways) at f2
  change w3.cell? ⟨w.heap.size, 3, none⟩ = some (.int .i64 c.blocks) at f3
  change w3.cell? ⟨w.heap.size, 4, none⟩ = some (.int .i64 c.logs) at f4
  change w3.cell? ⟨w.heap.size, 5, none⟩ = some (.int .i64 c.backs) at f5
  change w3.cell? ⟨w.heap.size, 6, none⟩ = some (.int .i64 c.nest) at f6
  change w3.cell? ⟨w.heap.size, 7, none⟩ = some (.int .i64 c.tries) at f7
  have HP3 := Lib.hid ((PB.Po (ptr l) [] c.backs).mono hp (G := fun k => w.heap.size ≤ k) (fun k hk => by have := HU2.out.size; omega))
  clear hu r hp
  go_wp2_with fail
  refine (HD.out _).mono ?_
  rintro e w4 ⟨rfl, hu⟩
  have HU4 := Lib.hid (HU3.out.trans hu (fun _ _ h => h))
  have HP4 := Lib.hid ((PB.Po (ptr l) [] c.backs).keep HP3.out (hu.kept (fun _ _ _ h => h)))
  clear hu
  go_wp2_with fail
  go_ret2
  refine ⟨_, rfl, HU4.out.trans (Upd.alloc NoF _ _) (fun _ _ h => h), l, (fun z hz => by cases hz), (fun k => k = w4.heap.size), (fun k => w.heap.size ≤ k ∧ k < w4.heap.size), fun k hk => by subst hk; exact HU4.out.size, fun k hk => hk.1, fun k hk hf => by omega, ⟨Blk.new w4 _ _, rfl⟩, ?_⟩
  obtain ⟨F', t1, t2⟩ := (PB.Po (ptr l) [] c.backs).tight HP4.out
  exact (PB.Po (ptr l) [] c.backs).keep ((PB.Po (ptr l) [] c.backs).mono t1 (fun k hk => ⟨(t2 k hk).1, (t2 k hk).2⟩)) ((Upd.alloc NoF w4 _).kept (fun _ _ _ h => h))
end Go.Proofs.YtjgeflbhmhmjdaaGreat.BK
namespace Go.Proofs.YtjgeflbhmhmjdaaGreat.PB
open Go.RowKit
attribute [local go_sem] Oper.semAt_some
end Go.Proofs.YtjgeflbhmhmjdaaGreat.PB
namespace Go.Proofs.YtjgeflbhmhmjdaaGreat.BK
open Go.RowKit
attribute [local go_sem] Oper.semAt_some
end Go.Proofs.YtjgeflbhmhmjdaaGreat.BK
namespace Go.Proofs.YtjgeflbhmhmjdaaGreat.BK
open Go.RowKit
open PL (Cfg CC CV May)

structure Inv (data room : Int) (zs : List Bk) : Prop where
  few : (zs.length : Int) ≤ room
  rng : ∀ z ∈ zs, 0 ≤ z.blk ∧ z.blk < data
  apart : ∀ (i j : Nat) (y z : Bk), zs[i]? = some y → zs[j]? = some z → y.blk = z.blk → i = j
  isN : ∀ z ∈ zs, IsN 16 z.D

def ixB (zs : List Bk) (b : Int) : Option Nat := zs.findIdx? (fun z => z.blk == b)
def putE (data room : Int) (zs : List Bk) (b : Int) : Int := if b < 0 ∨ data ≤ b then 2 else if (ixB zs b).isSome then 8 else if room ≤ zs.length then 7 else 0
def putS (data room : Int) (zs : List Bk) (b : Int) (D : Array Value) : List Bk := if putE data room zs b = 0 then zs ++ [⟨b, D, true⟩] else zs
def findB (zs : List Bk) (b : Int) : Option Bk := match ixB zs b with | some i => zs[i]? | none => none
def dropB (zs : List Bk) (b : Int) : Bool := (ixB zs b).isSome
def dropS (zs : List Bk) (b : Int) : List Bk := match ixB zs b with | some i => zs.eraseIdx i | none => zs
def killB (zs : List Bk) (b : Int) : Bool := match findB zs b with | some z => z.live | none => false
def killS (zs : List Bk) (b : Int) : List Bk := match findB zs b with | some z => if z.live then dropS zs b ++ [⟨b, z.D, false⟩] else zs | none => zs
def findV (zs : List Bk) (b : Int) : Value := match findB zs b with | some z => .tuple #[.agg z.D, .bool z.live, .bool true] | none => .tuple #[.agg TBlk.Z, .bool false, .bool false]

theorem ix_none {zs : List Bk} {b : Int} (h : ixB zs b = none) : firstAt (fun z : Bk => z.blk == b) zs = -1 ∧ ∀ z ∈ zs, z.blk ≠ b := by
  unfold ixB at h
  refine ⟨by unfold firstAt; rw [h], fun z hz => ?_⟩
  have := List.findIdx?_eq_none_iff.1 h z hz
  simpa using this
theorem ix_some {zs : List Bk} {b : Int} {i : Nat} (h : ixB zs b = some i) : firstAt (fun z : Bk => z.blk == b) zs = i ∧ ∃ z, zs[i]? = some z ∧ z.blk = b := by
  unfold ixB at h
  refine ⟨by unfold firstAt; rw [h], ?_⟩
  obtain ⟨hl, hg, _⟩ := List.findIdx?_eq_some_iff_getElem.1 h
  exact ⟨zs[i], List.getElem?_eq_getElem hl, by simpa using hg⟩

theorem Inv.nil (data room : Int) (h : 0 ≤ room) : Inv data room [] := ⟨by simpa using h, fun z hz => (by cases hz), fun i j y z h => by simp at h, fun z hz => (by cases hz)⟩
theorem Inv.erase {data room : Int} {zs : List Bk} (h : Inv data room zs) (i : Nat) : Inv data room (zs.eraseIdx i) := by
  have key : ∀ (j : Nat) (y : Bk), (zs.eraseIdx i)[j]? = some y → zs[if j < i then j else j + 1]? = some y := fun j y hj => by
    rw [List.getElem?_eraseIdx] at hj
    split at hj <;> rename_i hlt
    · rw [if_pos hlt]; exact hj
    · rw [if_neg hlt]; exact hj
  refine ⟨by have := List.length_eraseIdx_le zs i; have := h.few; omega, fun z hz => h.rng z (List.mem_of_mem_eraseIdx hz), fun j k y z hj hk he => ?_, fun z hz => h.isN z (List.mem_of_mem_eraseIdx hz)⟩
  have := h.apart _ _ _ _ (key j y hj) (key k z hk) he
  split at this <;> split at this <;> omega
theorem Inv.push {data room : Int} {zs : List Bk} (h : Inv data room zs) (z : Bk) (h0 : (zs.length : Int) < room) (h1 : 0 ≤ z.blk ∧ z.blk < data) (h2 : ∀ y ∈ zs, y.blk ≠ z.blk) (h3 : IsN 16 z.D) : Inv data room (zs ++ [z]) := by
  have key : ∀ (j : Nat) (y : Bk), (zs ++ [z])[j]? = some y → (zs[j]? = some y) ∨ (j = zs.length ∧ y = z) := fun j y hj => by
    by_cases hlt : j < zs.length
    · rw [List.getElem?_append_left hlt] at hj; exact .inl hj
    · rw [List.getElem?_append_right (by omega)] at hj
      obtain ⟨hl, hy⟩ := List.getElem?_eq_some_iff.1 hj
      simp at hl hy
      exact .inr ⟨by omega, hy.symm⟩
  refine ⟨by rw [List.length_append]; simp only [List.length_cons, List.length_nil]; omega, fun y hy => ?_, fun i j y x hi hj he => ?_, fun y hy => ?_⟩
  · rcases List.mem_append.1 hy with hy | hy
    · exact h.rng y hy
    · simp at hy; exact hy ▸ h1
  · rcases key i y hi with k1 | ⟨k1, e1⟩ <;> rcases key j x hj with k2 | ⟨k2, e2⟩
    · exact h.apart i j y x k1 k2 he
    · exact absurd (e2 ▸ he) (h2 y (List.mem_of_getElem? k1))
    · exact absurd (e1 ▸ he).symm (h2 x (List.mem_of_getElem? k2))
    · omega
  · rcases List.mem_append.1 hy with hy | hy
    · exact h.isN y hy
    · simp at hy; exact hy ▸ h3
theorem Inv.put {data room : Int} {zs : List Bk} (h : Inv data room zs) (b : Int) {D : Array Value} (hD : IsN 16 D) : Inv data room (putS data room zs b D) := by
  unfold putS
  split
  · rename_i he
    unfold putE at he
    split at he
    · cases he
    · split at he
      · cases he
      · split at he
        · cases he
        · rename_i h1 h2 h3
          have hn : ixB zs b = none := by cases hx : ixB zs b <;> simp_all
          exact h.push ⟨b, D, true⟩ (by omega) ⟨by show 0 ≤ b; omega, by show b < data; omega⟩ (ix_none hn).2 hD
  · exact h
theorem Inv.drop {data room : Int} {zs : List Bk} (h : Inv data room zs) (b : Int) : Inv data room (dropS zs b) := by
  unfold dropS
  split
  · exact h.erase _
  · exact h
theorem dropS_not {data room : Int} {zs : List Bk} (h : Inv data room zs) (b : Int) : ∀ y ∈ dropS zs b, y.blk ≠ b := fun y hy he => by
  unfold dropS at hy
  cases hx : ixB zs b with
  | none => rw [hx] at hy; exact (ix_none hx).2 y hy he
  | some i =>
    rw [hx] at hy
    obtain ⟨_, z, hz, hzb⟩ := ix_some hx
    obtain ⟨j, hj⟩ := List.mem_iff_getElem?.1 hy
    rw [List.getElem?_eraseIdx] at hj
    split at hj
    · have := h.apart j i y z hj hz (by rw [he, hzb]); omega
    · have := h.apart (j + 1) i y z hj hz (by rw [he, hzb]); omega
theorem dropS_len {zs : List Bk} {b : Int} (h : (ixB zs b).isSome = true) : (dropS zs b).length + 1 = zs.length := by
  unfold dropS
  cases hx : ixB zs b with
  | none => rw [hx] at h; cases h
  | some i =>
    obtain ⟨_, z, hz, _⟩ := ix_some hx
    have := (List.getElem?_eq_some_iff.1 hz).1
    show (zs.eraseIdx i).length + 1 = zs.length
    rw [List.length_eraseIdx, if_pos this]; omega
theorem find_of {zs : List Bk} {b : Int} {z : Bk} (h : findB zs b = some z) : ∃ i, ixB zs b = some i ∧ zs[i]? = some z ∧ z.blk = b := by
  unfold findB at h
  cases hx : ixB zs b with
  | none => rw [hx] at h; cases h
  | some i =>
    rw [hx] at h
    obtain ⟨_, y, hy, hb⟩ := ix_some hx
    replace h : zs[i]? = some z := h
    rw [hy] at h; cases h
    exact ⟨i, rfl, hy, hb⟩
theorem find_none_of {zs : List Bk} {b : Int} (h : findB zs b = none) : ixB zs b = none := by
  unfold findB at h
  cases hx : ixB zs b with
  | none => rfl
  | some i =>
    rw [hx] at h
    obtain ⟨_, y, hy, hb⟩ := ix_some hx
    replace h : zs[i]? = none := h
    rw [hy] at h; cases h
theorem Inv.kill {data room : Int} {zs : List Bk} (h : Inv data room zs) (b : Int) : Inv data room (killS zs b) := by
  unfold killS
  cases hx : findB zs b with
  | none => exact h
  | some z =>
    obtain ⟨i, h1, h2, h3⟩ := find_of hx
    show Inv data room (if z.live then dropS zs b ++ [⟨b, z.D, false⟩] else zs)
    split
    · have hl := dropS_len (zs := zs) (b := b) (by rw [h1]; rfl)
      have hr := h.rng z (List.mem_of_getElem? h2)
      rw [h3] at hr
      exact (h.drop b).push ⟨b, z.D, false⟩ (by have := h.few; omega) hr (dropS_not h b) (h.isN z (List.mem_of_getElem? h2))
    · exact h

section
variable {G : Nat → Prop} {w0 W : World} {L : List Obj} {kb : Nat} {data room : Int} {zs : List Bk}
theorem Sep.readsS {P : Program} {Φ : Obj} (h : Sep G w0 W L) (i : Nat) (hi : L[i]? = some Φ) {f : FuncId} {args : Array Value} {E : Ending → Prop}
    (hc : ∀ F, Φ.is W F → Calls P f args W fun e W' => E e ∧ Upd NoF W W') : Calls P f args W fun e W' => E e ∧ Sep G w0 W' (L.set i Φ) := by
  have hs : L.set i Φ = L := by
    apply List.ext_getElem?
    intro j
    rw [List.getElem?_set]
    split
    · rename_i e; subst e
      rw [hi]
      have := (List.getElem?_eq_some_iff.1 hi).1
      simp [this]
    · rfl
  rw [hs]
  exact h.reads i hi hc
theorem s_put (h : Sep G w0 W L) (i : Nat) (hi : L[i]? = some (Bo kb data zs room)) (hv : Inv data room zs) (hr : room ≤ 65536) (b : Int) (D : Array Value) (hD : IsN 16 D) :
    Calls Tryz.prog 47 #[ptr kb, .int .i64 b, .agg D] W fun e W' => e = .returned (.int .i64 (putE data room zs b)) ∧ Sep G w0 W' (L.set i (Bo kb data (putS data room zs b D) room)) := by
  unfold putS
  by_cases h1 : b < 0 ∨ data ≤ b
  · have he : putE data room zs b = 2 := by unfold putE; rw [if_pos h1]
    rw [he, if_neg (by decide)]
    exact Sep.readsS h i hi (E := fun e => e = _) (fun F hF => put_arg W F kb data zs room b D hF h1)
  · cases hx : ixB zs b with
    | some j =>
      have he : putE data room zs b = 8 := by unfold putE; rw [if_neg h1, hx]; rfl
      rw [he, if_neg (by decide)]
      exact Sep.readsS h i hi (E := fun e => e = _) (fun F hF => put_state W F kb data zs room b j D hF (by omega) (by omega) (ix_some hx).1)
    | none =>
      by_cases hl : room ≤ (zs.length : Int)
      · have he : putE data room zs b = 7 := by unfold putE; rw [if_neg h1, hx]; simp [hl]
        rw [he, if_neg (by decide)]
        exact Sep.readsS h i hi (E := fun e => e = _) (fun F hF => put_full W F kb data zs room b D hD hF (by omega) (by omega) (ix_none hx).1 hl)
      · have he : putE data room zs b = 0 := by unfold putE; rw [if_neg h1, hx]; simp [hl]
        rw [he, if_pos rfl]
        exact h.call (E := fun e => e = _) i hi (fun F hF => put_ok W F kb data zs room b D hD hF (by omega) (by omega) (ix_none hx).1 (by omega) hr)
theorem s_drop (h : Sep G w0 W L) (i : Nat) (hi : L[i]? = some (Bo kb data zs room)) (hv : Inv data room zs) (hr : room ≤ 65536) (b : Int) :
    Calls Tryz.prog 103 #[ptr kb, .int .i64 b] W fun e W' => e = .returned (.bool (dropB zs b)) ∧ Sep G w0 W' (L.set i (Bo kb data (dropS zs b) room)) := by
  unfold dropB dropS
  cases hx : ixB zs b with
  | none => exact Sep.readsS h i hi (E := fun e => e = _) (fun F hF => drop_no W F kb data zs room b hF (ix_none hx).1)
  | some j =>
    obtain ⟨h1, z, h2, h3⟩ := ix_some hx
    exact h.call (E := fun e => e = _) i hi (fun F hF => drop_yes W F kb data zs room b j z hF h1 h2 (by have := hv.few; omega))
theorem s_kill (h : Sep G w0 W L) (i : Nat) (hi : L[i]? = some (Bo kb data zs room)) (hv : Inv data room zs) (hr : room ≤ 65536) (b : Int) :
    Calls Tryz.prog 98 #[ptr kb, .int .i64 b] W fun e W' => e = .returned (.bool (killB zs b)) ∧ Sep G w0 W' (L.set i (Bo kb data (killS zs b) room)) := by
  unfold killB killS
  cases hx : findB zs b with
  | none => exact Sep.readsS h i hi (E := fun e => e = _) (fun F hF => kill_no W F kb data zs room b hF (ix_none (find_none_of hx)).1)
  | some z =>
    obtain ⟨j, h1, h2, h3⟩ := find_of hx
    obtain ⟨blk, D, live⟩ := z
    replace h3 : blk = b := h3
    subst h3
    cases live
    · exact Sep.readsS h i hi (E := fun e => e = _) (fun F hF => kill_dead W F kb data zs room blk j _ hF (ix_some h1).1 h2 rfl)
    · have hd : dropS zs blk = zs.eraseIdx j := by unfold dropS; rw [h1]
      show Calls _ _ _ _ fun e W' => _ ∧ Sep G w0 W' (L.set i (Bo kb data (if true = true then dropS zs blk ++ [⟨blk, D, false⟩] else zs) room))
      rw [if_pos rfl, hd]
      exact h.call (E := fun e => e = _) i hi (fun F hF => kill_yes W F kb data zs room blk j D hF (ix_some h1).1 h2 hv.few hr)
theorem s_copy (h : Sep G w0 W L) (i : Nat) (hi : L[i]? = some (Bo kb data zs room)) (hv : Inv data room zs) (hr : room ≤ 65536) :
    Calls Tryz.prog 60 #[ptr kb] W fun e W' => ∃ q, e = .returned (ptr q) ∧ Sep G w0 W' (Bo q data zs room :: L) := by
  obtain ⟨F, hF⟩ := h.has i hi
  exact (copy_any W F kb data zs room hF (by have := hv.few; omega)).mono fun e W' ⟨q, he, hu, hq⟩ => ⟨q, he, h.push hu hq⟩
end
end Go.Proofs.YtjgeflbhmhmjdaaGreat.BK
namespace Go.Proofs.YtjgeflbhmhmjdaaGreat.BK
open Go.RowKit

section
variable {data room : Int} {zs : List Bk}
theorem find_some_iff (h : Inv data room zs) {b : Int} {z : Bk} : findB zs b = some z ↔ z ∈ zs ∧ z.blk = b := by
  constructor
  · intro hf
    obtain ⟨i, _, h2, h3⟩ := find_of hf
    exact ⟨List.mem_of_getElem? h2, h3⟩
  · rintro ⟨hm, hb⟩
    cases hf : findB zs b with
    | none => exact absurd hb ((ix_none (find_none_of hf)).2 z hm)
    | some y =>
      obtain ⟨i, _, h2, h3⟩ := find_of hf
      obtain ⟨j, hj⟩ := List.mem_iff_getElem?.1 hm
      have := h.apart i j y z h2 hj (by rw [h3, hb])
      subst this
      rw [h2] at hj
      exact hj
theorem find_none_iff {b : Int} : findB zs b = none ↔ ∀ z ∈ zs, z.blk ≠ b := by
  constructor
  · intro hf
    exact (ix_none (find_none_of hf)).2
  · intro hn
    cases hf : findB zs b with
    | none => rfl
    | some y =>
      obtain ⟨i, _, h2, h3⟩ := find_of hf
      exact absurd h3 (hn y (List.mem_of_getElem? h2))
theorem find_congr {xs ys : List Bk} (hx : Inv data room xs) (hy : Inv data room ys) {b : Int} (h : ∀ z : Bk, z.blk = b → (z ∈ xs ↔ z ∈ ys)) : findB xs b = findB ys b := by
  cases hf : findB xs b with
  | none =>
    refine (find_none_iff.2 fun z hz hb => ?_).symm
    exact find_none_iff.1 hf z ((h z hb).2 hz) hb
  | some z =>
    obtain ⟨h1, h2⟩ := (find_some_iff hx).1 hf
    exact ((find_some_iff hy).2 ⟨(h z h2).1 h1, h2⟩).symm
theorem mem_drop_iff (h : Inv data room zs) (c : Int) (z : Bk) : z ∈ dropS zs c ↔ z ∈ zs ∧ z.blk ≠ c := by
  constructor
  · intro hz
    refine ⟨?_, dropS_not h c z hz⟩
    unfold dropS at hz
    cases hx : ixB zs c with
    | none => rw [hx] at hz; exact hz
    | some i => rw [hx] at hz; exact List.mem_of_mem_eraseIdx hz
  · rintro ⟨hz, hn⟩
    unfold dropS
    cases hx : ixB zs c with
    | none => exact hz
    | some i =>
      obtain ⟨_, y, hy, hb⟩ := ix_some hx
      refine List.mem_eraseIdx_iff_getElem?.2 ?_
      obtain ⟨j, hj⟩ := List.mem_iff_getElem?.1 hz
      exact ⟨j, fun e => by subst e; rw [hy] at hj; cases hj; exact hn hb, hj⟩
theorem put_otherB (h : Inv data room zs) (c b : Int) (hne : c ≠ b) {D : Array Value} (hD : IsN 16 D) : findB (putS data room zs c D) b = findB zs b := by
  refine (find_congr (h.put c hD) h fun z hz => ?_)
  unfold putS
  split
  · rw [List.mem_append]
    constructor
    · rintro (hm | hm)
      · exact hm
      · simp at hm; subst hm; exact absurd hz hne
    · exact .inl
  · exact Iff.rfl
theorem kill_otherB (h : Inv data room zs) (c b : Int) (hne : c ≠ b) : findB (killS zs c) b = findB zs b := by
  refine (find_congr (h.kill c) h fun z hz => ?_)
  unfold killS
  cases hx : findB zs c with
  | none => exact Iff.rfl
  | some y =>
    show z ∈ (if y.live then dropS zs c ++ [⟨c, y.D, false⟩] else zs) ↔ z ∈ zs
    split
    · rw [List.mem_append, mem_drop_iff h]
      constructor
      · rintro (hm | hm)
        · exact hm.1
        · simp at hm; subst hm; exact absurd hz hne
      · intro hm; exact .inl ⟨hm, fun e => hne (by rw [← e, hz])⟩
    · exact Iff.rfl
theorem drop_otherB (h : Inv data room zs) (c b : Int) (hne : c ≠ b) : findB (dropS zs c) b = findB zs b := by
  refine (find_congr (h.drop c) h fun z hz => ?_)
  rw [mem_drop_iff h]
  exact ⟨fun hm => hm.1, fun hm => ⟨hm, fun e => hne (by rw [← e, hz])⟩⟩
theorem put_none {b : Int} {D : Array Value} (he : putE data room zs b ≠ 0) : putS data room zs b D = zs := by unfold putS; rw [if_neg he]
theorem kill_same (h : Inv data room zs) (b : Int) {z : Bk} (hf : findB zs b = some z) : findV (killS zs b) b = .tuple #[.agg z.D, .bool false, .bool true] := by
  cases hl : z.live with
  | false =>
    have e : killS zs b = zs := by unfold killS; rw [hf]; show (if z.live then _ else zs) = zs; rw [hl]; rfl
    rw [e]; unfold findV; rw [hf]; show Value.tuple #[.agg z.D, .bool z.live, .bool true] = _; rw [hl]
  | true =>
    have hm : (⟨b, z.D, false⟩ : Bk) ∈ killS zs b := by unfold killS; rw [hf]; show _ ∈ (if z.live then _ else zs); rw [hl, if_pos rfl]; simp
    unfold findV
    rw [(find_some_iff (h.kill b)).2 ⟨hm, rfl⟩]
theorem putE_there (h : Inv data room zs) {b : Int} {z : Bk} (hf : findB zs b = some z) : putE data room zs b = 8 := by
  obtain ⟨i, h1, h2, h3⟩ := find_of hf
  have := h.rng z (List.mem_of_getElem? h2)
  unfold putE
  rw [if_neg (by omega), h1]
  rfl
end
end Go.Proofs.YtjgeflbhmhmjdaaGreat.BK
