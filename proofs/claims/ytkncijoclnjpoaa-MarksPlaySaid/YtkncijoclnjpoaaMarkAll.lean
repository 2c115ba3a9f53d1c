/- The contracts of package marks: All, Copy. -/
import Derived.Test.YtkncijoclnjpoaaMarksC
import Derived.Test.YtkncijoclnjpoaaMarkLay
set_option linter.unusedSimpArgs false
set_option linter.unusedVariables false
namespace Go.Proofs.Ytkncijoclnjpoaa.MK
open Go.RowKit Go.Maps Go.Sort Go.Shelf
open PL (Cfg CC CV May)
attribute [local go_sem] Oper.semAt_some
theorem sortsA (m : Nat) : AnyZI.SortsIn Try.prog Try.sortedA_ren Fence.wide m :=
  ⟨fun blk off cap ss W hH hblk hsz => callsIn_wide.2 (AnyM.slices_Sort_int Try.sortA blk off cap ss W hH hblk hsz),
   fun p cap W => callsIn_wide.2 (AnyM.slices_Sort_int_none Try.sortA p cap W)⟩
theorem upd_below {w w' : World} (h : Go.RowKit.Below w.heap.size w w') : Upd NoF w w' := ⟨h.os, h.tape, h.output, h.size, fun k hk _ => h.block k hk⟩
theorem row_of_owns {W : World} {base : Nat} {e : TypeId} {c : Nat} {v : Value} {n : Nat} {xs : List Value} (h : W.ownsRow base e c v n xs) : Row W e c v n xs ∧ ∀ k, v.ownBlock = some k → base ≤ k := by
  obtain ⟨h1, h2⟩ := h
  rcases h2 with ⟨rfl, h0⟩ | ⟨g, cap, cur, rfl, hb, hg, r1, r2, r3, r4⟩
  · exact ⟨⟨h1, .inl ⟨rfl, h0⟩⟩, fun k hk => by simp [Value.ownBlock] at hk⟩
  · exact ⟨⟨h1, .inr ⟨g, cap, cur, rfl, hg, r1, r2, by rw [r3]; exact Nat.le_refl _, r4⟩⟩, fun k hk => by simp [Value.ownBlock] at hk; omega⟩
section
variable {w0 W W' : World} {kb mb n : Nat} {data : Int} {f : Int → Bool × Bool} {L : List Obj}
set_option maxRecDepth 100000 in
set_option maxHeartbeats 1000000 in
theorem all_any (h : KIs w0 W kb mb n data f L) (hn : n ≤ 65536) : Calls Try.prog 15 #[ptr kb] W fun e W' =>
    ∃ (v : Value) (ss : List Int), e = .returned v ∧ ss.Pairwise (· < ·) ∧ (∀ a, a ∈ ss ↔ ((f a).1 || (f a).2) = true) ∧ ss.length ≤ n ∧ KIs w0 W' kb mb n data f (rowO 3 1 v ss.length (ss.map VI) :: L) := by
  have k1 : W.cell? ⟨kb, 1, none⟩ = some (.map (some mb)) := (h.sep.box 0 rfl).cell 1
  obtain ⟨D0, hown, hsz, hkeys⟩ := h.map.keys
  have hbl := hown.lt
  have hseq : SeqGives Fence.wide 2 Try.prog 41 #[.pointer (some ⟨W.heap.size, 0, none⟩)] encZ (fun ss => ss.Perm (intKeys D0)) (Maps.size D0) (W.alloc (.cells #[.map (some mb)] 50)) :=
    AnyZI.keys_gives (ρ := Try.keysA_ren) { Try.keysA with } Fence.wide _ trivial rfl (by omega) W.heap.size mb n D0 _ (by simp) (by simp) (by
      obtain ⟨es, clock, hb, Ft, hs, hD⟩ := hown
      exact ⟨es, clock, (Below.heap_alloc _ _ mb hbl).trans hb, Ft, hs, hD⟩)
  have cK : ∀ m' X, CallsIn Fence.wide 5 Try.prog 32 #[.map m'] X fun e w' => e = .returned (.func (.func 41) #[] #[.pointer (some ⟨X.heap.size, 0, none⟩)]) ∧ w' = X.alloc (.cells #[.map m'] 50) := fun m' X => AnyZI.keys_in Try.keysA Fence.wide 5 trivial rfl m' X
  have cS := AnyZI.sorted_in Try.sortedA Fence.wide 5 trivial trivial trivial trivial rfl (by omega) (sortsA _) (enters_of Try.func40 (by kernel_rfl) rfl) 41 #[.pointer (some ⟨W.heap.size, 0, none⟩)] trivial (enters_of Try.func41 (by kernel_rfl) rfl) _ _ (by unfold maxLen; omega) (by omega) _ hseq
  change CallsIn _ _ Try.prog 31 _ _ _ at cS
  have CK := Lib.hid cK; have CS := Lib.hid (callsIn_wide.1 cS)
  have HH := Lib.hid h; have HKS := Lib.hid hkeys
  clear cK cS hseq hown hkeys h hbl
  go_enter Try.func15, Try.ntmps15
  go_wp2_with fail
  refine (callsIn_wide.1 (CK.out _ _)).mono ?_
  rintro e w' ⟨rfl, rfl⟩
  go_wp2_with fail
  refine CS.out.mono ?_
  rintro e w2 ⟨v, ss, rfl, hS, hrow, hnil, hb⟩
  have hS2 : (ss.mergeSort (fun x y => decide (x ≤ y))).Perm (intKeys D0) := (List.mergeSort_perm _ _).trans hS
  obtain ⟨hnd, hmem⟩ := HKS.out _ hS2
  have hlen : (ss.mergeSort (fun x y => decide (x ≤ y))).length = ss.length := List.length_mergeSort _
  have hsz2 : (ss.mergeSort (fun x y => decide (x ≤ y))).length ≤ n := by
    rw [hS2.length_eq]
    obtain ⟨D1, hown1, _⟩ := HH.out.map
    have : (intKeys D0).length ≤ Maps.size D0 := by
      cases D0 <;> simp [intKeys, Maps.size]
    omega
  have hpw : (ss.mergeSort (fun x y => decide (x ≤ y))).Pairwise (· < ·) := by
    have tr : ∀ a b c : Int, (decide (a ≤ b)) = true → (decide (b ≤ c)) = true → (decide (a ≤ c)) = true := fun a b c h1 h2 => by simp only [decide_eq_true_eq] at *; omega
    have tot : ∀ a b : Int, (decide (a ≤ b) || decide (b ≤ a)) = true := fun a b => by simp only [Bool.or_eq_true, decide_eq_true_eq]; omega
    have h1 := List.pairwise_mergeSort tr tot ss
    exact (h1.and hnd).imp (fun {a b} h => by have := h.1; simp only [decide_eq_true_eq] at this; have := h.2; omega)
  have hu : Upd NoF W w2 := (Upd.alloc NoF W _).trans (upd_below hb) (fun _ _ h => h)
  rw [← hlen] at hrow
  generalize ss.mergeSort (fun x y => decide (x ≤ y)) = sl at *
  have hr := row_of_owns hrow
  have HR : Hid (KIs w0 w2 kb mb n data f (rowO 3 1 v sl.length (sl.map VI) :: L)) := by
    have h2 := HH.out.upd0 hu
    refine Lib.hid ⟨?_, h2.map, h2.new⟩
    have h3 := HH.out.sep.push hu (Φ := rowO 3 1 v sl.length (sl.map VI)) ⟨hr.1, fun k hk => by have := hr.2 k hk; rw [World.size_alloc] at this; show W.heap.size ≤ k; omega⟩
    exact h3.swap
  have HM := Lib.hid hmem; have HPW := Lib.hid hpw
  clear hS hrow hnil hb hS2 hnd hmem hlen hpw hu hr hsz
  go_wp2
  go_ret
  exact ⟨_, sl, rfl, HPW.out, HM.out, hsz2, HR.out⟩
end
end Go.Proofs.Ytkncijoclnjpoaa.MK
