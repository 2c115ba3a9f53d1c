/- The reference of the cache: All. -/
import Derived.Test.YtaneobggbplkbaaCacheSeq
set_option linter.unusedSimpArgs false
set_option linter.unusedVariables false
namespace Go.Proofs.Ytaneobggbplkbaa.KA
open Go.RowKit
open BU (IsU words)
open PL (Cfg CC CV May)
attribute [local go_sem] Oper.semAt_some
attribute [local go_sem ↓] TLin.ld_eq TLin.st_eq TLin.al_eq TLin.bx_eq
attribute [local go_sem] TLin.al_run TLin.bx_run
section
variable {w0 W W' : World} {p : Kp} {T : TypeId} {c : Cfg} {A : Nat → Ln} {M : Nat → Int} {L : List Obj}
set_option maxRecDepth 100000 in
set_option maxHeartbeats 2000000 in
theorem rall_is (h : CIs T w0 W p c A M L) : Calls Try.prog 25 #[ptr p.kb] W fun e W' =>
    ∃ a cap, e = .returned (.slice a (lns (p.s * p.y) A).length cap) ∧ Row W' LT 18 (.slice a (lns (p.s * p.y) A).length cap) (lns (p.s * p.y) A).length (lnFlat (lns (p.s * p.y) A)) ∧ (∀ k, (Value.slice a (lns (p.s * p.y) A).length cap).ownBlock = some k → W.heap.size ≤ k) ∧ Upd NoF W W' := by
  have HK8 : Hid (∀ X, Upd NoF W X → X.cell? ⟨p.kb, 8, none⟩ = some (.slice (some ⟨p.gl, 0, none⟩) (p.s * p.y) p.cl)) := Lib.hid (fun X hu => (h.bk.upd hu (fun h => h)).cell 8)
  have HL := Lib.hid (fun (j : Nat) (hj : j < p.s * p.y) (X : World) (hu : Upd NoF W X) => And.intro (((h.bl.upd hu (fun h => h)).cell (j * 18 + 1)).trans ((lnX_get (h.ok.okA j).isU hj (show 1 < 18 by omega)).trans (A j).get1)) (TLin.ld_at (Ln.Ok.isN (h.ok.okA j).isU) (lnRow_range (h.bl.upd hu (fun h => h)) (h.ok.okA j).isU hj)))
  have HOK := Lib.hid h.ok.okA
  have hn := (Kp.small h.fits).2.2.2.2.1
  clear h
  generalize p.s * p.y = n at *
  go_enter Try.func25, Try.ntmps25
  go_wp2
  go_loopw [3, 4] (fun v i wr => ∃ (k : Nat) (a : Option Addr) (cap : Nat), k ≤ n ∧ i = .int .i64 k ∧ v = .slice a (lns k A).length cap ∧ Hid (Row wr LT 18 (.slice a (lns k A).length cap) (lns k A).length (lnFlat (lns k A)) ∧ (∀ g, (Value.slice a (lns k A).length cap).ownBlock = some g → W.heap.size ≤ g) ∧ Upd NoF W wr)) (fun _ i _ => n - (intOf i).toNat)
  case atStart => exact ⟨0, none, 0, Nat.zero_le _, rfl, rfl, Lib.hid ⟨Row.nil _ _ _, fun k hk => by simp [Value.ownBlock] at hk, Upd.refl _ _⟩⟩
  case round =>
    obtain ⟨k, a, cap, hk, rfl, rfl, HR⟩ := hrel
    have k8 := HK8.out wr HR.out.2.2
    by_cases hlt : k < n
    · obtain ⟨c1, l1⟩ := HL.out k hlt wr HR.out.2.2
      have hkn : (k : Int) < (n : Int) := by omega
      have hk1 : IntKind.i64.wrap ((k : Int) + 1) = ((k + 1 : Nat) : Int) := by rw [IntWalk.i64_in _ (by omega)]; simp
      have HS := Lib.hid (lns_succ k A)
      have hll := lns_len_le A k
      have hxo := HOK.out k
      generalize A k = x at *
      cases hx : (x.st != 0)
      · have hfr : freeB x = true := by unfold freeB; simpa using hx
        rw [hfr] at HS
        simp only [if_true, List.append_nil] at HS
        go_wp2_with fail
        exact ⟨⟨k + 1, a, cap, by omega, by go_num, by rw [HS.out], by rw [HS.out]; exact HR⟩, by simp [intOf]; omega⟩
      · have hfr : freeB x = false := by unfold freeB; simpa using hx
        rw [hfr] at HS
        simp only [Bool.false_eq_true, if_false] at HS
        have hz := Ln.Ok.isN hxo.isU
        obtain ⟨i0, hi, hz0, hz1, hz2⟩ := infoL
        have qx := (Blk.new wr x.cells LT).whole
        have e2 := fold_l hz
        have e3 := hz.1
        obtain ⟨v', W1, hrun, hrow, hg, hf⟩ := run_append_row (P := Try.prog) (wr.alloc (.cells x.cells LT)) 62 62 LT i0 (.agg TLin.Z) 18 80 Try.underlying62 hi hz0 hz1 hz2 TLin.size_Z (by decide) (.slice a (lns k A).length cap) (lns k A).length (lnFlat (lns k A))
          (HR.out.1.alloc _) ⟨wr.heap.size, 0, none⟩ 1 1 x.cells.toList (by simp [hz.1]) (fun j u hu => by rw [Addr.add_lit]; simpa using qx j u hu) (fun u hu => hz.2 u (by simpa using hu)) (by unfold maxLen; omega) (by omega)
        obtain ⟨a', cap', rfl, _⟩ := hrow.slice
        have hlen : (lns (k + 1) A).length = (lns k A).length + 1 := by rw [HS.out]; simp
        have HRR : Hid (Row W1 LT 18 (.slice a' (lns (k + 1) A).length cap') (lns (k + 1) A).length (lnFlat (lns (k + 1) A)) ∧ (∀ g, (Value.slice a' (lns (k + 1) A).length cap').ownBlock = some g → W.heap.size ≤ g) ∧ Upd NoF W W1) := Lib.hid (by
          have hsz := HR.out.2.2.size
          refine ⟨?_, fun g hg' => ?_, ?_⟩
          · rw [HS.out, flat_app]; simpa using hrow
          · rw [hlen] at hg'
            rcases hf with h | ⟨g2, h, h'⟩
            · exact HR.out.2.1 g (h ▸ hg')
            · rw [h] at hg'; cases hg'; simp at h'; omega
          · have hu1 := (HR.out.2.2.toFrom (B := W.heap.size)).from (Upd.alloc _ wr (.cells x.cells LT))
            have hu2 := hu1.from (Upd.grown hg (fun q hq _ => ⟨HR.out.2.1 q hq, (HR.out.1.alloc _).isCells q hq⟩))
            have hb := hu2.belowFrom (Nat.le_refl _)
            exact Below.upd hb NoF)
        have HRUN := Lib.hid hrun
        have HLEN := Lib.hid hlen
        clear hrun hrow hg hf qx hi hz0 hz1 hz2 hlen
        go_wp2_with (at_builtin; refine wpList_append_run (w := wr.alloc (.cells x.cells LT)) rfl _ _ 62 rfl rfl rfl HRUN.out ?_)
        exact ⟨⟨k + 1, a', cap', by omega, by go_num, by rw [HLEN.out], HRR⟩, by simp [intOf]; omega⟩
    · obtain rfl : n = k := by omega
      go_wp2
      go_ret
      exact ⟨_, _, rfl, HR.out⟩
end
end Go.Proofs.Ytaneobggbplkbaa.KA
