/- A core's side: the laws of chapter 17 in plain words: what goes out is kept. -/
import Derived.Test.YtjgeflbhmhmjdaaCacheGd
import Derived.Test.YtjgeflbhmhmjdaaSep
set_option linter.unusedSimpArgs false
set_option linter.unusedVariables false
namespace Go.Proofs.Ytjgeflbhmhmjdaa.NR
open Go.RowKit
open BU (IsU words)
open PL (Cfg CC CV May)
open KA (Kp CIs OkA Uniq mayX mayK)
open DL (DS stampE beginE beginS endB openE endS failS overS)
theorem SC_isN (n : Int) : IsN 17 (DL.SC n) := ⟨rfl, fun u hu => by
  simp [DL.SC] at hu
  rcases hu with rfl | rfl | rfl | rfl <;> rfl⟩
theorem fit_k {b : Int} (h : mayK b = true) : MM.fit b := by
  unfold KA.mayK at h
  unfold MM.fit
  simp only [Bool.and_eq_true, decide_eq_true_eq] at h
  show (decide (IntKind.i64.min ≤ _) && decide (_ ≤ IntKind.i64.max)) = true
  have e1 : IntKind.i64.min = -9223372036854775808 := by decide
  have e2 : IntKind.i64.max = 9223372036854775807 := by decide
  rw [e1, e2]
  simp only [Bool.and_eq_true, decide_eq_true_eq]
  omega
/-- What goes out: NtPut sticks where the block is marked; NtAck has no data of a block that is marked as written while a transaction is open. -/
structure KeepN (S : Ns) (n : Nt) : Prop where
  isU : IsU n.D
  fit : MM.fit n.blk
  put : n.kind = 3 → n.stick = ((S.f n.blk).1 || (S.f n.blk).2)
  ack : n.kind = 9 → n.has = true → (S.f n.blk).2 = true → ¬ 0 < S.d.depth
structure Keeps (S : Ns) (out : List Nt) : Prop where
  all : ∀ n ∈ out, KeepN S n
  len : out.length ≤ 2
theorem Keeps.nil (S : Ns) : Keeps S [] := ⟨fun n hn => (by cases hn), (by show 0 ≤ 2; decide)⟩
section
variable {p : Kp} {S : Ns}
theorem data_fit (ho : S.Ok p) {b : Int} (hb : 0 ≤ b ∧ b < S.data) : MM.fit b := by
  have := ho.dataR
  refine fit_k ?_
  unfold KA.mayK
  simp only [Bool.and_eq_true, decide_eq_true_eq]
  omega
theorem ask_keeps (h : NV p S) (ho : S.Ok p) (b : Int) (wr : Bool) : Keeps (askR p S b wr).S (askR p S b wr).out := by
  have hk : ∀ S' : Ns, ¬ (askN S' b wr).kind = 3 ∧ ¬ (askN S' b wr).kind = 9 := fun S' => by
    show ¬ (if wr = true then (2 : Int) else 1) = 3 ∧ ¬ (if wr = true then (2 : Int) else 1) = 9
    cases wr <;> decide
  rcases ask_cases p S b wr with e | ⟨h0, e⟩ | ⟨h0, e⟩ | ⟨h0, e⟩ | ⟨hwa, hb, hbd, _, ⟨_, e⟩ | ⟨hg, _, e⟩ | ⟨hg, _, _, e⟩⟩ <;> rw [e]
  · exact Keeps.nil _
  · exact Keeps.nil _
  · exact Keeps.nil _
  · exact Keeps.nil _
  · exact ⟨fun n hn => by
      obtain rfl : n = askN S b wr := by simpa [askQ] using hn
      exact ⟨isUZ, data_fit ho hbd, fun h => absurd h (hk S).1, fun h => absurd h (hk S).2⟩, by show 1 ≤ 2; decide⟩
  · exact ⟨fun n hn => by
      obtain rfl : n = askN (goneS p S (p.gone S.A S.M b)) b wr := by simpa [askQ] using hn
      exact ⟨isUZ, data_fit ho hbd, fun h => absurd h (hk _).1, fun h => absurd h (hk _).2⟩, by show 1 ≤ 2; decide⟩
  · have hgu := (gone_ok (p := p) (M := S.M) ho.okA b).isU
    have hgf := gone_fit h ho hg
    exact ⟨fun n hn => by
      rcases (by simpa [askQ] using hn : n = putN S (p.gone S.A S.M b) ∨ n = askN (goneS p (backS S (p.gone S.A S.M b)) (p.gone S.A S.M b)) b wr) with rfl | rfl
      · exact ⟨hgu, hgf, fun _ => rfl, fun h => by have h : (3 : Int) = 9 := h; cases h⟩
      · exact ⟨isUZ, data_fit ho hbd, fun h => absurd h (hk _).1, fun h => absurd h (hk _).2⟩, by show 2 ≤ 2; decide⟩
theorem fits_at {n : Nt} (hf : fitsB S n = true) (hc : 0 ≤ S.core) : (n.kind = 4 ∨ n.kind = 5 ∨ n.kind = 6 ∨ n.kind = 7 ∨ n.kind = 8) ∧ MM.fit n.blk ∧ 0 ≤ n.blk ∧ n.blk < S.data := by
  unfold fitsB at hf
  simp only [Bool.and_eq_true, beq_iff_eq, decide_eq_true_eq] at hf
  obtain ⟨⟨hm, ht⟩, hd⟩ := hf
  unfold MayN at hm
  simp only [Bool.and_eq_true] at hm
  obtain ⟨⟨⟨⟨⟨⟨⟨⟨⟨h1, h2⟩, h3⟩, h4⟩, -⟩, -⟩, -⟩, -⟩, -⟩, -⟩ := hm
  simp only [decide_eq_true_eq] at h2
  have hk : mayK n.blk = true := by
    unfold KA.mayK
    simp only [Bool.and_eq_true, decide_eq_true_eq]; omega
  refine ⟨?_, fit_k hk, h2.1, hd⟩
  have htw : toHome n.kind = false := by
    cases h : toHome n.kind with
    | false => rfl
    | true =>
      rw [h] at h4
      have h4 : n.too = -1 := by simpa using h4
      omega
  unfold kindB at h1
  simp only [Bool.and_eq_true, decide_eq_true_eq] at h1
  unfold toHome at htw
  simp only [Bool.or_eq_false_iff, beq_eq_false_iff_ne, ne_eq] at htw
  omega
theorem asked_true {n : Nt} (h : NV p S) (hd : 0 < S.d.depth) (hm : meetsB S n = true) : DL.askedB S.d (meetsB S n) = true := by
  unfold DL.askedB
  rw [hm]
  have h1 := h.st hd
  have e : stampE S.d = S.d.st := by unfold DL.stampE; rw [if_neg (by omega)]
  rw [e]
  simp
  omega
theorem meets4 {n : Nt} (hk : n.kind = 4) : meetsB S n = (S.f n.blk).2 := by unfold meetsB MK.meetB; rw [if_pos hk]
theorem meets5 {n : Nt} (hk : n.kind = 5) : meetsB S n = ((S.f n.blk).1 || (S.f n.blk).2) := by unfold meetsB MK.meetB; rw [if_neg (by omega), if_pos hk]
theorem take_cases (p : Kp) (S : Ns) (n : Nt) : (fitsB S n = false ∧ takeR p S n = ⟨[], false, 2, S⟩) ∨ (fitsB S n = true ∧ n.kind = 6 ∧ takeR p S n = dataR p S n) ∨ (fitsB S n = true ∧ n.kind = 7 ∧ takeR p S n = nackR S n) ∨ (fitsB S n = true ∧ n.kind = 8 ∧ takeR p S n = backR S n) ∨
    (fitsB S n = true ∧ n.kind ≠ 6 ∧ n.kind ≠ 7 ∧ n.kind ≠ 8 ∧ takeR p S n = askedR p S n) := by
  unfold takeR
  cases hf : fitsB S n with
  | false => exact .inl ⟨rfl, rfl⟩
  | true =>
    simp only [if_true]
    by_cases h6 : n.kind = 6
    · rw [if_pos h6]; exact .inr (.inl ⟨trivial, h6, rfl⟩)
    rw [if_neg h6]
    by_cases h7 : n.kind = 7
    · rw [if_pos h7]; exact .inr (.inr (.inl ⟨trivial, h7, rfl⟩))
    rw [if_neg h7]
    by_cases h8 : n.kind = 8
    · rw [if_pos h8]; exact .inr (.inr (.inr (.inl ⟨trivial, h8, rfl⟩)))
    rw [if_neg h8]
    exact .inr (.inr (.inr (.inr ⟨trivial, h6, h7, h8, rfl⟩)))
theorem ackN2_has (p : Kp) (S : Ns) (n : Nt) : (ackN2 p S n).kind = 9 ∧ (ackN2 p S n).blk = n.blk := by
  unfold ackN2 ackN1
  split <;> (split <;> exact ⟨rfl, rfl⟩)
theorem take_keeps (h : NV p S) (ho : S.Ok p) (hc : 0 ≤ S.core) {n : Nt} (hn : n.Ok) : Keeps (takeR p S n).S (takeR p S n).out := by
  rcases take_cases p S n with ⟨_, e⟩ | ⟨hf, hk, e⟩ | ⟨_, _, e⟩ | ⟨_, _, e⟩ | ⟨hf, h6, h7, h8, e⟩ <;> rw [e]
  · exact Keeps.nil _
  · have hfit := (fits_at hf hc).2.1
    show Keeps (dataS p S n) (dataO p S n)
    unfold dataO
    split
    · exact ⟨fun m hm => by
        obtain rfl : m = noteP S 11 n.blk := by simpa using hm
        exact ⟨isUZ, hfit, fun h => (by have h : (11 : Int) = 3 := h; cases h), fun h => (by have h : (11 : Int) = 9 := h; cases h)⟩, by show 1 ≤ 2; decide⟩
    · exact Keeps.nil _
  · exact Keeps.nil _
  · exact Keeps.nil _
  · obtain ⟨hk, hfit, _, _⟩ := fits_at hf hc
    unfold askedR
    split
    · exact ⟨fun m hm => by
        obtain rfl : m = refuseN S n := by simpa using hm
        exact ⟨isUZ, hfit, fun h => (by have h : (10 : Int) = 3 := h; cases h), fun h => (by have h : (10 : Int) = 9 := h; cases h)⟩, by show 1 ≤ 2; decide⟩
    · rename_i hno
      refine ⟨fun m hm => ?_, by show 1 ≤ 2; decide⟩
      obtain rfl : m = ackN2 p (askedS1 S n) n := by simpa using hm
      obtain ⟨e1, e2⟩ := ackN2_has p (askedS1 S n) n
      refine ⟨ackN2_isU (ho.asked1 n) n, by rw [e2]; exact hfit, fun h => (by rw [e1] at h; cases h), fun _ _ hw hd => ?_⟩
      rw [e2] at hw
      have hw : (S.f n.blk).2 = true := hw
      have hd : 0 < S.d.depth := hd
      refine hno (asked_true h hd ?_)
      rcases hk with hk | hk | hk | hk | hk
      · rw [meets4 hk]; exact hw
      · rw [meets5 hk, hw]; simp
      · exact absurd hk h6
      · exact absurd hk h7
      · exact absurd hk h8
/-- Where it must be refused, it is. -/
theorem take_must (h : NV p S) (hc : 0 ≤ S.core) {n : Nt} (he : (takeR p S n).e = 0) (hm : (decide (0 < S.d.depth) && ((S.f n.blk).2 && (n.kind == 4) || ((S.f n.blk).1 || (S.f n.blk).2) && (n.kind == 5))) = true) :
    takeR p S n = ⟨[refuseN S n], false, 0, askedS1 S n⟩ := by
  simp only [Bool.and_eq_true, Bool.or_eq_true, decide_eq_true_eq, beq_iff_eq] at hm
  obtain ⟨hd, hm⟩ := hm
  have hk : n.kind = 4 ∨ n.kind = 5 := by rcases hm with ⟨_, h⟩ | ⟨_, h⟩ <;> simp [h]
  have hmm : meetsB S n = true := by
    rcases hm with ⟨h1, h2⟩ | ⟨h1, h2⟩
    · rw [meets4 h2]; exact h1
    · rw [meets5 h2]; simpa using h1
  rcases take_cases p S n with ⟨_, e⟩ | ⟨hf, hk6, e⟩ | ⟨_, hk7, e⟩ | ⟨_, hk8, e⟩ | ⟨hf, h6, h7, h8, e⟩
  · rw [e] at he; have he : (2 : Int) = 0 := he; cases he
  · omega
  · omega
  · omega
  · rw [e]; unfold askedR; rw [if_pos (asked_true h hd hmm)]
theorem askR_core (p : Kp) (S : Ns) (b : Int) (wr : Bool) : (askR p S b wr).S.core = S.core := by
  rcases ask_cases p S b wr with e | ⟨_, e⟩ | ⟨_, e⟩ | ⟨_, e⟩ | ⟨hwa, hb, _, _, ⟨_, e⟩ | ⟨hg, _, e⟩ | ⟨hg, _, _, e⟩⟩ <;> rw [e] <;> rfl
theorem takeR_core (p : Kp) (S : Ns) (n : Nt) : (takeR p S n).S.core = S.core := by
  rcases take_cases p S n with ⟨_, e⟩ | ⟨hf, hk, e⟩ | ⟨_, _, e⟩ | ⟨_, _, e⟩ | ⟨hf, h6, h7, h8, e⟩ <;> rw [e]
  · show (dataS p S n).core = S.core
    unfold dataS
    split
    · split <;> rfl
    · rfl
  · show (nackS S n).core = S.core
    unfold nackS
    split <;> rfl
  · rfl
  · unfold askedR
    split <;> rfl
theorem markS_core (S : Ns) (b : Int) (r q : Bool) : (markS S b r q).core = S.core := by unfold markS; split <;> rfl
theorem loadS_core (p : Kp) (S : Ns) (b w : Int) : (loadS p S b w).core = S.core := by
  unfold loadS
  split
  · exact markS_core _ _ _ _
  · rfl
theorem storeS_core (p : Kp) (S : Ns) (b w z : Int) : (storeS p S b w z).core = S.core := by
  unfold storeS
  split
  · exact markS_core _ _ _ _
  · rfl
end
end Go.Proofs.Ytjgeflbhmhmjdaa.NR
set_option linter.unusedSimpArgs false
set_option linter.unusedVariables false
namespace Go.Proofs.Ytjgeflbhmhmjdaa.TSav
open Go.RowKit
/-- Nothing in it. -/
def Z : Array Value := #[.int .u32 0, .int .u32 0, .int .u32 0, .int .u32 0, .int .u32 0, .int .u32 0, .int .u32 0, .int .u32 0, .int .u32 0, .int .u32 0, .int .u32 0, .int .u32 0, .int .u32 0, .int .u32 0, .int .u32 0, .int .u32 0, .int .i64 0]
theorem size_Z : Z.size = 17 := by kernel_rfl
theorem isZ : IsN 17 Z := ⟨size_Z, Array.all_eq_true_iff_forall_mem.1 (by kernel_rfl)⟩
theorem infoZ : (Try.prog.info? 62).map (fun i => (i.zero, i.size)) = some (some (.agg Z), 17) := by kernel_rfl
theorem infoS : (Try.prog.info? 62).map (·.size) = some 17 := by kernel_rfl
theorem infoSZ : (Try.prog.info? 62).map (·.size) = some Z.size := by kernel_rfl
def ld (v : Value) : Sem Value := Instr.loadAt 62 v
def st (p v : Value) : Sem Unit := Instr.storeAt 62 p v
def bx (v : Value) : Sem Value := Instr.box 62 v
def al : Sem Value := Instr.alloc 62 true (.tuple #[])
theorem ld_eq (v : Value) : Instr.loadAt 62 v = ld v := rfl
theorem st_eq (p v : Value) : Instr.storeAt 62 p v = st p v := rfl
theorem bx_eq (v : Value) : Instr.box 62 v = bx v := rfl
theorem al_eq : Instr.alloc 62 true (.tuple #[]) = al := rfl
theorem al_run (w : World) : al.run Try.prog w = .ok (.pointer (some ⟨w.heap.size, 0, none⟩)) (w.alloc (.cells Z 62)) := agg_alloc (agg_zero infoZ) w
theorem bx_run (x : Array Value) (w : World) : (bx (.agg x)).run Try.prog w = .ok (.pointer (some ⟨w.heap.size, 0, none⟩)) (w.alloc (.cells x 62)) := agg_box x w
theorem st_new {x : Array Value} (hx : IsN 17 x) (w : World) : (st (.pointer (some ⟨w.heap.size, 0, none⟩)) (.agg x)).run Try.prog (w.alloc (.cells Z 62)) = .ok () (w.alloc (.cells x 62)) := agg_st_new infoSZ size_Z hx w
theorem ld_at {x : Array Value} (hx : IsN 17 x) {w : World} {b o : Nat} (h : w.rangeAt b o x.toList) : (ld (.pointer (some ⟨b, o, none⟩))).run Try.prog w = .ok (.agg x) w := agg_ld Try.underlying62 rfl infoS hx h
theorem ld_new {x : Array Value} (hx : IsN 17 x) (w : World) : (ld (.pointer (some ⟨w.heap.size, 0, none⟩))).run Try.prog (w.alloc (.cells x 62)) = .ok (.agg x) (w.alloc (.cells x 62)) := ld_at hx (Blk.new w x _).whole
theorem st_at {x y : Array Value} (hx : IsN 17 x) (hy : IsN 17 y) {w : World} {b : Nat} {T : TypeId} (h : Blk w b x T) : (st (.pointer (some ⟨b, 0, none⟩)) (.agg y)).run Try.prog w = .ok () (w.setCells b 0 y.toList) ∧ Blk (w.setCells b 0 y.toList) b y T := by
  refine ⟨run_storeAt_mid w b 0 62 y (there_of h (by rw [hx.1, hy.1]; exact Nat.le_refl _)) (by rw [infoS, hy.1]) hy.all, ?_⟩
  have h' := blk_setCells y.toList 0 w _ h
  rwa [setMany_all x y (by rw [hx.1, hy.1])] at h'
theorem ldV_at {x : Array Value} (hx : IsN 17 x) {w : World} {b o : Nat} (h : w.rangeAt b o x.toList) : (loadVar 62 ⟨b, o, none⟩).run Try.prog w = .ok (.agg x) w := agg_ldV Try.underlying62 rfl infoS hx h
end Go.Proofs.Ytjgeflbhmhmjdaa.TSav
