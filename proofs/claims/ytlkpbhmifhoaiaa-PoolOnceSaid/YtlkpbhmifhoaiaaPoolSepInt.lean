/- Pools of int among other objects. -/
import Derived.Test.YtlkpbhmifhoaiaaSep
import Derived.Test.YtlkpbhmifhoaiaaPoolInt
set_option linter.unusedSimpArgs false
set_option linter.unusedVariables false
namespace Go.Proofs.Ytlkpbhmifhoaiaa.PI
open Go.RowKit
abbrev Po (p : Value) (zs : List Int) (room : Int) : Obj := poolO 64 3 1 p (onesOf Vint zs) room
section
variable {G : Nat → Prop} {w0 W : World} {L : List Obj} {p : Value} {zs : List Int} {room : Int}
theorem s_new (h : Sep G w0 W L) (room : Int) (h1 : 1 ≤ room) (h2 : room ≤ 65536) :
    Calls Try.prog 10 #[.int .i64 room] W fun e W' => ∃ b, e = .returned (.tuple #[.pointer (some ⟨b, 0, none⟩), .int .i64 0]) ∧ Sep G w0 W' (Po (.pointer (some ⟨b, 0, none⟩)) [] room :: L) :=
  (new_ok room h1 h2 W).mono fun e W' ⟨b, he, hu, hp⟩ => ⟨b, he, h.push hu hp⟩
theorem s_put (h : Sep G w0 W L) (i : Nat) (hi : L[i]? = some (Po p zs room)) (x : Int) (hl : (zs.length : Int) < room) (hr : room ≤ 65536) :
    Calls Try.prog 11 #[p, (.int .i64 x)] W fun e W' => e = .returned (.int .i64 0) ∧ Sep G w0 W' (L.set i (Po p (zs ++ [x]) room)) :=
  h.call (E := fun e => e = _) i hi (fun F hF => put_ok W F p zs room x hF hl hr)
theorem s_put_full (h : Sep G w0 W L) (i : Nat) (hi : L[i]? = some (Po p zs room)) (x : Int) (hl : room ≤ zs.length) :
    Calls Try.prog 11 #[p, (.int .i64 x)] W fun e W' => e = .returned (.int .i64 7) ∧ Sep G w0 W' L :=
  h.reads (E := fun e => e = _) i hi (fun F hF => put_full W F p zs room x hF hl)
theorem s_take (h : Sep G w0 W L) (i : Nat) (hi : L[i]? = some (Po p zs room)) (k : Nat) (z : Int) (hl : zs[k]? = some z) (hb : zs.length ≤ 65536) :
    Calls Try.prog 12 #[p, .int .i64 k] W fun e W' => e = .returned (.tuple #[(.int .i64 z), .int .i64 0]) ∧ Sep G w0 W' (L.set i (Po p (zs.eraseIdx k) room)) :=
  h.call (E := fun e => e = _) i hi (fun F hF => take_ok W F p zs room k z hF hl hb)
theorem s_take_bad (h : Sep G w0 W L) (i : Nat) (hi : L[i]? = some (Po p zs room)) (k : Int) (hl : k < 0 ∨ (zs.length : Int) ≤ k) :
    Calls Try.prog 12 #[p, .int .i64 k] W fun e W' => e = .returned (.tuple #[.int .i64 0, .int .i64 5]) ∧ W = W' :=
  h.looks (E := fun e => e = _) i hi (fun F hF => take_bad W F p zs room k hF hl)
theorem s_at (h : Sep G w0 W L) (i : Nat) (hi : L[i]? = some (Po p zs room)) (k : Nat) (z : Int) (hl : zs[k]? = some z) :
    Calls Try.prog 21 #[p, .int .i64 k] W fun e W' => e = .returned (.tuple #[(.int .i64 z), .int .i64 0]) ∧ W = W' :=
  h.looks (E := fun e => e = _) i hi (fun F hF => at_ok W F p zs room k z hF hl)
theorem s_at_bad (h : Sep G w0 W L) (i : Nat) (hi : L[i]? = some (Po p zs room)) (k : Int) (hl : k < 0 ∨ (zs.length : Int) ≤ k) :
    Calls Try.prog 21 #[p, .int .i64 k] W fun e W' => e = .returned (.tuple #[.int .i64 0, .int .i64 5]) ∧ W = W' :=
  h.looks (E := fun e => e = _) i hi (fun F hF => at_bad W F p zs room k hF hl)
theorem s_len (h : Sep G w0 W L) (i : Nat) (hi : L[i]? = some (Po p zs room)) :
    Calls Try.prog 13 #[p] W fun e W' => e = .returned (.int .i64 zs.length) ∧ W = W' :=
  h.looks (E := fun e => e = _) i hi (fun F hF => len_any W F p zs room hF)
theorem s_room (h : Sep G w0 W L) (i : Nat) (hi : L[i]? = some (Po p zs room)) (h0 : 0 ≤ room) (h1 : room ≤ 65536) (h2 : zs.length ≤ room) :
    Calls Try.prog 20 #[p] W fun e W' => e = .returned (.int .i64 (room - zs.length)) ∧ Upd NoF W W' := by
  obtain ⟨F, hF⟩ := h.has i hi
  exact room_any W F p zs room hF h0 h1 h2
theorem s_first (h : Sep G w0 W L) (i : Nat) (hi : L[i]? = some (Po p zs room)) (f : Nat) (cap : Array Value) (g : Int → Bool) (ef : ∀ args w, (callFunc f args).run Try.prog w = .ok (.enter f args) w)
    (hf : ∀ (x : Int) (W2 : World), Upd NoF W W2 → Calls Try.prog f (#[(.int .i64 x)] ++ cap) W2 fun e w' => e = .returned (.bool (g x)) ∧ W2 = w') :
    Calls Try.prog 22 #[p, .func (.func f) #[] cap] W fun e W' => e = .returned (.int .i64 (firstAt g zs)) ∧ Sep G w0 W' L := by
  obtain ⟨F, hF, hl, _⟩ := h.get i hi
  exact (first_any W F p zs room hF (fun k hk => (hl k hk).2) f cap g ef hf).mono fun e W' ⟨he, hu⟩ => ⟨he, h.upd0 hu⟩
theorem s_copy (h : Sep G w0 W L) (i : Nat) (hi : L[i]? = some (Po p zs room)) (hb : zs.length ≤ 65536) :
    Calls Try.prog 19 #[p] W fun e W' => ∃ q, e = .returned (.pointer (some ⟨q, 0, none⟩)) ∧ Sep G w0 W' (Po (.pointer (some ⟨q, 0, none⟩)) zs room :: L) := by
  obtain ⟨F, hF⟩ := h.has i hi
  refine (copy_any W F p zs room hF hb).mono ?_
  rintro e W' ⟨q, he, hu, hp⟩
  obtain ⟨b, v, rfl, hq⟩ := hp
  exact ⟨b, he, h.push hu ⟨b, v, rfl, hq⟩⟩
end
end Go.Proofs.Ytlkpbhmifhoaiaa.PI
