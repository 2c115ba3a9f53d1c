/- A home, in plain words: what it knows, what an ask, an answer, an end make of it. -/
import Derived.Test.YtlhbnndnkcpomaaDoorEntryGets
import Derived.Test.YtlhbnndnkcpomaaDoorEntryAsked
import Derived.Test.YtlhbnndnkcpomaaDoorNotePlain
import Derived.Test.YtlhbnndnkcpomaaDoorRowG
import Derived.Test.YtlhbnndnkcpomaaDoorPlan
set_option linter.unusedSimpArgs false
set_option linter.unusedVariables false
namespace Go.Proofs.YtlhbnndnkcpomaaDoor.HO
open Go.RowKit
open BU (IsU words)
open PL (Cfg CC CV May)
open ET (VE askE othersE whoE mayE)

/-- What is known of a block: its owner, its sharers. -/
structure En where
  own : Int
  shr : Mk
def En.cells (e : En) : Array Value := #[.int .i64 e.own, VM e.shr]
theorem En.isN (e : En) : IsN 2 e.cells := ⟨rfl, fun u hu => by simp [En.cells] at hu; rcases hu with rfl | rfl <;> rfl⟩
def En.free : En := ⟨-1, 0#32⟩
/-- An ask under way. -/
structure Jb where
  ask : Nt
  wait : Mk
  ans : Bool
  ref : Bool
  least : Int
def Jb.tail (j : Jb) : Array Value := #[VM j.wait, .bool j.ans, .bool j.ref, .int .u64 j.least]
def Jb.cells (j : Jb) : Array Value := j.ask.cells ++ j.tail
structure Jb.Ok (j : Jb) : Prop where
  ask : j.ask.Ok
  least : 0 ≤ j.least ∧ j.least ≤ 18446744073709551615
theorem Jb.isN {j : Jb} (h : j.Ok) : IsN 28 j.cells := by
  have h1 := Nt.Ok.isN h.ask.isU
  refine ⟨by simp [Jb.cells, Jb.tail, h1.1], fun u hu => ?_⟩
  unfold Jb.cells at hu
  rcases Array.mem_append.1 hu with hu | hu
  · exact h1.2 u hu
  · simp only [Jb.tail, List.mem_toArray, List.mem_cons, List.not_mem_nil, or_false] at hu
    rcases hu with rfl | rfl | rfl | rfl <;> rfl
theorem Jb.get_ask {j : Jb} {i : Nat} (hi : i < 24) (h : j.cells.size = 28) : j.cells[i]? = j.ask.cells[i]? := by
  have hs : j.ask.cells.size = 24 := by simp [Jb.cells, Jb.tail] at h; omega
  unfold Jb.cells; rw [Array.getElem?_append_left (by omega)]
theorem Jb.get_tail {j : Jb} {i : Nat} (h : j.cells.size = 28) : j.cells[24 + i]? = j.tail[i]? := by
  have hs : j.ask.cells.size = 24 := by simp [Jb.cells, Jb.tail] at h; omega
  unfold Jb.cells; rw [Array.getElem?_append_right (by omega), hs, Nat.add_sub_cancel_left]
theorem Jb.get24 {j : Jb} (h : j.cells.size = 28) : j.cells[24]? = some (VM j.wait) := Jb.get_tail (i := 0) h
theorem Jb.get25 {j : Jb} (h : j.cells.size = 28) : j.cells[25]? = some (.bool j.ans) := Jb.get_tail (i := 1) h
theorem Jb.get26 {j : Jb} (h : j.cells.size = 28) : j.cells[26]? = some (.bool j.ref) := Jb.get_tail (i := 2) h
theorem Jb.get27 {j : Jb} (h : j.cells.size = 28) : j.cells[27]? = some (.int .u64 j.least) := Jb.get_tail (i := 3) h
/-- A home: its plan, its memory, what is known of each block, what is under way, who waits. -/
structure Hs where
  c : Cfg
  B : Nat → Array Value
  E : Nat → En
  J : Int → Option Jb
  Q : List Nt
def Hs.data (S : Hs) : Int := S.c.blocks - S.c.cores * S.c.logs
def Hs.room (S : Hs) : Int := S.c.cores * (S.c.backs + 1)
def updI {α : Type} (f : Int → α) (i : Int) (x : α) : Int → α := fun j => if j = i then x else f j
/-- What a core gets; what its block's going back makes; who is asked, and how. -/
def getsP (e : En) (k x : Int) : En × Int :=
  if askE e.own e.shr k x then
    if k = 2 then (⟨x, 0#32⟩, 3) else if othersE e.own e.shr x = 0#32 then (⟨x, 0#32⟩, 2) else (⟨-1, othersE e.own e.shr x ||| bitB x⟩, 1)
  else (⟨0, 0#32⟩, 0)
def backP (e : En) (x : Int) (stick : Bool) : En × Bool :=
  if mayE e.own e.shr && ET.coreB x then
    if e.own = x then (if stick then e else En.free, true) else (e, false)
  else (⟨0, 0#32⟩, false)
def askedP (e : En) (k x : Int) : Mk × Int := if askE e.own e.shr k x then (whoE e.own e.shr k x, if k = 2 then 5 else 4) else (0#32, 0)
/-- Notes that go out. -/
def ntData (too b st : Int) (D : Array Value) : Nt := ⟨6, -1, too, b, 0, st, true, false, D⟩
def ntAck (too b : Int) : Nt := ⟨8, -1, too, b, 0, 0, false, false, TBlk.Z⟩
def ntAsk (by_ too b stamp : Int) : Nt := ⟨by_, -1, too, b, stamp, 0, false, false, TBlk.Z⟩
def ntNack (too b stamp : Int) : Nt := ⟨7, -1, too, b, stamp, 0, false, false, TBlk.Z⟩
/-- An ask is answered. -/
def answerP (S : Hs) (j : Jb) : Hs × Nt :=
  let b := j.ask.blk
  let g := getsP (S.E b.toNat) j.ask.kind j.ask.frm
  ({ S with E := updG S.E b.toNat g.1, J := updI S.J b (some { j with ans := true }) }, ntData j.ask.frm b g.2 (S.B b.toNat))
/-- An ask begins. -/
def beginP (S : Hs) (n : Nt) : Hs × List Nt :=
  let b := n.blk
  if n.kind = 3 then
    let g := backP (S.E b.toNat) n.frm n.stick
    ({ S with E := updG S.E b.toNat g.1, B := if g.2 then updG S.B b.toNat n.D else S.B }, [ntAck n.frm b])
  else
    let a := askedP (S.E b.toNat) n.kind n.frm
    let j : Jb := ⟨n, a.1, false, false, 0⟩
    if a.1 = 0#32 then ((answerP S j).1, [(answerP S j).2])
    else ({ S with J := updI S.J b (some j) }, (bitsL a.1).map fun x : Nat => ntAsk a.2 (x : Int) b n.stamp)
/-- The first that waits about a block. -/
def firstQ (Q : List Nt) (b : Int) : Option Nat := Q.findIdx? (fun n => n.blk == b)
theorem firstQ_lt {Q : List Nt} {b : Int} {i : Nat} (h : firstQ Q b = some i) : i < Q.length := by
  unfold firstQ at h
  rw [List.findIdx?_eq_some_iff_getElem] at h
  exact h.1
/-- Those that wait begin, until one is under way. -/
def loopP : Nat → Hs → Int → Hs × List Nt
  | 0, S, _ => (S, [])
  | k + 1, S, b => match firstQ S.Q b with
    | none => (S, [])
    | some i =>
      let r := beginP { S with Q := S.Q.eraseIdx i } (S.Q.getD i Nt.nil)
      if (r.1.J b).isSome then r else
        let t := loopP k r.1 b
        (t.1, r.2 ++ t.2)
/-- An ask ends. -/
def endP (S : Hs) (b : Int) : Hs × List Nt := loopP (S.Q.length + 1) { S with J := updI S.J b none } b
def isAsk (n : Nt) : Bool := netN n.kind == 0
/-- May it be taken? -/
def readyP (S : Hs) (n : Nt) : Int :=
  if MayN n = false ∨ n.too ≠ -1 ∨ S.c.cores ≤ n.frm ∨ S.data ≤ n.blk then 2
  else if isAsk n then (if (S.J n.blk).isSome && decide (S.room ≤ S.Q.length) then 110 else 0)
  else match S.J n.blk with
    | none => 8
    | some j => if n.kind = 11 then (if !j.ans || j.ask.frm != n.frm then 8 else 0) else (if j.ans || !inM j.wait n.frm then 8 else 0)
/-- An answer that a core gives is taken. -/
def heardP (S : Hs) (n : Nt) (j : Jb) : Jb :=
  { j with wait := j.wait &&& ~~~ bitB n.frm, least := if n.kind = 10 then (if !j.ref || decide (n.stamp < j.least) then n.stamp else j.least) else j.least, ref := if n.kind = 10 then true else j.ref }
def tookP (S : Hs) (n : Nt) (j : Jb) : Hs × List Nt :=
  let j' := heardP S n j
  let S1 := { S with B := if n.has then updG S.B n.blk.toNat n.D else S.B, J := updI S.J n.blk (some j') }
  if j'.wait ≠ 0#32 then (S1, [])
  else if j'.ref then
    let t := endP S1 n.blk
    (t.1, ntNack j'.ask.frm n.blk j'.least :: t.2)
  else ((answerP S1 j').1, [(answerP S1 j').2])
/-- A note is taken. -/
def takeP (S : Hs) (n : Nt) : Hs × List Nt × Int :=
  let e := readyP S n
  if e ≠ 0 then (S, [], e)
  else match S.J n.blk with
    | none => let r := beginP S n; (r.1, r.2, 0)
    | some j =>
      if isAsk n then ({ S with Q := S.Q ++ [n] }, [], 0)
      else if n.kind = 11 then let r := endP S n.blk; (r.1, r.2, 0)
      else let r := tookP S n j; (r.1, r.2, 0)
/-- How a home may be. -/
structure Good (S : Hs) : Prop where
  may : May S.c
  isU : ∀ i, IsU (S.B i)
  key : ∀ b j, S.J b = some j → 0 ≤ b ∧ b < S.data ∧ j.ask.blk = b ∧ j.Ok
  que : ∀ n ∈ S.Q, n.Ok
  few : (S.Q.length : Int) ≤ S.room
theorem mul_data {c : Cfg} (h : May c) : 1 ≤ c.cores * c.logs ∧ c.cores * c.logs ≤ 64 ∧ 1 ≤ c.blocks - c.cores * c.logs ∧ c.blocks - c.cores * c.logs ≤ 255 ∧ c.blocks ≤ 256 ∧ 2 ≤ c.cores * (c.backs + 1) ∧ c.cores * (c.backs + 1) ≤ 80 := by
  obtain ⟨hc, hbl, hl, hk, -, -, -, -, hd⟩ := h
  have h1 := PL.mul_small hc hl
  have h2 := PL.mul_small hc hk
  have e : c.cores * (c.backs + 1) = c.cores * c.backs + c.cores := by rw [Int.mul_add, Int.mul_one]
  omega
end Go.Proofs.YtlhbnndnkcpomaaDoor.HO
