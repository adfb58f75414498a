/-
  The machine in plain Lean: pace, connection (layers 15, 14): what the two texts compute, with no program in sight.
-/
import Derived.Test.YtlkceignfhnpoaaGreatDoorPlainPdu
set_option linter.unusedVariables false
set_option linter.unusedSimpArgs false
namespace Go.Proofs.YtlkceignfhnpoaaGreatDoor

/-- Ticks: how many each timer has (t), how many are left (l): CC, Poll, Keep, Silent, Idle. -/
structure PaceS where
  t0 : Int
  t1 : Int
  t2 : Int
  t3 : Int
  t4 : Int
  l0 : Int
  l1 : Int
  l2 : Int
  l3 : Int
  l4 : Int
structure PaceS.ok (p : PaceS) : Prop where
  t0 : 1 ≤ p.t0 ∧ p.t0 ≤ 1048576
  t1 : 1 ≤ p.t1 ∧ p.t1 ≤ 1048576
  t2 : 1 ≤ p.t2 ∧ p.t2 ≤ 1048576
  t3 : 1 ≤ p.t3 ∧ p.t3 ≤ 1048576
  t4 : 1 ≤ p.t4 ∧ p.t4 ≤ 1048576
  l0 : 0 ≤ p.l0 ∧ p.l0 ≤ 1048576
  l1 : 0 ≤ p.l1 ∧ p.l1 ≤ 1048576
  l2 : 0 ≤ p.l2 ∧ p.l2 ≤ 1048576
  l3 : 0 ≤ p.l3 ∧ p.l3 ≤ 1048576
  l4 : 0 ≤ p.l4 ∧ p.l4 ≤ 1048576
namespace PaceS
def watch (p : PaceS) : PaceS := if 0 < p.l3 then p else { p with l3 := p.t3 }
def fin (p : PaceS) : PaceS := { p with l1 := 0, l2 := 0, l3 := 0, l4 := 0 }
def begin_ (p : PaceS) : PaceS := { p with l1 := p.t1, l2 := 0, l3 := p.t3, l4 := 0 }
def again (p : PaceS) : PaceS := { p with l0 := p.t0 }
def enough (p : PaceS) : PaceS := { p with l0 := 0 }
def busy (p : PaceS) : PaceS := if 0 < p.l2 ∨ 0 < p.l4 then { p with l1 := p.t1, l2 := 0, l4 := 0 }.watch else p
def polled (p : PaceS) (idle : Bool) : PaceS := if idle then { p with l1 := 0, l2 := p.t2, l4 := 0 }.watch else { p with l1 := p.t1, l2 := 0, l4 := 0 }.watch
def answered (p : PaceS) (idle : Bool) : PaceS := if idle = true ∧ 0 < p.l2 then { p with l2 := 0, l3 := 0, l4 := p.t4 } else if 0 < p.l4 then p else { p with l3 := p.t3 }
def less (x : Int) : Int := if x = 0 then 0 else x - 1
def tick (p : PaceS) : PaceS := { p with l0 := less p.l0, l1 := less p.l1, l2 := less p.l2, l3 := less p.l3, l4 := less p.l4 }
def over (p : PaceS) : List Int := (if p.l0 = 1 then [0] else []) ++ ((if p.l1 = 1 then [1] else []) ++ ((if p.l2 = 1 then [2] else []) ++ ((if p.l3 = 1 then [3] else []) ++ (if p.l4 = 1 then [4] else []))))
def safe (p : PaceS) : Bool := decide (p.l3 = 0) || (decide (0 < p.l1) && decide (p.l1 < p.l3)) || (decide (0 < p.l2) && decide (p.l2 < p.l3))
end PaceS

/-- What a user is told. -/
structure SigS where
  kind : Int
  data : ByteArray
  self : Bool
  code : Int
  n : Int
/-- A unit. -/
structure UnitS where
  kind : Int
  sq : Int
  n : Int
  ps : Int
  mr : Int
  list : List Int
  self : Bool
  data : ByteArray
def sig0 (kind : Int) : SigS := ⟨kind, .empty, false, 0, 0⟩
def sigD (kind : Int) (data : ByteArray) : SigS := ⟨kind, data, false, 0, 0⟩
def sigR (code : Int) : SigS := ⟨12, .empty, false, code, 0⟩
def unit0 (kind sq : Int) : UnitS := ⟨kind, sq, 0, 0, 0, [], false, .empty⟩
/-- A connection. -/
structure ConnS where
  most : Int
  credit : Int
  state : Int
  sq : Int
  peer : Int
  cc : Int
  ms : Int
  data : ByteArray
/-- What a call brings. -/
structure ResS where
  sigs : List SigS
  units : List UnitS
  begins : Bool
  ends : Bool
  ms : Int
  timer : Int
def ResS.none : ResS := ⟨[], [], false, false, 0, 0⟩
/-- A call in the making. -/
structure ActS where
  c : ConnS
  r : ResS
namespace ActS
def hasCredit (k : Int) : Bool := decide (k = 1 ∨ k = 2 ∨ k = 5 ∨ k = 6 ∨ k = 9 ∨ k = 15)
def tell (a : ActS) (s : SigS) : ActS := { a with r := { a.r with sigs := a.r.sigs ++ [s] } }
def out (a : ActS) (u : UnitS) : ActS := { a with r := { a.r with units := a.r.units ++ [if hasCredit u.kind then { u with n := a.c.credit } else u] } }
def to (a : ActS) (st : Int) : ActS := ⟨{ a.c with state := st }, { a.r with ends := a.r.ends || decide (a.c.state = 10) }⟩
def stop (a : ActS) (st : Int) : ActS := let b := a.to st; { b with r := { b.r with timer := 2 } }
def ready (a : ActS) : ActS := let b := a.stop 10; { b with r := { b.r with begins := true, ms := b.c.ms } }
def kindOf (st : Int) : Int := if st = 2 then 1 else if st = 4 then 3 else if st = 5 then 5 else 9
def again (a : ActS) : ActS := let b := a.out { unit0 (kindOf a.c.state) a.c.sq with data := a.c.data }; { b with r := { b.r with timer := 1 } }
def begin_ (a : ActS) (st : Int) (data : ByteArray) : ActS := let b := a.to st; ActS.again { b with c := { b.c with sq := (b.c.sq + 1) % 256, cc := 1, data := data } }
def leave (a : ActS) (data : ByteArray) : ActS := let b := a.to 4; ActS.again { b with c := { b.c with cc := 1, data := data } }
def quit (a : ActS) : ActS := a.out { unit0 3 a.c.sq with self := true }
def report (a : ActS) (code : Int) : ActS := a.tell (sigR code)
def heard (a : ActS) (p : UnitS) : ActS := { a with c := { a.c with peer := p.sq, ms := p.n } }
def back (a : ActS) (p : UnitS) (kind : Int) (sts : List Int) : ActS := if a.c.state ∈ sts then a.out (unit0 kind p.sq) else a
def oldBegin (a : ActS) (p : UnitS) : ActS := (a.back p 7 [1]).back p 2 [5, 6, 7, 8, 9, 10]
def newBegin (a : ActS) (p : UnitS) : ActS :=
  let b := a.heard p
  if b.c.state = 1 then (b.tell (sigD 1 p.data)).to 3
  else if b.c.state = 2 then ((b.back p 2 [2]).tell (sig0 2)).ready
  else (((if b.c.state = 4 then b.tell (sig0 4) else b.tell (sig0 3)).tell (sigD 1 p.data))).stop 3
def end_ (a : ActS) (p : UnitS) : ActS :=
  let b := a.out (unit0 4 p.sq)
  if b.c.state = 1 then b
  else if b.c.state = 4 then (b.tell (sig0 4)).stop 1
  else (b.tell ⟨3, p.data, p.self, 0, 0⟩).stop 1
def resync (a : ActS) (p : UnitS) : ActS :=
  let b := a.heard p
  if b.c.state = 5 then ((b.out (unit0 6 p.sq)).tell (sig0 6)).ready
  else if b.c.state = 6 then b
  else (b.tell (sigD 5 p.data)).stop 6
def recover (a : ActS) (p : UnitS) : ActS :=
  let b := (a.heard p).back p 15 [7, 8]
  if b.c.state = 7 then (b.tell (sig0 7)).stop 8
  else if b.c.state = 10 then (b.tell (sig0 7)).to 9
  else b
def answer (a : ActS) (p : UnitS) : ActS :=
  if p.kind = 2 then (ActS.tell { a with c := { a.c with ms := p.n } } (sig0 2)).ready
  else if p.kind = 6 then (ActS.tell { a with c := { a.c with ms := p.n } } (sig0 6)).ready
  else if p.kind = 15 then (ActS.tell { a with c := { a.c with ms := p.n } } (sig0 7)).stop 8
  else if p.kind = 7 ∨ p.kind = 4 then (a.tell (if a.c.state = 2 then sigD 3 p.data else sig0 4)).stop 1
  else a
def handle (a : ActS) (p : UnitS) : ActS :=
  if p.kind = 1 then (if p.sq = a.c.peer then a.oldBegin p else a.newBegin p)
  else if p.kind = 3 then a.end_ p
  else if p.kind = 5 then (if p.sq = a.c.peer then a.back p 6 [7, 8, 9, 10] else a.resync p)
  else if p.kind = 9 then (if p.sq = a.c.peer then a.back p 15 [8, 10] else a.recover p)
  else if p.sq = a.c.sq then a.answer p else a
def ask (a : ActS) (kind : Int) (data : ByteArray) : ActS :=
  if kind = 1 then a.begin_ 2 data
  else if kind = 2 then (a.out (unit0 2 a.c.peer)).ready
  else if kind = 3 then (if a.c.state = 3 then (a.out { unit0 7 a.c.peer with data := data }).to 1 else a.leave data)
  else if kind = 4 then a.begin_ 5 data
  else if kind = 5 then (a.out (unit0 6 a.c.peer)).ready
  else if kind = 6 then (if a.c.state = 9 then a.out (unit0 15 a.c.peer) else a).ready
  else a
def expire (a : ActS) : ActS :=
  if a.c.state = 2 ∨ a.c.state = 4 ∨ a.c.state = 5 ∨ a.c.state = 7 then
    if a.c.cc < a.c.most then ActS.again { a with c := { a.c with cc := a.c.cc + 1 } }
    else (if a.c.state = 4 then (a.report 79).tell (sig0 4) else ((a.report 79).quit).tell ⟨3, .empty, true, 0, 0⟩).stop 1
  else a
def fail (a : ActS) (code : Int) : ActS := (a.report code).begin_ 7 .empty
def silent (a : ActS) : ActS := (((a.report 80).quit).tell ⟨3, .empty, true, 0, 0⟩).to 1
end ActS
/-- What is done with a unit of a kind (0 nothing, 1 handled, 2 wrong, 3 refused, 4 falls). -/
def ruleRows : List (List Int) := [
  [1, 3, 1, 0, 3, 3, 2, 3, 3, 3, 3, 3, 1, 1, 3],
  [1, 1, 0, 0, 0, 0, 1, 0, 0, 0, 0, 0, 1, 1, 0],
  [1, 2, 1, 2, 2, 2, 2, 2, 2, 2, 2, 2, 1, 1, 2],
  [1, 0, 1, 1, 0, 0, 1, 0, 0, 0, 0, 0, 1, 1, 0],
  [1, 0, 1, 4, 1, 1, 4, 0, 0, 0, 0, 0, 1, 1, 0],
  [1, 0, 1, 4, 1, 0, 4, 0, 0, 0, 0, 0, 1, 1, 0],
  [1, 0, 1, 4, 1, 0, 4, 0, 1, 0, 0, 0, 1, 1, 1],
  [1, 0, 1, 4, 1, 0, 4, 0, 1, 0, 0, 0, 1, 1, 0],
  [1, 0, 1, 4, 1, 0, 4, 0, 1, 0, 0, 0, 1, 1, 0],
  [1, 0, 1, 4, 1, 0, 4, 1, 1, 1, 1, 1, 1, 1, 0]]
def ruleOf (st k : Int) : Int := if 1 ≤ st ∧ st ≤ 10 ∧ 1 ≤ k ∧ k ≤ 15 then ((ruleRows.getD (st - 1).toNat []).getD (k - 1).toNat 0) else 0
def letterRow : List Int := [66, 67, 69, 70, 74, 75, 68, 65, 76, 71, 72, 73, 0, 0, 77]
def letterOf (k : Int) : Int := if 1 ≤ k ∧ k ≤ 15 then letterRow.getD (k - 1).toNat 0 else 0
def mayB (st rq : Int) : Bool :=
  decide (1 ≤ st ∧ st ≤ 10) &&
  (if rq = 1 then decide (st = 1 ∨ st = 4) else if rq = 2 then decide (st = 3) else if rq = 3 then decide (st ≠ 1 ∧ st ≠ 4) else if rq = 4 then decide (st = 8 ∨ st = 10)
   else if rq = 5 then decide (st = 6) else if rq = 6 then decide (st = 8 ∨ st = 9) else if rq = 7 then decide (st = 10) else decide (8 ≤ rq ∧ rq ≤ 11))
namespace ConnS
def act (c : ConnS) : ActS := ⟨c, .none⟩
def receive (c : ConnS) (p : UnitS) : ActS :=
  let w := ruleOf c.state p.kind
  if w = 1 then c.act.handle p
  else if w = 2 then c.act.report (letterOf p.kind)
  else if w = 3 then (c.act.report (letterOf p.kind)).quit
  else if w = 4 then ((c.act.report (letterOf p.kind)).tell ⟨3, .empty, true, 0, 0⟩).stop 1
  else c.act
def reqErr (c : ConnS) (kind : Int) (len : Nat) : Int := if kind < 1 ∨ 6 < kind then 10 else if 64 < len ∧ (kind = 1 ∨ kind = 3 ∨ kind = 4) then 6 else if mayB c.state kind then 0 else 8
def expire (c : ConnS) : ActS := c.act.expire
def fail (c : ConnS) (code : Int) : ActS := if c.state = 10 then c.act.fail code else c.act
def silent (c : ConnS) : ActS := if c.state = 10 then c.act.silent else c.act
structure ok (c : ConnS) : Prop where
  st : 1 ≤ c.state ∧ c.state ≤ 10
  most : 1 ≤ c.most ∧ c.most ≤ 16
  credit : 0 ≤ c.credit ∧ c.credit < 16777216
  sq : 0 ≤ c.sq ∧ c.sq ≤ 255
  peer : -1 ≤ c.peer ∧ c.peer ≤ 255
  cc : 0 ≤ c.cc ∧ c.cc ≤ 16
  ms : 0 ≤ c.ms ∧ c.ms < 16777216
  data : c.data.size ≤ 64
end ConnS
end Go.Proofs.YtlkceignfhnpoaaGreatDoor
