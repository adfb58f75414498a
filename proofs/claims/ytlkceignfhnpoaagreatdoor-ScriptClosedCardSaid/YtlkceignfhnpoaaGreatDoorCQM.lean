/-
  The program's paces: how they lie.
  The program's paces: making one, ticks.
  The program's numbers.
  The program's connections: a call in the making, and what its functions do.
  What makes a link: configs, rows, connections, ends.
  A link is made.
-/
import Derived.Test.YtlkceignfhnpoaaGreatDoorCTab
import Derived.Test.YtlkceignfhnpoaaGreatDoorCAy8
import Derived.Test.YtlkceignfhnpoaaGreatDoorCQZ
import Derived.Test.YtlkceignfhnpoaaGreatDoorMPlain
import Derived.Test.YtlkceignfhnpoaaGreatDoorCAy9
import Derived.WalkKit
import Derived.Laws.BitsLemmas
import Derived.Test.YtlkceignfhnpoaaGreatDoorCQS
set_option linter.unusedVariables false
set_option linter.unusedSimpArgs false
section
namespace Go.Proofs.YtlkceignfhnpoaaGreatDoor
open Go AX
/-- A pace's cells. -/
def PaceS.cells (p : PaceS) : List Value := [.int .i64 p.l0, .int .i64 p.l1, .int .i64 p.l2, .int .i64 p.l3, .int .i64 p.l4, .int .i64 p.t0, .int .i64 p.t1, .int .i64 p.t2, .int .i64 p.t3, .int .i64 p.t4]
def PaceS.blk (p : PaceS) : AB := .cells p.cells 182 true
def PaceS.put (p : PaceS) (t : Nat) (x : Int) : PaceS :=
  match t with
  | 0 => { p with l0 := x }
  | 1 => { p with l1 := x }
  | 2 => { p with l2 := x }
  | 3 => { p with l3 := x }
  | _ => { p with l4 := x }
def PaceS.got (p : PaceS) (t : Nat) : Int :=
  match t with
  | 0 => p.l0
  | 1 => p.l1
  | 2 => p.l2
  | 3 => p.l3
  | _ => p.l4
end Go.Proofs.YtlkceignfhnpoaaGreatDoor
end
section
namespace Go.Proofs.YtlkceignfhnpoaaGreatDoor
open Go AX
variable {E : FuncId → Option (Array Value → AX Value)} {F G : Nat → Prop} {H : AH} {s b : Nat} {p : PaceS} {Q : Value → AH → Nat → Prop}
set_option maxRecDepth 10000
set_option maxHeartbeats 4000000
def paceOK (c0 c1 c2 c3 c4 : Int) : Bool := decide ((1 ≤ c0 ∧ c0 ≤ 1048576) ∧ (1 ≤ c1 ∧ c1 ≤ 1048576) ∧ (1 ≤ c2 ∧ c2 ≤ 1048576) ∧ (1 ≤ c3 ∧ c3 ≤ 1048576) ∧ (1 ≤ c4 ∧ c4 ≤ 1048576) ∧ c1 < c3 ∧ c2 < c3)
def cfg (c0 c1 c2 c3 c4 : Int) : Value := .agg #[.int .i64 c0, .int .i64 c1, .int .i64 c2, .int .i64 c3, .int .i64 c4]
theorem pcheck_wp (hE : Bare E) (n : Nat) (c0 c1 c2 c3 c4 : Int) (hN : New F G s) (h : ∀ H' s', Fr [] H s H' s' → Q (.int .i64 (if paceOK c0 c1 c2 c3 c4 then 0 else 1)) H' s') : Wp F G (aCall Tryz.prog E (n + 1) 166 #[cfg c0 c1 c2 c3 c4]) H s Q := by
  refine enter (calm hE _) [] (hE.no _ (by decide)) Tryz.func166 Tryz.ntmps166 (by unfold Tryz.f166; rfl) (by unfold Tryz.f166; rfl) (by kernel_rfl) ?_
  have hFs := (hN s (Nat.le_refl _)).1
  simp [cfg, hFs]
  refine wp_rounds 6 (by decide) ?_
  have hd : (c1 < c3 ∧ ¬ c3 ≤ c1) ∨ (¬ c1 < c3 ∧ c3 ≤ c1) := by omega
  rcases hd with ⟨hk, hk'⟩ | ⟨hk, hk'⟩ <;> simp +contextual [wp_round, hFs, hk, hk']
  repeat' split
  all_goals
    first
    | (exfalso; omega)
    | (have e : paceOK c0 c1 c2 c3 c4 = false := by unfold paceOK; first | exact decide_eq_false (by omega) | exact decide_eq_true (by omega)
       simp [e] at h
       exact h _ _ (Fr.refl _ _ _).new)
    | (have e : paceOK c0 c1 c2 c3 c4 = true := by unfold paceOK; first | exact decide_eq_false (by omega) | exact decide_eq_true (by omega)
       simp [e] at h
       exact h _ _ (Fr.refl _ _ _).new)
/-- A pace that stands still. -/
def PaceS.of (c0 c1 c2 c3 c4 : Int) : PaceS := ⟨c0, c1, c2, c3, c4, 0, 0, 0, 0, 0⟩
theorem pnew_wp (hE : Bare E) (n : Nat) (c0 c1 c2 c3 c4 : Int) (hN : New F G s) (h1 : paceOK c0 c1 c2 c3 c4 = true → ∀ H' s' b, Fr [] H s H' s' → s ≤ b → b < s' → H' b = some (PaceS.of c0 c1 c2 c3 c4).blk → Q (.tuple #[.pointer (some ⟨b, 0, none⟩), .int .i64 0]) H' s')
    (h2 : paceOK c0 c1 c2 c3 c4 = false → ∀ H' s', Fr [] H s H' s' → Q (.tuple #[.pointer none, .int .i64 1]) H' s') : Wp F G (aCall Tryz.prog E (n + 2) 109 #[cfg c0 c1 c2 c3 c4]) H s Q := by
  have hFs := (hN s (Nat.le_refl _)).1
  refine enter (calm hE _) [] (hE.no _ (by decide)) Tryz.func109 Tryz.ntmps109 (by unfold Tryz.f109; rfl) (by unfold Tryz.f109; rfl) (by kernel_rfl) ?_
  simp [cfg, hFs]
  refine pcheck_wp hE _ c0 c1 c2 c3 c4 (hN.up (by omega)) fun H1 s1 f1 => ?_
  have hk : H1 s = some (.cells [.int .i64 c0, .int .i64 c1, .int .i64 c2, .int .i64 c3, .int .i64 c4] 56 true) := (f1.keep s (by omega) (by simp)).trans (upd_same _ _ _)
  have up := f1.up
  cases e : paceOK c0 c1 c2 c3 c4
  · simp [hk, hFs]
    exact h2 e _ _ ((Fr.refl _ _ _).new.comp f1 (by simp))
  · simp [hk, hFs]
    exact h1 e _ _ s1 ((Fr.refl _ _ _).new.comp f1 (by simp)).new (by omega) (by omega) (upd_same _ _ _)
end Go.Proofs.YtlkceignfhnpoaaGreatDoor
end
section
namespace Go.Proofs.YtlkceignfhnpoaaGreatDoor
open Go AX Go.RowKit
theorem mask_u32 (x : Int) (i : Nat) (hi : i ≤ 31) : bits .and .u32 x (2 ^ i - 1) = x % 2 ^ i := by
  have hpos : 0 < 2 ^ i := Nat.two_pow_pos i
  have hle : 2 ^ i ≤ 2 ^ 31 := Nat.pow_le_pow_right (by decide) hi
  have hc : ((2 : Int) ^ i - 1) = ((2 ^ i - 1 : Nat) : Int) := by rw [Int.natCast_sub hpos]; simp
  have hb : IntKind.u32.bits = 32 := rfl
  have hp : (2 : Int) ^ i = ((2 ^ i : Nat) : Int) := by simp
  simp only [bits, hc, BitVec.ofInt_natCast, BitVec.toNat_and, BitVec.toNat_ofNat, BitVec.toNat_ofInt, hb]
  rw [Nat.mod_eq_of_lt (show 2 ^ i - 1 < 2 ^ 32 by omega), Nat.and_two_pow_sub_one_eq_mod, hp]
  have hx : (((x % (2 ^ 32 : Nat)).toNat : Nat) : Int) = x % (2 ^ 32 : Nat) := Int.toNat_of_nonneg (Int.emod_nonneg _ (by decide))
  have hm : (((x % (2 ^ 32 : Nat)).toNat % 2 ^ i : Nat) : Int) = x % ((2 ^ i : Nat) : Int) := by
    rw [Int.natCast_emod, hx]
    exact Int.emod_emod_of_dvd x (Int.natCast_dvd_natCast.2 (Nat.pow_dvd_pow 2 (by omega)))
  rw [hm, IntKind.wrap_u32]
  have h0 := Int.emod_nonneg x (show ((2 ^ i : Nat) : Int) ≠ 0 by omega)
  have h1 := Int.emod_lt_of_pos x (show (0 : Int) < ((2 ^ i : Nat) : Int) by omega)
  omega
theorem mask_i64S (x : Int) (i : Nat) (hi : i ≤ 62) : bits .and .i64 x (2 ^ i - 1) = x % 2 ^ i := by
  have hpos : 0 < 2 ^ i := Nat.two_pow_pos i
  have hle : 2 ^ i ≤ 2 ^ 62 := Nat.pow_le_pow_right (by decide) hi
  have hc : ((2 : Int) ^ i - 1) = ((2 ^ i - 1 : Nat) : Int) := by rw [Int.natCast_sub hpos]; simp
  have hb : IntKind.i64.bits = 64 := rfl
  have hp : (2 : Int) ^ i = ((2 ^ i : Nat) : Int) := by simp
  simp only [bits, hc, BitVec.ofInt_natCast, BitVec.toNat_and, BitVec.toNat_ofNat, BitVec.toNat_ofInt, hb]
  rw [Nat.mod_eq_of_lt (show 2 ^ i - 1 < 2 ^ 64 by omega), Nat.and_two_pow_sub_one_eq_mod, hp]
  have hx : (((x % (2 ^ 64 : Nat)).toNat : Nat) : Int) = x % (2 ^ 64 : Nat) := Int.toNat_of_nonneg (Int.emod_nonneg _ (by decide))
  have hm : (((x % (2 ^ 64 : Nat)).toNat % 2 ^ i : Nat) : Int) = x % ((2 ^ i : Nat) : Int) := by
    rw [Int.natCast_emod, hx]
    exact Int.emod_emod_of_dvd x (Int.natCast_dvd_natCast.2 (Nat.pow_dvd_pow 2 (by omega)))
  rw [hm, IntKind.wrap_i64]
  have h0 := Int.emod_nonneg x (show ((2 ^ i : Nat) : Int) ≠ 0 by omega)
  have h1 := Int.emod_lt_of_pos x (show (0 : Int) < ((2 ^ i : Nat) : Int) by omega)
  omega
/-- A call without arguments. -/
@[simp ↓] theorem o_call0 {P : Program} {call : FuncId → Array Value → AX Value} {d : Option Tmp} {ty : TypeId} {pos : String} {af : Array Edge} {g : Option (Nat × Bool)} {tm : Array Value} {f : FuncId} {ts : Array TypeId} (hc : callable P f = true) : aOp P call ⟨d, .call ⟨.value (.func f), #[], ts⟩, ty, pos, af, g⟩ tm = call f #[] := by
  rw [o_call (by rfl) hc]
  simp
section
variable {P : Program} {T : TypeId} {ox oy : Operand} {x : Int}
@[simp] theorem b_and24u : aBin P .and T ox oy (.int .u32 x) (.int .u32 16777215) = ret (.int .u32 (x % 16777216)) := by
  have h : bits .and .u32 x 16777215 = x % 16777216 := mask_u32 x 24 (by decide)
  rw [b_and, ← h]
  rfl
@[simp] theorem b_and24i : aBin P .and T ox oy (.int .i64 x) (.int .i64 16777215) = ret (.int .i64 (x % 16777216)) := by
  have h : bits .and .i64 x 16777215 = x % 16777216 := mask_i64S x 24 (by decide)
  rw [b_and, ← h]
  rfl
end
@[simp] theorem be_bool {ox oy : Operand} (a b : Bool) : aBin Tryz.prog .eql 4 ox oy (.bool a) (.bool b) = ret (.bool (a == b)) := by kernel_rfl
@[simp] theorem bn_bool {ox oy : Operand} (a b : Bool) : aBin Tryz.prog .neq 4 ox oy (.bool a) (.bool b) = ret (.bool (a != b)) := by kernel_rfl
variable {E : FuncId → Option (Array Value → AX Value)}
set_option maxRecDepth 10000
set_option maxHeartbeats 4000000
theorem low_eq (hE : Bare E) (n : Nat) (x : Int) : aCall Tryz.prog E (n + 1) 165 #[.int .u32 x] = ret (.int .u32 (x % 16777216)) := by
  refine dry_eq fun H s => ?_
  refine enter (calm hE _) [] (hE.no _ (by decide)) Tryz.func165 Tryz.ntmps165 (by unfold Tryz.f165; rfl) (by unfold Tryz.f165; rfl) (by kernel_rfl) ?_
  simp
theorem of_eq (hE : Bare E) (n : Nat) (x : Int) : aCall Tryz.prog E (n + 1) 167 #[.int .i64 x] = ret (.int .u32 (x % 16777216)) := by
  refine dry_eq fun H s => ?_
  refine enter (calm hE _) [] (hE.no _ (by decide)) Tryz.func167 Tryz.ntmps167 (by unfold Tryz.f167; rfl) (by unfold Tryz.f167; rfl) (by kernel_rfl) ?_
  simp
  rw [IntKind.wrap_u32]
  omega
theorem add_eq (hE : Bare E) (n : Nat) (x y : Int) : aCall Tryz.prog E (n + 2) 111 #[.int .u32 x, .int .i64 y] = ret (.int .u32 ((x + y) % 16777216)) := by
  refine dry_eq fun H s => ?_
  refine enter (calm hE _) [] (hE.no _ (by decide)) Tryz.func111 Tryz.ntmps111 (by unfold Tryz.f111; rfl) (by unfold Tryz.f111; rfl) (by kernel_rfl) ?_
  simp [low_eq hE, of_eq hE]
  have h1 : IntKind.i64.wrap (x % 16777216) = x % 16777216 := wrap64_small (by omega) (by omega)
  have h2 : IntKind.i64.wrap (x % 16777216 + y % 16777216) = x % 16777216 + y % 16777216 := wrap64_small (by omega) (by omega)
  simp [h1, h2]
theorem to_eq (hE : Bare E) (n : Nat) (x y : Int) : aCall Tryz.prog E (n + 1) 271 #[.int .u32 x, .int .u32 y] = ret (.int .i64 ((y - x) % 16777216)) := by
  refine dry_eq fun H s => ?_
  refine enter (calm hE _) [] (hE.no _ (by decide)) Tryz.func271 Tryz.ntmps271 (by unfold Tryz.f271; rfl) (by unfold Tryz.f271; rfl) (by kernel_rfl) ?_
  simp
  have h1 : IntKind.i64.wrap ((IntKind.u32.wrap (y - x)) % 16777216) = (IntKind.u32.wrap (y - x)) % 16777216 := wrap64_small (by omega) (by omega)
  rw [h1, IntKind.wrap_u32]
  omega
end Go.Proofs.YtlkceignfhnpoaaGreatDoor
end
section
namespace Go.Proofs.YtlkceignfhnpoaaGreatDoor
open Go AX
def SigS.row (s : SigS) : List Value := [.int .i64 s.kind, .string s.data, .bool s.self, .int .u8 s.code, .int .i64 s.n]
def UnitS.rowV (u : UnitS) (v : Value) : List Value := [.int .i64 u.kind, .int .i64 u.sq, .int .u32 u.n, .int .u32 u.ps, .int .u32 u.mr, v, .bool u.self, .string u.data]
/-- A unit without a list. -/
def UnitS.row (u : UnitS) : List Value := u.rowV nilS
def ConnS.cells (c : ConnS) : List Value := [.int .i64 c.most, .int .u32 c.credit, .int .i64 c.state, .int .i64 c.sq, .int .i64 c.peer, .int .i64 c.cc, .int .u32 c.ms, .string c.data]
def ConnS.blk (c : ConnS) : AB := .cells c.cells 239 true
/-- A call in the making: its cells. -/
def ActS.cellsV (x : ActS) (c : Nat) (vs vu : Value) : List Value := [ptr c, vs, vu, .bool x.r.begins, .bool x.r.ends, .int .u32 x.r.ms, .int .i64 x.r.timer]
def ActS.blkV (x : ActS) (c : Nat) (vs vu : Value) : AB := .cells (x.cellsV c vs vu) 303 true
structure ActIn (s0 c a : Nat) (H0 H : AH) (s : Nat) (x : ActS) (vs vu : Value) (Ls Lu : List Nat) (j : Nat) : Prop where
  fr : Fr [c] H0 s0 H s
  hc : c < s0
  ha : s0 ≤ a ∧ a < s
  act : H a = some (x.blkV c vs vu)
  conn : H c = some x.c.blk
  sg : SlAt H 152 5 vs (x.r.sigs.map SigS.row) Ls
  un : SlAt H 150 8 vu (x.r.units.map UnitS.row) Lu
  ls : ∀ b, b ∈ Ls → s0 ≤ b ∧ b < s ∧ b ≠ a
  lu : ∀ b, b ∈ Lu → s0 ≤ b ∧ b < s ∧ b ≠ a ∧ b ∉ Ls
  few : x.r.sigs.length + x.r.units.length ≤ j
def Act (s0 c a : Nat) (H0 H : AH) (s : Nat) (x : ActS) (j : Nat) : Prop := ∃ vs vu Ls Lu, ActIn s0 c a H0 H s x vs vu Ls Lu j
/-- What may be read and turned by a call. -/
structure Env (E : FuncId → Option (Array Value → AX Value)) (F G : Nat → Prop) (s0 c : Nat) : Prop where
  hE : Bare E
  hN : New F G s0
  hF : F c
  hG : G c
section
variable {E : FuncId → Option (Array Value → AX Value)} {F G : Nat → Prop} {H H0 : AH} {s s0 a c j : Nat} {x : ActS} {Q : Value → AH → Nat → Prop} {vs vu : Value} {Ls Lu : List Nat}
theorem Act.mono (A : Act s0 c a H0 H s x j) {k : Nat} (h : j ≤ k) : Act s0 c a H0 H s x k := by
  obtain ⟨vs, vu, Ls, Lu, A⟩ := A
  exact ⟨vs, vu, Ls, Lu, A.fr, A.hc, A.ha, A.act, A.conn, A.sg, A.un, A.ls, A.lu, Nat.le_trans A.few h⟩
theorem Env.Fa (K : Env E F G s0 c) (A : ActIn s0 c a H0 H s x vs vu Ls Lu j) : F a := (K.hN a A.ha.1).1
theorem Env.Ga (K : Env E F G s0 c) (A : ActIn s0 c a H0 H s x vs vu Ls Lu j) : G a := (K.hN a A.ha.1).2
theorem ActIn.ne (A : ActIn s0 c a H0 H s x vs vu Ls Lu j) : a ≠ c ∧ c ≠ a := by have := A.hc; have := A.ha; omega
theorem ActIn.setC (A : ActIn s0 c a H0 H s x vs vu Ls Lu j) (y : ConnS) : Act s0 c a H0 (upd H c (some y.blk)) s { x with c := y } j := by
  have := A.hc; have := A.ha
  refine ⟨vs, vu, Ls, Lu, A.fr.own (by simp), A.hc, A.ha, (upd_ne _ _ (by omega)).trans A.act, upd_same _ _ _, A.sg.keep fun b hb => upd_ne _ _ ?_, A.un.keep fun b hb => upd_ne _ _ ?_, A.ls, A.lu, A.few⟩
  · have := A.ls b hb; omega
  · have := A.lu b hb; omega
theorem ActIn.setR (A : ActIn s0 c a H0 H s x vs vu Ls Lu j) (begins ends : Bool) (ms timer : Int) : Act s0 c a H0 (upd H a (some (ActS.blkV ⟨x.c, { x.r with begins := begins, ends := ends, ms := ms, timer := timer }⟩ c vs vu))) s ⟨x.c, { x.r with begins := begins, ends := ends, ms := ms, timer := timer }⟩ j := by
  have := A.hc; have := A.ha
  refine ⟨vs, vu, Ls, Lu, A.fr.made (by omega), A.hc, A.ha, upd_same _ _ _, (upd_ne _ _ (by omega)).trans A.conn, A.sg.keep fun b hb => upd_ne _ _ ?_, A.un.keep fun b hb => upd_ne _ _ ?_, A.ls, A.lu, A.few⟩
  · have := A.ls b hb; omega
  · have := A.lu b hb; omega
theorem ActIn.setRC (A : ActIn s0 c a H0 H s x vs vu Ls Lu j) (begins ends : Bool) (ms timer : Int) (y : ConnS) : Act s0 c a H0 (upd (upd H a (some (ActS.blkV ⟨x.c, { x.r with begins := begins, ends := ends, ms := ms, timer := timer }⟩ c vs vu))) c (some y.blk)) s ⟨y, { x.r with begins := begins, ends := ends, ms := ms, timer := timer }⟩ j := by
  obtain ⟨vs', vu', Ls', Lu', B⟩ := A.setR begins ends ms timer
  exact B.setC y
theorem ActIn.addS (A : ActIn s0 c a H0 H s x vs vu Ls Lu j) {X : Option AB} {H' : AH} {s' : Nat} {v' : Value} {L' : List Nat} (σ : SigS) (f : Fr Ls (upd H s X) (s + 1) H' s') (h : SlAt H' 152 5 v' (x.r.sigs.map SigS.row ++ [σ.row]) L') (hl : ∀ b, b ∈ L' → (b ∈ Ls ∨ s + 1 ≤ b) ∧ (b ∈ Ls ∨ b < s')) :
    Act s0 c a H0 (upd H' a (some ((x.tell σ).blkV c v' vu))) s' (x.tell σ) (j + 1) := by
  have hup := f.up; have hc := A.hc; have ha := A.ha
  have keep : ∀ b, b < s → b ∉ Ls → H' b = H b := fun b hb hn => (f.keep b (by omega) hn).trans (upd_ne _ _ (by omega))
  have nc : c ∉ Ls := fun hm => by have := A.ls c hm; omega
  refine ⟨v', vu, L', Lu, ((A.fr.new.comp f fun b hb => .inl (A.ls b hb).1).made (by omega)), hc, ⟨ha.1, by omega⟩, upd_same _ _ _, ((upd_ne _ _ (by omega)).trans (keep c (by omega) nc)).trans A.conn, ?_, ?_, ?_, ?_, ?_⟩
  · have e : (x.tell σ).r.sigs.map SigS.row = x.r.sigs.map SigS.row ++ [σ.row] := by simp [ActS.tell]
    rw [e]
    exact h.keep fun b hb => upd_ne _ _ (by rcases (hl b hb).1 with h1 | h1; exact (A.ls b h1).2.2; omega)
  · exact A.un.keep fun b hb => (upd_ne _ _ (A.lu b hb).2.2.1).trans (keep b (A.lu b hb).2.1 (A.lu b hb).2.2.2)
  · intro b hb
    have h1 := hl b hb
    rcases h1.1 with h2 | h2
    · have := A.ls b h2; exact ⟨this.1, by omega, this.2.2⟩
    · rcases h1.2 with h3 | h3
      · have := A.ls b h3; exact ⟨this.1, by omega, this.2.2⟩
      · exact ⟨by omega, h3, by omega⟩
  · intro b hb
    have h1 := A.lu b hb
    refine ⟨h1.1, by omega, h1.2.2.1, fun hm => ?_⟩
    rcases (hl b hm).1 with h2 | h2
    · exact h1.2.2.2 h2
    · omega
  · have := A.few; simp [ActS.tell]; omega
theorem ActIn.addU (A : ActIn s0 c a H0 H s x vs vu Ls Lu j) {X : Option AB} {H' : AH} {s' : Nat} {v' : Value} {L' : List Nat} (u : UnitS) (f : Fr Lu (upd H s X) (s + 1) H' s') (h : SlAt H' 150 8 v' (x.r.units.map UnitS.row ++ [u.row]) L') (hl : ∀ b, b ∈ L' → (b ∈ Lu ∨ s + 1 ≤ b) ∧ (b ∈ Lu ∨ b < s')) :
    Act s0 c a H0 (upd H' a (some (ActS.blkV ⟨x.c, { x.r with units := x.r.units ++ [u] }⟩ c vs v'))) s' ⟨x.c, { x.r with units := x.r.units ++ [u] }⟩ (j + 1) := by
  have hup := f.up; have hc := A.hc; have ha := A.ha
  have keep : ∀ b, b < s → b ∉ Lu → H' b = H b := fun b hb hn => (f.keep b (by omega) hn).trans (upd_ne _ _ (by omega))
  have nc : c ∉ Lu := fun hm => by have := A.lu c hm; omega
  have ns : ∀ b, b ∈ Ls → b ∉ Lu := fun b hb hm => (A.lu b hm).2.2.2 hb
  refine ⟨vs, v', Ls, L', ((A.fr.new.comp f fun b hb => .inl (A.lu b hb).1).made (by omega)), hc, ⟨ha.1, by omega⟩, upd_same _ _ _, ((upd_ne _ _ (by omega)).trans (keep c (by omega) nc)).trans A.conn, ?_, ?_, ?_, ?_, ?_⟩
  · exact A.sg.keep fun b hb => (upd_ne _ _ (A.ls b hb).2.2).trans (keep b (A.ls b hb).2.1 (ns b hb))
  · have e : (x.r.units ++ [u]).map UnitS.row = x.r.units.map UnitS.row ++ [u.row] := by simp
    show SlAt _ _ _ _ ((x.r.units ++ [u]).map UnitS.row) _
    rw [e]
    exact h.keep fun b hb => upd_ne _ _ (by rcases (hl b hb).1 with h1 | h1; exact (A.lu b h1).2.2.1; omega)
  · intro b hb
    have := A.ls b hb; exact ⟨this.1, by omega, this.2.2⟩
  · intro b hb
    have h1 := hl b hb
    rcases h1.1 with h2 | h2
    · have := A.lu b h2; exact ⟨this.1, by omega, this.2.2.1, this.2.2.2⟩
    · have nl : b ∉ Ls := fun hm => by have := A.ls b hm; omega
      rcases h1.2 with h3 | h3
      · have := A.lu b h3; exact ⟨this.1, by omega, this.2.2.1, this.2.2.2⟩
      · exact ⟨by omega, h3, by omega, nl⟩
  · have := A.few; simp; omega
end
end Go.Proofs.YtlkceignfhnpoaaGreatDoor
end
section
namespace Go.Proofs.YtlkceignfhnpoaaGreatDoor
open Go AX
variable {E : FuncId → Option (Array Value → AX Value)} {F G : Nat → Prop} {H : AH} {s b : Nat} {Q : Value → AH → Nat → Prop}
set_option maxRecDepth 10000
set_option maxHeartbeats 4000000
theorem New.own (h : New F G s) {s0 s1 : Nat} (hs : s ≤ s1) : New (fun b => F b ∧ (b < s0 ∨ s1 ≤ b)) (fun b => G b ∧ s1 ≤ b) s1 := fun k hk => ⟨⟨(h k (by omega)).1, .inr hk⟩, (h k (by omega)).2, hk⟩
/-- An end's config. -/
structure CfgN where
  most : Int
  window : Int
  queue : Int
  units : Int
  polls : Int
  start : Int
  c0 : Int
  c1 : Int
  c2 : Int
  c3 : Int
  c4 : Int
def CfgN.cells (c : CfgN) : List Value := [.int .i64 c.most, .int .i64 c.window, .int .i64 c.queue, .int .i64 c.units, .int .i64 c.polls, .int .u32 c.start, .int .i64 c.c0, .int .i64 c.c1, .int .i64 c.c2, .int .i64 c.c3, .int .i64 c.c4]
def inB (x m : Int) : Bool := decide (1 ≤ x) && decide (x ≤ m)
def CfgN.fits (c : CfgN) : Bool := inB c.most 16 && (inB c.window 64 && (inB c.queue 256 && (inB c.units 64 && (inB c.polls 256 && (decide (c.start = c.start % 16777216) && paceOK c.c0 c.c1 c.c2 c.c3 c.c4)))))
theorem in_eq (hE : Bare E) (n : Nat) (x m : Int) : aCall Tryz.prog E (n + 1) 164 #[.int .i64 x, .int .i64 m] = ret (.bool (inB x m)) := by
  refine dry_eq fun H s => ?_
  refine enter (calm hE _) [] (hE.no _ (by decide)) Tryz.func164 Tryz.ntmps164 (by unfold Tryz.f164; rfl) (by unfold Tryz.f164; rfl) (by kernel_rfl) ?_
  simp +contextual [inB]
@[simp] theorem cl_in : callable Tryz.prog 164 = true := by kernel_rfl
theorem ncheck_wp (hE : Bare E) (n : Nat) (c : CfgN) (hN : New F G s) (h : ∀ H' s', Fr [] H s H' s' → Q (.int .i64 (if c.fits then 0 else 1)) H' s') : Wp F G (aCall Tryz.prog E (n + 2) 107 #[.agg c.cells.toArray]) H s Q := by
  have hFs := (hN s (Nat.le_refl _)).1
  refine enter (calm hE _) [(2, [], [], [])] (hE.no _ (by decide)) Tryz.func107 Tryz.ntmps107 (by unfold Tryz.f107; rfl) (by unfold Tryz.f107; rfl) (by kernel_rfl) ?_
  cases e1 : inB c.most 16
  · simp [CfgN.cells, in_eq hE, low_eq hE, hFs, e1]
    simpa [CfgN.fits, e1] using h _ _ (Fr.refl _ _ _).new
  cases e2 : inB c.window 64
  · simp [CfgN.cells, in_eq hE, low_eq hE, hFs, e1, e2]
    simpa [CfgN.fits, e1, e2] using h _ _ (Fr.refl _ _ _).new
  cases e3 : inB c.queue 256
  · simp [CfgN.cells, in_eq hE, low_eq hE, hFs, e1, e2, e3]
    simpa [CfgN.fits, e1, e2, e3] using h _ _ (Fr.refl _ _ _).new
  cases e4 : inB c.units 64
  · simp [CfgN.cells, in_eq hE, low_eq hE, hFs, e1, e2, e3, e4]
    simpa [CfgN.fits, e1, e2, e3, e4] using h _ _ (Fr.refl _ _ _).new
  cases e5 : inB c.polls 256
  · simp [CfgN.cells, in_eq hE, low_eq hE, hFs, e1, e2, e3, e4, e5]
    simpa [CfgN.fits, e1, e2, e3, e4, e5] using h _ _ (Fr.refl _ _ _).new
  by_cases e6 : c.start = c.start % 16777216
  · simp [CfgN.cells, in_eq hE, low_eq hE, hFs, e1, e2, e3, e4, e5, ← e6]
    refine pcheck_wp hE _ c.c0 c.c1 c.c2 c.c3 c.c4 (hN.up (Nat.le_succ _)) fun H1 s1 f1 => ?_
    simp
    have := h _ _ ((Fr.refl _ _ _).new.comp f1 (by simp))
    simpa [CfgN.fits, e1, e2, e3, e4, e5, ← e6] using this
  · simp [CfgN.cells, in_eq hE, low_eq hE, hFs, e1, e2, e3, e4, e5, e6]
    simpa [CfgN.fits, e1, e2, e3, e4, e5, e6] using h _ _ (Fr.refl _ _ _).new
/-- A connection that is new. -/
def ConnS.new (most credit : Int) : ConnS := ⟨max 1 (min most 16), credit % 16777216, 1, 0, -1, 0, credit % 16777216, .empty⟩
theorem cnew_wp (hE : Bare E) (n : Nat) (most credit : Int) (hN : New F G s) (h : ∀ H' s' b, Fr [] H s H' s' → s ≤ b → b < s' → H' b = some (ConnS.new most credit).blk → Q (ptr b) H' s') : Wp F G (aCall Tryz.prog E (n + 2) 110 #[.agg #[.int .i64 most, .int .u32 credit]]) H s Q := by
  have hFs := hN s (Nat.le_refl _)
  refine enter (calm hE _) [(1, [], [], [])] (hE.no _ (by decide)) Tryz.func110 Tryz.ntmps110 (by unfold Tryz.f110; rfl) (by unfold Tryz.f110; rfl) (by kernel_rfl) ?_
  simp [low_eq hE, hFs]
  exact h _ _ (s + 1) ((Fr.refl _ _ _).new.new) (by omega) (by omega) (upd_same _ _ _)
/-- A row that is empty. -/
theorem rnewu_wp (hE : Bare E) (n : Nat) (most : Int) (h : ∀ H' s' b, Fr [] H s H' s' → s ≤ b → b < s' → H' b = some (.cells [nilS, .int .i64 0, .int .i64 0, .int .i64 (max 0 (min most 4096))] 241 true) → Q (ptr b) H' s') : Wp F G (aCall Tryz.prog E (n + 1) 112 #[.int .i64 most]) H s Q := by
  refine enter (calm hE _) [] (hE.no _ (by decide)) Tryz.func112 Tryz.ntmps112 (by unfold Tryz.f112; rfl) (by unfold Tryz.f112; rfl) (by kernel_rfl) ?_
  simp
  exact h _ _ s (Fr.refl _ _ _).new (by omega) (by omega) (upd_same _ _ _)
theorem rnews_wp (hE : Bare E) (n : Nat) (most : Int) (h : ∀ H' s' b, Fr [] H s H' s' → s ≤ b → b < s' → H' b = some (.cells [nilS, .int .i64 0, .int .i64 0, .int .i64 (max 0 (min most 4096))] 271 true) → Q (ptr b) H' s') : Wp F G (aCall Tryz.prog E (n + 1) 113 #[.int .i64 most]) H s Q := by
  refine enter (calm hE _) [] (hE.no _ (by decide)) Tryz.func113 Tryz.ntmps113 (by unfold Tryz.f113; rfl) (by unfold Tryz.f113; rfl) (by kernel_rfl) ?_
  simp
  exact h _ _ s (Fr.refl _ _ _).new (by omega) (by omega) (upd_same _ _ _)
theorem pipenew_wp (hE : Bare E) (n : Nat) (most : Int) (h : ∀ H' s' r b, Fr [] H s H' s' → s ≤ r → r < b → b < s' → H' r = some (.cells [nilS, .int .i64 0, .int .i64 0, .int .i64 (max 1 (min most 256))] 271 true) → H' b = some (.cells [ptr r, .int .i64 0, .int .i64 0, .int .i64 0] 211 true) → Q (ptr b) H' s') : Wp F G (aCall Tryz.prog E (n + 2) 59 #[.int .i64 most]) H s Q := by
  refine enter (calm hE _) [] (hE.no _ (by decide)) Tryz.func59 Tryz.ntmps59 (by unfold Tryz.f59; rfl) (by unfold Tryz.f59; rfl) (by kernel_rfl) ?_
  simp
  refine rnews_wp hE _ _ fun H1 s1 r f1 h1 h2 h3 => ?_
  simp
  refine h _ _ r s1 f1.new h1 h2 (by omega) ((upd_ne _ _ (by omega)).trans ?_) (upd_same _ _ _)
  rw [h3, show max 0 (min (max 1 (min most 256)) 4096) = max 1 (min most 256) by omega]
def CfgN.pace (c : CfgN) : PaceS := PaceS.of c.c0 c.c1 c.c2 c.c3 c.c4
/-- An end that is new: its blocks. -/
structure NewNode (H : AH) (s s' : Nat) (c : CfgN) (b bc bp br : Nat) : Prop where
  ord : s ≤ bp ∧ bp < bc ∧ bc < br ∧ br < b ∧ b < s'
  pace : H bp = some c.pace.blk
  conn : H bc = some (ConnS.new c.most ((c.start + c.window) % 16777216)).blk
  ring : H br = some (.cells [nilS, .int .i64 0, .int .i64 0, .int .i64 c.units] 241 true)
  node : H b = some (.cells (c.cells ++ [ptr bc, ptr bp, .pointer none, .pointer none, nilS, ptr br, .bool false, .bool false, .int .u32 0, .bool false, nilS]) 173 true)
theorem nnew_wp (hE : Bare E) (n : Nat) (c : CfgN) (hN : New F G s) (hB : Bd H s) (h1 : c.fits = true → ∀ H' s' b bc bp br, Fr [] H s H' s' → NewNode H' s s' c b bc bp br → Q (.tuple #[ptr b, .int .i64 0]) H' s')
    (h2 : c.fits = false → ∀ H' s', Fr [] H s H' s' → Q (.tuple #[.pointer none, .int .i64 1]) H' s') : Wp F G (aCall Tryz.prog E (n + 3) 58 #[.agg c.cells.toArray]) H s Q := by
  have hFs := (hN s (Nat.le_refl _)).1
  have hB1 : Bd (upd H s (some (.cells c.cells 78 true))) (s + 1) := fun k hk => (upd_ne _ _ (by omega)).trans (hB k (by omega))
  refine enter (calm hE _) [(7, [0, 12], [], [9, 13])] (hE.no _ (by decide)) Tryz.func58 Tryz.ntmps58 (by unfold Tryz.f58; rfl) (by unfold Tryz.f58; rfl) (by kernel_rfl) ?_
  simp [CfgN.cells, hFs]
  refine wp_bd ((calm hE _).ls _ _) hB1 ?_
  refine ncheck_wp hE _ c (hN.up (Nat.le_succ _)) fun H1 s1 f1 u1 b1 => ?_
  have k1 := (f1.keep s (by omega) (by simp)).trans (upd_same _ _ _)
  cases e : c.fits
  · simp
    exact h2 e _ _ ((Fr.refl _ _ _).new.comp f1 (by simp))
  have ep : paceOK c.c0 c.c1 c.c2 c.c3 c.c4 = true := by
    simp only [CfgN.fits, Bool.and_eq_true] at e
    exact e.2.2.2.2.2.2
  simp [k1, hFs]
  refine wp_bd ((calm hE _).ls _ _) b1 ?_
  refine pnew_wp hE _ c.c0 c.c1 c.c2 c.c3 c.c4 (hN.up (by omega)) (fun _ H2 s2 bp f2 hp1 hp2 hp3 u2 b2 => ?_) (fun ep' => by rw [ep] at ep'; cases ep')
  have k2 := (f2.keep s (by omega) (by simp)).trans k1
  simp [k2, hFs, add_eq hE]
  have up1 := f1.up; have up2 := f2.up
  refine ⟨by omega, b2, ?_⟩
  refine wp_bd ((calm hE _).ls _ _) b2 ?_
  refine cnew_wp hE _ c.most _ (New.own hN (by omega)) fun H3 s3 bc f3 hc1 hc2 hc3 u3 b3 => ?_
  have k3 := (f3.keep s (by omega) (by simp)).trans k2
  simp [k3, hFs]
  refine ⟨by omega, by omega, b3, ?_⟩
  refine wp_bd ((calm hE _).ls _ _) b3 ?_
  refine rnewu_wp hE _ c.units fun H4 s4 br f4 hr1 hr2 hr3 u4 b4 => ?_
  simp
  have up3 := f3.up; have up4 := f4.up
  have eu : inB c.units 64 = true := by
    simp only [CfgN.fits, Bool.and_eq_true] at e
    exact e.2.2.2.1
  simp [inB] at eu
  refine h1 e _ _ s4 bc bp br ((((Fr.refl _ _ _).new.comp f1 (by simp)).comp f2 (by simp)).comp f3 (by simp) |>.comp f4 (by simp)).new ⟨by omega, ?_, ?_, ?_, upd_same _ _ _⟩
  · exact (upd_ne _ _ (by omega)).trans ((f4.keep _ (by omega) (by simp)).trans ((f3.keep _ (by omega) (by simp)).trans hp3))
  · exact (upd_ne _ _ (by omega)).trans ((f4.keep _ (by omega) (by simp)).trans hc3)
  · refine (upd_ne _ _ (by omega)).trans (hr3.trans ?_)
    rw [show max 0 (min c.units 4096) = c.units by omega]
end Go.Proofs.YtlkceignfhnpoaaGreatDoor
end
section
namespace Go.Proofs.YtlkceignfhnpoaaGreatDoor
open Go AX
variable {E : FuncId → Option (Array Value → AX Value)} {F G : Nat → Prop} {H : AH} {s b : Nat} {Q : Value → AH → Nat → Prop}
set_option maxRecDepth 10000
set_option maxHeartbeats 4000000
/-- A link's config. -/
structure CfgL where
  a : CfgN
  b : CfgN
  room : Int
def CfgL.cells (c : CfgL) : List Value := c.a.cells ++ (c.b.cells ++ [.int .i64 c.room])
def CfgL.fits (c : CfgL) : Bool := c.a.fits && (c.b.fits && (decide (c.a.start = c.b.start) && (decide (1 ≤ c.room) && decide (c.room ≤ 256))))
theorem lcheck_wp (hE : Bare E) (n : Nat) (c : CfgL) (hN : New F G s) (h : ∀ H' s', Fr [] H s H' s' → Q (.int .i64 (if c.fits then 0 else 1)) H' s') : Wp F G (aCall Tryz.prog E (n + 3) 56 #[.agg c.cells.toArray]) H s Q := by
  have hFs := (hN s (Nat.le_refl _))
  have hFs1 := (hN (s + 1) (by omega))
  refine enter (calm hE _) [] (hE.no _ (by decide)) Tryz.func56 Tryz.ntmps56 (by unfold Tryz.f56; rfl) (by unfold Tryz.f56; rfl) (by kernel_rfl) ?_
  simp [CfgL.cells, CfgN.cells, hFs, hFs1]
  refine wp_rounds 3 (by decide) ?_
  simp [wp_round, hFs1]
  refine ncheck_wp hE _ c.a (hN.up (by omega)) fun H1 s1 f1 => ?_
  have up1 := f1.up
  have g1 : Fr [] H s H1 s1 := (Fr.refl _ _ _).new.new.comp f1 (by simp)
  have k1 := ((f1.keep s (by omega) (by simp)).trans (upd_ne _ _ (by omega))).trans (upd_same _ _ _)
  cases ea : c.a.fits
  · simp
    simpa [CfgL.fits, ea] using h _ _ g1
  have hF1 := hN s1 (by omega)
  simp [wp_round, hF1]
  refine ncheck_wp hE _ c.b (hN.up (by omega)) fun H2 s2 f2 => ?_
  have up2 := f2.up
  have g2 : Fr [] H s H2 s2 := g1.new.comp f2 (by simp)
  have k2 := ((f2.keep s (by omega) (by simp)).trans (upd_ne _ _ (by omega))).trans k1
  cases eb : c.b.fits
  · simp
    simpa [CfgL.fits, ea, eb] using h _ _ g2
  have hd : (c.a.start = c.b.start) ∨ ¬ (c.a.start = c.b.start) := by omega
  have hr : (c.room < 1 ∧ ¬ 1 ≤ c.room) ∨ (¬ c.room < 1 ∧ 1 ≤ c.room) := by omega
  have ht : (256 < c.room ∧ ¬ c.room ≤ 256) ∨ (¬ 256 < c.room ∧ c.room ≤ 256) := by omega
  rcases hd with hd | hd <;> rcases hr with ⟨hr, hr'⟩ | ⟨hr, hr'⟩ <;> rcases ht with ⟨ht, ht'⟩ | ⟨ht, ht'⟩
  all_goals
    simp [wp_round, k2, hFs, hd, hr, hr', ht, ht']
    simpa [CfgL.fits, ea, eb, hd, hr, hr', ht, ht'] using h _ _ g2
theorem wnew_wp (hE : Bare E) (n : Nat) (h : Q (ptr s) (upd H s (some wireBlk)) (s + 1)) : Wp F G (aCall Tryz.prog E (n + 1) 57 #[]) H s Q := by
  unfold aCall
  rw [hE.wire]
  simpa [wireX] using h
/-- A link that is new: its blocks. -/
structure NewLink (H : AH) (s s' : Nat) (c : CfgL) (l w n0 p0 n1 p1 : Nat) : Prop where
  own : s ≤ l ∧ s ≤ w ∧ l < s' ∧ w < s' ∧ w ≠ l
  wire : H w = some wireBlk
  link : H l = some (.cells [ptr w, ptr n0, ptr p0, ptr n1, ptr p1] 139 true)
  side0 : ∃ s1 s2 bc bp br r, s ≤ s1 ∧ l < s1 ∧ w < s1 ∧ NewNode H s1 s2 c.a n0 bc bp br ∧ s2 ≤ r ∧ r < p0 ∧ H r = some (.cells [nilS, .int .i64 0, .int .i64 0, .int .i64 c.room] 271 true) ∧ H p0 = some (.cells [ptr r, .int .i64 0, .int .i64 0, .int .i64 0] 211 true)
  side1 : ∃ s1 s2 bc bp br r, p0 < s1 ∧ NewNode H s1 s2 c.b n1 bc bp br ∧ s2 ≤ r ∧ r < p1 ∧ p1 < s' ∧ H r = some (.cells [nilS, .int .i64 0, .int .i64 0, .int .i64 c.room] 271 true) ∧ H p1 = some (.cells [ptr r, .int .i64 0, .int .i64 0, .int .i64 0] 211 true)
theorem lnew_wp (hE : Bare E) (n : Nat) (c : CfgL) (hN : New F G s) (hB : Bd H s) (h1 : c.fits = true → ∀ H' s' l w n0 p0 n1 p1, Fr [] H s H' s' → NewLink H' s s' c l w n0 p0 n1 p1 → Q (.tuple #[ptr l, .int .i64 0]) H' s')
    (h2 : c.fits = false → ∀ H' s', Fr [] H s H' s' → Q (.tuple #[.pointer none, .int .i64 1]) H' s') : Wp F G (aCall Tryz.prog E (n + 4) 30 #[.agg c.cells.toArray]) H s Q := by
  have hFs := hN s (Nat.le_refl _)
  have hB1 : Bd (upd H s (some (.cells c.cells 84 true))) (s + 1) := fun k hk => (upd_ne _ _ (by omega)).trans (hB k (by omega))
  refine enter (calm hE _) [(11, [], [], [])] (hE.no _ (by decide)) Tryz.func30 Tryz.ntmps30 (by unfold Tryz.f30; rfl) (by unfold Tryz.f30; rfl) (by kernel_rfl) ?_
  simp [CfgL.cells, CfgN.cells, hFs]
  refine wp_bd ((calm hE _).ls _ _) hB1 ?_
  refine lcheck_wp hE _ c (hN.up (Nat.le_succ _)) fun H1 s1 f1 u1 b1 => ?_
  have k1 := (f1.keep s (by omega) (by simp)).trans (upd_same _ _ _)
  cases e : c.fits
  · simp
    exact h2 e _ _ ((Fr.refl _ _ _).new.comp f1 (by simp))
  simp [k1]
  refine wnew_wp hE _ ?_
  have hss : s ≠ s1 := by omega
  have hss1 : s ≠ s1 + 1 := by omega
  have hF2 := hN (s1 + 2) (by omega)
  simp [upd_ne, hss, hss1, k1, hFs]
  refine wp_rounds 3 (by decide) ?_
  simp [wp_round, hF2]
  have b2 : Bd (upd (upd (upd H1 s1 (some wireBlk)) (s1 + 1) (some (.cells [ptr s1, .pointer none, .pointer none, .pointer none, .pointer none] 139 true))) (s1 + 2) (some (.cells c.a.cells 78 true))) (s1 + 3) := fun k hk => (upd_ne _ _ (by omega)).trans ((upd_ne _ _ (by omega)).trans ((upd_ne _ _ (by omega)).trans (b1 k (by omega))))
  have e' := e
  simp only [CfgL.fits, Bool.and_eq_true, decide_eq_true_eq] at e'
  obtain ⟨ea, eb, _, er⟩ := e'
  refine wp_bd ((calm hE _).ls _ _) b2 ?_
  refine nnew_wp hE _ c.a (hN.up (by omega)) b2 (fun _ H3 s3 n0 bc bp br f3 hn0 u3 b3 => ?_) (fun ea' => by rw [ea] at ea'; cases ea')
  have k3 := (f3.keep s (by omega) (by simp)).trans ((upd_ne _ _ (by omega)).trans ((upd_ne _ _ (by omega)).trans ((upd_ne _ _ (by omega)).trans k1)))
  simp [k3, hFs]
  have hFl := hN (s1 + 1) (by omega)
  have up3 := f3.up
  have l3 : H3 (s1 + 1) = _ := (f3.keep (s1 + 1) (by omega) (by simp)).trans ((upd_ne _ _ (by omega)).trans (upd_same _ _ _))
  have w3 : H3 s1 = some wireBlk := (f3.keep s1 (by omega) (by simp)).trans ((upd_ne _ _ (by omega)).trans ((upd_ne _ _ (by omega)).trans (upd_same _ _ _)))
  refine wp_bd ((calm hE _).ls _ _) b3 ?_
  refine pipenew_wp hE _ c.room fun H4 s4 r0 p0 f4 hr0 hr0p hp0 hrc0 hpc0 u4 b4 => ?_
  have up4 := f4.up
  have l4 := (f4.keep (s1 + 1) (by omega) (by simp)).trans l3
  simp [l4, hFl]
  have hb5 : Bd (upd (upd H4 (s1 + 1) (some (.cells [ptr s1, ptr n0, ptr p0, .pointer none, .pointer none] 139 true))) s4 (some (.cells c.b.cells 78 true))) (s4 + 1) := fun k hk => (upd_ne _ _ (by omega)).trans ((upd_ne _ _ (by omega)).trans (b4 k (by omega)))
  have hF4 := hN s4 (by omega)
  simp [wp_round, hF4]
  refine wp_bd ((calm hE _).ls _ _) hb5 ?_
  refine nnew_wp hE _ c.b (hN.up (by omega)) hb5 (fun _ H5 s5 n1 bc1 bp1 br1 f5 hn1 u5 b5 => ?_) (fun eb' => by rw [eb] at eb'; cases eb')
  have up5 := f5.up
  have k5 := (f5.keep s (by omega) (by simp)).trans ((upd_ne _ _ (by omega)).trans ((upd_ne _ _ (by omega)).trans ((f4.keep s (by omega) (by simp)).trans k3)))
  have l5 := (f5.keep (s1 + 1) (by omega) (by simp)).trans ((upd_ne _ _ (by omega)).trans (upd_same _ _ _))
  simp [k5, hFs]
  refine wp_bd ((calm hE _).ls _ _) b5 ?_
  refine pipenew_wp hE _ c.room fun H6 s6 r1 p1 f6 hr1 hr1p hp1 hrc1 hpc1 u6 b6 => ?_
  have up6 := f6.up
  have l6 := (f6.keep (s1 + 1) (by omega) (by simp)).trans l5
  simp [l6, hFl, wp_round]
  have er' : max 1 (min c.room 256) = c.room := by
    omega
  rw [er'] at hrc0 hrc1
  have o0 := hn0.ord; have o1 := hn1.ord
  have kp : ∀ k, k < s4 → k ≠ s1 + 1 → upd H6 (s1 + 1) (some (.cells [ptr s1, ptr n0, ptr p0, ptr n1, ptr p1] 139 true)) k = H4 k := fun k hk hne => (upd_ne _ _ hne).trans ((f6.keep k (by omega) (by simp)).trans ((f5.keep k (by omega) (by simp)).trans ((upd_ne _ _ (by omega)).trans (upd_ne _ _ hne))))
  have kp1 : ∀ k, k < s5 → k ≠ s1 + 1 → upd H6 (s1 + 1) (some (.cells [ptr s1, ptr n0, ptr p0, ptr n1, ptr p1] 139 true)) k = H5 k := fun k hk hne => (upd_ne _ _ hne).trans (f6.keep k (by omega) (by simp))
  refine h1 e _ s6 (s1 + 1) s1 n0 p0 n1 p1 ⟨by omega, fun k hk _ => ?_⟩ ⟨by omega, ?_, upd_same _ _ _, ⟨s1 + 3, s3, bc, bp, br, r0, by omega, by omega, by omega, ⟨o0, ?_, ?_, ?_, ?_⟩, by omega, by omega, ?_, ?_⟩, ⟨s4 + 1, s5, bc1, bp1, br1, r1, by omega, ⟨o1, ?_, ?_, ?_, ?_⟩, by omega, by omega, by omega, ?_, ?_⟩⟩
  · refine (kp k (by omega) (by omega)).trans ((f4.keep k (by omega) (by simp)).trans ((f3.keep k (by omega) (by simp)).trans ((upd_ne _ _ (by omega)).trans ((upd_ne _ _ (by omega)).trans ((upd_ne _ _ (by omega)).trans ((f1.keep k (by omega) (by simp)).trans (upd_ne _ _ (by omega))))))))
  · exact (kp s1 (by omega) (by omega)).trans ((f4.keep s1 (by omega) (by simp)).trans w3)
  · exact (kp bp (by omega) (by omega)).trans ((f4.keep bp (by omega) (by simp)).trans hn0.pace)
  · exact (kp bc (by omega) (by omega)).trans ((f4.keep bc (by omega) (by simp)).trans hn0.conn)
  · exact (kp br (by omega) (by omega)).trans ((f4.keep br (by omega) (by simp)).trans hn0.ring)
  · exact (kp n0 (by omega) (by omega)).trans ((f4.keep n0 (by omega) (by simp)).trans hn0.node)
  · exact (kp r0 (by omega) (by omega)).trans hrc0
  · exact (kp p0 (by omega) (by omega)).trans hpc0
  · exact (kp1 bp1 (by omega) (by omega)).trans hn1.pace
  · exact (kp1 bc1 (by omega) (by omega)).trans hn1.conn
  · exact (kp1 br1 (by omega) (by omega)).trans hn1.ring
  · exact (kp1 n1 (by omega) (by omega)).trans hn1.node
  · exact (upd_ne _ _ (by omega)).trans hrc1
  · exact (upd_ne _ _ (by omega)).trans hpc1
end Go.Proofs.YtlkceignfhnpoaaGreatDoor
end
