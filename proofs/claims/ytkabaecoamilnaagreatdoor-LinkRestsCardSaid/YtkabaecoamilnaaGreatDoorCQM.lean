/-
  The program's paces: how they lie.
  The program's paces: making one, ticks.
  The program's numbers.
  The program's connections: a call in the making, and what its functions do.
  What makes a link: configs, rows, connections, ends.
  A link is made.
  An idle link rests: what its functions do.
  An idle link rests: the link.
  What the laws make of a config; which may be, by the document.
  The document's end and link as they begin.
  An idle link rests: what is compared.
  An idle link rests: an end and a link are the document's.
  An idle link rests: a link is the document's.
  What the laws make of any config: one that may be.
  What the laws make of any config; a link of it is set up.
  The law LinkRests.
-/
import Derived.Test.YtkabaecoamilnaaGreatDoorCTab
import Derived.Test.YtkabaecoamilnaaGreatDoorCAy8
import Derived.Test.YtkabaecoamilnaaGreatDoorCAyC
import Derived.Test.YtkabaecoamilnaaGreatDoorMPlain
import Derived.Test.YtkabaecoamilnaaGreatDoorCAy9
import Derived.WalkKit
import Derived.Laws.BitsLemmas
import Derived.Test.YtkabaecoamilnaaGreatDoorCSl1
set_option linter.unusedVariables false
set_option linter.unusedSimpArgs false
section
namespace Go.Proofs.YtkabaecoamilnaaGreatDoor
open Go AX
/-- A pace's cells. -/
def PaceS.cells (p : PaceS) : List Value := [.int .i64 p.l0, .int .i64 p.l1, .int .i64 p.l2, .int .i64 p.l3, .int .i64 p.l4, .int .i64 p.t0, .int .i64 p.t1, .int .i64 p.t2, .int .i64 p.t3, .int .i64 p.t4]
def PaceS.blk (p : PaceS) : AB := .cells p.cells 179 true
def PaceS.put (p : PaceS) (t : Nat) (x : Int) : PaceS :=
  match t with
  | 0 => { p with l0 := x }
  | 1 => { p with l1 := x }
  | 2 => { p with l2 := x }
  | 3 => { p with l3 := x }
  | _ => { p with l4 := x }
def PaceS.got (p : PaceS) (t : Nat) : Int :=
  match t with
  | 0 => p.l0
  | 1 => p.l1
  | 2 => p.l2
  | 3 => p.l3
  | _ => p.l4
end Go.Proofs.YtkabaecoamilnaaGreatDoor
end
section
namespace Go.Proofs.YtkabaecoamilnaaGreatDoor
open Go AX
variable {E : FuncId → Option (Array Value → AX Value)} {F G : Nat → Prop} {H : AH} {s b : Nat} {p : PaceS} {Q : Value → AH → Nat → Prop}
set_option maxRecDepth 10000
set_option maxHeartbeats 4000000
def paceOK (c0 c1 c2 c3 c4 : Int) : Bool := decide ((1 ≤ c0 ∧ c0 ≤ 1048576) ∧ (1 ≤ c1 ∧ c1 ≤ 1048576) ∧ (1 ≤ c2 ∧ c2 ≤ 1048576) ∧ (1 ≤ c3 ∧ c3 ≤ 1048576) ∧ (1 ≤ c4 ∧ c4 ≤ 1048576) ∧ c1 < c3 ∧ c2 < c3)
def cfg (c0 c1 c2 c3 c4 : Int) : Value := .agg #[.int .i64 c0, .int .i64 c1, .int .i64 c2, .int .i64 c3, .int .i64 c4]
theorem pcheck_wp (hE : Bare E) (n : Nat) (c0 c1 c2 c3 c4 : Int) (hN : New F G s) (h : ∀ H' s', Fr [] H s H' s' → Q (.int .i64 (if paceOK c0 c1 c2 c3 c4 then 0 else 1)) H' s') : Wp F G (aCall Tryz.prog E (n + 1) 218 #[cfg c0 c1 c2 c3 c4]) H s Q := by
  refine enter (calm hE _) [] (hE.no _ (by decide)) Tryz.func218 Tryz.ntmps218 (by unfold Tryz.f218; rfl) (by unfold Tryz.f218; rfl) (by kernel_rfl) ?_
  have hFs := (hN s (Nat.le_refl _)).1
  simp [cfg, hFs]
  refine wp_rounds 6 (by decide) ?_
  have hd : (c1 < c3 ∧ ¬ c3 ≤ c1) ∨ (¬ c1 < c3 ∧ c3 ≤ c1) := by omega
  rcases hd with ⟨hk, hk'⟩ | ⟨hk, hk'⟩ <;> simp +contextual [wp_round, hFs, hk, hk']
  repeat' split
  all_goals
    first
    | (exfalso; omega)
    | (have e : paceOK c0 c1 c2 c3 c4 = false := by unfold paceOK; first | exact decide_eq_false (by omega) | exact decide_eq_true (by omega)
       simp [e] at h
       exact h _ _ (Fr.refl _ _ _).new)
    | (have e : paceOK c0 c1 c2 c3 c4 = true := by unfold paceOK; first | exact decide_eq_false (by omega) | exact decide_eq_true (by omega)
       simp [e] at h
       exact h _ _ (Fr.refl _ _ _).new)
/-- A pace that stands still. -/
def PaceS.of (c0 c1 c2 c3 c4 : Int) : PaceS := ⟨c0, c1, c2, c3, c4, 0, 0, 0, 0, 0⟩
theorem pnew_wp (hE : Bare E) (n : Nat) (c0 c1 c2 c3 c4 : Int) (hN : New F G s) (h1 : paceOK c0 c1 c2 c3 c4 = true → ∀ H' s' b, Fr [] H s H' s' → s ≤ b → b < s' → H' b = some (PaceS.of c0 c1 c2 c3 c4).blk → Q (.tuple #[.pointer (some ⟨b, 0, none⟩), .int .i64 0]) H' s')
    (h2 : paceOK c0 c1 c2 c3 c4 = false → ∀ H' s', Fr [] H s H' s' → Q (.tuple #[.pointer none, .int .i64 1]) H' s') : Wp F G (aCall Tryz.prog E (n + 2) 137 #[cfg c0 c1 c2 c3 c4]) H s Q := by
  have hFs := (hN s (Nat.le_refl _)).1
  refine enter (calm hE _) [] (hE.no _ (by decide)) Tryz.func137 Tryz.ntmps137 (by unfold Tryz.f137; rfl) (by unfold Tryz.f137; rfl) (by kernel_rfl) ?_
  simp [cfg, hFs]
  refine pcheck_wp hE _ c0 c1 c2 c3 c4 (hN.up (by omega)) fun H1 s1 f1 => ?_
  have hk : H1 s = some (.cells [.int .i64 c0, .int .i64 c1, .int .i64 c2, .int .i64 c3, .int .i64 c4] 88 true) := (f1.keep s (by omega) (by simp)).trans (upd_same _ _ _)
  have up := f1.up
  cases e : paceOK c0 c1 c2 c3 c4
  · simp [hk, hFs]
    exact h2 e _ _ ((Fr.refl _ _ _).new.comp f1 (by simp))
  · simp [hk, hFs]
    exact h1 e _ _ s1 ((Fr.refl _ _ _).new.comp f1 (by simp)).new (by omega) (by omega) (upd_same _ _ _)
end Go.Proofs.YtkabaecoamilnaaGreatDoor
end
section
namespace Go.Proofs.YtkabaecoamilnaaGreatDoor
open Go AX Go.RowKit
theorem mask_u32 (x : Int) (i : Nat) (hi : i ≤ 31) : bits .and .u32 x (2 ^ i - 1) = x % 2 ^ i := by
  have hpos : 0 < 2 ^ i := Nat.two_pow_pos i
  have hle : 2 ^ i ≤ 2 ^ 31 := Nat.pow_le_pow_right (by decide) hi
  have hc : ((2 : Int) ^ i - 1) = ((2 ^ i - 1 : Nat) : Int) := by rw [Int.natCast_sub hpos]; simp
  have hb : IntKind.u32.bits = 32 := rfl
  have hp : (2 : Int) ^ i = ((2 ^ i : Nat) : Int) := by simp
  simp only [bits, hc, BitVec.ofInt_natCast, BitVec.toNat_and, BitVec.toNat_ofNat, BitVec.toNat_ofInt, hb]
  rw [Nat.mod_eq_of_lt (show 2 ^ i - 1 < 2 ^ 32 by omega), Nat.and_two_pow_sub_one_eq_mod, hp]
  have hx : (((x % (2 ^ 32 : Nat)).toNat : Nat) : Int) = x % (2 ^ 32 : Nat) := Int.toNat_of_nonneg (Int.emod_nonneg _ (by decide))
  have hm : (((x % (2 ^ 32 : Nat)).toNat % 2 ^ i : Nat) : Int) = x % ((2 ^ i : Nat) : Int) := by
    rw [Int.natCast_emod, hx]
    exact Int.emod_emod_of_dvd x (Int.natCast_dvd_natCast.2 (Nat.pow_dvd_pow 2 (by omega)))
  rw [hm, IntKind.wrap_u32]
  have h0 := Int.emod_nonneg x (show ((2 ^ i : Nat) : Int) ≠ 0 by omega)
  have h1 := Int.emod_lt_of_pos x (show (0 : Int) < ((2 ^ i : Nat) : Int) by omega)
  omega
theorem mask_i64 (x : Int) (i : Nat) (hi : i ≤ 62) : bits .and .i64 x (2 ^ i - 1) = x % 2 ^ i := by
  have hpos : 0 < 2 ^ i := Nat.two_pow_pos i
  have hle : 2 ^ i ≤ 2 ^ 62 := Nat.pow_le_pow_right (by decide) hi
  have hc : ((2 : Int) ^ i - 1) = ((2 ^ i - 1 : Nat) : Int) := by rw [Int.natCast_sub hpos]; simp
  have hb : IntKind.i64.bits = 64 := rfl
  have hp : (2 : Int) ^ i = ((2 ^ i : Nat) : Int) := by simp
  simp only [bits, hc, BitVec.ofInt_natCast, BitVec.toNat_and, BitVec.toNat_ofNat, BitVec.toNat_ofInt, hb]
  rw [Nat.mod_eq_of_lt (show 2 ^ i - 1 < 2 ^ 64 by omega), Nat.and_two_pow_sub_one_eq_mod, hp]
  have hx : (((x % (2 ^ 64 : Nat)).toNat : Nat) : Int) = x % (2 ^ 64 : Nat) := Int.toNat_of_nonneg (Int.emod_nonneg _ (by decide))
  have hm : (((x % (2 ^ 64 : Nat)).toNat % 2 ^ i : Nat) : Int) = x % ((2 ^ i : Nat) : Int) := by
    rw [Int.natCast_emod, hx]
    exact Int.emod_emod_of_dvd x (Int.natCast_dvd_natCast.2 (Nat.pow_dvd_pow 2 (by omega)))
  rw [hm, IntKind.wrap_i64]
  have h0 := Int.emod_nonneg x (show ((2 ^ i : Nat) : Int) ≠ 0 by omega)
  have h1 := Int.emod_lt_of_pos x (show (0 : Int) < ((2 ^ i : Nat) : Int) by omega)
  omega
/-- A call without arguments. -/
@[simp ↓] theorem o_call0 {P : Program} {call : FuncId → Array Value → AX Value} {d : Option Tmp} {ty : TypeId} {pos : String} {af : Array Edge} {g : Option (Nat × Bool)} {tm : Array Value} {f : FuncId} {ts : Array TypeId} (hc : callable P f = true) : aOp P call ⟨d, .call ⟨.value (.func f), #[], ts⟩, ty, pos, af, g⟩ tm = call f #[] := by
  rw [o_call (by rfl) hc]
  simp
section
variable {P : Program} {T : TypeId} {ox oy : Operand} {x : Int}
@[simp] theorem b_and24u : aBin P .and T ox oy (.int .u32 x) (.int .u32 16777215) = ret (.int .u32 (x % 16777216)) := by
  have h : bits .and .u32 x 16777215 = x % 16777216 := mask_u32 x 24 (by decide)
  rw [b_and, ← h]
  rfl
@[simp] theorem b_and24i : aBin P .and T ox oy (.int .i64 x) (.int .i64 16777215) = ret (.int .i64 (x % 16777216)) := by
  have h : bits .and .i64 x 16777215 = x % 16777216 := mask_i64 x 24 (by decide)
  rw [b_and, ← h]
  rfl
end
@[simp] theorem be_bool {ox oy : Operand} (a b : Bool) : aBin Tryz.prog .eql 4 ox oy (.bool a) (.bool b) = ret (.bool (a == b)) := by kernel_rfl
@[simp] theorem bn_bool {ox oy : Operand} (a b : Bool) : aBin Tryz.prog .neq 4 ox oy (.bool a) (.bool b) = ret (.bool (a != b)) := by kernel_rfl
variable {E : FuncId → Option (Array Value → AX Value)}
set_option maxRecDepth 10000
set_option maxHeartbeats 4000000
theorem low_eq (hE : Bare E) (n : Nat) (x : Int) : aCall Tryz.prog E (n + 1) 199 #[.int .u32 x] = ret (.int .u32 (x % 16777216)) := by
  refine dry_eq fun H s => ?_
  refine enter (calm hE _) [] (hE.no _ (by decide)) Tryz.func199 Tryz.ntmps199 (by unfold Tryz.f199; rfl) (by unfold Tryz.f199; rfl) (by kernel_rfl) ?_
  simp
theorem of_eq (hE : Bare E) (n : Nat) (x : Int) : aCall Tryz.prog E (n + 1) 142 #[.int .i64 x] = ret (.int .u32 (x % 16777216)) := by
  refine dry_eq fun H s => ?_
  refine enter (calm hE _) [] (hE.no _ (by decide)) Tryz.func142 Tryz.ntmps142 (by unfold Tryz.f142; rfl) (by unfold Tryz.f142; rfl) (by kernel_rfl) ?_
  simp
  rw [IntKind.wrap_u32]
  omega
theorem add_eq (hE : Bare E) (n : Nat) (x y : Int) : aCall Tryz.prog E (n + 2) 139 #[.int .u32 x, .int .i64 y] = ret (.int .u32 ((x + y) % 16777216)) := by
  refine dry_eq fun H s => ?_
  refine enter (calm hE _) [] (hE.no _ (by decide)) Tryz.func139 Tryz.ntmps139 (by unfold Tryz.f139; rfl) (by unfold Tryz.f139; rfl) (by kernel_rfl) ?_
  simp [low_eq hE, of_eq hE]
  have h1 : IntKind.i64.wrap (x % 16777216) = x % 16777216 := wrap64_small (by omega) (by omega)
  have h2 : IntKind.i64.wrap (x % 16777216 + y % 16777216) = x % 16777216 + y % 16777216 := wrap64_small (by omega) (by omega)
  simp [h1, h2]
theorem to_eq (hE : Bare E) (n : Nat) (x y : Int) : aCall Tryz.prog E (n + 1) 224 #[.int .u32 x, .int .u32 y] = ret (.int .i64 ((y - x) % 16777216)) := by
  refine dry_eq fun H s => ?_
  refine enter (calm hE _) [] (hE.no _ (by decide)) Tryz.func224 Tryz.ntmps224 (by unfold Tryz.f224; rfl) (by unfold Tryz.f224; rfl) (by kernel_rfl) ?_
  simp
  have h1 : IntKind.i64.wrap ((IntKind.u32.wrap (y - x)) % 16777216) = (IntKind.u32.wrap (y - x)) % 16777216 := wrap64_small (by omega) (by omega)
  rw [h1, IntKind.wrap_u32]
  omega
end Go.Proofs.YtkabaecoamilnaaGreatDoor
end
section
namespace Go.Proofs.YtkabaecoamilnaaGreatDoor
open Go AX
def SigS.row (s : SigS) : List Value := [.int .i64 s.kind, .string s.data, .bool s.self, .int .u8 s.code, .int .i64 s.n]
def UnitS.rowV (u : UnitS) (v : Value) : List Value := [.int .i64 u.kind, .int .i64 u.sq, .int .u32 u.n, .int .u32 u.ps, .int .u32 u.mr, v, .bool u.self, .string u.data]
/-- A unit without a list. -/
def UnitS.row (u : UnitS) : List Value := u.rowV nilS
def ConnS.cells (c : ConnS) : List Value := [.int .i64 c.most, .int .u32 c.credit, .int .i64 c.state, .int .i64 c.sq, .int .i64 c.peer, .int .i64 c.cc, .int .u32 c.ms, .string c.data]
def ConnS.blk (c : ConnS) : AB := .cells c.cells 275 true
/-- A call in the making: its cells. -/
def ActS.cellsV (x : ActS) (c : Nat) (vs vu : Value) : List Value := [ptr c, vs, vu, .bool x.r.begins, .bool x.r.ends, .int .u32 x.r.ms, .int .i64 x.r.timer]
def ActS.blkV (x : ActS) (c : Nat) (vs vu : Value) : AB := .cells (x.cellsV c vs vu) 273 true
structure ActIn (s0 c a : Nat) (H0 H : AH) (s : Nat) (x : ActS) (vs vu : Value) (Ls Lu : List Nat) (j : Nat) : Prop where
  fr : Fr [c] H0 s0 H s
  hc : c < s0
  ha : s0 ≤ a ∧ a < s
  act : H a = some (x.blkV c vs vu)
  conn : H c = some x.c.blk
  sg : SlAt H 59 5 vs (x.r.sigs.map SigS.row) Ls
  un : SlAt H 57 8 vu (x.r.units.map UnitS.row) Lu
  ls : ∀ b, b ∈ Ls → s0 ≤ b ∧ b < s ∧ b ≠ a
  lu : ∀ b, b ∈ Lu → s0 ≤ b ∧ b < s ∧ b ≠ a ∧ b ∉ Ls
  few : x.r.sigs.length + x.r.units.length ≤ j
def Act (s0 c a : Nat) (H0 H : AH) (s : Nat) (x : ActS) (j : Nat) : Prop := ∃ vs vu Ls Lu, ActIn s0 c a H0 H s x vs vu Ls Lu j
/-- What may be read and turned by a call. -/
structure Env (E : FuncId → Option (Array Value → AX Value)) (F G : Nat → Prop) (s0 c : Nat) : Prop where
  hE : Bare E
  hN : New F G s0
  hF : F c
  hG : G c
section
variable {E : FuncId → Option (Array Value → AX Value)} {F G : Nat → Prop} {H H0 : AH} {s s0 a c j : Nat} {x : ActS} {Q : Value → AH → Nat → Prop} {vs vu : Value} {Ls Lu : List Nat}
theorem Act.mono (A : Act s0 c a H0 H s x j) {k : Nat} (h : j ≤ k) : Act s0 c a H0 H s x k := by
  obtain ⟨vs, vu, Ls, Lu, A⟩ := A
  exact ⟨vs, vu, Ls, Lu, A.fr, A.hc, A.ha, A.act, A.conn, A.sg, A.un, A.ls, A.lu, Nat.le_trans A.few h⟩
theorem Env.Fa (K : Env E F G s0 c) (A : ActIn s0 c a H0 H s x vs vu Ls Lu j) : F a := (K.hN a A.ha.1).1
theorem Env.Ga (K : Env E F G s0 c) (A : ActIn s0 c a H0 H s x vs vu Ls Lu j) : G a := (K.hN a A.ha.1).2
theorem ActIn.ne (A : ActIn s0 c a H0 H s x vs vu Ls Lu j) : a ≠ c ∧ c ≠ a := by have := A.hc; have := A.ha; omega
theorem ActIn.setC (A : ActIn s0 c a H0 H s x vs vu Ls Lu j) (y : ConnS) : Act s0 c a H0 (upd H c (some y.blk)) s { x with c := y } j := by
  have := A.hc; have := A.ha
  refine ⟨vs, vu, Ls, Lu, A.fr.own (by simp), A.hc, A.ha, (upd_ne _ _ (by omega)).trans A.act, upd_same _ _ _, A.sg.keep fun b hb => upd_ne _ _ ?_, A.un.keep fun b hb => upd_ne _ _ ?_, A.ls, A.lu, A.few⟩
  · have := A.ls b hb; omega
  · have := A.lu b hb; omega
theorem ActIn.setR (A : ActIn s0 c a H0 H s x vs vu Ls Lu j) (begins ends : Bool) (ms timer : Int) : Act s0 c a H0 (upd H a (some (ActS.blkV ⟨x.c, { x.r with begins := begins, ends := ends, ms := ms, timer := timer }⟩ c vs vu))) s ⟨x.c, { x.r with begins := begins, ends := ends, ms := ms, timer := timer }⟩ j := by
  have := A.hc; have := A.ha
  refine ⟨vs, vu, Ls, Lu, A.fr.made (by omega), A.hc, A.ha, upd_same _ _ _, (upd_ne _ _ (by omega)).trans A.conn, A.sg.keep fun b hb => upd_ne _ _ ?_, A.un.keep fun b hb => upd_ne _ _ ?_, A.ls, A.lu, A.few⟩
  · have := A.ls b hb; omega
  · have := A.lu b hb; omega
theorem ActIn.setRC (A : ActIn s0 c a H0 H s x vs vu Ls Lu j) (begins ends : Bool) (ms timer : Int) (y : ConnS) : Act s0 c a H0 (upd (upd H a (some (ActS.blkV ⟨x.c, { x.r with begins := begins, ends := ends, ms := ms, timer := timer }⟩ c vs vu))) c (some y.blk)) s ⟨y, { x.r with begins := begins, ends := ends, ms := ms, timer := timer }⟩ j := by
  obtain ⟨vs', vu', Ls', Lu', B⟩ := A.setR begins ends ms timer
  exact B.setC y
theorem ActIn.addS (A : ActIn s0 c a H0 H s x vs vu Ls Lu j) {X : Option AB} {H' : AH} {s' : Nat} {v' : Value} {L' : List Nat} (σ : SigS) (f : Fr Ls (upd H s X) (s + 1) H' s') (h : SlAt H' 59 5 v' (x.r.sigs.map SigS.row ++ [σ.row]) L') (hl : ∀ b, b ∈ L' → (b ∈ Ls ∨ s + 1 ≤ b) ∧ (b ∈ Ls ∨ b < s')) :
    Act s0 c a H0 (upd H' a (some ((x.tell σ).blkV c v' vu))) s' (x.tell σ) (j + 1) := by
  have hup := f.up; have hc := A.hc; have ha := A.ha
  have keep : ∀ b, b < s → b ∉ Ls → H' b = H b := fun b hb hn => (f.keep b (by omega) hn).trans (upd_ne _ _ (by omega))
  have nc : c ∉ Ls := fun hm => by have := A.ls c hm; omega
  refine ⟨v', vu, L', Lu, ((A.fr.new.comp f fun b hb => .inl (A.ls b hb).1).made (by omega)), hc, ⟨ha.1, by omega⟩, upd_same _ _ _, ((upd_ne _ _ (by omega)).trans (keep c (by omega) nc)).trans A.conn, ?_, ?_, ?_, ?_, ?_⟩
  · have e : (x.tell σ).r.sigs.map SigS.row = x.r.sigs.map SigS.row ++ [σ.row] := by simp [ActS.tell]
    rw [e]
    exact h.keep fun b hb => upd_ne _ _ (by rcases (hl b hb).1 with h1 | h1; exact (A.ls b h1).2.2; omega)
  · exact A.un.keep fun b hb => (upd_ne _ _ (A.lu b hb).2.2.1).trans (keep b (A.lu b hb).2.1 (A.lu b hb).2.2.2)
  · intro b hb
    have h1 := hl b hb
    rcases h1.1 with h2 | h2
    · have := A.ls b h2; exact ⟨this.1, by omega, this.2.2⟩
    · rcases h1.2 with h3 | h3
      · have := A.ls b h3; exact ⟨this.1, by omega, this.2.2⟩
      · exact ⟨by omega, h3, by omega⟩
  · intro b hb
    have h1 := A.lu b hb
    refine ⟨h1.1, by omega, h1.2.2.1, fun hm => ?_⟩
    rcases (hl b hm).1 with h2 | h2
    · exact h1.2.2.2 h2
    · omega
  · have := A.few; simp [ActS.tell]; omega
theorem ActIn.addU (A : ActIn s0 c a H0 H s x vs vu Ls Lu j) {X : Option AB} {H' : AH} {s' : Nat} {v' : Value} {L' : List Nat} (u : UnitS) (f : Fr Lu (upd H s X) (s + 1) H' s') (h : SlAt H' 57 8 v' (x.r.units.map UnitS.row ++ [u.row]) L') (hl : ∀ b, b ∈ L' → (b ∈ Lu ∨ s + 1 ≤ b) ∧ (b ∈ Lu ∨ b < s')) :
    Act s0 c a H0 (upd H' a (some (ActS.blkV ⟨x.c, { x.r with units := x.r.units ++ [u] }⟩ c vs v'))) s' ⟨x.c, { x.r with units := x.r.units ++ [u] }⟩ (j + 1) := by
  have hup := f.up; have hc := A.hc; have ha := A.ha
  have keep : ∀ b, b < s → b ∉ Lu → H' b = H b := fun b hb hn => (f.keep b (by omega) hn).trans (upd_ne _ _ (by omega))
  have nc : c ∉ Lu := fun hm => by have := A.lu c hm; omega
  have ns : ∀ b, b ∈ Ls → b ∉ Lu := fun b hb hm => (A.lu b hm).2.2.2 hb
  refine ⟨vs, v', Ls, L', ((A.fr.new.comp f fun b hb => .inl (A.lu b hb).1).made (by omega)), hc, ⟨ha.1, by omega⟩, upd_same _ _ _, ((upd_ne _ _ (by omega)).trans (keep c (by omega) nc)).trans A.conn, ?_, ?_, ?_, ?_, ?_⟩
  · exact A.sg.keep fun b hb => (upd_ne _ _ (A.ls b hb).2.2).trans (keep b (A.ls b hb).2.1 (ns b hb))
  · have e : (x.r.units ++ [u]).map UnitS.row = x.r.units.map UnitS.row ++ [u.row] := by simp
    show SlAt _ _ _ _ ((x.r.units ++ [u]).map UnitS.row) _
    rw [e]
    exact h.keep fun b hb => upd_ne _ _ (by rcases (hl b hb).1 with h1 | h1; exact (A.lu b h1).2.2.1; omega)
  · intro b hb
    have := A.ls b hb; exact ⟨this.1, by omega, this.2.2⟩
  · intro b hb
    have h1 := hl b hb
    rcases h1.1 with h2 | h2
    · have := A.lu b h2; exact ⟨this.1, by omega, this.2.2.1, this.2.2.2⟩
    · have nl : b ∉ Ls := fun hm => by have := A.ls b hm; omega
      rcases h1.2 with h3 | h3
      · have := A.lu b h3; exact ⟨this.1, by omega, this.2.2.1, this.2.2.2⟩
      · exact ⟨by omega, h3, by omega, nl⟩
  · have := A.few; simp; omega
end
end Go.Proofs.YtkabaecoamilnaaGreatDoor
end
section
namespace Go.Proofs.YtkabaecoamilnaaGreatDoor
open Go AX
variable {E : FuncId → Option (Array Value → AX Value)} {F G : Nat → Prop} {H : AH} {s b : Nat} {Q : Value → AH → Nat → Prop}
set_option maxRecDepth 10000
set_option maxHeartbeats 4000000
theorem New.own (h : New F G s) {s0 s1 : Nat} (hs : s ≤ s1) : New (fun b => F b ∧ (b < s0 ∨ s1 ≤ b)) (fun b => G b ∧ s1 ≤ b) s1 := fun k hk => ⟨⟨(h k (by omega)).1, .inr hk⟩, (h k (by omega)).2, hk⟩
/-- An end's config. -/
structure CfgN where
  most : Int
  window : Int
  queue : Int
  units : Int
  polls : Int
  start : Int
  c0 : Int
  c1 : Int
  c2 : Int
  c3 : Int
  c4 : Int
def CfgN.cells (c : CfgN) : List Value := [.int .i64 c.most, .int .i64 c.window, .int .i64 c.queue, .int .i64 c.units, .int .i64 c.polls, .int .u32 c.start, .int .i64 c.c0, .int .i64 c.c1, .int .i64 c.c2, .int .i64 c.c3, .int .i64 c.c4]
def inB (x m : Int) : Bool := decide (1 ≤ x) && decide (x ≤ m)
def CfgN.fits (c : CfgN) : Bool := inB c.most 16 && (inB c.window 64 && (inB c.queue 256 && (inB c.units 64 && (inB c.polls 256 && (decide (c.start = c.start % 16777216) && paceOK c.c0 c.c1 c.c2 c.c3 c.c4)))))
theorem in_eq (hE : Bare E) (n : Nat) (x m : Int) : aCall Tryz.prog E (n + 1) 217 #[.int .i64 x, .int .i64 m] = ret (.bool (inB x m)) := by
  refine dry_eq fun H s => ?_
  refine enter (calm hE _) [] (hE.no _ (by decide)) Tryz.func217 Tryz.ntmps217 (by unfold Tryz.f217; rfl) (by unfold Tryz.f217; rfl) (by kernel_rfl) ?_
  simp +contextual [inB]
@[simp] theorem cl_in : callable Tryz.prog 217 = true := by kernel_rfl
theorem ncheck_wp (hE : Bare E) (n : Nat) (c : CfgN) (hN : New F G s) (h : ∀ H' s', Fr [] H s H' s' → Q (.int .i64 (if c.fits then 0 else 1)) H' s') : Wp F G (aCall Tryz.prog E (n + 2) 135 #[.agg c.cells.toArray]) H s Q := by
  have hFs := (hN s (Nat.le_refl _)).1
  refine enter (calm hE _) [(2, [], [], [])] (hE.no _ (by decide)) Tryz.func135 Tryz.ntmps135 (by unfold Tryz.f135; rfl) (by unfold Tryz.f135; rfl) (by kernel_rfl) ?_
  cases e1 : inB c.most 16
  · simp [CfgN.cells, in_eq hE, low_eq hE, hFs, e1]
    simpa [CfgN.fits, e1] using h _ _ (Fr.refl _ _ _).new
  cases e2 : inB c.window 64
  · simp [CfgN.cells, in_eq hE, low_eq hE, hFs, e1, e2]
    simpa [CfgN.fits, e1, e2] using h _ _ (Fr.refl _ _ _).new
  cases e3 : inB c.queue 256
  · simp [CfgN.cells, in_eq hE, low_eq hE, hFs, e1, e2, e3]
    simpa [CfgN.fits, e1, e2, e3] using h _ _ (Fr.refl _ _ _).new
  cases e4 : inB c.units 64
  · simp [CfgN.cells, in_eq hE, low_eq hE, hFs, e1, e2, e3, e4]
    simpa [CfgN.fits, e1, e2, e3, e4] using h _ _ (Fr.refl _ _ _).new
  cases e5 : inB c.polls 256
  · simp [CfgN.cells, in_eq hE, low_eq hE, hFs, e1, e2, e3, e4, e5]
    simpa [CfgN.fits, e1, e2, e3, e4, e5] using h _ _ (Fr.refl _ _ _).new
  by_cases e6 : c.start = c.start % 16777216
  · simp [CfgN.cells, in_eq hE, low_eq hE, hFs, e1, e2, e3, e4, e5, ← e6]
    refine pcheck_wp hE _ c.c0 c.c1 c.c2 c.c3 c.c4 (hN.up (Nat.le_succ _)) fun H1 s1 f1 => ?_
    simp
    have := h _ _ ((Fr.refl _ _ _).new.comp f1 (by simp))
    simpa [CfgN.fits, e1, e2, e3, e4, e5, ← e6] using this
  · simp [CfgN.cells, in_eq hE, low_eq hE, hFs, e1, e2, e3, e4, e5, e6]
    simpa [CfgN.fits, e1, e2, e3, e4, e5, e6] using h _ _ (Fr.refl _ _ _).new
/-- A connection that is new. -/
def ConnS.new (most credit : Int) : ConnS := ⟨max 1 (min most 16), credit % 16777216, 1, 0, -1, 0, credit % 16777216, .empty⟩
theorem cnew_wp (hE : Bare E) (n : Nat) (most credit : Int) (hN : New F G s) (h : ∀ H' s' b, Fr [] H s H' s' → s ≤ b → b < s' → H' b = some (ConnS.new most credit).blk → Q (ptr b) H' s') : Wp F G (aCall Tryz.prog E (n + 2) 138 #[.agg #[.int .i64 most, .int .u32 credit]]) H s Q := by
  have hFs := hN s (Nat.le_refl _)
  refine enter (calm hE _) [(1, [], [], [])] (hE.no _ (by decide)) Tryz.func138 Tryz.ntmps138 (by unfold Tryz.f138; rfl) (by unfold Tryz.f138; rfl) (by kernel_rfl) ?_
  simp [low_eq hE, hFs]
  exact h _ _ (s + 1) ((Fr.refl _ _ _).new.new) (by omega) (by omega) (upd_same _ _ _)
/-- A row that is empty. -/
theorem rnewu_wp (hE : Bare E) (n : Nat) (most : Int) (h : ∀ H' s' b, Fr [] H s H' s' → s ≤ b → b < s' → H' b = some (.cells [nilS, .int .i64 0, .int .i64 0, .int .i64 (max 0 (min most 4096))] 295 true) → Q (ptr b) H' s') : Wp F G (aCall Tryz.prog E (n + 1) 140 #[.int .i64 most]) H s Q := by
  refine enter (calm hE _) [] (hE.no _ (by decide)) Tryz.func140 Tryz.ntmps140 (by unfold Tryz.f140; rfl) (by unfold Tryz.f140; rfl) (by kernel_rfl) ?_
  simp
  exact h _ _ s (Fr.refl _ _ _).new (by omega) (by omega) (upd_same _ _ _)
theorem rnews_wp (hE : Bare E) (n : Nat) (most : Int) (h : ∀ H' s' b, Fr [] H s H' s' → s ≤ b → b < s' → H' b = some (.cells [nilS, .int .i64 0, .int .i64 0, .int .i64 (max 0 (min most 4096))] 153 true) → Q (ptr b) H' s') : Wp F G (aCall Tryz.prog E (n + 1) 141 #[.int .i64 most]) H s Q := by
  refine enter (calm hE _) [] (hE.no _ (by decide)) Tryz.func141 Tryz.ntmps141 (by unfold Tryz.f141; rfl) (by unfold Tryz.f141; rfl) (by kernel_rfl) ?_
  simp
  exact h _ _ s (Fr.refl _ _ _).new (by omega) (by omega) (upd_same _ _ _)
theorem pipenew_wp (hE : Bare E) (n : Nat) (most : Int) (h : ∀ H' s' r b, Fr [] H s H' s' → s ≤ r → r < b → b < s' → H' r = some (.cells [nilS, .int .i64 0, .int .i64 0, .int .i64 (max 1 (min most 256))] 153 true) → H' b = some (.cells [ptr r, .int .i64 0, .int .i64 0, .int .i64 0] 68 true) → Q (ptr b) H' s') : Wp F G (aCall Tryz.prog E (n + 2) 64 #[.int .i64 most]) H s Q := by
  refine enter (calm hE _) [] (hE.no _ (by decide)) Tryz.func64 Tryz.ntmps64 (by unfold Tryz.f64; rfl) (by unfold Tryz.f64; rfl) (by kernel_rfl) ?_
  simp
  refine rnews_wp hE _ _ fun H1 s1 r f1 h1 h2 h3 => ?_
  simp
  refine h _ _ r s1 f1.new h1 h2 (by omega) ((upd_ne _ _ (by omega)).trans ?_) (upd_same _ _ _)
  rw [h3, show max 0 (min (max 1 (min most 256)) 4096) = max 1 (min most 256) by omega]
def CfgN.pace (c : CfgN) : PaceS := PaceS.of c.c0 c.c1 c.c2 c.c3 c.c4
/-- An end that is new: its blocks. -/
structure NewNode (H : AH) (s s' : Nat) (c : CfgN) (b bc bp br : Nat) : Prop where
  ord : s ≤ bp ∧ bp < bc ∧ bc < br ∧ br < b ∧ b < s'
  pace : H bp = some c.pace.blk
  conn : H bc = some (ConnS.new c.most ((c.start + c.window) % 16777216)).blk
  ring : H br = some (.cells [nilS, .int .i64 0, .int .i64 0, .int .i64 c.units] 295 true)
  node : H b = some (.cells (c.cells ++ [ptr bc, ptr bp, .pointer none, .pointer none, nilS, ptr br, .bool false, .bool false, .int .u32 0, .bool false, nilS]) 173 true)
theorem nnew_wp (hE : Bare E) (n : Nat) (c : CfgN) (hN : New F G s) (hB : Bd H s) (h1 : c.fits = true → ∀ H' s' b bc bp br, Fr [] H s H' s' → NewNode H' s s' c b bc bp br → Q (.tuple #[ptr b, .int .i64 0]) H' s')
    (h2 : c.fits = false → ∀ H' s', Fr [] H s H' s' → Q (.tuple #[.pointer none, .int .i64 1]) H' s') : Wp F G (aCall Tryz.prog E (n + 3) 63 #[.agg c.cells.toArray]) H s Q := by
  have hFs := (hN s (Nat.le_refl _)).1
  have hB1 : Bd (upd H s (some (.cells c.cells 90 true))) (s + 1) := fun k hk => (upd_ne _ _ (by omega)).trans (hB k (by omega))
  refine enter (calm hE _) [(7, [0, 12], [], [9, 13])] (hE.no _ (by decide)) Tryz.func63 Tryz.ntmps63 (by unfold Tryz.f63; rfl) (by unfold Tryz.f63; rfl) (by kernel_rfl) ?_
  simp [CfgN.cells, hFs]
  refine wp_bd ((calm hE _).ls _ _) hB1 ?_
  refine ncheck_wp hE _ c (hN.up (Nat.le_succ _)) fun H1 s1 f1 u1 b1 => ?_
  have k1 := (f1.keep s (by omega) (by simp)).trans (upd_same _ _ _)
  cases e : c.fits
  · simp
    exact h2 e _ _ ((Fr.refl _ _ _).new.comp f1 (by simp))
  have ep : paceOK c.c0 c.c1 c.c2 c.c3 c.c4 = true := by
    simp only [CfgN.fits, Bool.and_eq_true] at e
    exact e.2.2.2.2.2.2
  simp [k1, hFs]
  refine wp_bd ((calm hE _).ls _ _) b1 ?_
  refine pnew_wp hE _ c.c0 c.c1 c.c2 c.c3 c.c4 (hN.up (by omega)) (fun _ H2 s2 bp f2 hp1 hp2 hp3 u2 b2 => ?_) (fun ep' => by rw [ep] at ep'; cases ep')
  have k2 := (f2.keep s (by omega) (by simp)).trans k1
  simp [k2, hFs, add_eq hE]
  have up1 := f1.up; have up2 := f2.up
  refine ⟨by omega, b2, ?_⟩
  refine wp_bd ((calm hE _).ls _ _) b2 ?_
  refine cnew_wp hE _ c.most _ (New.own hN (by omega)) fun H3 s3 bc f3 hc1 hc2 hc3 u3 b3 => ?_
  have k3 := (f3.keep s (by omega) (by simp)).trans k2
  simp [k3, hFs]
  refine ⟨by omega, by omega, b3, ?_⟩
  refine wp_bd ((calm hE _).ls _ _) b3 ?_
  refine rnewu_wp hE _ c.units fun H4 s4 br f4 hr1 hr2 hr3 u4 b4 => ?_
  simp
  have up3 := f3.up; have up4 := f4.up
  have eu : inB c.units 64 = true := by
    simp only [CfgN.fits, Bool.and_eq_true] at e
    exact e.2.2.2.1
  simp [inB] at eu
  refine h1 e _ _ s4 bc bp br ((((Fr.refl _ _ _).new.comp f1 (by simp)).comp f2 (by simp)).comp f3 (by simp) |>.comp f4 (by simp)).new ⟨by omega, ?_, ?_, ?_, upd_same _ _ _⟩
  · exact (upd_ne _ _ (by omega)).trans ((f4.keep _ (by omega) (by simp)).trans ((f3.keep _ (by omega) (by simp)).trans hp3))
  · exact (upd_ne _ _ (by omega)).trans ((f4.keep _ (by omega) (by simp)).trans hc3)
  · refine (upd_ne _ _ (by omega)).trans (hr3.trans ?_)
    rw [show max 0 (min c.units 4096) = c.units by omega]
end Go.Proofs.YtkabaecoamilnaaGreatDoor
end
section
namespace Go.Proofs.YtkabaecoamilnaaGreatDoor
open Go AX
variable {E : FuncId → Option (Array Value → AX Value)} {F G : Nat → Prop} {H : AH} {s b : Nat} {Q : Value → AH → Nat → Prop}
set_option maxRecDepth 10000
set_option maxHeartbeats 4000000
/-- A link's config. -/
structure CfgL where
  a : CfgN
  b : CfgN
  room : Int
def CfgL.cells (c : CfgL) : List Value := c.a.cells ++ (c.b.cells ++ [.int .i64 c.room])
def CfgL.fits (c : CfgL) : Bool := c.a.fits && (c.b.fits && (decide (c.a.start = c.b.start) && (decide (1 ≤ c.room) && decide (c.room ≤ 256))))
theorem lcheck_wp (hE : Bare E) (n : Nat) (c : CfgL) (hN : New F G s) (h : ∀ H' s', Fr [] H s H' s' → Q (.int .i64 (if c.fits then 0 else 1)) H' s') : Wp F G (aCall Tryz.prog E (n + 3) 61 #[.agg c.cells.toArray]) H s Q := by
  have hFs := (hN s (Nat.le_refl _))
  have hFs1 := (hN (s + 1) (by omega))
  refine enter (calm hE _) [] (hE.no _ (by decide)) Tryz.func61 Tryz.ntmps61 (by unfold Tryz.f61; rfl) (by unfold Tryz.f61; rfl) (by kernel_rfl) ?_
  simp [CfgL.cells, CfgN.cells, hFs, hFs1]
  refine wp_rounds 3 (by decide) ?_
  simp [wp_round, hFs1]
  refine ncheck_wp hE _ c.a (hN.up (by omega)) fun H1 s1 f1 => ?_
  have up1 := f1.up
  have g1 : Fr [] H s H1 s1 := (Fr.refl _ _ _).new.new.comp f1 (by simp)
  have k1 := ((f1.keep s (by omega) (by simp)).trans (upd_ne _ _ (by omega))).trans (upd_same _ _ _)
  cases ea : c.a.fits
  · simp
    simpa [CfgL.fits, ea] using h _ _ g1
  have hF1 := hN s1 (by omega)
  simp [wp_round, hF1]
  refine ncheck_wp hE _ c.b (hN.up (by omega)) fun H2 s2 f2 => ?_
  have up2 := f2.up
  have g2 : Fr [] H s H2 s2 := g1.new.comp f2 (by simp)
  have k2 := ((f2.keep s (by omega) (by simp)).trans (upd_ne _ _ (by omega))).trans k1
  cases eb : c.b.fits
  · simp
    simpa [CfgL.fits, ea, eb] using h _ _ g2
  have hd : (c.a.start = c.b.start) ∨ ¬ (c.a.start = c.b.start) := by omega
  have hr : (c.room < 1 ∧ ¬ 1 ≤ c.room) ∨ (¬ c.room < 1 ∧ 1 ≤ c.room) := by omega
  have ht : (256 < c.room ∧ ¬ c.room ≤ 256) ∨ (¬ 256 < c.room ∧ c.room ≤ 256) := by omega
  rcases hd with hd | hd <;> rcases hr with ⟨hr, hr'⟩ | ⟨hr, hr'⟩ <;> rcases ht with ⟨ht, ht'⟩ | ⟨ht, ht'⟩
  all_goals
    simp [wp_round, k2, hFs, hd, hr, hr', ht, ht']
    simpa [CfgL.fits, ea, eb, hd, hr, hr', ht, ht'] using h _ _ g2
theorem wnew_wp (hE : Bare E) (n : Nat) (h : Q (ptr s) (upd H s (some wireBlk)) (s + 1)) : Wp F G (aCall Tryz.prog E (n + 1) 62 #[]) H s Q := by
  unfold aCall
  rw [hE.wire]
  simpa [wireX] using h
/-- A link that is new: its blocks. -/
structure NewLink (H : AH) (s s' : Nat) (c : CfgL) (l w n0 p0 n1 p1 : Nat) : Prop where
  own : s ≤ l ∧ s ≤ w ∧ l < s' ∧ w < s' ∧ w ≠ l
  wire : H w = some wireBlk
  link : H l = some (.cells [ptr w, ptr n0, ptr p0, ptr n1, ptr p1] 101 true)
  side0 : ∃ s1 s2 bc bp br r, s ≤ s1 ∧ l < s1 ∧ w < s1 ∧ NewNode H s1 s2 c.a n0 bc bp br ∧ s2 ≤ r ∧ r < p0 ∧ H r = some (.cells [nilS, .int .i64 0, .int .i64 0, .int .i64 c.room] 153 true) ∧ H p0 = some (.cells [ptr r, .int .i64 0, .int .i64 0, .int .i64 0] 68 true)
  side1 : ∃ s1 s2 bc bp br r, p0 < s1 ∧ NewNode H s1 s2 c.b n1 bc bp br ∧ s2 ≤ r ∧ r < p1 ∧ p1 < s' ∧ H r = some (.cells [nilS, .int .i64 0, .int .i64 0, .int .i64 c.room] 153 true) ∧ H p1 = some (.cells [ptr r, .int .i64 0, .int .i64 0, .int .i64 0] 68 true)
theorem lnew_wp (hE : Bare E) (n : Nat) (c : CfgL) (hN : New F G s) (hB : Bd H s) (h1 : c.fits = true → ∀ H' s' l w n0 p0 n1 p1, Fr [] H s H' s' → NewLink H' s s' c l w n0 p0 n1 p1 → Q (.tuple #[ptr l, .int .i64 0]) H' s')
    (h2 : c.fits = false → ∀ H' s', Fr [] H s H' s' → Q (.tuple #[.pointer none, .int .i64 1]) H' s') : Wp F G (aCall Tryz.prog E (n + 4) 25 #[.agg c.cells.toArray]) H s Q := by
  have hFs := hN s (Nat.le_refl _)
  have hB1 : Bd (upd H s (some (.cells c.cells 93 true))) (s + 1) := fun k hk => (upd_ne _ _ (by omega)).trans (hB k (by omega))
  refine enter (calm hE _) [(11, [], [], [])] (hE.no _ (by decide)) Tryz.func25 Tryz.ntmps25 (by unfold Tryz.f25; rfl) (by unfold Tryz.f25; rfl) (by kernel_rfl) ?_
  simp [CfgL.cells, CfgN.cells, hFs]
  refine wp_bd ((calm hE _).ls _ _) hB1 ?_
  refine lcheck_wp hE _ c (hN.up (Nat.le_succ _)) fun H1 s1 f1 u1 b1 => ?_
  have k1 := (f1.keep s (by omega) (by simp)).trans (upd_same _ _ _)
  cases e : c.fits
  · simp
    exact h2 e _ _ ((Fr.refl _ _ _).new.comp f1 (by simp))
  simp [k1]
  refine wnew_wp hE _ ?_
  have hss : s ≠ s1 := by omega
  have hss1 : s ≠ s1 + 1 := by omega
  have hF2 := hN (s1 + 2) (by omega)
  simp [upd_ne, hss, hss1, k1, hFs]
  refine wp_rounds 3 (by decide) ?_
  simp [wp_round, hF2]
  have b2 : Bd (upd (upd (upd H1 s1 (some wireBlk)) (s1 + 1) (some (.cells [ptr s1, .pointer none, .pointer none, .pointer none, .pointer none] 101 true))) (s1 + 2) (some (.cells c.a.cells 90 true))) (s1 + 3) := fun k hk => (upd_ne _ _ (by omega)).trans ((upd_ne _ _ (by omega)).trans ((upd_ne _ _ (by omega)).trans (b1 k (by omega))))
  have e' := e
  simp only [CfgL.fits, Bool.and_eq_true, decide_eq_true_eq] at e'
  obtain ⟨ea, eb, _, er⟩ := e'
  refine wp_bd ((calm hE _).ls _ _) b2 ?_
  refine nnew_wp hE _ c.a (hN.up (by omega)) b2 (fun _ H3 s3 n0 bc bp br f3 hn0 u3 b3 => ?_) (fun ea' => by rw [ea] at ea'; cases ea')
  have k3 := (f3.keep s (by omega) (by simp)).trans ((upd_ne _ _ (by omega)).trans ((upd_ne _ _ (by omega)).trans ((upd_ne _ _ (by omega)).trans k1)))
  simp [k3, hFs]
  have hFl := hN (s1 + 1) (by omega)
  have up3 := f3.up
  have l3 : H3 (s1 + 1) = _ := (f3.keep (s1 + 1) (by omega) (by simp)).trans ((upd_ne _ _ (by omega)).trans (upd_same _ _ _))
  have w3 : H3 s1 = some wireBlk := (f3.keep s1 (by omega) (by simp)).trans ((upd_ne _ _ (by omega)).trans ((upd_ne _ _ (by omega)).trans (upd_same _ _ _)))
  refine wp_bd ((calm hE _).ls _ _) b3 ?_
  refine pipenew_wp hE _ c.room fun H4 s4 r0 p0 f4 hr0 hr0p hp0 hrc0 hpc0 u4 b4 => ?_
  have up4 := f4.up
  have l4 := (f4.keep (s1 + 1) (by omega) (by simp)).trans l3
  simp [l4, hFl]
  have hb5 : Bd (upd (upd H4 (s1 + 1) (some (.cells [ptr s1, ptr n0, ptr p0, .pointer none, .pointer none] 101 true))) s4 (some (.cells c.b.cells 90 true))) (s4 + 1) := fun k hk => (upd_ne _ _ (by omega)).trans ((upd_ne _ _ (by omega)).trans (b4 k (by omega)))
  have hF4 := hN s4 (by omega)
  simp [wp_round, hF4]
  refine wp_bd ((calm hE _).ls _ _) hb5 ?_
  refine nnew_wp hE _ c.b (hN.up (by omega)) hb5 (fun _ H5 s5 n1 bc1 bp1 br1 f5 hn1 u5 b5 => ?_) (fun eb' => by rw [eb] at eb'; cases eb')
  have up5 := f5.up
  have k5 := (f5.keep s (by omega) (by simp)).trans ((upd_ne _ _ (by omega)).trans ((upd_ne _ _ (by omega)).trans ((f4.keep s (by omega) (by simp)).trans k3)))
  have l5 := (f5.keep (s1 + 1) (by omega) (by simp)).trans ((upd_ne _ _ (by omega)).trans (upd_same _ _ _))
  simp [k5, hFs]
  refine wp_bd ((calm hE _).ls _ _) b5 ?_
  refine pipenew_wp hE _ c.room fun H6 s6 r1 p1 f6 hr1 hr1p hp1 hrc1 hpc1 u6 b6 => ?_
  have up6 := f6.up
  have l6 := (f6.keep (s1 + 1) (by omega) (by simp)).trans l5
  simp [l6, hFl, wp_round]
  have er' : max 1 (min c.room 256) = c.room := by
    omega
  rw [er'] at hrc0 hrc1
  have o0 := hn0.ord; have o1 := hn1.ord
  have kp : ∀ k, k < s4 → k ≠ s1 + 1 → upd H6 (s1 + 1) (some (.cells [ptr s1, ptr n0, ptr p0, ptr n1, ptr p1] 101 true)) k = H4 k := fun k hk hne => (upd_ne _ _ hne).trans ((f6.keep k (by omega) (by simp)).trans ((f5.keep k (by omega) (by simp)).trans ((upd_ne _ _ (by omega)).trans (upd_ne _ _ hne))))
  have kp1 : ∀ k, k < s5 → k ≠ s1 + 1 → upd H6 (s1 + 1) (some (.cells [ptr s1, ptr n0, ptr p0, ptr n1, ptr p1] 101 true)) k = H5 k := fun k hk hne => (upd_ne _ _ hne).trans (f6.keep k (by omega) (by simp))
  refine h1 e _ s6 (s1 + 1) s1 n0 p0 n1 p1 ⟨by omega, fun k hk _ => ?_⟩ ⟨by omega, ?_, upd_same _ _ _, ⟨s1 + 3, s3, bc, bp, br, r0, by omega, by omega, by omega, ⟨o0, ?_, ?_, ?_, ?_⟩, by omega, by omega, ?_, ?_⟩, ⟨s4 + 1, s5, bc1, bp1, br1, r1, by omega, ⟨o1, ?_, ?_, ?_, ?_⟩, by omega, by omega, by omega, ?_, ?_⟩⟩
  · refine (kp k (by omega) (by omega)).trans ((f4.keep k (by omega) (by simp)).trans ((f3.keep k (by omega) (by simp)).trans ((upd_ne _ _ (by omega)).trans ((upd_ne _ _ (by omega)).trans ((upd_ne _ _ (by omega)).trans ((f1.keep k (by omega) (by simp)).trans (upd_ne _ _ (by omega))))))))
  · exact (kp s1 (by omega) (by omega)).trans ((f4.keep s1 (by omega) (by simp)).trans w3)
  · exact (kp bp (by omega) (by omega)).trans ((f4.keep bp (by omega) (by simp)).trans hn0.pace)
  · exact (kp bc (by omega) (by omega)).trans ((f4.keep bc (by omega) (by simp)).trans hn0.conn)
  · exact (kp br (by omega) (by omega)).trans ((f4.keep br (by omega) (by simp)).trans hn0.ring)
  · exact (kp n0 (by omega) (by omega)).trans ((f4.keep n0 (by omega) (by simp)).trans hn0.node)
  · exact (kp r0 (by omega) (by omega)).trans hrc0
  · exact (kp p0 (by omega) (by omega)).trans hpc0
  · exact (kp1 bp1 (by omega) (by omega)).trans hn1.pace
  · exact (kp1 bc1 (by omega) (by omega)).trans hn1.conn
  · exact (kp1 br1 (by omega) (by omega)).trans hn1.ring
  · exact (kp1 n1 (by omega) (by omega)).trans hn1.node
  · exact (upd_ne _ _ (by omega)).trans hrc1
  · exact (upd_ne _ _ (by omega)).trans hpc1
end Go.Proofs.YtkabaecoamilnaaGreatDoor
end
section
namespace Go.Proofs.YtkabaecoamilnaaGreatDoor
open Go AX
variable {E : FuncId → Option (Array Value → AX Value)} {F G : Nat → Prop} {H : AH} {s b : Nat} {Q : Value → AH → Nat → Prop}
set_option maxRecDepth 10000
set_option maxHeartbeats 4000000
/-- An end that nobody asked: its blocks. -/
structure IdleNode (F : Nat → Prop) (H : AH) (s : Nat) (c : CfgN) (b bc bp br : Nat) : Prop where
  lt : b < s ∧ bc < s ∧ bp < s ∧ br < s
  rd : F b ∧ F bc ∧ F bp ∧ F br
  pace : H bp = some c.pace.blk
  conn : H bc = some (ConnS.new c.most ((c.start + c.window) % 16777216)).blk
  ring : H br = some (.cells [nilS, .int .i64 0, .int .i64 0, .int .i64 c.units] 295 true)
  node : H b = some (.cells (c.cells ++ [ptr bc, ptr bp, .pointer none, .pointer none, nilS, ptr br, .bool false, .bool false, .int .u32 0, .bool false, nilS]) 173 true)
theorem IdleNode.keep {H' : AH} {s' : Nat} {c : CfgN} {b bc bp br : Nat} (h : IdleNode F H s c b bc bp br) (f : Fr [] H s H' s') : IdleNode F H' s' c b bc bp br := by
  have up := f.up
  obtain ⟨h1, h2, h3, h4⟩ := h.lt
  exact ⟨by omega, h.rd, (f.keep _ h3 (by simp)).trans h.pace, (f.keep _ h2 (by simp)).trans h.conn, (f.keep _ h4 (by simp)).trans h.ring, (f.keep _ h1 (by simp)).trans h.node⟩
section
variable {c : CfgN} {bc bp br : Nat}
theorem btick_idle (hE : Bare E) (n : Nat) (I : IdleNode F H s c b bc bp br) (h : Q nilS H s) : Wp F G (aCall Tryz.prog E (n + 1) 67 #[ptr bp]) H s Q := by
  refine enter (calm hE _) [(6, [], [], [])] (hE.no _ (by decide)) Tryz.func67 Tryz.ntmps67 (by unfold Tryz.f67; rfl) (by unfold Tryz.f67; rfl) (by kernel_rfl) ?_
  simp
  refine wp_rounds 6 (by decide) ?_
  simp (config := { maxSteps := 1000000 }) [wp_round, I.pace, PaceS.blk, PaceS.cells, CfgN.pace, PaceS.of, I.rd.2.2.1]
  exact h
theorem ready_idle (hE : Bare E) (n : Nat) (I : IdleNode F H s c b bc bp br) (h : Q (.bool false) H s) : Wp F G (aCall Tryz.prog E (n + 1) 72 #[ptr b]) H s Q := by
  refine enter (calm hE _) [] (hE.no _ (by decide)) Tryz.func72 Tryz.ntmps72 (by unfold Tryz.f72; rfl) (by unfold Tryz.f72; rfl) (by kernel_rfl) ?_
  simp [I.node, CfgN.cells, I.rd.1]
  exact h
theorem credit_idle (hE : Bare E) (n : Nat) (I : IdleNode F H s c b bc bp br) (hG : G b) (h : Q nilS H s) : Wp F G (aCall Tryz.prog E (n + 2) 73 #[ptr b, nilS]) H s Q := by
  refine enter (calm hE _) [] (hE.no _ (by decide)) Tryz.func73 Tryz.ntmps73 (by unfold Tryz.f73; rfl) (by unfold Tryz.f73; rfl) (by kernel_rfl) ?_
  simp [I.node, CfgN.cells, I.rd.1]
  refine ready_idle hE _ I ?_
  simp [I.node, CfgN.cells, I.rd.1, hG]
  have e := upd_self I.node
  simp only [CfgN.cells, List.cons_append, List.nil_append] at e
  rw [e]
  exact h
theorem ntick_idle (hE : Bare E) (n : Nat) (I : IdleNode F H s c b bc bp br) (hG : G b) (h : Q nilS H s) : Wp F G (aCall Tryz.prog E (n + 3) 29 #[ptr b]) H s Q := by
  refine enter (calm hE _) [] (hE.no _ (by decide)) Tryz.func29 Tryz.ntmps29 (by unfold Tryz.f29; rfl) (by unfold Tryz.f29; rfl) (by kernel_rfl) ?_
  simp [I.node, CfgN.cells, I.rd.1]
  refine btick_idle hE _ I ?_
  simp [nilS]
  refine wp_rounds 1 (by decide) ?_
  simp [wp_round]
  refine credit_idle hE _ I hG ?_
  simp
  exact h
def zeroU : Value := .agg #[.int .i64 0, .int .i64 0, .int .u32 0, .int .u32 0, .int .u32 0, nilS, .bool false, .string ⟨#[]⟩]
theorem ufirst_idle (hE : Bare E) (n : Nat) (I : IdleNode F H s c b bc bp br) (hN : New F G s) (h : ∀ H' s', Fr [] H s H' s' → Q (.tuple #[zeroU, .int .i64 9]) H' s') : Wp F G (aCall Tryz.prog E (n + 1) 227 #[ptr br]) H s Q := by
  have hFs := hN s (Nat.le_refl _)
  have hFs1 := hN (s + 1) (by omega)
  have hr := I.lt
  refine enter (calm hE _) [(4, [], [], [])] (hE.no _ (by decide)) Tryz.func227 Tryz.ntmps227 (by unfold Tryz.f227; rfl) (by unfold Tryz.f227; rfl) (by kernel_rfl) ?_
  simp [upd_ne, show br ≠ s by omega, I.ring, I.rd.2.2.2, hFs, hFs1]
  exact h _ _ ((Fr.refl _ _ _).new.new.made (by omega))
theorem utake_idle (hE : Bare E) (n : Nat) (I : IdleNode F H s c b bc bp br) (hN : New F G s) (h : ∀ H' s', Fr [] H s H' s' → Q (.tuple #[zeroU, .int .i64 9]) H' s') : Wp F G (aCall Tryz.prog E (n + 2) 168 #[ptr br]) H s Q := by
  have hFs := hN s (Nat.le_refl _)
  refine enter (calm hE _) [(4, [], [], [])] (hE.no _ (by decide)) Tryz.func168 Tryz.ntmps168 (by unfold Tryz.f168; rfl) (by unfold Tryz.f168; rfl) (by kernel_rfl) ?_
  simp
  refine ufirst_idle hE _ (I.keep (Fr.refl _ _ _).new) (hN.up (Nat.le_succ _)) fun H1 s1 f1 => ?_
  have up := f1.up
  have k1 := (f1.keep s (by omega) (by simp)).trans (upd_same _ _ _)
  have hF1 := hN s1 (by omega)
  simp [zeroU, hF1, upd_ne, show s ≠ s1 by omega, k1, hFs]
  exact h _ _ (((Fr.refl _ _ _).new.comp f1 (by simp)).new.made (Nat.le_refl s))
theorem unext_idle (hE : Bare E) (n : Nat) (I : IdleNode F H s c b bc bp br) (hN : New F G s) (h : ∀ H' s', Fr [] H s H' s' → Q (.tuple #[zeroU, .bool false]) H' s') : Wp F G (aCall Tryz.prog E (n + 3) 75 #[ptr b]) H s Q := by
  have hFs := hN s (Nat.le_refl _)
  have hlt := I.lt
  refine enter (calm hE _) [(20, [], [], [])] (hE.no _ (by decide)) Tryz.func75 Tryz.ntmps75 (by unfold Tryz.f75; rfl) (by unfold Tryz.f75; rfl) (by kernel_rfl) ?_
  simp [upd_ne, show b ≠ s by omega, I.node, CfgN.cells, I.rd.1, nilS]
  refine utake_idle hE _ (I.keep (Fr.refl _ _ _).new) (hN.up (Nat.le_succ _)) fun H1 s1 f1 => ?_
  have g1 : Fr [] H s H1 s1 := (Fr.refl _ _ _).new.comp f1 (by simp)
  have up := f1.up
  have k1 := (f1.keep s (by omega) (by simp)).trans (upd_same _ _ _)
  have hF1 := hN s1 (by omega)
  simp [zeroU, hF1]
  refine ready_idle hE _ (I.keep g1.new) ?_
  simp [upd_ne, show s ≠ s1 by omega, k1, hFs]
  exact h _ _ (g1.new.made (Nat.le_refl s))
theorem ulen_idle (hE : Bare E) (n : Nat) (I : IdleNode F H s c b bc bp br) (h : Q (.int .i64 0) H s) : Wp F G (aCall Tryz.prog E (n + 1) 78 #[ptr br]) H s Q := by
  refine enter (calm hE _) [] (hE.no _ (by decide)) Tryz.func78 Tryz.ntmps78 (by unfold Tryz.f78; rfl) (by unfold Tryz.f78; rfl) (by kernel_rfl) ?_
  simp [I.ring, I.rd.2.2.2]
  exact h
theorem nquiet_idle (hE : Bare E) (n : Nat) (I : IdleNode F H s c b bc bp br) (h : Q (.bool true) H s) : Wp F G (aCall Tryz.prog E (n + 2) 31 #[ptr b]) H s Q := by
  refine enter (calm hE _) [] (hE.no _ (by decide)) Tryz.func31 Tryz.ntmps31 (by unfold Tryz.f31; rfl) (by unfold Tryz.f31; rfl) (by kernel_rfl) ?_
  simp [I.node, CfgN.cells, I.rd.1]
  refine ulen_idle hE _ I ?_
  simp [I.node, CfgN.cells, I.rd.1]
  refine ready_idle hE _ I ?_
  simp
  exact h
end
/-- A way for frames that is empty: its blocks. -/
structure IdlePipe (F : Nat → Prop) (H : AH) (s : Nat) (room : Int) (p r : Nat) : Prop where
  lt : p < s ∧ r < s
  rd : F p ∧ F r
  ring : H r = some (.cells [nilS, .int .i64 0, .int .i64 0, .int .i64 room] 153 true)
  pipe : H p = some (.cells [ptr r, .int .i64 0, .int .i64 0, .int .i64 0] 68 true)
theorem IdlePipe.keep {H' : AH} {s' : Nat} {room : Int} {p r : Nat} (h : IdlePipe F H s room p r) (f : Fr [] H s H' s') : IdlePipe F H' s' room p r := by
  have up := f.up
  obtain ⟨h1, h2⟩ := h.lt
  exact ⟨by omega, h.rd, (f.keep _ h2 (by simp)).trans h.ring, (f.keep _ h1 (by simp)).trans h.pipe⟩
section
variable {room : Int} {p r : Nat}
theorem room_idle (hE : Bare E) (n : Nat) (I : IdlePipe F H s room p r) (hr : 1 ≤ room ∧ room ≤ 256) (h : Q (.int .i64 room) H s) : Wp F G (aCall Tryz.prog E (n + 1) 74 #[ptr r]) H s Q := by
  refine enter (calm hE _) [(1, [], [], [])] (hE.no _ (by decide)) Tryz.func74 Tryz.ntmps74 (by unfold Tryz.f74; rfl) (by unfold Tryz.f74; rfl) (by kernel_rfl) ?_
  have e : IntKind.i64.wrap room = room := wrap64_small (by omega) (by omega)
  simp [I.ring, I.rd.2, e]
  exact h
theorem slen_idle (hE : Bare E) (n : Nat) (I : IdlePipe F H s room p r) (h : Q (.int .i64 0) H s) : Wp F G (aCall Tryz.prog E (n + 1) 17 #[ptr r]) H s Q := by
  refine enter (calm hE _) [] (hE.no _ (by decide)) Tryz.func17 Tryz.ntmps17 (by unfold Tryz.f17; rfl) (by unfold Tryz.f17; rfl) (by kernel_rfl) ?_
  simp [I.ring, I.rd.2]
  exact h
theorem sfirst_idle (hE : Bare E) (n : Nat) (I : IdlePipe F H s room p r) (h : Q (.tuple #[.string ⟨#[]⟩, .int .i64 9]) H s) : Wp F G (aCall Tryz.prog E (n + 1) 178 #[ptr r]) H s Q := by
  refine enter (calm hE _) [(4, [], [], [])] (hE.no _ (by decide)) Tryz.func178 Tryz.ntmps178 (by unfold Tryz.f178; rfl) (by unfold Tryz.f178; rfl) (by kernel_rfl) ?_
  simp [I.ring, I.rd.2]
  exact h
theorem stake_idle (hE : Bare E) (n : Nat) (I : IdlePipe F H s room p r) (h : Q (.tuple #[.string ⟨#[]⟩, .int .i64 9]) H s) : Wp F G (aCall Tryz.prog E (n + 2) 81 #[ptr r]) H s Q := by
  refine enter (calm hE _) [(4, [], [], [])] (hE.no _ (by decide)) Tryz.func81 Tryz.ntmps81 (by unfold Tryz.f81; rfl) (by unfold Tryz.f81; rfl) (by kernel_rfl) ?_
  simp
  refine sfirst_idle hE _ I ?_
  simp
  exact h
theorem all_idle (hE : Bare E) (n : Nat) (I : IdlePipe F H s room p r) (h : Q nilS H s) : Wp F G (aCall Tryz.prog E (n + 1) 36 #[ptr r]) H s Q := by
  refine enter (calm hE _) [(5, [], [], [])] (hE.no _ (by decide)) Tryz.func36 Tryz.ntmps36 (by unfold Tryz.f36; rfl) (by unfold Tryz.f36; rfl) (by kernel_rfl) ?_
  simp [I.ring, I.rd.2]
  refine wp_rounds 1 (by decide) ?_
  simp [wp_round]
  exact h
theorem ptake_idle (hE : Bare E) (n : Nat) (I : IdlePipe F H s room p r) (k a m : Int) (h : ∀ H' s', Fr [] H s H' s' → Q (.tuple #[.string ⟨#[]⟩, .bool false, .bool false]) H' s') : Wp F G (aCall Tryz.prog E (n + 3) 33 #[ptr p, .agg #[.int .i64 k, .int .i64 a, .int .u32 m]]) H s Q := by
  have hlt := I.lt
  refine enter (calm hE _) [] (hE.no _ (by decide)) Tryz.func33 Tryz.ntmps33 (by unfold Tryz.f33; rfl) (by unfold Tryz.f33; rfl) (by kernel_rfl) ?_
  simp [upd_ne, show p ≠ s by omega, I.pipe, I.rd.1]
  refine stake_idle hE _ (I.keep (Fr.refl _ _ _).new) ?_
  simp
  exact h _ _ (Fr.refl _ _ _).new
end
theorem told_nil (hE : Bare E) (n : Nat) (v : Value) (e : Int) (h : Q v H s) : Wp F G (aCall Tryz.prog E (n + 1) 28 #[v, .int .i64 e, nilS]) H s Q := by
  refine enter (calm hE _) [] (hE.no _ (by decide)) Tryz.func28 Tryz.ntmps28 (by unfold Tryz.f28; rfl) (by unfold Tryz.f28; rfl) (by kernel_rfl) ?_
  simp
  refine wp_rounds 1 (by decide) ?_
  simp [wp_round]
  exact h
theorem is_end (hE : Bare E) (n : Nat) (e : Int) : aCall Tryz.prog E (n + 1) 32 #[.int .i64 e] = ret (.bool (decide (0 ≤ e) && decide (e < 2))) := by
  refine dry_eq fun H s => ?_
  refine enter (calm hE _) [] (hE.no _ (by decide)) Tryz.func32 Tryz.ntmps32 (by unfold Tryz.f32; rfl) (by unfold Tryz.f32; rfl) (by kernel_rfl) ?_
  simp +contextual
end Go.Proofs.YtkabaecoamilnaaGreatDoor
end
section
namespace Go.Proofs.YtkabaecoamilnaaGreatDoor
open Go AX
variable {E : FuncId → Option (Array Value → AX Value)} {F G : Nat → Prop} {H : AH} {s b : Nat} {Q : Value → AH → Nat → Prop}
set_option maxRecDepth 10000
set_option maxHeartbeats 4000000
/-- A link's blocks. -/
structure LinkIds where
  l : Nat
  w : Nat
  n0 : Nat
  p0 : Nat
  n1 : Nat
  p1 : Nat
  bc0 : Nat
  bp0 : Nat
  br0 : Nat
  r0 : Nat
  bc1 : Nat
  bp1 : Nat
  br1 : Nat
  r1 : Nat
structure IdleLink (F G : Nat → Prop) (H : AH) (s : Nat) (c : CfgL) (i : LinkIds) : Prop where
  room : 1 ≤ c.room ∧ c.room ≤ 256
  lt : i.l < s
  rd : F i.l
  wr : G i.n0 ∧ G i.n1
  link : H i.l = some (.cells [ptr i.w, ptr i.n0, ptr i.p0, ptr i.n1, ptr i.p1] 101 true)
  n0 : IdleNode F H s c.a i.n0 i.bc0 i.bp0 i.br0
  n1 : IdleNode F H s c.b i.n1 i.bc1 i.bp1 i.br1
  p0 : IdlePipe F H s c.room i.p0 i.r0
  p1 : IdlePipe F H s c.room i.p1 i.r1
theorem IdleLink.keep {H' : AH} {s' : Nat} {c : CfgL} {i : LinkIds} (h : IdleLink F G H s c i) (f : Fr [] H s H' s') : IdleLink F G H' s' c i :=
  ⟨h.room, by have := f.up; have := h.lt; omega, h.rd, h.wr, (f.keep _ h.lt (by simp)).trans h.link, h.n0.keep f, h.n1.keep f, h.p0.keep f, h.p1.keep f⟩
section
variable {c : CfgL} {i : LinkIds}
theorem IdleLink.may {F' : Nat → Prop} (I : IdleLink F G H s c i) (h : ∀ k, k < s → F k → F' k) : IdleLink F' G H s c i where
  room := I.room
  lt := I.lt
  rd := h _ I.lt I.rd
  wr := I.wr
  link := I.link
  n0 := ⟨I.n0.lt, ⟨h _ I.n0.lt.1 I.n0.rd.1, h _ I.n0.lt.2.1 I.n0.rd.2.1, h _ I.n0.lt.2.2.1 I.n0.rd.2.2.1, h _ I.n0.lt.2.2.2 I.n0.rd.2.2.2⟩, I.n0.pace, I.n0.conn, I.n0.ring, I.n0.node⟩
  n1 := ⟨I.n1.lt, ⟨h _ I.n1.lt.1 I.n1.rd.1, h _ I.n1.lt.2.1 I.n1.rd.2.1, h _ I.n1.lt.2.2.1 I.n1.rd.2.2.1, h _ I.n1.lt.2.2.2 I.n1.rd.2.2.2⟩, I.n1.pace, I.n1.conn, I.n1.ring, I.n1.node⟩
  p0 := ⟨I.p0.lt, ⟨h _ I.p0.lt.1 I.p0.rd.1, h _ I.p0.lt.2 I.p0.rd.2⟩, I.p0.ring, I.p0.pipe⟩
  p1 := ⟨I.p1.lt, ⟨h _ I.p1.lt.1 I.p1.rd.1, h _ I.p1.lt.2 I.p1.rd.2⟩, I.p1.ring, I.p1.pipe⟩
theorem pump_idle (hE : Bare E) (n : Nat) (I : IdleLink F G H s c i) (hN : New F G s) (v : Value) (h : ∀ H' s', Fr [] H s H' s' → Q v H' s') : Wp F G (aCall Tryz.prog E (n + 4) 30 #[ptr i.l, v]) H s Q := by
  have hlt := I.lt
  have l0 := I.p0.lt; have l1 := I.p1.lt; have m0 := I.n0.lt; have m1 := I.n1.lt
  have hrr : 0 < c.room := by have := I.room; omega
  have hFs := hN s (Nat.le_refl _)
  refine enter (calm hE _) [(8, [], [], [])] (hE.no _ (by decide)) Tryz.func30 Tryz.ntmps30 (by unfold Tryz.f30; rfl) (by unfold Tryz.f30; rfl) (by kernel_rfl) ?_
  simp [I.link, I.rd]
  refine wp_rounds 3 (by decide) ?_
  simp [wp_round, hFs, upd_ne, show i.l ≠ s by omega, I.link, I.rd]
  refine wp_rounds 1 (by decide) ?_
  simp [wp_round, upd_ne, show i.p1 ≠ s by omega, I.p1.pipe, I.p1.rd.1]
  refine room_idle hE _ (I.p1.keep (Fr.refl _ _ _).new) I.room ?_
  simp [hrr, hFs]
  refine unext_idle hE _ (I.n0.keep (Fr.refl _ _ _).new) (hN.up (Nat.le_succ _)) fun H1 s1 f1 => ?_
  have up1 := f1.up
  have g1 : Fr [] H s (upd H1 s1 (some (.cells [.int .i64 0, .int .i64 0, .int .u32 0, .int .u32 0, .int .u32 0, nilS, .bool false, .string ⟨#[]⟩] 57 true))) (s1 + 1) := ((Fr.refl _ _ _).new.comp f1 (by simp)).new
  have J := I.keep g1
  have hF1 := hN s1 (by omega)
  have hF2 := hN (s1 + 1) (by omega)
  simp [zeroU, hF1, hF2, wp_round, upd_ne, show i.l ≠ s1 + 1 by omega, J.link, J.rd]
  refine wp_rounds 1 (by decide) ?_
  simp [wp_round, upd_ne, show i.p0 ≠ s1 + 1 by omega, J.p0.pipe, J.p0.rd.1]
  refine room_idle hE _ (J.p0.keep (Fr.refl _ _ _).new) J.room ?_
  simp [hrr, hF2]
  refine unext_idle hE _ (J.n1.keep (Fr.refl _ _ _).new) (hN.up (by omega)) fun H2 s2 f2 => ?_
  have up2 := f2.up
  have hF3 := hN s2 (by omega)
  simp [zeroU, hF3, wp_round]
  exact h _ _ ((g1.new.comp f2 (by simp)).new)
theorem tick_idle (hE : Bare E) (n : Nat) (I : IdleLink F G H s c i) (hN : New F G s) (h : ∀ H' s', Fr [] H s H' s' → Q nilS H' s') : Wp F G (aCall Tryz.prog E (n + 5) 10 #[ptr i.l]) H s Q := by
  have hlt := I.lt
  have hFs := hN s (Nat.le_refl _)
  have hFs1 := hN (s + 1) (by omega)
  refine enter (calm hE _) [] (hE.no _ (by decide)) Tryz.func10 Tryz.ntmps10 (by unfold Tryz.f10; rfl) (by unfold Tryz.f10; rfl) (by kernel_rfl) ?_
  simp [I.link, I.rd]
  refine wp_rounds 3 (by decide) ?_
  have g1 : ∀ x, Fr [] H s (upd H s x) (s + 1) := fun x => (Fr.refl _ _ _).new
  simp [wp_round, hFs]
  refine ntick_idle hE _ (I.n0.keep (g1 _)) I.wr.1 ?_
  simp
  refine told_nil hE _ _ _ ?_
  simp [wp_round, hFs1]
  refine ntick_idle hE _ (I.n1.keep (g1 _).new) I.wr.2 ?_
  simp
  refine told_nil hE _ _ _ ?_
  simp [wp_round]
  refine pump_idle hE _ (I.keep (g1 _).new) (hN.up (by omega)) _ fun H2 s2 f2 => ?_
  simp
  exact h _ _ ((g1 _).new.comp f2 (by simp))
theorem quiet_idle {G2 : Nat → Prop} (hE : Bare E) (n : Nat) (I : IdleLink F G2 H s c i) (hN : New F G s) (h : ∀ H' s', Fr [] H s H' s' → Q (.bool true) H' s') : Wp F G (aCall Tryz.prog E (n + 3) 11 #[ptr i.l]) H s Q := by
  have hlt := I.lt
  have l0 := I.p0.lt; have l1 := I.p1.lt
  have hFs := hN s (Nat.le_refl _)
  have hFs1 := hN (s + 1) (by omega)
  refine enter (calm hE _) [] (hE.no _ (by decide)) Tryz.func11 Tryz.ntmps11 (by unfold Tryz.f11; rfl) (by unfold Tryz.f11; rfl) (by kernel_rfl) ?_
  simp [I.link, I.rd]
  refine wp_rounds 3 (by decide) ?_
  have g1 : ∀ x, Fr [] H s (upd H s x) (s + 1) := fun x => (Fr.refl _ _ _).new
  simp [wp_round, hFs, upd_ne, show i.p0 ≠ s by omega, I.p0.pipe, I.p0.rd.1]
  refine slen_idle hE _ (I.p0.keep (g1 _)) ?_
  simp [hFs]
  refine nquiet_idle hE _ (I.n0.keep (g1 _)) ?_
  simp [wp_round, hFs1, upd_ne, show i.p1 ≠ s + 1 by omega, show i.p1 ≠ s by omega, I.p1.pipe, I.p1.rd.1]
  refine slen_idle hE _ (I.p1.keep (g1 _).new) ?_
  simp [hFs1]
  refine nquiet_idle hE _ (I.n1.keep (g1 _).new) ?_
  simp [wp_round]
  exact h _ _ (g1 _).new
theorem carry_idle (hE : Bare E) (n : Nat) (I : IdleLink F G H s c i) (hN : New F G s) (e k a m : Int) (he : e = 0 ∨ e = 1) (h : ∀ H' s', Fr [] H s H' s' → Q (.tuple #[nilS, .bool false]) H' s') : Wp F G (aCall Tryz.prog E (n + 4) 12 #[ptr i.l, .int .i64 e, .agg #[.int .i64 k, .int .i64 a, .int .u32 m]]) H s Q := by
  have hlt := I.lt
  have hFs := hN s (Nat.le_refl _)
  have g1 : ∀ x, Fr [] H s (upd H s x) (s + 1) := fun x => (Fr.refl _ _ _).new
  refine enter (calm hE _) [(3, [], [], [])] (hE.no _ (by decide)) Tryz.func12 Tryz.ntmps12 (by unfold Tryz.f12; rfl) (by unfold Tryz.f12; rfl) (by kernel_rfl) ?_
  rcases he with rfl | rfl
  · simp [is_end hE, upd_ne, show i.l ≠ s by omega, I.link, I.rd, hFs]
    refine ptake_idle hE _ (I.p0.keep (g1 _)) _ _ _ fun H1 s1 f1 => ?_
    simp
    exact h _ _ ((g1 _).comp f1 (by simp))
  · simp [is_end hE, upd_ne, show i.l ≠ s by omega, I.link, I.rd, hFs]
    refine ptake_idle hE _ (I.p1.keep (g1 _)) _ _ _ fun H1 s1 f1 => ?_
    simp
    exact h _ _ ((g1 _).comp f1 (by simp))
end
end Go.Proofs.YtkabaecoamilnaaGreatDoor
end
section
namespace Go.Proofs.YtkabaecoamilnaaGreatDoor
open Go AX
variable {E : FuncId → Option (Array Value → AX Value)} {F G : Nat → Prop} {H : AH} {s b : Nat} {Q : Value → AH → Nat → Prop}
set_option maxRecDepth 10000
set_option maxHeartbeats 4000000
/-- Five numbers in a row. -/
structure Five (H : AH) (d o : Nat) (c0 c1 c2 c3 c4 : Int) : Prop where
  at_ : ∃ cs T wr, H d = some (.cells cs T wr) ∧ cs[o]? = some (.int .i64 c0) ∧ cs[o + 1]? = some (.int .i64 c1) ∧ cs[o + 2]? = some (.int .i64 c2) ∧ cs[o + 3]? = some (.int .i64 c3) ∧ cs[o + 4]? = some (.int .i64 c4)
abbrev sl5 (d o : Nat) : Value := .slice (some ⟨d, o, none⟩) 5 5
theorem Five.keep {H' : AH} {d o : Nat} {c0 c1 c2 c3 c4 : Int} (h : Five H d o c0 c1 c2 c3 c4) (hk : H' d = H d) : Five H' d o c0 c1 c2 c3 c4 := by
  obtain ⟨cs, T, wr, h⟩ := h
  exact ⟨cs, T, wr, by rw [hk]; exact h⟩
theorem own15_wp (hE : Bare E) (n : Nat) {d o : Nat} {c0 c1 c2 c3 c4 : Int} (hN : New F G s) (hv : Five H d o c0 c1 c2 c3 c4) (hd : d < s) (hF : F d) (h : ∀ H' s', Fr [] H s H' s' → Q (cfg c0 c1 c2 c3 c4) H' s') : Wp F G (aCall Tryz.prog E (n + 1) 143 #[sl5 d o]) H s Q := by
  have hFs := hN s (Nat.le_refl _)
  obtain ⟨cs, T, wr, h0, e0, e1, e2, e3, e4⟩ := hv.at_
  have hne : d ≠ s := by omega
  refine enter (calm hE _) [(1, [], [], [])] (hE.no _ (by decide)) Tryz.func143 Tryz.ntmps143 (by unfold Tryz.f143; rfl) (by unfold Tryz.f143; rfl) (by kernel_rfl) ?_
  simp [upd_ne, hne, h0, hF, e0, e1, e2, e3, e4, hFs]
  exact h _ _ (Fr.refl _ _ _).new
/-- A config of the document. -/
structure CfgR where
  most : Int
  window : Int
  queue : Int
  units : Int
  polls : Int
  start : Int
  c0 : Int
  c1 : Int
  c2 : Int
  c3 : Int
  c4 : Int
def CfgR.cells (c : CfgR) (d o : Nat) : List Value := [.int .i64 c.most, .int .i64 c.window, .int .i64 c.queue, .int .i64 c.units, .int .i64 c.polls, .int .i64 c.start, sl5 d o]
def CfgR.own (c : CfgR) : CfgN := ⟨c.most, c.window, c.queue, c.units, c.polls, c.start % 16777216, c.c0, c.c1, c.c2, c.c3, c.c4⟩
theorem own16_wp (hE : Bare E) (n : Nat) (c : CfgR) {d o : Nat} (hN : New F G s) (hB : Bd H s) (hv : Five H d o c.c0 c.c1 c.c2 c.c3 c.c4) (hd : d < s) (hF : F d) (h : ∀ H' s', Fr [] H s H' s' → Q (.agg c.own.cells.toArray) H' s') : Wp F G (aCall Tryz.prog E (n + 2) 65 #[.agg (c.cells d o).toArray]) H s Q := by
  have hFs := hN s (Nat.le_refl _)
  have hFs1 := hN (s + 1) (by omega)
  refine enter (calm hE _) [(1, [1, 3, 5, 7, 9], [], [15])] (hE.no _ (by decide)) Tryz.func65 Tryz.ntmps65 (by unfold Tryz.f65; rfl) (by unfold Tryz.f65; rfl) (by kernel_rfl) ?_
  simp [CfgR.cells, upd_ne, hFs, of_eq hE, show s < s + 1 + 1 by omega]
  refine ⟨hB.new.new, ?_⟩
  refine own15_wp hE _ (New.own hN (by omega)) (hv.keep ((upd_ne _ _ (by omega)).trans (upd_ne _ _ (by omega)))) (by omega) ⟨hF, by omega⟩ fun H1 s1 f1 => ?_
  have k1 := (f1.keep (s + 1) (by omega) (by simp)).trans (upd_same _ _ _)
  simp [cfg, k1, hFs1]
  have up1 := f1.up
  exact h _ _ (((Fr.refl _ _ _).new.new.comp f1 (by simp)).made (by omega))
/-- Both ends'. -/
structure CfgA where
  a : CfgR
  b : CfgR
  room : Int
def CfgA.cells (c : CfgA) (d o d' o' : Nat) : List Value := c.a.cells d o ++ (c.b.cells d' o' ++ [.int .i64 c.room])
def CfgA.own (c : CfgA) : CfgL := ⟨c.a.own, c.b.own, c.room⟩
theorem own18_wp (hE : Bare E) (n : Nat) (c : CfgA) {d o d' o' : Nat} (hN : New F G s) (hB : Bd H s) (hv : Five H d o c.a.c0 c.a.c1 c.a.c2 c.a.c3 c.a.c4) (hv' : Five H d' o' c.b.c0 c.b.c1 c.b.c2 c.b.c3 c.b.c4) (hd : d < s) (hd' : d' < s) (hF : F d) (hF' : F d') (h : ∀ H' s', Fr [] H s H' s' → Q (.agg c.own.cells.toArray) H' s') : Wp F G (aCall Tryz.prog E (n + 3) 26 #[.agg (c.cells d o d' o').toArray]) H s Q := by
  have hFs := hN s (Nat.le_refl _)
  have hFs1 := hN (s + 1) (by omega)
  refine enter (calm hE _) [(1, [4, 8], [], [2, 5])] (hE.no _ (by decide)) Tryz.func26 Tryz.ntmps26 (by unfold Tryz.f26; rfl) (by unfold Tryz.f26; rfl) (by kernel_rfl) ?_
  simp [CfgA.cells, CfgR.cells, upd_ne, hFs]
  refine ⟨hB.new.new, ?_⟩
  refine wp_bd ((calm hE _).ls _ _) hB.new.new ?_
  refine own16_wp hE _ c.a (New.own hN (by omega)) hB.new.new (hv.keep ((upd_ne _ _ (by omega)).trans (upd_ne _ _ (by omega)))) (by omega) ⟨hF, by omega⟩ fun H1 s1 f1 u1 b1 => ?_
  have k1 := (f1.keep s (by omega) (by simp)).trans ((upd_ne _ _ (by omega)).trans (upd_same _ _ _))
  have k1' := (f1.keep (s + 1) (by omega) (by simp)).trans (upd_same _ _ _)
  simp [k1, hFs, show s < s + 1 + 1 by omega]
  refine ⟨by omega, b1, ?_⟩
  refine own16_wp hE _ c.b (New.own hN (by omega)) b1 (hv'.keep ((f1.keep _ (by omega) (by simp)).trans ((upd_ne _ _ (by omega)).trans (upd_ne _ _ (by omega))))) (by omega) ⟨hF', by omega⟩ fun H2 s2 f2 => ?_
  have k2 := (f2.keep s (by omega) (by simp)).trans k1
  have k2' := (f2.keep (s + 1) (by omega) (by simp)).trans k1'
  have up2 := f2.up
  simp [CfgN.cells, k2, k2', hFs, hFs1, show s < s + 1 + 1 by omega]
  exact h _ _ ((((Fr.refl _ _ _).new.new.comp f1 (by simp)).comp f2 (by simp)).made (by omega))
end Go.Proofs.YtkabaecoamilnaaGreatDoor
end
section
namespace Go.Proofs.YtkabaecoamilnaaGreatDoor
open Go AX
variable {E : FuncId → Option (Array Value → AX Value)} {F G : Nat → Prop} {H : AH} {s b : Nat} {Q : Value → AH → Nat → Prop}
set_option maxRecDepth 10000
set_option maxHeartbeats 4000000
theorem five_new {H : AH} {d : Nat} {T : TypeId} {wr : Bool} {c0 c1 c2 c3 c4 : Int} (h : H d = some (.cells [.int .i64 c0, .int .i64 c1, .int .i64 c2, .int .i64 c3, .int .i64 c4] T wr)) : Five H d 0 c0 c1 c2 c3 c4 := ⟨_, _, _, h, rfl, rfl, rfl, rfl, rfl⟩
theorem tmod_of (x : Int) : (if x.tmod 16777216 < 0 then x.tmod 16777216 + 16777216 else x.tmod 16777216) = x % 16777216 := by
  rcases Int.lt_or_le x 0 with h | h
  · obtain ⟨y, rfl⟩ : ∃ y, x = -y := ⟨-x, by omega⟩
    rw [Int.neg_tmod, Int.tmod_eq_emod_of_nonneg (by omega)]
    split <;> omega
  · rw [Int.tmod_eq_emod_of_nonneg h]
    split <;> omega
theorem rof_eq (hE : Bare E) (n : Nat) (x : Int) : aCall Tryz.prog E (n + 1) 92 #[.int .i64 x] = ret (.int .i64 (x % 16777216)) := by
  refine dry_eq fun H s => ?_
  have e := tmod_of x
  have b1 : -16777216 < x.tmod 16777216 ∧ x.tmod 16777216 < 16777216 := by
    have h1 := Int.tmod_lt_of_pos x (show (0 : Int) < 16777216 by decide)
    have h2 := Int.lt_tmod_of_pos x (show (0 : Int) < 16777216 by decide)
    omega
  refine enter (calm hE _) [] (hE.no _ (by decide)) Tryz.func92 Tryz.ntmps92 (by unfold Tryz.f92; rfl) (by unfold Tryz.f92; rfl) (by kernel_rfl) ?_
  by_cases h : x.tmod 16777216 < 0
  · have hw : IntKind.i64.wrap (x.tmod 16777216 + 16777216) = x.tmod 16777216 + 16777216 := wrap64_small (by omega) (by omega)
    simp [b_rem, h, hw]
    rw [if_pos h] at e
    exact e
  · simp [b_rem, h]
    rw [if_neg h] at e
    exact e
theorem rnew15_wp (hE : Bare E) (n : Nat) (d o : Nat) (hN : New F G s) (h : ∀ H' s' e, Fr [] H s H' s' → s ≤ e → e < s' → Five H' e 0 0 0 0 0 0 → Q (.agg #[sl5 d o, sl5 e 0]) H' s') : Wp F G (aCall Tryz.prog E (n + 1) 145 #[sl5 d o]) H s Q := by
  have hFs := hN s (Nat.le_refl _)
  refine enter (calm hE _) [] (hE.no _ (by decide)) Tryz.func145 Tryz.ntmps145 (by unfold Tryz.f145; rfl) (by unfold Tryz.f145; rfl) (by kernel_rfl) ?_
  simp [hFs, upd_ne]
  refine h _ _ (s + 1) (((Fr.refl _ _ _).new.new).made (Nat.le_refl s)) (by omega) (by omega) (five_new ((upd_ne _ _ (by omega)).trans (upd_same _ _ _)))
/-- The document's connection that is new. -/
def conn14 (most credit : Int) : List Value := [.int .i64 (max 1 (min most 16)), .int .i64 (credit % 16777216), .int .i64 1, .int .i64 0, .int .i64 (-1), .int .i64 0, .int .i64 (credit % 16777216), .string ⟨#[]⟩]
theorem rnew14_wp (hE : Bare E) (n : Nat) (most credit : Int) (hN : New F G s) (h : ∀ H' s', Fr [] H s H' s' → Q (.agg (conn14 most credit).toArray) H' s') : Wp F G (aCall Tryz.prog E (n + 2) 144 #[.int .i64 most, .int .i64 credit]) H s Q := by
  have hFs := hN s (Nat.le_refl _)
  refine enter (calm hE _) [] (hE.no _ (by decide)) Tryz.func144 Tryz.ntmps144 (by unfold Tryz.f144; rfl) (by unfold Tryz.f144; rfl) (by kernel_rfl) ?_
  simp [hFs, rof_eq hE]
  exact h _ _ (Fr.refl _ _ _).new
/-- The document's end that is new. -/
def refNode (c : CfgR) (d o e : Nat) : List Value := c.cells d o ++ (conn14 c.most (c.start + c.window) ++ [sl5 d o, sl5 e 0, .int .i64 0, .int .i64 0, .int .i64 0, .int .i64 0, .int .i64 0, .int .i64 0, .int .i64 0, .int .i64 0, nilS, nilS, nilS, nilS, .int .i64 0, .int .i64 0, .int .i64 0, .int .i64 0, nilS, nilS, nilS, nilS, nilS, .bool false, .bool false, .int .i64 0, .bool false, nilS])
theorem rnew16_wp (hE : Bare E) (n : Nat) (c : CfgR) {d o : Nat} (hc : 0 ≤ c.start ∧ c.start ≤ 16777215 ∧ 1 ≤ c.window ∧ c.window ≤ 64) (hN : New F G s) (hB : Bd H s) (h : ∀ H' s' e, Fr [] H s H' s' → s ≤ e → e < s' → Five H' e 0 0 0 0 0 0 → Q (.agg (refNode c d o e).toArray) H' s') : Wp F G (aCall Tryz.prog E (n + 3) 66 #[.agg (c.cells d o).toArray]) H s Q := by
  have hFs := hN s (Nat.le_refl _)
  have hFs1 := hN (s + 1) (by omega)
  have hw : IntKind.i64.wrap (c.start + c.window) = c.start + c.window := wrap64_small (by omega) (by omega)
  refine enter (calm hE _) [(1, [0, 10], [], [8, 11])] (hE.no _ (by decide)) Tryz.func66 Tryz.ntmps66 (by unfold Tryz.f66; rfl) (by unfold Tryz.f66; rfl) (by kernel_rfl) ?_
  simp [CfgR.cells, upd_ne, hFs, hw, show s < s + 1 + 1 by omega]
  refine ⟨hB.new.new, ?_⟩
  refine wp_bd ((calm hE _).ls _ _) hB.new.new ?_
  refine rnew14_wp hE _ _ _ (New.own hN (by omega)) fun H1 s1 f1 u1 b1 => ?_
  have k1 := (f1.keep s (by omega) (by simp)).trans ((upd_ne _ _ (by omega)).trans (upd_same _ _ _))
  have k1' := (f1.keep (s + 1) (by omega) (by simp)).trans (upd_same _ _ _)
  simp [k1, hFs, show s < s + 1 + 1 by omega]
  refine ⟨by omega, b1, ?_⟩
  refine rnew15_wp hE _ _ _ (New.own hN (by omega)) fun H2 s2 e f2 he1 he2 v2 => ?_
  have k2' := (f2.keep (s + 1) (by omega) (by simp)).trans k1'
  simp [conn14, k2', hFs1]
  have up1 := f1.up; have up2 := f2.up
  exact h _ _ e ((((Fr.refl _ _ _).new.new.comp f1 (by simp)).comp f2 (by simp)).made (by omega)) (by omega) he2 (v2.keep (upd_ne _ _ (by omega)))
/-- The document's link that is new: its parts' rows. -/
structure RefLink (H : AH) (s : Nat) (c : CfgA) (d o d' o' : Nat) (q u q0 q1 e0 e1 : Nat) : Prop where
  lt : q < s ∧ u < s ∧ e0 < s ∧ e1 < s
  nodes : H q = some (.cells (refNode c.a d o e0 ++ refNode c.b d' o' e1) 122 true)
  pipes : H u = some (.cells [.slice (some ⟨q0, 0, none⟩) 0 0, .slice (some ⟨q1, 0, none⟩) 0 0] 70 true)
  l0 : Five H e0 0 0 0 0 0 0
  l1 : Five H e1 0 0 0 0 0 0
theorem rnew18_wp (hE : Bare E) (n : Nat) (c : CfgA) {d o d' o' : Nat} (ha : 0 ≤ c.a.start ∧ c.a.start ≤ 16777215 ∧ 1 ≤ c.a.window ∧ c.a.window ≤ 64) (hb : 0 ≤ c.b.start ∧ c.b.start ≤ 16777215 ∧ 1 ≤ c.b.window ∧ c.b.window ≤ 64) (hN : New F G s) (hB : Bd H s)
    (h : ∀ H' s' q u q0 q1 e0 e1, Fr [] H s H' s' → s ≤ q → s ≤ u → s ≤ e0 → s ≤ e1 → RefLink H' s' c d o d' o' q u q0 q1 e0 e1 → Q (.agg #[.slice (some ⟨q, 0, none⟩) 2 2, .slice (some ⟨u, 0, none⟩) 2 2, .int .i64 c.room]) H' s') : Wp F G (aCall Tryz.prog E (n + 4) 27 #[.agg (c.a.cells d o).toArray, .agg (c.b.cells d' o').toArray, .int .i64 c.room]) H s Q := by
  have hFs := hN s (Nat.le_refl _)
  have hFs1 := hN (s + 1) (by omega)
  have hFs2 := hN (s + 2) (by omega)
  refine enter (calm hE _) [(1, [2, 0], [5, 6, 7], [1, 3])] (hE.no _ (by decide)) Tryz.func27 Tryz.ntmps27 (by unfold Tryz.f27; rfl) (by unfold Tryz.f27; rfl) (by kernel_rfl) ?_
  simp [CfgR.cells, upd_ne, hFs, hFs1, show s ≠ s + 1 + 1 by omega, show s < s + 1 + 1 + 1 by omega, show s + 1 < s + 1 + 1 + 1 by omega]
  refine ⟨hB.new.new.new, ?_⟩
  refine wp_bd ((calm hE _).ls _ _) hB.new.new.new ?_
  refine rnew16_wp hE _ c.a ha (New.own hN (by omega)) hB.new.new.new fun H1 s1 e0 f1 he1 he2 v1 u1 b1 => ?_
  have k1 := (f1.keep (s + 1) (by omega) (by simp)).trans ((upd_ne _ _ (by omega)).trans (upd_same _ _ _))
  simp [k1, hFs1, show s + 1 < s + 1 + 1 + 1 by omega]
  refine ⟨by omega, b1, ?_⟩
  have hc : ∀ x : Nat, True := fun _ => trivial
  refine wp_bd ((calm hE _).ls _ _) b1 ?_
  refine rnew16_wp hE _ c.b hb (New.own hN (by omega)) b1 fun H2 s2 e1 f2 he3 he4 v2 u2 b2 => ?_
  have up1 := f1.up; have up2 := f2.up
  have k2 := (f2.keep (s + 2) (by omega) (by simp)).trans ((f1.keep (s + 2) (by omega) (by simp)).trans (upd_same _ _ _))
  have hG1 := hN s2 (by omega)
  have k2' : H2 (s + 1 + 1) = _ := k2
  have hF2' := hN (s + 1 + 1) (by omega)
  simp [refNode, CfgR.cells, conn14, upd_ne, show s + 1 + 1 ≤ s2 by omega, show s + 1 ≤ s2 by omega, show s ≤ s2 by omega, show s + 1 + 1 ≠ s2 by omega, show s + 1 ≠ s2 by omega, show s ≠ s2 by omega, show s ≠ s2 + 1 by omega, k2', hF2']
  have g2 : Fr [] H s H2 s2 := ((Fr.refl _ _ _).new.new.new.comp f1 (by simp)).comp f2 (by simp)
  refine h _ _ s2 (s2 + 1 + 1 + 1) (s2 + 1) (s2 + 1 + 1) e0 e1 (g2.new.new.new.new.made (show s ≤ s + 1 + 1 by omega)) (by omega) (by omega) (by omega) (by omega) ⟨by omega, ?_, ?_, ?_, ?_⟩
  · exact (upd_ne _ _ (by omega)).trans ((upd_ne _ _ (by omega)).trans ((upd_ne _ _ (by omega)).trans ((upd_ne _ _ (by omega)).trans (upd_same _ _ _))))
  · exact (upd_ne _ _ (by omega)).trans (upd_same _ _ _)
  · exact v1.keep ((upd_ne _ _ (by omega)).trans ((upd_ne _ _ (by omega)).trans ((upd_ne _ _ (by omega)).trans ((upd_ne _ _ (by omega)).trans ((upd_ne _ _ (by omega)).trans (f2.keep _ (by omega) (by simp)))))))
  · exact v2.keep ((upd_ne _ _ (by omega)).trans ((upd_ne _ _ (by omega)).trans ((upd_ne _ _ (by omega)).trans ((upd_ne _ _ (by omega)).trans (upd_ne _ _ (by omega))))))
end Go.Proofs.YtkabaecoamilnaaGreatDoor
end
section
namespace Go.Proofs.YtkabaecoamilnaaGreatDoor
open Go AX
variable {E : FuncId → Option (Array Value → AX Value)} {F G : Nat → Prop} {H : AH} {s b : Nat} {Q : Value → AH → Nat → Prop}
set_option maxRecDepth 10000
set_option maxHeartbeats 4000000
section
variable {c : CfgN} {bc bp br : Nat}
theorem left_idle (hE : Bare E) (n : Nat) (I : IdleNode F H s c b bc bp br) (t : Int) (ht : 0 ≤ t ∧ t < 5) (h : Q (.int .i64 0) H s) : Wp F G (aCall Tryz.prog E (n + 2) 183 #[ptr bp, .int .i64 t]) H s Q := by
  have e1 : aCall Tryz.prog E (n + 1) 245 #[.int .i64 t] = ret (.bool true) := by
    refine dry_eq fun H s => ?_
    refine enter (calm hE _) [] (hE.no _ (by decide)) Tryz.func245 Tryz.ntmps245 (by unfold Tryz.f245; rfl) (by unfold Tryz.f245; rfl) (by kernel_rfl) ?_
    simp [ht.1, ht.2]
  refine enter (calm hE _) [] (hE.no _ (by decide)) Tryz.func183 Tryz.ntmps183 (by unfold Tryz.f183; rfl) (by unfold Tryz.f183; rfl) (by kernel_rfl) ?_
  obtain rfl | rfl | rfl | rfl | rfl : t = 0 ∨ t = 1 ∨ t = 2 ∨ t = 3 ∨ t = 4 := by omega
  all_goals
    simp [e1, I.pace, PaceS.blk, PaceS.cells, CfgN.pace, PaceS.of, I.rd.2.2.1]
    exact h
theorem safe_idle (hE : Bare E) (n : Nat) (I : IdleNode F H s c b bc bp br) (h : Q (.bool true) H s) : Wp F G (aCall Tryz.prog E (n + 4) 88 #[ptr b]) H s Q := by
  refine enter (calm hE _) [] (hE.no _ (by decide)) Tryz.func88 Tryz.ntmps88 (by unfold Tryz.f88; rfl) (by unfold Tryz.f88; rfl) (by kernel_rfl) ?_
  simp [I.node, CfgN.cells, I.rd.1]
  refine enter (calm hE _) [] (hE.no _ (by decide)) Tryz.func185 Tryz.ntmps185 (by unfold Tryz.f185; rfl) (by unfold Tryz.f185; rfl) (by kernel_rfl) ?_
  simp
  refine left_idle hE _ I 3 (by omega) ?_
  simp
  exact h
theorem cvars_idle (hE : Bare E) (n : Nat) (I : IdleNode F H s c b bc bp br) (hN : New F G s) (h : ∀ H' s', Fr [] H s H' s' → Q (.agg #[.int .i64 1, .int .i64 0, .int .i64 (-1), .int .i64 0, .int .u32 ((c.start + c.window) % 16777216)]) H' s') : Wp F G (aCall Tryz.prog E (n + 1) 131 #[ptr bc]) H s Q := by
  have hFs := hN s (Nat.le_refl _)
  have hlt := I.lt
  refine enter (calm hE _) [] (hE.no _ (by decide)) Tryz.func131 Tryz.ntmps131 (by unfold Tryz.f131; rfl) (by unfold Tryz.f131; rfl) (by kernel_rfl) ?_
  simp [upd_ne, show bc ≠ s by omega, I.conn, ConnS.blk, ConnS.cells, ConnS.new, I.rd.2.1, hFs]
  exact h _ _ (Fr.refl _ _ _).new
theorem IdleNode.may {F' : Nat → Prop} (I : IdleNode F H s c b bc bp br) (h : ∀ k, k < s → F k → F' k) : IdleNode F' H s c b bc bp br :=
  ⟨I.lt, ⟨h _ I.lt.1 I.rd.1, h _ I.lt.2.1 I.rd.2.1, h _ I.lt.2.2.1 I.rd.2.2.1, h _ I.lt.2.2.2 I.rd.2.2.2⟩, I.pace, I.conn, I.ring, I.node⟩
/-- An idle end's numbers. -/
def idleVars (c : CfgN) : List Value := [.int .i64 1, .int .i64 0, .int .i64 (-1), .int .i64 0, .int .u32 ((c.start + c.window) % 16777216), .int .u32 0, .int .u32 0, .int .u32 0, .int .u32 0, .int .u32 0, .int .i64 0, .int .i64 0, .int .i64 0, nilS, .int .u32 0, .int .u32 0, .int .u32 0, .int .i64 0, .int .i64 0, .int .i64 0, .int .i64 0, .int .i64 0, .int .i64 0, .bool false, .bool false, .bool false, .int .i64 0, .int .i64 0, .int .i64 0, .int .i64 0, .int .i64 0]
theorem vars_idle (hE : Bare E) (n : Nat) (I : IdleNode F H s c b bc bp br) (hN : New F G s) (hB : Bd H s) (h : ∀ H' s', Fr [] H s H' s' → Q (.agg (idleVars c).toArray) H' s') : Wp F G (aCall Tryz.prog E (n + 3) 86 #[ptr b]) H s Q := by
  have hFs := hN s (Nat.le_refl _)
  have hlt := I.lt
  have g0 : ∀ x, Fr [] H s (upd H s x) (s + 1) := fun x => (Fr.refl _ _ _).new
  refine enter (calm hE _) [(1, [8, 9, 13, 18, 19, 23, 27, 31, 3, 14], [33], [4]), (3, [8], [], [4])] (hE.no _ (by decide)) Tryz.func86 Tryz.ntmps86 (by unfold Tryz.f86; rfl) (by unfold Tryz.f86; rfl) (by kernel_rfl) ?_
  simp [upd_ne, show b ≠ s by omega, I.node, CfgN.cells, I.rd.1, show b < s + 1 by omega, hB.new]
  refine cvars_idle hE _ ((I.may fun k hk hF => ⟨hF, .inl (by omega)⟩).keep (g0 _)) (New.own hN (by omega)) fun H1 s1 f1 => ?_
  have up1 := f1.up
  have g1 : Fr [] H s H1 s1 := (g0 _).comp f1 (by simp)
  have J := I.keep g1
  have k1 := (f1.keep s (by omega) (by simp)).trans (upd_same _ _ _)
  simp [J.node, CfgN.cells, J.rd.1, show b < s + 1 by omega]
  refine ulen_idle hE _ ((I.may fun k hk hF => ⟨hF, by omega⟩).keep g1) ?_
  have hF1 := hN s1 (by omega)
  have hbs : b ≠ s1 := by omega
  simp [J.node, CfgN.cells, J.rd.1, show b < s + 1 by omega, show s + 1 ≤ s1 by omega, hF1]
  refine ready_idle hE _ (J.keep (Fr.refl _ _ _).new) ?_
  have hss : s ≠ s1 := by omega
  simp
  refine wp_rounds 6 (by decide) ?_
  simp [wp_round, upd_ne, hbs, J.node, CfgN.cells, J.rd.1]
  refine left_idle hE _ (J.keep (Fr.refl _ _ _).new) 0 (by omega) ?_
  simp [hF1, wp_round, upd_ne, hbs, J.node, CfgN.cells, J.rd.1, hss, k1, hFs]
  refine left_idle hE _ (J.keep (Fr.refl _ _ _).new) 1 (by omega) ?_
  simp [hF1, wp_round, upd_ne, hbs, J.node, CfgN.cells, J.rd.1, hss, k1, hFs]
  refine left_idle hE _ (J.keep (Fr.refl _ _ _).new) 2 (by omega) ?_
  simp [hF1, wp_round, upd_ne, hbs, J.node, CfgN.cells, J.rd.1, hss, k1, hFs]
  refine left_idle hE _ (J.keep (Fr.refl _ _ _).new) 3 (by omega) ?_
  simp [hF1, wp_round, upd_ne, hbs, J.node, CfgN.cells, J.rd.1, hss, k1, hFs]
  refine left_idle hE _ (J.keep (Fr.refl _ _ _).new) 4 (by omega) ?_
  simp [hF1, wp_round, upd_ne, hbs, J.node, CfgN.cells, J.rd.1, hss, k1, hFs]
  exact h _ _ (g1.new.made (Nat.le_refl s))
/-- What the document's functions say of an end that is new. -/
theorem ready16_idle (hE : Bare E) (n : Nat) (r : CfgR) (d o e : Nat) (hN : New F G s) (h : ∀ H' s', Fr [] H s H' s' → Q (.bool false) H' s') : Wp F G (aCall Tryz.prog E (n + 1) 90 #[.agg (refNode r d o e).toArray]) H s Q := by
  have hFs := hN s (Nat.le_refl _)
  refine enter (calm hE _) [] (hE.no _ (by decide)) Tryz.func90 Tryz.ntmps90 (by unfold Tryz.f90; rfl) (by unfold Tryz.f90; rfl) (by kernel_rfl) ?_
  simp [refNode, CfgR.cells, conn14, hFs]
  exact h _ _ (Fr.refl _ _ _).new
theorem quiet16_idle (hE : Bare E) (n : Nat) (r : CfgR) (d o e : Nat) (hN : New F G s) (h : ∀ H' s', Fr [] H s H' s' → Q (.bool true) H' s') : Wp F G (aCall Tryz.prog E (n + 2) 87 #[.agg (refNode r d o e).toArray]) H s Q := by
  have hFs := hN s (Nat.le_refl _)
  refine enter (calm hE _) [] (hE.no _ (by decide)) Tryz.func87 Tryz.ntmps87 (by unfold Tryz.f87; rfl) (by unfold Tryz.f87; rfl) (by kernel_rfl) ?_
  simp [refNode, CfgR.cells, conn14, hFs]
  refine ready16_idle hE _ r d o e (hN.up (Nat.le_succ _)) fun H1 s1 f1 => ?_
  simp
  exact h _ _ ((Fr.refl _ _ _).new.comp f1 (by simp))
theorem safe15_idle (hE : Bare E) (n : Nat) (d o e : Nat) (hN : New F G s) (hv : Five H e 0 0 0 0 0 0) (he : e < s) (hF : F e) (h : ∀ H' s', Fr [] H s H' s' → Q (.bool true) H' s') : Wp F G (aCall Tryz.prog E (n + 1) 89 #[.agg #[sl5 d o, sl5 e 0]]) H s Q := by
  have hFs := hN s (Nat.le_refl _)
  obtain ⟨cs, T, wr, h0, e0, e1, e2, e3, e4⟩ := hv.at_
  refine enter (calm hE _) [] (hE.no _ (by decide)) Tryz.func89 Tryz.ntmps89 (by unfold Tryz.f89; rfl) (by unfold Tryz.f89; rfl) (by kernel_rfl) ?_
  simp at e0 e1 e2 e3 e4
  simp [hFs, upd_ne, show e ≠ s by omega, h0, hF, e3]
  exact h _ _ (Fr.refl _ _ _).new
end
end Go.Proofs.YtkabaecoamilnaaGreatDoor
end
section
namespace Go.Proofs.YtkabaecoamilnaaGreatDoor
open Go AX
variable {E : FuncId → Option (Array Value → AX Value)} {F G : Nat → Prop} {H : AH} {s b : Nat} {Q : Value → AH → Nat → Prop}
set_option maxRecDepth 10000
set_option maxHeartbeats 4000000
section
variable {c : CfgN} {bc bp br : Nat}
theorem is16_idle (hE : Bare E) (n : Nat) (I : IdleNode F H s c b bc bp br) (r : CfgR) (d o e : Nat) (hN : New F G s) (hB : Bd H s) (hv : Five H e 0 0 0 0 0 0) (he : e < s) (hF : F e) (h : ∀ H' s', Fr [] H s H' s' → Q (.bool true) H' s') : Wp F G (aCall Tryz.prog E (n + 5) 35 #[ptr b, .agg (refNode r d o e).toArray]) H s Q := by
  have hFs := hN s (Nat.le_refl _)
  have g0 : ∀ x, Fr [] H s (upd H s x) (s + 1) := fun x => (Fr.refl _ _ _).new
  refine enter (calm hE _) [(10, [2], [], [1])] (hE.no _ (by decide)) Tryz.func35 Tryz.ntmps35 (by unfold Tryz.f35; rfl) (by unfold Tryz.f35; rfl) (by kernel_rfl) ?_
  simp [refNode, CfgR.cells, conn14]
  refine wp_bd ((calm hE _).ls _ _) hB.new ?_
  refine vars_idle hE _ (I.keep (g0 _)) (hN.up (Nat.le_succ _)) hB.new fun H1 s1 f1 u1 b1 => ?_
  have g1 := (g0 _).comp f1 (by simp)
  have k1 := (f1.keep s (by omega) (by simp)).trans (upd_same _ _ _)
  have hF1 := hN s1 (by omega)
  have hss : s ≠ s1 := by omega
  simp [idleVars, hF1, upd_ne, hss, k1, hFs]
  obtain ⟨cs, T, wr, h0, e0, e1, e2, e3, e4⟩ := (hv.keep ((g1.new (x := some (.cells (idleVars c) 203 true))).keep e he (by simp))).at_
  simp at e0 e1 e2 e3 e4
  have hes : e ≠ s1 := by omega
  have h0' : H1 e = some (.cells cs T wr) := (upd_ne _ _ hes).symm.trans h0
  refine wp_rounds 6 (by decide) ?_
  simp [wp_round, upd_ne, hes, h0', hF, e0, e1, e2, e3, e4, hF1]
  have J := I.keep (g1.new (x := some (.cells (idleVars c) 203 true)))
  have k2 : upd H1 s1 (some (.cells (idleVars c) 203 true)) s = _ := (upd_ne _ _ hss).trans k1
  simp only [idleVars] at J k2
  refine ⟨b1.new, ?_⟩
  refine nquiet_idle hE _ (J.may fun k hk hF => ⟨hF, .inl hk⟩) ?_
  simp [k2, hFs, show s < s1 + 1 by omega]
  refine quiet16_idle hE _ r d o e (hN.up (by omega)) fun H2 s2 f2 => ?_
  have g2 := g1.new.comp f2 (by simp)
  have k3 := (f2.keep s (by omega) (by simp)).trans k2
  have up2 := f2.up
  simp
  refine safe_idle hE _ (I.keep g2) ?_
  simp [k3, hFs]
  refine safe15_idle hE _ d o e (hN.up (by omega)) (hv.keep (g2.keep e he (by simp))) (by omega) hF fun H3 s3 f3 => ?_
  have up3 := f3.up
  have k4 := (f3.keep s (by omega) (by simp)).trans k3
  simp [k4, hFs]
  refine ready16_idle hE _ r d o e (hN.up (by omega)) fun H4 s4 f4 => ?_
  have k5 : H4 s1 = _ := (f4.keep s1 (by omega) (by simp)).trans ((f3.keep s1 (by omega) (by simp)).trans ((f2.keep s1 (by omega) (by simp)).trans (upd_same _ _ _)))
  simp [k5, hF1]
  exact h _ _ ((g2.comp f3 (by simp)).comp f4 (by simp))
end
end Go.Proofs.YtkabaecoamilnaaGreatDoor
end
section
namespace Go.Proofs.YtkabaecoamilnaaGreatDoor
open Go AX
variable {E : FuncId → Option (Array Value → AX Value)} {F G : Nat → Prop} {H : AH} {s b : Nat} {Q : Value → AH → Nat → Prop}
set_option maxRecDepth 10000
set_option maxHeartbeats 4000000
theorem RefLink.keep {H' : AH} {s' : Nat} {c : CfgA} {d o d' o' q u q0 q1 e0 e1 : Nat} (R : RefLink H s c d o d' o' q u q0 q1 e0 e1) (f : Fr [] H s H' s') : RefLink H' s' c d o d' o' q u q0 q1 e0 e1 := by
  have up := f.up
  obtain ⟨h1, h2, h3, h4⟩ := R.lt
  exact ⟨by omega, (f.keep _ h1 (by simp)).trans R.nodes, (f.keep _ h2 (by simp)).trans R.pipes, R.l0.keep (f.keep _ h3 (by simp)), R.l1.keep (f.keep _ h4 (by simp))⟩
section
variable {c : CfgA} {d o d' o' q u q0 q1 e0 e1 : Nat}
theorem rn_len (r : CfgR) (d o e : Nat) : (refNode r d o e).length = 43 := rfl
theorem rn_take (r : CfgR) (d o e : Nat) (X : List Value) : List.take 43 (refNode r d o e ++ X) = refNode r d o e := List.take_left' (rn_len r d o e)
theorem rn_drop (r r' : CfgR) (d o e d' o' e' : Nat) : List.take 43 (List.drop 43 (refNode r d o e ++ refNode r' d' o' e')) = refNode r' d' o' e' := by
  rw [List.drop_left' (rn_len r d o e)]
  exact List.take_of_length_le (by rw [rn_len]; exact Nat.le_refl _)
theorem quiet18_idle (hE : Bare E) (n : Nat) (R : RefLink H s c d o d' o' q u q0 q1 e0 e1) (hN : New F G s) (hF : F q ∧ F u) (h : ∀ H' s', Fr [] H s H' s' → Q (.bool true) H' s') : Wp F G (aCall Tryz.prog E (n + 3) 37 #[.agg #[.slice (some ⟨q, 0, none⟩) 2 2, .slice (some ⟨u, 0, none⟩) 2 2, .int .i64 c.room]]) H s Q := by
  have hFs := hN s (Nat.le_refl _)
  have hlt := R.lt
  have g0 : ∀ x, Fr [] H s (upd H s x) (s + 1) := fun x => (Fr.refl _ _ _).new
  refine enter (calm hE _) [(1, [], [], [])] (hE.no _ (by decide)) Tryz.func37 Tryz.ntmps37 (by unfold Tryz.f37; rfl) (by unfold Tryz.f37; rfl) (by kernel_rfl) ?_
  simp [upd_ne, show u ≠ s by omega, show q ≠ s by omega, R.pipes, hF.1, hF.2, hFs, R.nodes, rn_len, rn_take]
  refine quiet16_idle hE _ c.a d o e0 (hN.up (Nat.le_succ _)) fun H1 s1 f1 => ?_
  have up1 := f1.up
  have R1 := R.keep ((g0 _).comp f1 (by simp))
  have k1 := (f1.keep s (by omega) (by simp)).trans (upd_same _ _ _)
  simp [k1, R1.pipes, hF.1, hF.2, hFs, R1.nodes, rn_len, rn_drop]
  refine quiet16_idle hE _ c.b d' o' e1 (hN.up (by omega)) fun H2 s2 f2 => ?_
  simp
  exact h _ _ (((g0 _).comp f1 (by simp)).comp f2 (by simp))
theorem node_at (hE : Bare E) (n : Nat) {cl : CfgL} {i : LinkIds} (I : IdleLink F G H s cl i) (e : Int) (he : e = 0 ∨ e = 1) (h : Q (ptr (if e = 0 then i.n0 else i.n1)) H s) : Wp F G (aCall Tryz.prog E (n + 2) 23 #[ptr i.l, .int .i64 e]) H s Q := by
  refine enter (calm hE _) [] (hE.no _ (by decide)) Tryz.func23 Tryz.ntmps23 (by unfold Tryz.f23; rfl) (by unfold Tryz.f23; rfl) (by kernel_rfl) ?_
  rcases he with rfl | rfl
  · simp [is_end hE, I.link, I.rd]
    exact h
  · simp [is_end hE, I.link, I.rd]
    exact h
theorem pipe_at (hE : Bare E) (n : Nat) {cl : CfgL} {i : LinkIds} (I : IdleLink F G H s cl i) (e : Int) (he : e = 0 ∨ e = 1) (h : Q (ptr (if e = 0 then i.p0 else i.p1)) H s) : Wp F G (aCall Tryz.prog E (n + 2) 16 #[ptr i.l, .int .i64 e]) H s Q := by
  refine enter (calm hE _) [] (hE.no _ (by decide)) Tryz.func16 Tryz.ntmps16 (by unfold Tryz.f16; rfl) (by unfold Tryz.f16; rfl) (by kernel_rfl) ?_
  rcases he with rfl | rfl
  · simp [is_end hE, I.link, I.rd]
    exact h
  · simp [is_end hE, I.link, I.rd]
    exact h
theorem is18_idle (hE : Bare E) (n : Nat) {cl : CfgL} {i : LinkIds} (I : IdleLink F G H s cl i) (R : RefLink H s c d o d' o' q u q0 q1 e0 e1) (hN : New F G s) (hB : Bd H s) (hF : F q ∧ F u ∧ F e0 ∧ F e1) (h : ∀ H' s', Fr [] H s H' s' → Q (.bool true) H' s') : Wp F G (aCall Tryz.prog E (n + 6) 13 #[ptr i.l, .agg #[.slice (some ⟨q, 0, none⟩) 2 2, .slice (some ⟨u, 0, none⟩) 2 2, .int .i64 c.room]]) H s Q := by
  have hFs := hN s (Nat.le_refl _)
  have hlt := R.lt
  have g0 : ∀ x, Fr [] H s (upd H s x) (s + 1) := fun x => (Fr.refl _ _ _).new
  refine enter (calm hE _) [(5, [], [], []), (14, [2], [], [1])] (hE.no _ (by decide)) Tryz.func13 Tryz.ntmps13 (by unfold Tryz.f13; rfl) (by unfold Tryz.f13; rfl) (by kernel_rfl) ?_
  simp
  refine wp_rounds 3 (by decide) ?_
  simp [wp_round]
  refine node_at hE _ (I.keep (g0 _)) 0 (.inl rfl) ?_
  simp
  refine pipe_at hE _ (I.keep (g0 _)) 0 (.inl rfl) ?_
  simp [hFs, upd_ne, show q ≠ s by omega, R.nodes, rn_len, rn_take, hF.1]
  refine wp_bd ((calm hE _).ls _ _) hB.new ?_
  refine is16_idle hE _ (I.n0.keep (g0 _)) c.a d o e0 (hN.up (Nat.le_succ _)) hB.new (R.l0.keep (upd_ne _ _ (by omega))) (by omega) hF.2.2.1 fun H1 s1 f1 u1 b1 => ?_
  have g1 := (g0 (some (.cells [.slice (some ⟨q, 0, none⟩) 2 2, .slice (some ⟨u, 0, none⟩) 2 2, .int .i64 c.room] 32 true))).comp f1 (by simp)
  have k1 := (f1.keep s (by omega) (by simp)).trans (upd_same _ _ _)
  have I1 := I.keep g1
  have R1 := R.keep g1
  simp [I1.p0.pipe, I1.p0.rd.1]
  refine slen_idle hE _ I1.p0 ?_
  simp [k1, hFs, R1.pipes, hF.2.1, I1.p0.pipe, I1.p0.rd.1]
  refine all_idle hE _ I1.p0 ?_
  simp
  refine wp_rounds 1 (by decide) ?_
  simp [wp_round]
  refine node_at hE _ I1 1 (.inr rfl) ?_
  simp
  refine pipe_at hE _ I1 1 (.inr rfl) ?_
  simp [k1, hFs, R1.nodes, rn_len, rn_drop, hF.1]
  refine wp_bd ((calm hE _).ls _ _) b1 ?_
  refine is16_idle hE _ I1.n1 c.b d' o' e1 (hN.up (by omega)) b1 R1.l1 R1.lt.2.2.2 hF.2.2.2 fun H2 s2 f2 u2 b2 => ?_
  have g2 := g1.comp f2 (by simp)
  have k2 := (f2.keep s (by omega) (by simp)).trans k1
  have I2 := I.keep g2
  have R2 := R.keep g2
  simp [I2.p1.pipe, I2.p1.rd.1]
  refine slen_idle hE _ I2.p1 ?_
  simp [k2, hFs, R2.pipes, hF.2.1, I2.p1.pipe, I2.p1.rd.1]
  refine all_idle hE _ I2.p1 ?_
  simp
  refine wp_rounds 1 (by decide) ?_
  simp [wp_round, b2]
  refine quiet_idle hE _ (I2.may fun k hk hF => ⟨hF, .inl hk⟩) (New.own hN (by omega)) fun H3 s3 f3 => ?_
  have k3 := (f3.keep s (by omega) (by simp)).trans k2
  have up3 := f3.up
  simp [k3, hFs, show s < s2 by omega]
  refine quiet18_idle hE _ (R2.keep f3) (hN.up (by omega)) ⟨hF.1, hF.2.1⟩ fun H4 s4 f4 => ?_
  simp
  exact h _ _ ((g2.comp f3 (by simp)).comp f4 (by simp))
end
end Go.Proofs.YtkabaecoamilnaaGreatDoor
end
section
namespace Go.Proofs.YtkabaecoamilnaaGreatDoor
open Go AX
variable {E : FuncId → Option (Array Value → AX Value)} {F G : Nat → Prop} {H : AH} {s b : Nat} {Q : Value → AH → Nat → Prop}
set_option maxRecDepth 10000
set_option maxHeartbeats 4000000
theorem bi_max3 {P : Program} {ts : Array TypeId} {k : IntKind} {x y z : Int} : aBuiltin P .max ts #[.int k x, .int k y, .int k z] = ret (.int k (max (max x y) z)) := by
  have e : ∀ x y : Int, (if x < y then y else x) = max x y := by intros; omega
  have e' : ∀ x y : Int, (if y > x then y else x) = max x y := by intros; omega
  unfold aBuiltin
  simp [flat, scalar, ofStat, Builtin.max_, Builtin.max2, Bind.bind, pure, Sem.bind, stat, e, e']
/-- A row of numbers that can be read, up to five of it. -/
def Nums (F : Nat → Prop) (H : AH) (s : Nat) (a : Option Addr) (k : Nat) (z : Nat → Int) : Prop := k = 0 ∨ ∃ d o cs T wr, a = some ⟨d, o, none⟩ ∧ F d ∧ d < s ∧ H d = some (.cells cs T wr) ∧ ∀ i, i < k → cs[o + i]? = some (.int .i64 (z i))
theorem Nums.keep {H' : AH} {s' : Nat} {a : Option Addr} {k : Nat} {z : Nat → Int} (h : Nums F H s a k z) (f : Fr [] H s H' s') : Nums F H' s' a k z := by
  rcases h with h | ⟨d, o, cs, T, wr, h1, h2, h3, h4, h5⟩
  · exact .inl h
  · exact .inr ⟨d, o, cs, T, wr, h1, h2, by have := f.up; omega, (f.keep _ h3 (by simp)).trans h4, h5⟩
theorem Nums.may {F' : Nat → Prop} {a : Option Addr} {k : Nat} {z : Nat → Int} (h : Nums F H s a k z) (m : ∀ k, k < s → F k → F' k) : Nums F' H s a k z := by
  rcases h with h | ⟨d, o, cs, T, wr, h1, h2, h3, h4, h5⟩
  · exact .inl h
  · exact .inr ⟨d, o, cs, T, wr, h1, m d h3 h2, h3, h4, h5⟩
/-- Numbers that a pace may have. -/
structure Ticks5 (c0 c1 c2 c3 c4 : Int) : Prop where
  b0 : 1 ≤ c0 ∧ c0 ≤ 40
  b1 : 1 ≤ c1 ∧ c1 ≤ 40
  b2 : 1 ≤ c2 ∧ c2 ≤ 40
  b3 : 1 ≤ c3 ∧ c3 ≤ 41 ∧ c1 < c3 ∧ c2 < c3
  b4 : 1 ≤ c4 ∧ c4 ≤ 40
theorem right15_wp (hE : Bare E) (n : Nat) {a : Option Addr} {k : Nat} {z : Nat → Int} (hk : k < 9223372036854775808) (hz : Nums F H s a k z) (hN : New F G s) (h : ∀ H' s' e c0 c1 c2 c3 c4, Fr [] H s H' s' → s ≤ e → e < s' → Five H' e 0 c0 c1 c2 c3 c4 → Ticks5 c0 c1 c2 c3 c4 → Q (sl5 e 0) H' s') : Wp F G (aCall Tryz.prog E (n + 1) 134 #[.slice a k k]) H s Q := by
  have hFs := hN s (Nat.le_refl _)
  have fin : ∀ c0 c1 c2 c3 c4, Ticks5 c0 c1 c2 c3 c4 → Q (sl5 s 0) (upd H s (some (.cells [.int .i64 c0, .int .i64 c1, .int .i64 c2, .int .i64 c3, .int .i64 c4] 3 true))) (s + 1) := by
    intro c0 c1 c2 c3 c4 t
    exact h _ _ s _ _ _ _ _ ⟨by omega, fun k hk _ => upd_ne _ _ (by omega)⟩ (Nat.le_refl _) (by omega) (five_new (upd_same _ _ _)) t
  have big : ∀ x : Int, IntKind.i64.wrap (max 1 (min x 40) + 1) = max 1 (min x 40) + 1 := fun x => wrap64_small (by omega) (by omega)
  refine enter (calm hE _) [(6, [], [], [])] (hE.no _ (by decide)) Tryz.func134 Tryz.ntmps134 (by unfold Tryz.f134; rfl) (by unfold Tryz.f134; rfl) (by kernel_rfl) ?_
  simp [bi_max3]
  refine wp_rounds 6 (by decide) ?_
  rcases (show (¬ (0 : Int) < k ∧ ¬ 0 < k) ∨ ((0 : Int) < k ∧ 0 < k) by omega) with ⟨h0, g0⟩ | ⟨h0, g0⟩
  · simp [wp_round, h0, g0, hFs, bi_max3, big]
    exact fin _ _ _ _ _ ⟨by omega, by omega, by omega, by omega, by omega⟩
  obtain ⟨d, o, cs, T, wr, rfl, hd, hds, hc, hi⟩ : ∃ d o cs T wr, a = some ⟨d, o, none⟩ ∧ F d ∧ d < s ∧ H d = some (.cells cs T wr) ∧ ∀ i, i < k → cs[o + i]? = some (.int .i64 (z i)) := hz.resolve_left (by omega)
  have hne : d ≠ s := by omega
  have i0 := hi 0 (by omega)
  rw [Nat.add_zero] at i0
  rcases (show (¬ (1 : Int) < k ∧ ¬ 1 < k) ∨ ((1 : Int) < k ∧ 1 < k) by omega) with ⟨h1, g1⟩ | ⟨h1, g1⟩
  · simp [wp_round, hd, hc, upd_ne, hne, h0, g0, i0, h1, g1, hFs, bi_max3, big]
    exact fin _ _ _ _ _ ⟨by omega, by omega, by omega, by omega, by omega⟩
  have i1 := hi 1 (by omega)
  rcases (show (¬ (2 : Int) < k ∧ ¬ 2 < k) ∨ ((2 : Int) < k ∧ 2 < k) by omega) with ⟨h2, g2⟩ | ⟨h2, g2⟩
  · simp [wp_round, hd, hc, upd_ne, hne, h0, g0, i0, h1, g1, i1, h2, g2, hFs, bi_max3, big]
    exact fin _ _ _ _ _ ⟨by omega, by omega, by omega, by omega, by omega⟩
  have i2 := hi 2 (by omega)
  rcases (show (¬ (3 : Int) < k ∧ ¬ 3 < k) ∨ ((3 : Int) < k ∧ 3 < k) by omega) with ⟨h3, g3⟩ | ⟨h3, g3⟩
  · simp [wp_round, hd, hc, upd_ne, hne, h0, g0, i0, h1, g1, i1, h2, g2, i2, h3, g3, hFs, bi_max3, big]
    exact fin _ _ _ _ _ ⟨by omega, by omega, by omega, by omega, by omega⟩
  have i3 := hi 3 (by omega)
  rcases (show (¬ (4 : Int) < k ∧ ¬ 4 < k) ∨ ((4 : Int) < k ∧ 4 < k) by omega) with ⟨h4, g4⟩ | ⟨h4, g4⟩
  · simp [wp_round, hd, hc, upd_ne, hne, h0, g0, i0, h1, g1, i1, h2, g2, i2, h3, g3, i3, h4, g4, hFs, bi_max3, big]
    exact fin _ _ _ _ _ ⟨by omega, by omega, by omega, by omega, by omega⟩
  have i4 := hi 4 (by omega)
  rcases (show ¬ (5 : Int) < k ∨ (5 : Int) < k by omega) with h5 | h5
  · simp [wp_round, hd, hc, upd_ne, hne, h0, g0, i0, h1, g1, i1, h2, g2, i2, h3, g3, i3, h4, g4, i4, hFs, bi_max3, big, h5]
    exact fin _ _ _ _ _ ⟨by omega, by omega, by omega, by omega, by omega⟩
  · simp [wp_round, hd, hc, upd_ne, hne, h0, g0, i0, h1, g1, i1, h2, g2, i2, h3, g3, i3, h4, g4, i4, hFs, bi_max3, big, h5]
    exact fin _ _ _ _ _ ⟨by omega, by omega, by omega, by omega, by omega⟩
theorem rin_eq (hE : Bare E) (n : Nat) (x m : Int) : aCall Tryz.prog E (n + 1) 133 #[.int .i64 x, .int .i64 m] = ret (.int .i64 (max 1 (min x m))) := by
  refine dry_eq fun H s => ?_
  refine enter (calm hE _) [] (hE.no _ (by decide)) Tryz.func133 Tryz.ntmps133 (by unfold Tryz.f133; rfl) (by unfold Tryz.f133; rfl) (by kernel_rfl) ?_
  simp
theorem cl_rin : callable Tryz.prog 133 = true := by kernel_rfl
/-- A config that may be, of the document's. -/
structure RightR (r : CfgR) : Prop where
  most : 1 ≤ r.most ∧ r.most ≤ 16
  window : 1 ≤ r.window ∧ r.window ≤ 64
  queue : 1 ≤ r.queue ∧ r.queue ≤ 256
  units : 1 ≤ r.units ∧ r.units ≤ 64
  polls : 1 ≤ r.polls ∧ r.polls ≤ 256
  start : 0 ≤ r.start ∧ r.start ≤ 16777215
  ticks : Ticks5 r.c0 r.c1 r.c2 r.c3 r.c4
theorem right16_wp (hE : Bare E) (n : Nat) (x0 x1 x2 x3 x4 x5 : Int) {a : Option Addr} {k : Nat} {z : Nat → Int} (hk : k < 9223372036854775808) (hz : Nums F H s a k z) (hN : New F G s) (hB : Bd H s) (h : ∀ H' s' e r, Fr [] H s H' s' → s ≤ e → e < s' → Five H' e 0 r.c0 r.c1 r.c2 r.c3 r.c4 → RightR r → Q (.agg (r.cells e 0).toArray) H' s') : Wp F G (aCall Tryz.prog E (n + 2) 60 #[.agg #[.int .i64 x0, .int .i64 x1, .int .i64 x2, .int .i64 x3, .int .i64 x4, .int .i64 x5, .slice a k k]]) H s Q := by
  have hFs := hN s (Nat.le_refl _)
  have hFs1 := hN (s + 1) (by omega)
  refine enter (calm hE _) [(2, [6, 10, 14, 18, 21, 24], [], [3, 7, 11, 15, 19])] (hE.no _ (by decide)) Tryz.func60 Tryz.ntmps60 (by unfold Tryz.f60; rfl) (by unfold Tryz.f60; rfl) (by kernel_rfl) ?_
  have hB2 := fun x y => (hB.new (x := x)).new (x := y)
  simp [upd_ne, hFs, rin_eq hE, rof_eq hE, cl_rin, hB2, show s < s + 1 + 1 by omega]
  refine right15_wp hE _ hk (hz.keep ((Fr.refl _ _ _).new.new)) (hN.up (by omega)) fun H1 s1 e c0 c1 c2 c3 c4 f1 he1 he2 v t => ?_
  have k1 := (f1.keep (s + 1) (by omega) (by simp)).trans (upd_same _ _ _)
  simp [k1, hFs1]
  exact h _ _ e ⟨max 1 (min x0 16), max 1 (min x1 64), max 1 (min x2 256), max 1 (min x3 64), max 1 (min x4 256), x5 % 16777216, c0, c1, c2, c3, c4⟩ (((Fr.refl _ _ _).new.new.comp f1 (by simp)).made (by omega)) (by omega) he2 (v.keep (upd_ne _ _ (by omega))) ⟨by dsimp only; omega, by dsimp only; omega, by dsimp only; omega, by dsimp only; omega, by dsimp only; omega, by dsimp only; omega, t⟩
end Go.Proofs.YtkabaecoamilnaaGreatDoor
end
section
namespace Go.Proofs.YtkabaecoamilnaaGreatDoor
open Go AX
variable {E : FuncId → Option (Array Value → AX Value)} {F G : Nat → Prop} {H : AH} {s b : Nat} {Q : Value → AH → Nat → Prop}
set_option maxRecDepth 10000
set_option maxHeartbeats 4000000
/-- A config that came in, of the document's: its cells. -/
structure AnyR where
  x0 : Int
  x1 : Int
  x2 : Int
  x3 : Int
  x4 : Int
  x5 : Int
  a : Option Addr
  k : Nat
def AnyR.cells (x : AnyR) : List Value := [.int .i64 x.x0, .int .i64 x.x1, .int .i64 x.x2, .int .i64 x.x3, .int .i64 x.x4, .int .i64 x.x5, .slice x.a x.k x.k]
/-- What both ends' config is made of. -/
structure NewCfg (H : AH) (s s' : Nat) (c : CfgA) (d e : Nat) : Prop where
  lt : s ≤ d ∧ d < s' ∧ s ≤ e ∧ e < s'
  da : Five H d 0 c.a.c0 c.a.c1 c.a.c2 c.a.c3 c.a.c4
  db : Five H e 0 c.b.c0 c.b.c1 c.b.c2 c.b.c3 c.b.c4
  ra : RightR c.a
  rb : RightR c.b
  same : c.b.start = c.a.start
  room : 1 ≤ c.room ∧ c.room ≤ 256
theorem right18_wp (hE : Bare E) (n : Nat) (x y : AnyR) (room : Int) {z z' : Nat → Int} (hk : x.k < 9223372036854775808) (hk' : y.k < 9223372036854775808) (hz : Nums F H s x.a x.k z) (hz' : Nums F H s y.a y.k z') (hN : New F G s) (hB : Bd H s) (h : ∀ H' s' d e c, Fr [] H s H' s' → NewCfg H' s s' c d e → Q (.agg (c.cells d 0 e 0).toArray) H' s') : Wp F G (aCall Tryz.prog E (n + 3) 24 #[.agg (x.cells ++ (y.cells ++ [Value.int .i64 room])).toArray]) H s Q := by
  have hFs := hN s (Nat.le_refl _)
  have hFs1 := hN (s + 1) (by omega)
  refine enter (calm hE _) [(1, [4, 1], [6, 7], [2, 5])] (hE.no _ (by decide)) Tryz.func24 Tryz.ntmps24 (by unfold Tryz.f24; rfl) (by unfold Tryz.f24; rfl) (by kernel_rfl) ?_
  have hB2 := fun x y => (hB.new (x := x)).new (x := y)
  simp [AnyR.cells, upd_ne, hFs, hB2, show s < s + 1 + 1 by omega]
  refine wp_bd ((calm hE _).ls _ _) (hB2 _ _) ?_
  refine right16_wp hE _ x.x0 x.x1 x.x2 x.x3 x.x4 x.x5 hk ((hz.keep ((Fr.refl _ _ _).new.new)).may fun k hk hF => ⟨hF, .inl hk⟩) (New.own hN (by omega)) (hB2 _ _) fun H1 s1 d ra f1 hd1 hd2 v1 r1 u1 b1 => ?_
  have k1 := (f1.keep s (by omega) (by simp)).trans ((upd_ne _ _ (by omega)).trans (upd_same _ _ _))
  simp [k1, hFs, show s < s + 1 + 1 by omega]
  refine ⟨by omega, b1, ?_⟩
  refine wp_bd ((calm hE _).ls _ _) b1 ?_
  refine right16_wp hE _ y.x0 y.x1 y.x2 y.x3 y.x4 y.x5 hk' (((hz'.may fun k hk hF => ⟨hF, .inl (by omega)⟩).keep ((Fr.refl _ _ _).new.new)).keep f1) (New.own hN (by omega)) b1 fun H2 s2 e rb f2 he1 he2 v2 r2 u2 b2 => ?_
  have up1 := f1.up; have up2 := f2.up
  have k2 := (f2.keep s (by omega) (by simp)).trans k1
  have k2' := (f2.keep (s + 1) (by omega) (by simp)).trans ((f1.keep (s + 1) (by omega) (by simp)).trans (upd_same _ _ _))
  have hF2 := hN s2 (by omega)
  have hF3 := hN (s2 + 1) (by omega)
  simp [CfgR.cells, k2, k2', hFs, hFs1, hF2, hF3, upd_ne, show s < s + 1 + 1 by omega, show s ≤ s2 by omega, show s + 1 ≤ s2 by omega, show s ≠ s2 by omega, show s + 1 ≠ s2 by omega, show s ≠ s2 + 1 by omega]
  refine ⟨by omega, ?_⟩
  refine h _ _ d e ⟨ra, { rb with start := ra.start }, max 1 (min room 256)⟩ (((((((Fr.refl _ _ _).new.new.comp f1 (by simp)).comp f2 (by simp)).new.new.made (show s ≤ s2 by omega)).made (show s ≤ s2 + 1 by omega)).made (show s ≤ s + 1 by omega))) ⟨by omega, ?_, ?_, r1, ⟨r2.most, r2.window, r2.queue, r2.units, r2.polls, r1.start, r2.ticks⟩, rfl, by dsimp only; omega⟩
  · have up1 := f1.up; have up2 := f2.up
    exact v1.keep ((upd_ne _ _ (by omega)).trans ((upd_ne _ _ (by omega)).trans ((upd_ne _ _ (by omega)).trans ((upd_ne _ _ (by omega)).trans ((upd_ne _ _ (by omega)).trans (f2.keep d (by omega) (by simp)))))))
  · exact v2.keep ((upd_ne _ _ (by omega)).trans ((upd_ne _ _ (by omega)).trans ((upd_ne _ _ (by omega)).trans ((upd_ne _ _ (by omega)).trans (upd_ne _ _ (by omega))))))
theorem right_own {r : CfgR} (h : RightR r) : r.own.fits = true := by
  obtain ⟨h0, h1, h2, h3, h4, h5, t0, t1, t2, t3, t4⟩ := h
  have e : r.start % 16777216 = r.start := by omega
  have p : paceOK r.c0 r.c1 r.c2 r.c3 r.c4 = true := by unfold paceOK; exact decide_eq_true (by omega)
  simp [CfgN.fits, CfgR.own, inB, h0, h1, h2, h3, h4, p]
theorem right_fits {s s' : Nat} {c : CfgA} {d e : Nat} (h : NewCfg H s s' c d e) : c.own.fits = true := by
  simp [CfgL.fits, CfgA.own, right_own h.ra, right_own h.rb, h.room]
  simp [CfgR.own, h.same]
theorem NewNode.idle {s0 s1 s' : Nat} {c : CfgN} {b bc bp br : Nat} (h : NewNode H s0 s1 c b bc bp br) (hN : New F G s) (h0 : s ≤ s0) (h1 : s1 ≤ s') : IdleNode F H s' c b bc bp br := by
  have o := h.ord
  exact ⟨by omega, ⟨(hN _ (by omega)).1, (hN _ (by omega)).1, (hN _ (by omega)).1, (hN _ (by omega)).1⟩, h.pace, h.conn, h.ring, h.node⟩
theorem NewLink.idle {s0 s' : Nat} {c : CfgL} {l w n0 p0 n1 p1 : Nat} (h : NewLink H s0 s' c l w n0 p0 n1 p1) (hN : New F G s) (h0 : s ≤ s0) (hr : 1 ≤ c.room ∧ c.room ≤ 256) : ∃ i : LinkIds, i.l = l ∧ IdleLink F G H s' c i := by
  obtain ⟨⟨o1, o2, o3, o4, o5⟩, wire, link, ⟨s1, s2, bc, bp, br, r, a1, a2, a3, N0, a4, a5, R0, P0⟩, ⟨t1, t2, bc', bp', br', r', b1, N1, b2, b3, b4, R1, P1⟩⟩ := h
  have q0 := N0.ord; have q1 := N1.ord
  exact ⟨⟨l, w, n0, p0, n1, p1, bc, bp, br, r, bc', bp', br', r'⟩, rfl, hr, (show l < s' by omega), (hN l (by omega)).1, ⟨(hN n0 (by omega)).2, (hN n1 (by omega)).2⟩, link, N0.idle hN (by omega) (by omega), N1.idle hN (by omega) (by omega), ⟨(show p0 < s' ∧ r < s' by omega), ⟨(hN p0 (by omega)).1, (hN r (by omega)).1⟩, R0, P0⟩, ⟨(show p1 < s' ∧ r' < s' by omega), ⟨(hN p1 (by omega)).1, (hN r' (by omega)).1⟩, R1, P1⟩⟩
theorem NewNode.kept {H' : AH} {s0 s1 : Nat} {c : CfgN} {b bc bp br : Nat} (h : NewNode H s0 s1 c b bc bp br) (hk : ∀ k, s0 ≤ k → k < s1 → H' k = H k) : NewNode H' s0 s1 c b bc bp br := by
  have o := h.ord
  exact ⟨o, (hk _ (by omega) (by omega)).trans h.pace, (hk _ (by omega) (by omega)).trans h.conn, (hk _ (by omega) (by omega)).trans h.ring, (hk _ (by omega) (by omega)).trans h.node⟩
theorem NewLink.keep {H' : AH} {s0 s' s'' : Nat} {c : CfgL} {l w n0 p0 n1 p1 : Nat} (h : NewLink H s0 s' c l w n0 p0 n1 p1) (hs : s' ≤ s'') (hk : ∀ k, s0 ≤ k → k < s' → H' k = H k) : NewLink H' s0 s'' c l w n0 p0 n1 p1 := by
  obtain ⟨⟨o1, o2, o3, o4, o5⟩, wire, link, ⟨s1, s2, bc, bp, br, r, a1, a2, a3, N0, a4, a5, R0, P0⟩, ⟨t1, t2, bc', bp', br', r', b1, N1, b2, b3, b4, R1, P1⟩⟩ := h
  have q0 := N0.ord; have q1 := N1.ord
  exact ⟨⟨o1, o2, by omega, by omega, o5⟩, (hk _ (by omega) (by omega)).trans wire, (hk _ (by omega) (by omega)).trans link, ⟨s1, s2, bc, bp, br, r, a1, a2, a3, N0.kept fun k h1 h2 => hk _ (by omega) (by omega), a4, a5, (hk _ (by omega) (by omega)).trans R0, (hk _ (by omega) (by omega)).trans P0⟩, ⟨t1, t2, bc', bp', br', r', b1, N1.kept fun k h1 h2 => hk _ (by omega) (by omega), b2, b3, by omega, (hk _ (by omega) (by omega)).trans R1, (hk _ (by omega) (by omega)).trans P1⟩⟩
theorem RefLink.keep2 {H' : AH} {s0 s' : Nat} {c : CfgA} {d o d' o' q u q0 q1 e0 e1 : Nat} (R : RefLink H s' c d o d' o' q u q0 q1 e0 e1) (hl : s0 ≤ q ∧ s0 ≤ u ∧ s0 ≤ e0 ∧ s0 ≤ e1) (hk : ∀ k, s0 ≤ k → k < s' → H' k = H k) : RefLink H' s' c d o d' o' q u q0 q1 e0 e1 := by
  obtain ⟨h1, h2, h3, h4⟩ := R.lt
  exact ⟨R.lt, (hk _ (by omega) (by omega)).trans R.nodes, (hk _ (by omega) (by omega)).trans R.pipes, R.l0.keep (hk _ (by omega) (by omega)), R.l1.keep (hk _ (by omega) (by omega))⟩
theorem RightR.lo {r : CfgR} (h : RightR r) : 0 ≤ r.start ∧ r.start ≤ 16777215 ∧ 1 ≤ r.window ∧ r.window ≤ 64 := ⟨h.start.1, h.start.2, h.window.1, h.window.2⟩
theorem start_wp (hE : Bare E) (n : Nat) (x y : AnyR) (room : Int) {z z' : Nat → Int} (hk : x.k < 9223372036854775808) (hk' : y.k < 9223372036854775808) (hz : Nums F H s x.a x.k z) (hz' : Nums F H s y.a y.k z') (hN : New F G s) (hB : Bd H s) (h : ∀ H' s' c i d e q u q0 q1 e0 e1, Fr [] H s H' s' → NewCfg H' s s' c d e → IdleLink F G H' s' c.own i → RefLink H' s' c d 0 e 0 q u q0 q1 e0 e1 → F q ∧ F u ∧ F e0 ∧ F e1 → Q (.tuple #[ptr i.l, .agg #[.slice (some ⟨q, 0, none⟩) 2 2, .slice (some ⟨u, 0, none⟩) 2 2, .int .i64 c.room]]) H' s') : Wp F G (aCall Tryz.prog E (n + 5) 9 #[.agg (x.cells ++ (y.cells ++ [Value.int .i64 room])).toArray]) H s Q := by
  have hFs := hN s (Nat.le_refl _)
  have hFs1 := hN (s + 1) (by omega)
  refine enter (calm hE _) [] (hE.no _ (by decide)) Tryz.func9 Tryz.ntmps9 (by unfold Tryz.f9; rfl) (by unfold Tryz.f9; rfl) (by kernel_rfl) ?_
  have hB2 := fun x y => (hB.new (x := x)).new (x := y)
  simp [AnyR.cells, upd_ne, hFs, hB2, show s < s + 1 + 1 by omega]
  refine wp_bd ((calm hE _).ls _ _) (hB2 _ _) ?_
  refine right18_wp hE _ x y room hk hk' (hz.keep ((Fr.refl _ _ _).new.new)) (hz'.keep ((Fr.refl _ _ _).new.new)) (hN.up (by omega)) (hB2 _ _) fun H1 s1 d e c f1 C1 u1 b1 => ?_
  have k1 := (f1.keep s (by omega) (by simp)).trans ((upd_ne _ _ (by omega)).trans (upd_same _ _ _))
  have up1 := f1.up
  have lt := C1.lt
  simp [CfgA.cells, CfgR.cells, k1, hFs]
  refine wp_bd ((calm hE _).ls _ _) (b1.set (show s < s1 by omega)) ?_
  refine own18_wp hE _ c (hN.up (by omega)) (b1.set (show s < s1 by omega)) (C1.da.keep (upd_ne _ _ (by omega))) (C1.db.keep (upd_ne _ _ (by omega))) (by omega) (by omega) (hN d (by omega)).1 (hN e (by omega)).1 fun H2 s2 f2 u2 b2 => ?_
  simp
  refine wp_bd ((calm hE _).ls _ _) b2 ?_
  refine lnew_wp hE _ c.own (hN.up (by omega)) b2 (fun _ H3 s3 l w n0 p0 n1 p1 f3 L3 u3 b3 => ?_) (fun ef => by rw [right_fits C1] at ef; cases ef)
  have k3 := (f3.keep s (by omega) (by simp)).trans ((f2.keep s (by omega) (by simp)).trans (upd_same _ _ _))
  simp [k3, hFs]
  refine rnew18_wp hE _ c C1.ra.lo C1.rb.lo (hN.up (by omega)) b3 fun H4 s4 q u q0 q1 e0 e1 f4 hq hu he0 he1 R4 => ?_
  have up2 := f2.up; have up3 := f3.up; have up4 := f4.up
  have k4 := (f4.keep (s + 1) (by omega) (by simp)).trans ((f3.keep (s + 1) (by omega) (by simp)).trans ((f2.keep (s + 1) (by omega) (by simp)).trans ((upd_ne _ _ (by omega)).trans ((f1.keep (s + 1) (by omega) (by simp)).trans (upd_same _ _ _)))))
  simp [k4, hFs1]
  have kk : ∀ x k, s + 1 < k → upd H4 (s + 1) x k = H4 k := fun x k hk => upd_ne _ _ (by omega)
  obtain ⟨i, hi, I⟩ := (L3.keep (H' := upd H4 (s + 1) (some (.cells [.slice (some ⟨q, 0, none⟩) 2 2, .slice (some ⟨u, 0, none⟩) 2 2, .int .i64 c.room] 32 true))) (s'' := s4) up4 fun k h1 h2 => (kk _ _ (by omega)).trans (f4.keep k h2 (by simp))).idle hN (by omega) C1.room
  rw [← hi]
  have lt4 := R4.lt
  refine h _ _ c i d e q u q0 q1 e0 e1 (((((((Fr.refl _ _ _).new.new.comp f1 (by simp)).made (Nat.le_refl s)).comp f2 (by simp)).comp f3 (by simp)).comp f4 (by simp)).made (by omega)) ⟨by omega, C1.da.keep ?_, C1.db.keep ?_, C1.ra, C1.rb, C1.same, C1.room⟩ I (R4.keep2 ⟨hq, hu, he0, he1⟩ fun k h1 h2 => kk _ _ (by omega)) ⟨(hN _ (by omega)).1, (hN _ (by omega)).1, (hN _ (by omega)).1, (hN _ (by omega)).1⟩
  · exact (kk _ _ (by omega)).trans ((f4.keep _ (by omega) (by simp)).trans ((f3.keep _ (by omega) (by simp)).trans ((f2.keep _ (by omega) (by simp)).trans (upd_ne _ _ (by omega)))))
  · exact (kk _ _ (by omega)).trans ((f4.keep _ (by omega) (by simp)).trans ((f3.keep _ (by omega) (by simp)).trans ((f2.keep _ (by omega) (by simp)).trans (upd_ne _ _ (by omega)))))
end Go.Proofs.YtkabaecoamilnaaGreatDoor
end
section
namespace Go.Proofs.YtkabaecoamilnaaGreatDoor
open Go AX
variable {E : FuncId → Option (Array Value → AX Value)} {F G : Nat → Prop} {H : AH} {s b : Nat} {Q : Value → AH → Nat → Prop}
set_option maxRecDepth 10000
set_option maxHeartbeats 4000000
/-- The law's awake, as it is run. -/
def AwakeOK (E : FuncId → Option (Array Value → AX Value)) (n s : Nat) : Prop := ∀ (F G : Nat → Prop) (H : AH) (Q : Value → AH → Nat → Prop), New F G s → Bd H s → (∀ H' s', Fr [] H s H' s' → Q (.bool true) H' s') → Wp F G (aCall Tryz.prog E (n) 8 #[]) H s Q
theorem rests_wp (hE : Bare E) (n : Nat) (x y : AnyR) (room ticks : Int) {z z' : Nat → Int} (hA : AwakeOK E (n + 7) (s + 1)) (hk : x.k < 9223372036854775808) (hk' : y.k < 9223372036854775808) (hz : Nums F H s x.a x.k z) (hz' : Nums F H s y.a y.k z') (hN : New F G s) (hB : Bd H s) (h : ∀ H' s', Q (.bool true) H' s') : Wp F G (aCall Tryz.prog E (n + 8) 3 #[.agg (x.cells ++ (y.cells ++ [Value.int .i64 room])).toArray, .int .i64 ticks]) H s Q := by
  have hFs := hN s (Nat.le_refl _)
  refine enter (calm hE _) [] (hE.no _ (by decide)) Tryz.func3 Tryz.ntmps3 (by unfold Tryz.f3; rfl) (by unfold Tryz.f3; rfl) (by kernel_rfl) ?_
  simp [AnyR.cells, upd_ne, hFs]
  refine wp_bd ((calm hE _).ls _ _) hB.new ?_
  refine hA _ _ _ _ (hN.up (by omega)) hB.new fun H1 s1 f1 u1 b1 => ?_
  have k1 := (f1.keep s (by omega) (by simp)).trans (upd_same _ _ _)
  simp [k1, hFs]
  have g1 := (Fr.refl [] H s).new.comp f1 (by simp)
  refine wp_bd ((calm hE _).ls _ _) b1 ?_
  refine start_wp hE _ x y room hk hk' (hz.keep g1) (hz'.keep g1) (hN.up (by omega)) b1 fun H2 s2 c i d e q u q0 q1 e0 e1 f2 C2 I2 R2 hF u2 b2 => ?_
  have up2 := f2.up
  have hF2 := hN s2 (by omega)
  have hl := I2.lt
  simp [hF2]
  have J : IdleLink F G (upd H2 s2 (some (.cells [.slice (some ⟨q, 0, none⟩) 2 2, .slice (some ⟨u, 0, none⟩) 2 2, .int .i64 c.room] 32 true))) (s2 + 1) c.own i := I2.keep (Fr.refl _ _ _).new
  obtain ⟨m, hm, hm2⟩ : ∃ m : Nat, max 0 (min ticks 100) = (m : Int) ∧ m ≤ 100 := ⟨(max 0 (min ticks 100)).toNat, by omega, by omega⟩
  rw [hm]
  generalize hL : (some (AB.cells [.slice (some ⟨q, 0, none⟩) 2 2, .slice (some ⟨u, 0, none⟩) 2 2, .int .i64 c.room] 32 true)) = BL at J ⊢
  have R3 : RefLink (upd H2 s2 BL) (s2 + 1) c d 0 e 0 q u q0 q1 e0 e1 := R2.keep (Fr.refl _ _ _).new
  have k3 : upd H2 s2 BL s2 = BL := upd_same _ _ _
  have b3 : Bd (upd H2 s2 BL) (s2 + 1) := b2.new
  have hN3 : New F G (s2 + 1) := hN.up (by omega)
  generalize upd H2 s2 BL = H3 at J R3 k3 b3 ⊢
  refine wp_loop (fun k tm H' s' => ∃ j, j ≤ m ∧ k = m - j ∧ tm.size = 58 ∧ bot tm 5 = ptr i.l ∧ bot tm 6 = ptr s2 ∧ bot tm 22 = .int .i64 m ∧ bot tm 23 = .int .i64 j ∧ Bd H' s' ∧ Fr [] H3 (s2 + 1) H' s') (k := m) (by unfold LF; omega) ⟨0, by simp, by simp, by simp, by simp, by simp, by simp, by simp, b3, Fr.refl _ _ _⟩ ?_
  rintro k tm H4 s4 ⟨j, hj, rfl, hsz, h5, h6, h22, h23, b4, f4⟩
  have J4 := J.keep f4
  have R4 := R3.keep f4
  have up4 := f4.up
  have k4 := (f4.keep s2 (by omega) (by simp)).trans k3
  rw [show tm = mkT tm [] from rfl]
  simp [hsz, h5, h6, h22, h23]
  split
  · rename_i hlt
    have hw : IntKind.i64.wrap ((j : Int) + 1) = ((j + 1 : Nat) : Int) := by
      have : IntKind.i64.wrap ((j : Int) + 1) = (j : Int) + 1 := wrap64_small (by omega) (by omega)
      rw [this]; omega
    refine wp_bd ((calm hE _).ls _ _) b4 ?_
    refine tick_idle hE _ J4 (hN.up (by omega)) fun H5 s5 f5 u5 b5 => ?_
    simp [hsz, h5, h6, h22, h23]
    refine wp_bd ((calm hE _).ls _ _) b5 ?_
    refine quiet_idle hE _ (J4.keep f5) (hN.up (by omega)) fun H6 s6 f6 u6 b6 => ?_
    simp [hsz, h5, h6, h22, h23]
    exact ⟨m - (j + 1), by omega, j + 1, by omega, rfl, hw, b6, (f4.trans f5).trans f6⟩
  · rename_i hge
    refine wp_bd ((calm hE _).ls _ _) b4 ?_
    refine carry_idle hE _ J4 (hN.up (by omega)) 0 0 0 0 (.inl rfl) fun H5 s5 f5 u5 b5 => ?_
    simp [hsz, h5, h6, h22, h23]
    refine wp_bd ((calm hE _).ls _ _) b5 ?_
    refine carry_idle hE _ (J4.keep f5) (hN.up (by omega)) 1 0 0 0 (.inr rfl) fun H6 s6 f6 u6 b6 => ?_
    have k6 := (f6.keep s2 (by omega) (by simp)).trans ((f5.keep s2 (by omega) (by simp)).trans k4)
    simp [hsz, h5, h6, h22, h23, k6, ← hL, hF2]
    refine is18_idle hE _ ((J4.keep f5).keep f6) ((R4.keep f5).keep f6) (hN.up (by omega)) b6 hF fun H7 s7 f7 => ?_
    simp [hsz]
    exact h _ _
end Go.Proofs.YtkabaecoamilnaaGreatDoor
end
