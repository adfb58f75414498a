/-
  The program's connections: a call in the making, and what its functions do.
-/
import Derived.Test.YtnimgpfgfohdoaaGreatTab
import Derived.Test.YtnimgpfgfohdoaaGreatAy9
import Derived.Test.YtnimgpfgfohdoaaGreatAyC
import Derived.Test.YtnimgpfgfohdoaaGreatMPlain
set_option linter.unusedVariables false
set_option linter.unusedSimpArgs false
namespace Go.Proofs.YtnimgpfgfohdoaaGreat
open Go AX
def nilS : Value := .slice none 0 0
def SigS.row (s : SigS) : List Value := [.int .i64 s.kind, .string s.data, .bool s.self, .int .u8 s.code, .int .i64 s.n]
def UnitS.rowV (u : UnitS) (v : Value) : List Value := [.int .i64 u.kind, .int .i64 u.sq, .int .u32 u.n, .int .u32 u.ps, .int .u32 u.mr, v, .bool u.self, .string u.data]
/-- A unit without a list. -/
def UnitS.row (u : UnitS) : List Value := u.rowV nilS
def ConnS.cells (c : ConnS) : List Value := [.int .i64 c.most, .int .u32 c.credit, .int .i64 c.state, .int .i64 c.sq, .int .i64 c.peer, .int .i64 c.cc, .int .u32 c.ms, .string c.data]
def ConnS.blk (c : ConnS) : AB := .cells c.cells 152 true
abbrev ptr (b : Nat) : Value := .pointer (some ⟨b, 0, none⟩)
/-- A call in the making: its cells. -/
def ActS.cellsV (x : ActS) (c : Nat) (vs vu : Value) : List Value := [ptr c, vs, vu, .bool x.r.begins, .bool x.r.ends, .int .u32 x.r.ms, .int .i64 x.r.timer]
def ActS.blkV (x : ActS) (c : Nat) (vs vu : Value) : AB := .cells (x.cellsV c vs vu) 243 true
structure ActIn (s0 c a : Nat) (H0 H : AH) (s : Nat) (x : ActS) (vs vu : Value) (Ls Lu : List Nat) (j : Nat) : Prop where
  fr : Fr [c] H0 s0 H s
  hc : c < s0
  ha : s0 ≤ a ∧ a < s
  act : H a = some (x.blkV c vs vu)
  conn : H c = some x.c.blk
  sg : SlAt H 61 5 vs (x.r.sigs.map SigS.row) Ls
  un : SlAt H 59 8 vu (x.r.units.map UnitS.row) Lu
  ls : ∀ b, b ∈ Ls → s0 ≤ b ∧ b < s ∧ b ≠ a
  lu : ∀ b, b ∈ Lu → s0 ≤ b ∧ b < s ∧ b ≠ a ∧ b ∉ Ls
  few : x.r.sigs.length + x.r.units.length ≤ j
def Act (s0 c a : Nat) (H0 H : AH) (s : Nat) (x : ActS) (j : Nat) : Prop := ∃ vs vu Ls Lu, ActIn s0 c a H0 H s x vs vu Ls Lu j
/-- What may be read and turned by a call. -/
structure Env (E : FuncId → Option (Array Value → AX Value)) (F G : Nat → Prop) (s0 c : Nat) : Prop where
  hE : Bare E
  hN : New F G s0
  hF : F c
  hG : G c
section
variable {E : FuncId → Option (Array Value → AX Value)} {F G : Nat → Prop} {H H0 : AH} {s s0 a c j : Nat} {x : ActS} {Q : Value → AH → Nat → Prop} {vs vu : Value} {Ls Lu : List Nat}
theorem Act.mono (A : Act s0 c a H0 H s x j) {k : Nat} (h : j ≤ k) : Act s0 c a H0 H s x k := by
  obtain ⟨vs, vu, Ls, Lu, A⟩ := A
  exact ⟨vs, vu, Ls, Lu, A.fr, A.hc, A.ha, A.act, A.conn, A.sg, A.un, A.ls, A.lu, Nat.le_trans A.few h⟩
theorem Env.Fa (K : Env E F G s0 c) (A : ActIn s0 c a H0 H s x vs vu Ls Lu j) : F a := (K.hN a A.ha.1).1
theorem Env.Ga (K : Env E F G s0 c) (A : ActIn s0 c a H0 H s x vs vu Ls Lu j) : G a := (K.hN a A.ha.1).2
theorem ActIn.ne (A : ActIn s0 c a H0 H s x vs vu Ls Lu j) : a ≠ c ∧ c ≠ a := by have := A.hc; have := A.ha; omega
theorem ActIn.setC (A : ActIn s0 c a H0 H s x vs vu Ls Lu j) (y : ConnS) : Act s0 c a H0 (upd H c (some y.blk)) s { x with c := y } j := by
  have := A.hc; have := A.ha
  refine ⟨vs, vu, Ls, Lu, A.fr.own (by simp), A.hc, A.ha, (upd_ne _ _ (by omega)).trans A.act, upd_same _ _ _, A.sg.keep fun b hb => upd_ne _ _ ?_, A.un.keep fun b hb => upd_ne _ _ ?_, A.ls, A.lu, A.few⟩
  · have := A.ls b hb; omega
  · have := A.lu b hb; omega
theorem ActIn.setR (A : ActIn s0 c a H0 H s x vs vu Ls Lu j) (begins ends : Bool) (ms timer : Int) : Act s0 c a H0 (upd H a (some (ActS.blkV ⟨x.c, { x.r with begins := begins, ends := ends, ms := ms, timer := timer }⟩ c vs vu))) s ⟨x.c, { x.r with begins := begins, ends := ends, ms := ms, timer := timer }⟩ j := by
  have := A.hc; have := A.ha
  refine ⟨vs, vu, Ls, Lu, A.fr.made (by omega), A.hc, A.ha, upd_same _ _ _, (upd_ne _ _ (by omega)).trans A.conn, A.sg.keep fun b hb => upd_ne _ _ ?_, A.un.keep fun b hb => upd_ne _ _ ?_, A.ls, A.lu, A.few⟩
  · have := A.ls b hb; omega
  · have := A.lu b hb; omega
theorem ActIn.setRC (A : ActIn s0 c a H0 H s x vs vu Ls Lu j) (begins ends : Bool) (ms timer : Int) (y : ConnS) : Act s0 c a H0 (upd (upd H a (some (ActS.blkV ⟨x.c, { x.r with begins := begins, ends := ends, ms := ms, timer := timer }⟩ c vs vu))) c (some y.blk)) s ⟨y, { x.r with begins := begins, ends := ends, ms := ms, timer := timer }⟩ j := by
  obtain ⟨vs', vu', Ls', Lu', B⟩ := A.setR begins ends ms timer
  exact B.setC y
theorem ActIn.addS (A : ActIn s0 c a H0 H s x vs vu Ls Lu j) {X : Option AB} {H' : AH} {s' : Nat} {v' : Value} {L' : List Nat} (σ : SigS) (f : Fr Ls (upd H s X) (s + 1) H' s') (h : SlAt H' 61 5 v' (x.r.sigs.map SigS.row ++ [σ.row]) L') (hl : ∀ b, b ∈ L' → (b ∈ Ls ∨ s + 1 ≤ b) ∧ (b ∈ Ls ∨ b < s')) :
    Act s0 c a H0 (upd H' a (some ((x.tell σ).blkV c v' vu))) s' (x.tell σ) (j + 1) := by
  have hup := f.up; have hc := A.hc; have ha := A.ha
  have keep : ∀ b, b < s → b ∉ Ls → H' b = H b := fun b hb hn => (f.keep b (by omega) hn).trans (upd_ne _ _ (by omega))
  have nc : c ∉ Ls := fun hm => by have := A.ls c hm; omega
  refine ⟨v', vu, L', Lu, ((A.fr.new.comp f fun b hb => .inl (A.ls b hb).1).made (by omega)), hc, ⟨ha.1, by omega⟩, upd_same _ _ _, ((upd_ne _ _ (by omega)).trans (keep c (by omega) nc)).trans A.conn, ?_, ?_, ?_, ?_, ?_⟩
  · have e : (x.tell σ).r.sigs.map SigS.row = x.r.sigs.map SigS.row ++ [σ.row] := by simp [ActS.tell]
    rw [e]
    exact h.keep fun b hb => upd_ne _ _ (by rcases (hl b hb).1 with h1 | h1; exact (A.ls b h1).2.2; omega)
  · exact A.un.keep fun b hb => (upd_ne _ _ (A.lu b hb).2.2.1).trans (keep b (A.lu b hb).2.1 (A.lu b hb).2.2.2)
  · intro b hb
    have h1 := hl b hb
    rcases h1.1 with h2 | h2
    · have := A.ls b h2; exact ⟨this.1, by omega, this.2.2⟩
    · rcases h1.2 with h3 | h3
      · have := A.ls b h3; exact ⟨this.1, by omega, this.2.2⟩
      · exact ⟨by omega, h3, by omega⟩
  · intro b hb
    have h1 := A.lu b hb
    refine ⟨h1.1, by omega, h1.2.2.1, fun hm => ?_⟩
    rcases (hl b hm).1 with h2 | h2
    · exact h1.2.2.2 h2
    · omega
  · have := A.few; simp [ActS.tell]; omega
theorem ActIn.addU (A : ActIn s0 c a H0 H s x vs vu Ls Lu j) {X : Option AB} {H' : AH} {s' : Nat} {v' : Value} {L' : List Nat} (u : UnitS) (f : Fr Lu (upd H s X) (s + 1) H' s') (h : SlAt H' 59 8 v' (x.r.units.map UnitS.row ++ [u.row]) L') (hl : ∀ b, b ∈ L' → (b ∈ Lu ∨ s + 1 ≤ b) ∧ (b ∈ Lu ∨ b < s')) :
    Act s0 c a H0 (upd H' a (some (ActS.blkV ⟨x.c, { x.r with units := x.r.units ++ [u] }⟩ c vs v'))) s' ⟨x.c, { x.r with units := x.r.units ++ [u] }⟩ (j + 1) := by
  have hup := f.up; have hc := A.hc; have ha := A.ha
  have keep : ∀ b, b < s → b ∉ Lu → H' b = H b := fun b hb hn => (f.keep b (by omega) hn).trans (upd_ne _ _ (by omega))
  have nc : c ∉ Lu := fun hm => by have := A.lu c hm; omega
  have ns : ∀ b, b ∈ Ls → b ∉ Lu := fun b hb hm => (A.lu b hm).2.2.2 hb
  refine ⟨vs, v', Ls, L', ((A.fr.new.comp f fun b hb => .inl (A.lu b hb).1).made (by omega)), hc, ⟨ha.1, by omega⟩, upd_same _ _ _, ((upd_ne _ _ (by omega)).trans (keep c (by omega) nc)).trans A.conn, ?_, ?_, ?_, ?_, ?_⟩
  · exact A.sg.keep fun b hb => (upd_ne _ _ (A.ls b hb).2.2).trans (keep b (A.ls b hb).2.1 (ns b hb))
  · have e : (x.r.units ++ [u]).map UnitS.row = x.r.units.map UnitS.row ++ [u.row] := by simp
    show SlAt _ _ _ _ ((x.r.units ++ [u]).map UnitS.row) _
    rw [e]
    exact h.keep fun b hb => upd_ne _ _ (by rcases (hl b hb).1 with h1 | h1; exact (A.lu b h1).2.2.1; omega)
  · intro b hb
    have := A.ls b hb; exact ⟨this.1, by omega, this.2.2⟩
  · intro b hb
    have h1 := hl b hb
    rcases h1.1 with h2 | h2
    · have := A.lu b h2; exact ⟨this.1, by omega, this.2.2.1, this.2.2.2⟩
    · have nl : b ∉ Ls := fun hm => by have := A.ls b hm; omega
      rcases h1.2 with h3 | h3
      · have := A.lu b h3; exact ⟨this.1, by omega, this.2.2.1, this.2.2.2⟩
      · exact ⟨by omega, h3, by omega, nl⟩
  · have := A.few; simp; omega
end
end Go.Proofs.YtnimgpfgfohdoaaGreat
