/-
  What the laws make of a config; which may be, by the document.
-/
import Derived.Test.YtnimgpfgfohdoaaGreatMMake2
set_option linter.unusedVariables false
set_option linter.unusedSimpArgs false
namespace Go.Proofs.YtnimgpfgfohdoaaGreat
open Go AX
variable {E : FuncId → Option (Array Value → AX Value)} {F G : Nat → Prop} {H : AH} {s b : Nat} {Q : Value → AH → Nat → Prop}
set_option maxRecDepth 10000
set_option maxHeartbeats 4000000
/-- Five numbers in a row. -/
structure Five (H : AH) (d o : Nat) (c0 c1 c2 c3 c4 : Int) : Prop where
  at_ : ∃ cs T wr, H d = some (.cells cs T wr) ∧ cs[o]? = some (.int .i64 c0) ∧ cs[o + 1]? = some (.int .i64 c1) ∧ cs[o + 2]? = some (.int .i64 c2) ∧ cs[o + 3]? = some (.int .i64 c3) ∧ cs[o + 4]? = some (.int .i64 c4)
abbrev sl5 (d o : Nat) : Value := .slice (some ⟨d, o, none⟩) 5 5
theorem Five.keep {H' : AH} {d o : Nat} {c0 c1 c2 c3 c4 : Int} (h : Five H d o c0 c1 c2 c3 c4) (hk : H' d = H d) : Five H' d o c0 c1 c2 c3 c4 := by
  obtain ⟨cs, T, wr, h⟩ := h
  exact ⟨cs, T, wr, by rw [hk]; exact h⟩
theorem own15_wp (hE : Bare E) (n : Nat) {d o : Nat} {c0 c1 c2 c3 c4 : Int} (hN : New F G s) (hv : Five H d o c0 c1 c2 c3 c4) (hd : d < s) (hF : F d) (h : ∀ H' s', Fr [] H s H' s' → Q (cfg c0 c1 c2 c3 c4) H' s') : Wp F G (aCall Tryz.prog E (n + 1) 36 #[sl5 d o]) H s Q := by
  have hFs := hN s (Nat.le_refl _)
  obtain ⟨cs, T, wr, h0, e0, e1, e2, e3, e4⟩ := hv.at_
  have hne : d ≠ s := by omega
  refine enter (calm hE _) [(1, [], [], [])] (hE.no _ (by decide)) Tryz.func36 Tryz.ntmps36 (by unfold Tryz.f36; rfl) (by unfold Tryz.f36; rfl) (by kernel_rfl) ?_
  simp [upd_ne, hne, h0, hF, e0, e1, e2, e3, e4, hFs]
  exact h _ _ (Fr.refl _ _ _).new
/-- A config of the document. -/
structure CfgR where
  most : Int
  window : Int
  queue : Int
  units : Int
  polls : Int
  start : Int
  c0 : Int
  c1 : Int
  c2 : Int
  c3 : Int
  c4 : Int
def CfgR.cells (c : CfgR) (d o : Nat) : List Value := [.int .i64 c.most, .int .i64 c.window, .int .i64 c.queue, .int .i64 c.units, .int .i64 c.polls, .int .i64 c.start, sl5 d o]
def CfgR.own (c : CfgR) : CfgN := ⟨c.most, c.window, c.queue, c.units, c.polls, c.start % 16777216, c.c0, c.c1, c.c2, c.c3, c.c4⟩
theorem own16_wp (hE : Bare E) (n : Nat) (c : CfgR) {d o : Nat} (hN : New F G s) (hB : Bd H s) (hv : Five H d o c.c0 c.c1 c.c2 c.c3 c.c4) (hd : d < s) (hF : F d) (h : ∀ H' s', Fr [] H s H' s' → Q (.agg c.own.cells.toArray) H' s') : Wp F G (aCall Tryz.prog E (n + 2) 19 #[.agg (c.cells d o).toArray]) H s Q := by
  have hFs := hN s (Nat.le_refl _)
  have hFs1 := hN (s + 1) (by omega)
  refine enter (calm hE _) [(1, [1, 3, 5, 7, 9], [], [15])] (hE.no _ (by decide)) Tryz.func19 Tryz.ntmps19 (by unfold Tryz.f19; rfl) (by unfold Tryz.f19; rfl) (by kernel_rfl) ?_
  simp [CfgR.cells, upd_ne, hFs, of_eq hE, show s < s + 1 + 1 by omega]
  refine ⟨hB.new.new, ?_⟩
  refine own15_wp hE _ (New.own hN (by omega)) (hv.keep ((upd_ne _ _ (by omega)).trans (upd_ne _ _ (by omega)))) (by omega) ⟨hF, by omega⟩ fun H1 s1 f1 => ?_
  have k1 := (f1.keep (s + 1) (by omega) (by simp)).trans (upd_same _ _ _)
  simp [cfg, k1, hFs1]
  have up1 := f1.up
  exact h _ _ (((Fr.refl _ _ _).new.new.comp f1 (by simp)).made (by omega))
/-- Both ends'. -/
structure CfgA where
  a : CfgR
  b : CfgR
  room : Int
def CfgA.cells (c : CfgA) (d o d' o' : Nat) : List Value := c.a.cells d o ++ (c.b.cells d' o' ++ [.int .i64 c.room])
def CfgA.own (c : CfgA) : CfgL := ⟨c.a.own, c.b.own, c.room⟩
theorem own18_wp (hE : Bare E) (n : Nat) (c : CfgA) {d o d' o' : Nat} (hN : New F G s) (hB : Bd H s) (hv : Five H d o c.a.c0 c.a.c1 c.a.c2 c.a.c3 c.a.c4) (hv' : Five H d' o' c.b.c0 c.b.c1 c.b.c2 c.b.c3 c.b.c4) (hd : d < s) (hd' : d' < s) (hF : F d) (hF' : F d') (h : ∀ H' s', Fr [] H s H' s' → Q (.agg c.own.cells.toArray) H' s') : Wp F G (aCall Tryz.prog E (n + 3) 7 #[.agg (c.cells d o d' o').toArray]) H s Q := by
  have hFs := hN s (Nat.le_refl _)
  have hFs1 := hN (s + 1) (by omega)
  refine enter (calm hE _) [(1, [4, 8], [], [2, 5])] (hE.no _ (by decide)) Tryz.func7 Tryz.ntmps7 (by unfold Tryz.f7; rfl) (by unfold Tryz.f7; rfl) (by kernel_rfl) ?_
  simp [CfgA.cells, CfgR.cells, upd_ne, hFs]
  refine ⟨hB.new.new, ?_⟩
  refine wp_bd ((calm hE _).ls _ _) hB.new.new ?_
  refine own16_wp hE _ c.a (New.own hN (by omega)) hB.new.new (hv.keep ((upd_ne _ _ (by omega)).trans (upd_ne _ _ (by omega)))) (by omega) ⟨hF, by omega⟩ fun H1 s1 f1 u1 b1 => ?_
  have k1 := (f1.keep s (by omega) (by simp)).trans ((upd_ne _ _ (by omega)).trans (upd_same _ _ _))
  have k1' := (f1.keep (s + 1) (by omega) (by simp)).trans (upd_same _ _ _)
  simp [k1, hFs, show s < s + 1 + 1 by omega]
  refine ⟨by omega, b1, ?_⟩
  refine own16_wp hE _ c.b (New.own hN (by omega)) b1 (hv'.keep ((f1.keep _ (by omega) (by simp)).trans ((upd_ne _ _ (by omega)).trans (upd_ne _ _ (by omega))))) (by omega) ⟨hF', by omega⟩ fun H2 s2 f2 => ?_
  have k2 := (f2.keep s (by omega) (by simp)).trans k1
  have k2' := (f2.keep (s + 1) (by omega) (by simp)).trans k1'
  have up2 := f2.up
  simp [CfgN.cells, k2, k2', hFs, hFs1, show s < s + 1 + 1 by omega]
  exact h _ _ ((((Fr.refl _ _ _).new.new.comp f1 (by simp)).comp f2 (by simp)).made (by omega))
end Go.Proofs.YtnimgpfgfohdoaaGreat
