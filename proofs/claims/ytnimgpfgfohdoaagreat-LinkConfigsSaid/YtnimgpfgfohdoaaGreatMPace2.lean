/-
  The program's paces: making one, ticks.
-/
import Derived.Test.YtnimgpfgfohdoaaGreatMPace0
import Derived.Test.YtnimgpfgfohdoaaGreatAy9
set_option linter.unusedVariables false
set_option linter.unusedSimpArgs false
namespace Go.Proofs.YtnimgpfgfohdoaaGreat
open Go AX
variable {E : FuncId → Option (Array Value → AX Value)} {F G : Nat → Prop} {H : AH} {s b : Nat} {p : PaceS} {Q : Value → AH → Nat → Prop}
set_option maxRecDepth 10000
set_option maxHeartbeats 4000000
def paceOK (c0 c1 c2 c3 c4 : Int) : Bool := decide ((1 ≤ c0 ∧ c0 ≤ 1048576) ∧ (1 ≤ c1 ∧ c1 ≤ 1048576) ∧ (1 ≤ c2 ∧ c2 ≤ 1048576) ∧ (1 ≤ c3 ∧ c3 ≤ 1048576) ∧ (1 ≤ c4 ∧ c4 ≤ 1048576) ∧ c1 < c3 ∧ c2 < c3)
def cfg (c0 c1 c2 c3 c4 : Int) : Value := .agg #[.int .i64 c0, .int .i64 c1, .int .i64 c2, .int .i64 c3, .int .i64 c4]
theorem pcheck_wp (hE : Bare E) (n : Nat) (c0 c1 c2 c3 c4 : Int) (hN : New F G s) (h : ∀ H' s', Fr [] H s H' s' → Q (.int .i64 (if paceOK c0 c1 c2 c3 c4 then 0 else 1)) H' s') : Wp F G (aCall Tryz.prog E (n + 1) 39 #[cfg c0 c1 c2 c3 c4]) H s Q := by
  refine enter (calm hE _) [] (hE.no _ (by decide)) Tryz.func39 Tryz.ntmps39 (by unfold Tryz.f39; rfl) (by unfold Tryz.f39; rfl) (by kernel_rfl) ?_
  have hFs := (hN s (Nat.le_refl _)).1
  simp [cfg, hFs]
  refine wp_rounds 6 (by decide) ?_
  have hd : (c1 < c3 ∧ ¬ c3 ≤ c1) ∨ (¬ c1 < c3 ∧ c3 ≤ c1) := by omega
  rcases hd with ⟨hk, hk'⟩ | ⟨hk, hk'⟩ <;> simp +contextual [wp_round, hFs, hk, hk']
  repeat' split
  all_goals
    first
    | (exfalso; omega)
    | (have e : paceOK c0 c1 c2 c3 c4 = false := by unfold paceOK; first | exact decide_eq_false (by omega) | exact decide_eq_true (by omega)
       simp [e] at h
       exact h _ _ (Fr.refl _ _ _).new)
    | (have e : paceOK c0 c1 c2 c3 c4 = true := by unfold paceOK; first | exact decide_eq_false (by omega) | exact decide_eq_true (by omega)
       simp [e] at h
       exact h _ _ (Fr.refl _ _ _).new)
/-- A pace that stands still. -/
def PaceS.of (c0 c1 c2 c3 c4 : Int) : PaceS := ⟨c0, c1, c2, c3, c4, 0, 0, 0, 0, 0⟩
theorem pnew_wp (hE : Bare E) (n : Nat) (c0 c1 c2 c3 c4 : Int) (hN : New F G s) (h1 : paceOK c0 c1 c2 c3 c4 = true → ∀ H' s' b, Fr [] H s H' s' → s ≤ b → b < s' → H' b = some (PaceS.of c0 c1 c2 c3 c4).blk → Q (.tuple #[.pointer (some ⟨b, 0, none⟩), .int .i64 0]) H' s')
    (h2 : paceOK c0 c1 c2 c3 c4 = false → ∀ H' s', Fr [] H s H' s' → Q (.tuple #[.pointer none, .int .i64 1]) H' s') : Wp F G (aCall Tryz.prog E (n + 2) 30 #[cfg c0 c1 c2 c3 c4]) H s Q := by
  have hFs := (hN s (Nat.le_refl _)).1
  refine enter (calm hE _) [] (hE.no _ (by decide)) Tryz.func30 Tryz.ntmps30 (by unfold Tryz.f30; rfl) (by unfold Tryz.f30; rfl) (by kernel_rfl) ?_
  simp [cfg, hFs]
  refine pcheck_wp hE _ c0 c1 c2 c3 c4 (hN.up (by omega)) fun H1 s1 f1 => ?_
  have hk : H1 s = some (.cells [.int .i64 c0, .int .i64 c1, .int .i64 c2, .int .i64 c3, .int .i64 c4] 36 true) := (f1.keep s (by omega) (by simp)).trans (upd_same _ _ _)
  have up := f1.up
  cases e : paceOK c0 c1 c2 c3 c4
  · simp [hk, hFs]
    exact h2 e _ _ ((Fr.refl _ _ _).new.comp f1 (by simp))
  · simp [hk, hFs]
    exact h1 e _ _ s1 ((Fr.refl _ _ _).new.comp f1 (by simp)).new (by omega) (by omega) (upd_same _ _ _)
end Go.Proofs.YtnimgpfgfohdoaaGreat
