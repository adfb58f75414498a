/-
  Which configs may be, by the document; the law.
-/
import Derived.Test.YtnimgpfgfohdoaaGreatMLawCfg
set_option linter.unusedVariables false
set_option linter.unusedSimpArgs false
namespace Go.Proofs.YtnimgpfgfohdoaaGreat
open Go AX
variable {E : FuncId → Option (Array Value → AX Value)} {F G : Nat → Prop} {H : AH} {s b : Nat} {Q : Value → AH → Nat → Prop}
set_option maxRecDepth 10000
set_option maxHeartbeats 4000000
theorem chk15_wp (hE : Bare E) (n : Nat) {d o : Nat} {c0 c1 c2 c3 c4 : Int} (hv : Five H d o c0 c1 c2 c3 c4) (hF : F d) (h : Q (.bool (paceOK c0 c1 c2 c3 c4)) H s) : Wp F G (aCall Tryz.prog E (n + 1) 20 #[sl5 d o]) H s Q := by
  obtain ⟨cs, T, wr, h0, e0, e1, e2, e3, e4⟩ := hv.at_
  refine enter (calm hE _) [(7, [], [], [])] (hE.no _ (by decide)) Tryz.func20 Tryz.ntmps20 (by unfold Tryz.f20; rfl) (by unfold Tryz.f20; rfl) (by kernel_rfl) ?_
  simp
  refine wp_rounds 6 (by decide) ?_
  have hd : (c1 < c3 ∧ ¬ c3 ≤ c1) ∨ (¬ c1 < c3 ∧ c3 ≤ c1) := by omega
  rcases hd with ⟨hk, hk'⟩ | ⟨hk, hk'⟩ <;> simp +contextual [wp_round, h0, hF, e0, e1, e2, e3, e4, hk, hk']
  all_goals
    repeat' split
  all_goals
    first
    | (exfalso; omega)
    | (have e : paceOK c0 c1 c2 c3 c4 = false := by unfold paceOK; exact decide_eq_false (by omega)
       simpa [e] using h)
    | (have e : paceOK c0 c1 c2 c3 c4 = true := by unfold paceOK; exact decide_eq_true (by omega)
       simp [e] at h
       simpa [show c2 < c3 by omega] using h)
    | (have e : paceOK c0 c1 c2 c3 c4 = decide (c2 < c3) := by
         unfold paceOK
         by_cases hz : c2 < c3
         · rw [decide_eq_true hz]; exact decide_eq_true (by omega)
         · rw [decide_eq_false hz]; exact decide_eq_false (by omega)
       simpa [e] using h)
/-- May it be, by the document? -/
def CfgR.may (c : CfgR) : Bool := inB c.most 16 && (inB c.window 64 && (inB c.queue 256 && (inB c.units 64 && (inB c.polls 256 && paceOK c.c0 c.c1 c.c2 c.c3 c.c4))))
theorem inB_cases (x m : Int) (hm : 1 ≤ m) : (inB x m = true ∧ ¬ x < 1 ∧ 1 ≤ x ∧ ¬ m < x ∧ x ≤ m) ∨ (inB x m = false ∧ x < 1 ∧ ¬ 1 ≤ x) ∨ (inB x m = false ∧ ¬ x < 1 ∧ 1 ≤ x ∧ m < x ∧ ¬ x ≤ m) := by
  by_cases h1 : 1 ≤ x
  · by_cases h2 : x ≤ m
    · exact .inl ⟨by simp [inB, h1, h2], by omega, h1, by omega, h2⟩
    · exact .inr (.inr ⟨by simp [inB, h2], by omega, h1, by omega, h2⟩)
  · exact .inr (.inl ⟨by simp [inB, h1], by omega, h1⟩)
theorem chk16_wp (hE : Bare E) (n : Nat) (c : CfgR) {d o : Nat} (hst : 0 ≤ c.start ∧ c.start ≤ 16777215) (hN : New F G s) (hv : Five H d o c.c0 c.c1 c.c2 c.c3 c.c4) (hd : d < s) (hF : F d) (h : ∀ H' s', Fr [] H s H' s' → Q (.bool c.may) H' s') : Wp F G (aCall Tryz.prog E (n + 2) 8 #[.agg (c.cells d o).toArray]) H s Q := by
  have hFs := hN s (Nat.le_refl _)
  have s1 : ¬ c.start < 0 := by omega
  have s2 : 0 ≤ c.start := hst.1
  have s3 : ¬ 16777215 < c.start := by omega
  have s4 : c.start ≤ 16777215 := hst.2
  refine enter (calm hE _) [] (hE.no _ (by decide)) Tryz.func8 Tryz.ntmps8 (by unfold Tryz.f8; rfl) (by unfold Tryz.f8; rfl) (by kernel_rfl) ?_
  have hk0 := inB_cases c.most 16 (by decide)
  rcases hk0.symm with hbad | ⟨a0, b0, d0, e0, f0⟩
  · rcases hbad with ⟨a, b, d'⟩ | ⟨a, b, d', e, f⟩
    · simp [CfgR.cells, hFs, b, d']
      simpa [CfgR.may, a] using h _ _ (Fr.refl _ _ _).new
    · simp [CfgR.cells, hFs, b, d', e, f]
      simpa [CfgR.may, a] using h _ _ (Fr.refl _ _ _).new
  have hk1 := inB_cases c.window 64 (by decide)
  rcases hk1.symm with hbad | ⟨a1, b1, d1, e1, f1⟩
  · rcases hbad with ⟨a, b, d'⟩ | ⟨a, b, d', e, f⟩
    · simp [CfgR.cells, hFs, b0, d0, e0, f0, b, d']
      simpa [CfgR.may, a0, a] using h _ _ (Fr.refl _ _ _).new
    · simp [CfgR.cells, hFs, b0, d0, e0, f0, b, d', e, f]
      simpa [CfgR.may, a0, a] using h _ _ (Fr.refl _ _ _).new
  have hk2 := inB_cases c.queue 256 (by decide)
  rcases hk2.symm with hbad | ⟨a2, b2, d2, e2, f2⟩
  · rcases hbad with ⟨a, b, d'⟩ | ⟨a, b, d', e, f⟩
    · simp [CfgR.cells, hFs, b0, d0, e0, f0, b1, d1, e1, f1, b, d']
      simpa [CfgR.may, a0, a1, a] using h _ _ (Fr.refl _ _ _).new
    · simp [CfgR.cells, hFs, b0, d0, e0, f0, b1, d1, e1, f1, b, d', e, f]
      simpa [CfgR.may, a0, a1, a] using h _ _ (Fr.refl _ _ _).new
  have hk3 := inB_cases c.units 64 (by decide)
  rcases hk3.symm with hbad | ⟨a3, b3, d3, e3, f3⟩
  · rcases hbad with ⟨a, b, d'⟩ | ⟨a, b, d', e, f⟩
    · simp [CfgR.cells, hFs, b0, d0, e0, f0, b1, d1, e1, f1, b2, d2, e2, f2, b, d']
      simpa [CfgR.may, a0, a1, a2, a] using h _ _ (Fr.refl _ _ _).new
    · simp [CfgR.cells, hFs, b0, d0, e0, f0, b1, d1, e1, f1, b2, d2, e2, f2, b, d', e, f]
      simpa [CfgR.may, a0, a1, a2, a] using h _ _ (Fr.refl _ _ _).new
  have hk4 := inB_cases c.polls 256 (by decide)
  rcases hk4.symm with hbad | ⟨a4, b4, d4, e4, f4⟩
  · rcases hbad with ⟨a, b, d'⟩ | ⟨a, b, d', e, f⟩
    · simp [CfgR.cells, hFs, b0, d0, e0, f0, b1, d1, e1, f1, b2, d2, e2, f2, b3, d3, e3, f3, b, d']
      simpa [CfgR.may, a0, a1, a2, a3, a] using h _ _ (Fr.refl _ _ _).new
    · simp [CfgR.cells, hFs, b0, d0, e0, f0, b1, d1, e1, f1, b2, d2, e2, f2, b3, d3, e3, f3, b, d', e, f]
      simpa [CfgR.may, a0, a1, a2, a3, a] using h _ _ (Fr.refl _ _ _).new
  simp [CfgR.cells, hFs, b0, d0, e0, f0, b1, d1, e1, f1, b2, d2, e2, f2, b3, d3, e3, f3, b4, d4, e4, f4, s1, s2, s3, s4]
  refine chk15_wp hE _ (hv.keep (upd_ne _ _ (by omega))) hF ?_
  simp
  simpa [CfgR.may, a0, a1, a2, a3, a4] using h _ _ (Fr.refl _ _ _).new
end Go.Proofs.YtnimgpfgfohdoaaGreat
