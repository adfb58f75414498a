/-
  The law on a link's configs.
-/
import Derived.Test.YtnimgpfgfohdoaaGreatMLawCfg2
set_option linter.unusedVariables false
set_option linter.unusedSimpArgs false
namespace Go.Proofs.YtnimgpfgfohdoaaGreat
open Go AX
variable {E : FuncId → Option (Array Value → AX Value)} {F G : Nat → Prop} {H : AH} {s b : Nat} {Q : Value → AH → Nat → Prop}
set_option maxRecDepth 10000
set_option maxHeartbeats 4000000
/-- The law's awake, as it is run. -/
def AwakeOK (E : FuncId → Option (Array Value → AX Value)) (n s : Nat) : Prop := ∀ (F G : Nat → Prop) (H : AH) (Q : Value → AH → Nat → Prop), New F G s → Bd H s → (∀ H' s', Fr [] H s H' s' → Q (.bool true) H' s') → Wp F G (aCall Tryz.prog E (n) 4 #[]) H s Q
theorem clamp_eq (hE : Bare E) (n : Nat) (x : Int) : aCall Tryz.prog E (n + 1) 5 #[.int .i64 x] = ret (.int .i64 (max 0 (min x 16777215))) := by
  refine dry_eq fun H s => ?_
  refine enter (calm hE _) [] (hE.no _ (by decide)) Tryz.func5 Tryz.ntmps5 (by unfold Tryz.f5; rfl) (by unfold Tryz.f5; rfl) (by kernel_rfl) ?_
  simp
@[simp] theorem cl_clamp : callable Tryz.prog 5 = true := by kernel_rfl
def CfgR.clamp (c : CfgR) : CfgR := { c with start := max 0 (min c.start 16777215) }
def CfgA.clamp (c : CfgA) : CfgA := ⟨c.a.clamp, c.b.clamp, c.room⟩
theorem CfgR.fits_eq (c : CfgR) (h : 0 ≤ c.start ∧ c.start ≤ 16777215) : c.own.fits = c.may := by
  have e : c.start % 16777216 = c.start := by omega
  simp [CfgR.own, CfgN.fits, CfgR.may, e]
theorem CfgR.clamp_ok (c : CfgR) : 0 ≤ c.clamp.start ∧ c.clamp.start ≤ 16777215 := by simp [CfgR.clamp]; omega
theorem CfgA.fits_eq (c : CfgA) : c.clamp.own.fits = (c.a.clamp.may && (c.b.clamp.may && (decide (c.a.clamp.start = c.b.clamp.start) && (decide (1 ≤ c.room) && decide (c.room ≤ 256))))) := by
  have ha := c.a.clamp_ok
  have hb := c.b.clamp_ok
  show (c.a.clamp.own.fits && (c.b.clamp.own.fits && (decide (c.a.clamp.start % 16777216 = c.b.clamp.start % 16777216) && _))) = _
  rw [CfgR.fits_eq _ ha, CfgR.fits_eq _ hb, show c.a.clamp.start % 16777216 = c.a.clamp.start by omega, show c.b.clamp.start % 16777216 = c.b.clamp.start by omega]
  rfl
/-- What comes with an end's config: five numbers, or others. -/
def tickCells (c : CfgR) (a : Option Addr) (k : Nat) : List Value := [.int .i64 c.most, .int .i64 c.window, .int .i64 c.queue, .int .i64 c.units, .int .i64 c.polls, .int .i64 c.start, .slice a k k]
theorem five_new {H : AH} {d : Nat} {T : TypeId} {wr : Bool} {c0 c1 c2 c3 c4 : Int} (h : H d = some (.cells [.int .i64 c0, .int .i64 c1, .int .i64 c2, .int .i64 c3, .int .i64 c4] T wr)) : Five H d 0 c0 c1 c2 c3 c4 := ⟨_, _, _, h, rfl, rfl, rfl, rfl, rfl⟩
theorem configs_wp (hE : Bare E) (n : Nat) (c : CfgA) {a a' : Option Addr} {k k' : Nat} (hA : AwakeOK E (n + 4) (s + 1)) (hN : New F G s) (hB : Bd H s)
    (ha : k = 5 → ∃ d o, a = some ⟨d, o, none⟩ ∧ Five H d o c.a.c0 c.a.c1 c.a.c2 c.a.c3 c.a.c4 ∧ d < s ∧ F d)
    (ha' : k' = 5 → ∃ d o, a' = some ⟨d, o, none⟩ ∧ Five H d o c.b.c0 c.b.c1 c.b.c2 c.b.c3 c.b.c4 ∧ d < s ∧ F d)
    (hk : k ≠ 5 → c.a.c0 = 3 ∧ c.a.c1 = 2 ∧ c.a.c2 = 5 ∧ c.a.c3 = 9 ∧ c.a.c4 = 4) (hk' : k' ≠ 5 → c.b.c0 = 3 ∧ c.b.c1 = 2 ∧ c.b.c2 = 5 ∧ c.b.c3 = 9 ∧ c.b.c4 = 4)
    (h : ∀ H' s', Q (.bool true) H' s') : Wp F G (aCall Tryz.prog E (n + 5) 3 #[.agg (tickCells c.a a k ++ (tickCells c.b a' k' ++ [Value.int .i64 c.room])).toArray]) H s Q := by
  have hFs := hN s (Nat.le_refl _)
  refine enter (calm hE _) [(8, [8], [], [4])] (hE.no _ (by decide)) Tryz.func3 Tryz.ntmps3 (by unfold Tryz.f3; rfl) (by unfold Tryz.f3; rfl) (by kernel_rfl) ?_
  have hz : callable Tryz.prog 4 = true := by simp
  have hz2 : (#[] : Array Operand).toList.all Operand.okC = true := by simp
  simp [tickCells, o_call hz2 hz]
  refine wp_bd ((calm hE _).ls _ _) hB.new ?_
  refine hA _ _ _ _ (hN.up (Nat.le_succ _)) hB.new ?_
  intro H1 s1 f1 u1 b1
  have k1 := (f1.keep s (by omega) (by simp)).trans (upd_same _ _ _)
  have hF1 := hN s1 (by omega)
  have hne : s ≠ s1 := by omega
  have va : k = 5 → ∃ d o, a = some ⟨d, o, none⟩ ∧ Five H1 d o c.a.c0 c.a.c1 c.a.c2 c.a.c3 c.a.c4 ∧ d < s ∧ F d := fun e => by
    obtain ⟨d, o, rfl, hv, hd, hFd⟩ := ha e
    exact ⟨d, o, rfl, hv.keep ((f1.keep d (by omega) (by simp)).trans (upd_ne _ _ (by omega))), hd, hFd⟩
  have va' : k' = 5 → ∃ d o, a' = some ⟨d, o, none⟩ ∧ Five H1 d o c.b.c0 c.b.c1 c.b.c2 c.b.c3 c.b.c4 ∧ d < s ∧ F d := fun e => by
    obtain ⟨d, o, rfl, hv, hd, hFd⟩ := ha' e
    exact ⟨d, o, rfl, hv.keep ((f1.keep d (by omega) (by simp)).trans (upd_ne _ _ (by omega))), hd, hFd⟩
  have cs : (k = 5 ∧ k' = 5) ∨ (k = 5 ∧ k' ≠ 5) ∨ (k ≠ 5 ∧ k' = 5) ∨ (k ≠ 5 ∧ k' ≠ 5) := by omega
  have b1' := @Bd.new _ _ (some (.cells [.int .i64 3, .int .i64 2, .int .i64 5, .int .i64 9, .int .i64 4] 3 true)) b1
  rcases cs with ⟨e5, e5'⟩ | ⟨e5, e5'⟩ | ⟨e5, e5'⟩ | ⟨e5, e5'⟩
  · obtain ⟨d, o, rfl, va1, hd, hFd⟩ := va e5
    obtain ⟨d', o', rfl, va1', hd', hFd'⟩ := va' e5'
    subst e5; subst e5'
    simp [k1, hFs, clamp_eq hE, b1]
    refine ⟨by omega, ?_⟩
    obtain ⟨H2, hH⟩ : ∃ H2, H2 = upd (H1) s (some (.cells (c.clamp.cells (d) o (d') o') 26 true)) := ⟨_, rfl⟩
    show Wp F G _ (upd (H1) s (some (.cells (c.clamp.cells (d) o (d') o') 26 true))) (s1) _
    rw [← hH]
    have k2 : H2 s = some (.cells (c.clamp.cells (d) o (d') o') 26 true) := by rw [hH]; exact upd_same _ _ _
    have v1 : Five H2 (d) o c.clamp.a.c0 c.clamp.a.c1 c.clamp.a.c2 c.clamp.a.c3 c.clamp.a.c4 := by rw [hH]; exact va1.keep (upd_ne _ _ (by omega))
    have v2 : Five H2 (d') o' c.clamp.b.c0 c.clamp.b.c1 c.clamp.b.c2 c.clamp.b.c3 c.clamp.b.c4 := by rw [hH]; exact va1'.keep (upd_ne _ _ (by omega))
    have bd2 : Bd H2 (s1) := by rw [hH]; exact b1.set (by omega)
    refine wp_bd ((calm hE _).ls _ _) bd2 ?_
    refine own18_wp hE _ c.clamp (hN.up (by omega)) bd2 v1 v2 (by omega) (by omega) hFd hFd' fun H3 s3 g3 u3 b3 => ?_
    simp
    refine wp_bd ((calm hE _).ls _ _) b3 ?_
    have fe : c.clamp.own.fits = (c.clamp.a.may && (c.clamp.b.may && (decide (c.clamp.a.start = c.clamp.b.start) && (decide (1 ≤ c.clamp.room) && decide (c.clamp.room ≤ 256))))) := c.fits_eq
    refine lnew_wp hE _ c.clamp.own (hN.up (by omega)) b3 (fun efit H4 s4 l w n0 p0 n1 p1 f4 _ u4 b4 => ?_) (fun efit H4 s4 f4 u4 b4 => ?_)
    · have g4 := g3.comp f4 (by simp)
      have k4 := (g4.keep s (by omega) (by simp)).trans k2
      have em := efit
      rw [fe] at em
      simp only [Bool.and_eq_true, decide_eq_true_eq] at em
      obtain ⟨m1, m2, m3, m4, m5⟩ := em
      simp [k4, hFs, CfgA.cells, CfgR.cells]
      refine wp_bd ((calm hE _).ls _ _) b4 ?_
      refine chk16_wp hE _ c.clamp.a c.a.clamp_ok (hN.up (by have := g4.up; omega)) (v1.keep (g4.keep _ (by omega) (by simp))) (by have := g4.up; omega) hFd fun H5 s5 f5 u5 b5 => ?_
      have g5 := g4.comp f5 (by simp)
      have k5 := (g5.keep s (by omega) (by simp)).trans k2
      simp [k5, hFs, CfgA.cells, CfgR.cells, m1]
      refine wp_bd ((calm hE _).ls _ _) b5 ?_
      refine chk16_wp hE _ c.clamp.b c.b.clamp_ok (hN.up (by have := g5.up; omega)) (v2.keep (g5.keep _ (by omega) (by simp))) (by have := g5.up; omega) hFd' fun H6 s6 f6 u6 b6 => ?_
      have g6 := g5.comp f6 (by simp)
      have k6 := (g6.keep s (by omega) (by simp)).trans k2
      simp [k6, hFs, CfgA.cells, CfgR.cells, m1, m2, eq_true m3, m4, m5]
      refine wp_bd ((calm hE _).ls _ _) b6 ?_
      refine own18_wp hE _ c.clamp (hN.up (by have := g6.up; omega)) b6 (v1.keep (g6.keep _ (by omega) (by simp))) (v2.keep (g6.keep _ (by omega) (by simp))) (by have := g6.up; omega) (by have := g6.up; omega) hFd hFd' fun H8 s8 f8 u8 b8 => ?_
      have g8 := g6.comp f8 (by simp)
      simp
      refine lcheck_wp hE _ c.clamp.own (hN.up (by have := g8.up; omega)) fun H9 s9 f9 => ?_
      simp [efit, m1, m2, eq_true m3, m4, m5]
      exact h _ _
    · have g4 := g3.comp f4 (by simp)
      have k4 := (g4.keep s (by omega) (by simp)).trans k2
      have em := efit
      rw [fe] at em
      simp [k4, hFs, CfgA.cells, CfgR.cells]
      refine wp_bd ((calm hE _).ls _ _) b4 ?_
      refine chk16_wp hE _ c.clamp.a c.a.clamp_ok (hN.up (by have := g4.up; omega)) (v1.keep (g4.keep _ (by omega) (by simp))) (by have := g4.up; omega) hFd fun H5 s5 f5 u5 b5 => ?_
      have g5 := g4.comp f5 (by simp)
      have k5 := (g5.keep s (by omega) (by simp)).trans k2
      cases m1 : c.clamp.a.may
      · simp [k5, hFs, CfgA.cells, CfgR.cells, m1]
        refine wp_bd ((calm hE _).ls _ _) b5 ?_
        refine own18_wp hE _ c.clamp (hN.up (by have := g5.up; omega)) b5 (v1.keep (g5.keep _ (by omega) (by simp))) (v2.keep (g5.keep _ (by omega) (by simp))) (by have := g5.up; omega) (by have := g5.up; omega) hFd hFd' fun H8 s8 f8 u8 b8 => ?_
        have g8 := g5.comp f8 (by simp)
        simp
        refine lcheck_wp hE _ c.clamp.own (hN.up (by have := g8.up; omega)) fun H9 s9 f9 => ?_
        simp [efit, m1]
        exact h _ _
      simp [k5, hFs, CfgA.cells, CfgR.cells, m1]
      refine wp_bd ((calm hE _).ls _ _) b5 ?_
      refine chk16_wp hE _ c.clamp.b c.b.clamp_ok (hN.up (by have := g5.up; omega)) (v2.keep (g5.keep _ (by omega) (by simp))) (by have := g5.up; omega) hFd' fun H6 s6 f6 u6 b6 => ?_
      have g6 := g5.comp f6 (by simp)
      have k6 := (g6.keep s (by omega) (by simp)).trans k2
      cases m2 : c.clamp.b.may
      · simp [k6, hFs, CfgA.cells, CfgR.cells, m1, m2]
        refine wp_bd ((calm hE _).ls _ _) b6 ?_
        refine own18_wp hE _ c.clamp (hN.up (by have := g6.up; omega)) b6 (v1.keep (g6.keep _ (by omega) (by simp))) (v2.keep (g6.keep _ (by omega) (by simp))) (by have := g6.up; omega) (by have := g6.up; omega) hFd hFd' fun H8 s8 f8 u8 b8 => ?_
        have g8 := g6.comp f8 (by simp)
        simp
        refine lcheck_wp hE _ c.clamp.own (hN.up (by have := g8.up; omega)) fun H9 s9 f9 => ?_
        simp [efit, m1, m2]
        exact h _ _
      simp only [m1, m2, Bool.true_and] at em
      have hr : (c.clamp.room < 1 ∧ ¬ 1 ≤ c.clamp.room) ∨ (¬ c.clamp.room < 1 ∧ 1 ≤ c.clamp.room) := by omega
      by_cases m3 : c.clamp.a.start = c.clamp.b.start
      · rcases hr with ⟨r1, r2⟩ | ⟨r1, r2⟩
        · simp [k6, hFs, CfgA.cells, CfgR.cells, m1, m2, eq_true m3, r1, r2]
          refine wp_bd ((calm hE _).ls _ _) b6 ?_
          refine own18_wp hE _ c.clamp (hN.up (by have := g6.up; omega)) b6 (v1.keep (g6.keep _ (by omega) (by simp))) (v2.keep (g6.keep _ (by omega) (by simp))) (by have := g6.up; omega) (by have := g6.up; omega) hFd hFd' fun H8 s8 f8 u8 b8 => ?_
          have g8 := g6.comp f8 (by simp)
          simp
          refine lcheck_wp hE _ c.clamp.own (hN.up (by have := g8.up; omega)) fun H9 s9 f9 => ?_
          simp [efit, m1, m2, eq_true m3, r1, r2]
          exact h _ _
        · have r3 : ¬ c.clamp.room ≤ 256 := by
            intro r4
            simp [m3, r2, r4] at em
          have r4 : 256 < c.clamp.room := by omega
          simp [k6, hFs, CfgA.cells, CfgR.cells, m1, m2, eq_true m3, r1, r2, r3, r4]
          refine wp_bd ((calm hE _).ls _ _) b6 ?_
          refine own18_wp hE _ c.clamp (hN.up (by have := g6.up; omega)) b6 (v1.keep (g6.keep _ (by omega) (by simp))) (v2.keep (g6.keep _ (by omega) (by simp))) (by have := g6.up; omega) (by have := g6.up; omega) hFd hFd' fun H8 s8 f8 u8 b8 => ?_
          have g8 := g6.comp f8 (by simp)
          simp
          refine lcheck_wp hE _ c.clamp.own (hN.up (by have := g8.up; omega)) fun H9 s9 f9 => ?_
          simp [efit, m1, m2, eq_true m3, r1, r2, r3, r4]
          exact h _ _
      · simp [k6, hFs, CfgA.cells, CfgR.cells, m1, m2, m3]
        refine wp_bd ((calm hE _).ls _ _) b6 ?_
        refine own18_wp hE _ c.clamp (hN.up (by have := g6.up; omega)) b6 (v1.keep (g6.keep _ (by omega) (by simp))) (v2.keep (g6.keep _ (by omega) (by simp))) (by have := g6.up; omega) (by have := g6.up; omega) hFd hFd' fun H8 s8 f8 u8 b8 => ?_
        have g8 := g6.comp f8 (by simp)
        simp
        refine lcheck_wp hE _ c.clamp.own (hN.up (by have := g8.up; omega)) fun H9 s9 f9 => ?_
        simp [efit, m1, m2, m3]
        exact h _ _
  · obtain ⟨d, o, rfl, va1, hd, hFd⟩ := va e5
    subst e5
    have e6 : ¬ (k' : Int) = 5 := by omega
    have hh := hk' e5'
    simp [k1, hFs, clamp_eq hE, b1, e6, upd_ne, hne]
    refine ⟨(b1'.set (by omega)), by omega, ?_⟩
    obtain ⟨H2, hH⟩ : ∃ H2, H2 = upd (upd H1 s1 (some (.cells [.int .i64 3, .int .i64 2, .int .i64 5, .int .i64 9, .int .i64 4] 3 true))) s (some (.cells (c.clamp.cells (d) o (s1) 0) 26 true)) := ⟨_, rfl⟩
    show Wp F G _ (upd (upd H1 s1 (some (.cells [.int .i64 3, .int .i64 2, .int .i64 5, .int .i64 9, .int .i64 4] 3 true))) s (some (.cells (c.clamp.cells (d) o (s1) 0) 26 true))) (s1 + 1) _
    rw [← hH]
    have k2 : H2 s = some (.cells (c.clamp.cells (d) o (s1) 0) 26 true) := by rw [hH]; exact upd_same _ _ _
    have v1 : Five H2 (d) o c.clamp.a.c0 c.clamp.a.c1 c.clamp.a.c2 c.clamp.a.c3 c.clamp.a.c4 := by rw [hH]; exact va1.keep ((upd_ne _ _ (by omega)).trans (upd_ne _ _ (by omega)))
    have v2 : Five H2 (s1) 0 c.clamp.b.c0 c.clamp.b.c1 c.clamp.b.c2 c.clamp.b.c3 c.clamp.b.c4 := by rw [hH]; show Five _ _ _ c.b.c0 c.b.c1 c.b.c2 c.b.c3 c.b.c4; exact (by rw [hh.1, hh.2.1, hh.2.2.1, hh.2.2.2.1, hh.2.2.2.2]; exact five_new ((upd_ne _ _ (by omega)).trans (upd_same _ _ _)))
    have bd2 : Bd H2 (s1 + 1) := by rw [hH]; exact b1'.set (by omega)
    refine wp_bd ((calm hE _).ls _ _) bd2 ?_
    refine own18_wp hE _ c.clamp (hN.up (by omega)) bd2 v1 v2 (by omega) (by omega) hFd hF1.1 fun H3 s3 g3 u3 b3 => ?_
    simp
    refine wp_bd ((calm hE _).ls _ _) b3 ?_
    have fe : c.clamp.own.fits = (c.clamp.a.may && (c.clamp.b.may && (decide (c.clamp.a.start = c.clamp.b.start) && (decide (1 ≤ c.clamp.room) && decide (c.clamp.room ≤ 256))))) := c.fits_eq
    refine lnew_wp hE _ c.clamp.own (hN.up (by omega)) b3 (fun efit H4 s4 l w n0 p0 n1 p1 f4 _ u4 b4 => ?_) (fun efit H4 s4 f4 u4 b4 => ?_)
    · have g4 := g3.comp f4 (by simp)
      have k4 := (g4.keep s (by omega) (by simp)).trans k2
      have em := efit
      rw [fe] at em
      simp only [Bool.and_eq_true, decide_eq_true_eq] at em
      obtain ⟨m1, m2, m3, m4, m5⟩ := em
      simp [k4, hFs, CfgA.cells, CfgR.cells]
      refine wp_bd ((calm hE _).ls _ _) b4 ?_
      refine chk16_wp hE _ c.clamp.a c.a.clamp_ok (hN.up (by have := g4.up; omega)) (v1.keep (g4.keep _ (by omega) (by simp))) (by have := g4.up; omega) hFd fun H5 s5 f5 u5 b5 => ?_
      have g5 := g4.comp f5 (by simp)
      have k5 := (g5.keep s (by omega) (by simp)).trans k2
      simp [k5, hFs, CfgA.cells, CfgR.cells, m1]
      refine wp_bd ((calm hE _).ls _ _) b5 ?_
      refine chk16_wp hE _ c.clamp.b c.b.clamp_ok (hN.up (by have := g5.up; omega)) (v2.keep (g5.keep _ (by omega) (by simp))) (by have := g5.up; omega) hF1.1 fun H6 s6 f6 u6 b6 => ?_
      have g6 := g5.comp f6 (by simp)
      have k6 := (g6.keep s (by omega) (by simp)).trans k2
      simp [k6, hFs, CfgA.cells, CfgR.cells, m1, m2, eq_true m3, m4, m5]
      refine wp_bd ((calm hE _).ls _ _) b6 ?_
      refine own18_wp hE _ c.clamp (hN.up (by have := g6.up; omega)) b6 (v1.keep (g6.keep _ (by omega) (by simp))) (v2.keep (g6.keep _ (by omega) (by simp))) (by have := g6.up; omega) (by have := g6.up; omega) hFd hF1.1 fun H8 s8 f8 u8 b8 => ?_
      have g8 := g6.comp f8 (by simp)
      simp
      refine lcheck_wp hE _ c.clamp.own (hN.up (by have := g8.up; omega)) fun H9 s9 f9 => ?_
      simp [efit, m1, m2, eq_true m3, m4, m5]
      exact h _ _
    · have g4 := g3.comp f4 (by simp)
      have k4 := (g4.keep s (by omega) (by simp)).trans k2
      have em := efit
      rw [fe] at em
      simp [k4, hFs, CfgA.cells, CfgR.cells]
      refine wp_bd ((calm hE _).ls _ _) b4 ?_
      refine chk16_wp hE _ c.clamp.a c.a.clamp_ok (hN.up (by have := g4.up; omega)) (v1.keep (g4.keep _ (by omega) (by simp))) (by have := g4.up; omega) hFd fun H5 s5 f5 u5 b5 => ?_
      have g5 := g4.comp f5 (by simp)
      have k5 := (g5.keep s (by omega) (by simp)).trans k2
      cases m1 : c.clamp.a.may
      · simp [k5, hFs, CfgA.cells, CfgR.cells, m1]
        refine wp_bd ((calm hE _).ls _ _) b5 ?_
        refine own18_wp hE _ c.clamp (hN.up (by have := g5.up; omega)) b5 (v1.keep (g5.keep _ (by omega) (by simp))) (v2.keep (g5.keep _ (by omega) (by simp))) (by have := g5.up; omega) (by have := g5.up; omega) hFd hF1.1 fun H8 s8 f8 u8 b8 => ?_
        have g8 := g5.comp f8 (by simp)
        simp
        refine lcheck_wp hE _ c.clamp.own (hN.up (by have := g8.up; omega)) fun H9 s9 f9 => ?_
        simp [efit, m1]
        exact h _ _
      simp [k5, hFs, CfgA.cells, CfgR.cells, m1]
      refine wp_bd ((calm hE _).ls _ _) b5 ?_
      refine chk16_wp hE _ c.clamp.b c.b.clamp_ok (hN.up (by have := g5.up; omega)) (v2.keep (g5.keep _ (by omega) (by simp))) (by have := g5.up; omega) hF1.1 fun H6 s6 f6 u6 b6 => ?_
      have g6 := g5.comp f6 (by simp)
      have k6 := (g6.keep s (by omega) (by simp)).trans k2
      cases m2 : c.clamp.b.may
      · simp [k6, hFs, CfgA.cells, CfgR.cells, m1, m2]
        refine wp_bd ((calm hE _).ls _ _) b6 ?_
        refine own18_wp hE _ c.clamp (hN.up (by have := g6.up; omega)) b6 (v1.keep (g6.keep _ (by omega) (by simp))) (v2.keep (g6.keep _ (by omega) (by simp))) (by have := g6.up; omega) (by have := g6.up; omega) hFd hF1.1 fun H8 s8 f8 u8 b8 => ?_
        have g8 := g6.comp f8 (by simp)
        simp
        refine lcheck_wp hE _ c.clamp.own (hN.up (by have := g8.up; omega)) fun H9 s9 f9 => ?_
        simp [efit, m1, m2]
        exact h _ _
      simp only [m1, m2, Bool.true_and] at em
      have hr : (c.clamp.room < 1 ∧ ¬ 1 ≤ c.clamp.room) ∨ (¬ c.clamp.room < 1 ∧ 1 ≤ c.clamp.room) := by omega
      by_cases m3 : c.clamp.a.start = c.clamp.b.start
      · rcases hr with ⟨r1, r2⟩ | ⟨r1, r2⟩
        · simp [k6, hFs, CfgA.cells, CfgR.cells, m1, m2, eq_true m3, r1, r2]
          refine wp_bd ((calm hE _).ls _ _) b6 ?_
          refine own18_wp hE _ c.clamp (hN.up (by have := g6.up; omega)) b6 (v1.keep (g6.keep _ (by omega) (by simp))) (v2.keep (g6.keep _ (by omega) (by simp))) (by have := g6.up; omega) (by have := g6.up; omega) hFd hF1.1 fun H8 s8 f8 u8 b8 => ?_
          have g8 := g6.comp f8 (by simp)
          simp
          refine lcheck_wp hE _ c.clamp.own (hN.up (by have := g8.up; omega)) fun H9 s9 f9 => ?_
          simp [efit, m1, m2, eq_true m3, r1, r2]
          exact h _ _
        · have r3 : ¬ c.clamp.room ≤ 256 := by
            intro r4
            simp [m3, r2, r4] at em
          have r4 : 256 < c.clamp.room := by omega
          simp [k6, hFs, CfgA.cells, CfgR.cells, m1, m2, eq_true m3, r1, r2, r3, r4]
          refine wp_bd ((calm hE _).ls _ _) b6 ?_
          refine own18_wp hE _ c.clamp (hN.up (by have := g6.up; omega)) b6 (v1.keep (g6.keep _ (by omega) (by simp))) (v2.keep (g6.keep _ (by omega) (by simp))) (by have := g6.up; omega) (by have := g6.up; omega) hFd hF1.1 fun H8 s8 f8 u8 b8 => ?_
          have g8 := g6.comp f8 (by simp)
          simp
          refine lcheck_wp hE _ c.clamp.own (hN.up (by have := g8.up; omega)) fun H9 s9 f9 => ?_
          simp [efit, m1, m2, eq_true m3, r1, r2, r3, r4]
          exact h _ _
      · simp [k6, hFs, CfgA.cells, CfgR.cells, m1, m2, m3]
        refine wp_bd ((calm hE _).ls _ _) b6 ?_
        refine own18_wp hE _ c.clamp (hN.up (by have := g6.up; omega)) b6 (v1.keep (g6.keep _ (by omega) (by simp))) (v2.keep (g6.keep _ (by omega) (by simp))) (by have := g6.up; omega) (by have := g6.up; omega) hFd hF1.1 fun H8 s8 f8 u8 b8 => ?_
        have g8 := g6.comp f8 (by simp)
        simp
        refine lcheck_wp hE _ c.clamp.own (hN.up (by have := g8.up; omega)) fun H9 s9 f9 => ?_
        simp [efit, m1, m2, m3]
        exact h _ _
  · obtain ⟨d', o', rfl, va1', hd', hFd'⟩ := va' e5'
    subst e5'
    have e6 : ¬ (k : Int) = 5 := by omega
    have hh := hk e5
    simp [k1, hFs, clamp_eq hE, b1, e6, upd_ne, hne]
    refine ⟨(b1'.set (by omega)), by omega, ?_⟩
    obtain ⟨H2, hH⟩ : ∃ H2, H2 = upd (upd H1 s1 (some (.cells [.int .i64 3, .int .i64 2, .int .i64 5, .int .i64 9, .int .i64 4] 3 true))) s (some (.cells (c.clamp.cells (s1) 0 (d') o') 26 true)) := ⟨_, rfl⟩
    show Wp F G _ (upd (upd H1 s1 (some (.cells [.int .i64 3, .int .i64 2, .int .i64 5, .int .i64 9, .int .i64 4] 3 true))) s (some (.cells (c.clamp.cells (s1) 0 (d') o') 26 true))) (s1 + 1) _
    rw [← hH]
    have k2 : H2 s = some (.cells (c.clamp.cells (s1) 0 (d') o') 26 true) := by rw [hH]; exact upd_same _ _ _
    have v1 : Five H2 (s1) 0 c.clamp.a.c0 c.clamp.a.c1 c.clamp.a.c2 c.clamp.a.c3 c.clamp.a.c4 := by rw [hH]; show Five _ _ _ c.a.c0 c.a.c1 c.a.c2 c.a.c3 c.a.c4; exact (by rw [hh.1, hh.2.1, hh.2.2.1, hh.2.2.2.1, hh.2.2.2.2]; exact five_new ((upd_ne _ _ (by omega)).trans (upd_same _ _ _)))
    have v2 : Five H2 (d') o' c.clamp.b.c0 c.clamp.b.c1 c.clamp.b.c2 c.clamp.b.c3 c.clamp.b.c4 := by rw [hH]; exact va1'.keep ((upd_ne _ _ (by omega)).trans (upd_ne _ _ (by omega)))
    have bd2 : Bd H2 (s1 + 1) := by rw [hH]; exact b1'.set (by omega)
    refine wp_bd ((calm hE _).ls _ _) bd2 ?_
    refine own18_wp hE _ c.clamp (hN.up (by omega)) bd2 v1 v2 (by omega) (by omega) hF1.1 hFd' fun H3 s3 g3 u3 b3 => ?_
    simp
    refine wp_bd ((calm hE _).ls _ _) b3 ?_
    have fe : c.clamp.own.fits = (c.clamp.a.may && (c.clamp.b.may && (decide (c.clamp.a.start = c.clamp.b.start) && (decide (1 ≤ c.clamp.room) && decide (c.clamp.room ≤ 256))))) := c.fits_eq
    refine lnew_wp hE _ c.clamp.own (hN.up (by omega)) b3 (fun efit H4 s4 l w n0 p0 n1 p1 f4 _ u4 b4 => ?_) (fun efit H4 s4 f4 u4 b4 => ?_)
    · have g4 := g3.comp f4 (by simp)
      have k4 := (g4.keep s (by omega) (by simp)).trans k2
      have em := efit
      rw [fe] at em
      simp only [Bool.and_eq_true, decide_eq_true_eq] at em
      obtain ⟨m1, m2, m3, m4, m5⟩ := em
      simp [k4, hFs, CfgA.cells, CfgR.cells]
      refine wp_bd ((calm hE _).ls _ _) b4 ?_
      refine chk16_wp hE _ c.clamp.a c.a.clamp_ok (hN.up (by have := g4.up; omega)) (v1.keep (g4.keep _ (by omega) (by simp))) (by have := g4.up; omega) hF1.1 fun H5 s5 f5 u5 b5 => ?_
      have g5 := g4.comp f5 (by simp)
      have k5 := (g5.keep s (by omega) (by simp)).trans k2
      simp [k5, hFs, CfgA.cells, CfgR.cells, m1]
      refine wp_bd ((calm hE _).ls _ _) b5 ?_
      refine chk16_wp hE _ c.clamp.b c.b.clamp_ok (hN.up (by have := g5.up; omega)) (v2.keep (g5.keep _ (by omega) (by simp))) (by have := g5.up; omega) hFd' fun H6 s6 f6 u6 b6 => ?_
      have g6 := g5.comp f6 (by simp)
      have k6 := (g6.keep s (by omega) (by simp)).trans k2
      simp [k6, hFs, CfgA.cells, CfgR.cells, m1, m2, eq_true m3, m4, m5]
      refine wp_bd ((calm hE _).ls _ _) b6 ?_
      refine own18_wp hE _ c.clamp (hN.up (by have := g6.up; omega)) b6 (v1.keep (g6.keep _ (by omega) (by simp))) (v2.keep (g6.keep _ (by omega) (by simp))) (by have := g6.up; omega) (by have := g6.up; omega) hF1.1 hFd' fun H8 s8 f8 u8 b8 => ?_
      have g8 := g6.comp f8 (by simp)
      simp
      refine lcheck_wp hE _ c.clamp.own (hN.up (by have := g8.up; omega)) fun H9 s9 f9 => ?_
      simp [efit, m1, m2, eq_true m3, m4, m5]
      exact h _ _
    · have g4 := g3.comp f4 (by simp)
      have k4 := (g4.keep s (by omega) (by simp)).trans k2
      have em := efit
      rw [fe] at em
      simp [k4, hFs, CfgA.cells, CfgR.cells]
      refine wp_bd ((calm hE _).ls _ _) b4 ?_
      refine chk16_wp hE _ c.clamp.a c.a.clamp_ok (hN.up (by have := g4.up; omega)) (v1.keep (g4.keep _ (by omega) (by simp))) (by have := g4.up; omega) hF1.1 fun H5 s5 f5 u5 b5 => ?_
      have g5 := g4.comp f5 (by simp)
      have k5 := (g5.keep s (by omega) (by simp)).trans k2
      cases m1 : c.clamp.a.may
      · simp [k5, hFs, CfgA.cells, CfgR.cells, m1]
        refine wp_bd ((calm hE _).ls _ _) b5 ?_
        refine own18_wp hE _ c.clamp (hN.up (by have := g5.up; omega)) b5 (v1.keep (g5.keep _ (by omega) (by simp))) (v2.keep (g5.keep _ (by omega) (by simp))) (by have := g5.up; omega) (by have := g5.up; omega) hF1.1 hFd' fun H8 s8 f8 u8 b8 => ?_
        have g8 := g5.comp f8 (by simp)
        simp
        refine lcheck_wp hE _ c.clamp.own (hN.up (by have := g8.up; omega)) fun H9 s9 f9 => ?_
        simp [efit, m1]
        exact h _ _
      simp [k5, hFs, CfgA.cells, CfgR.cells, m1]
      refine wp_bd ((calm hE _).ls _ _) b5 ?_
      refine chk16_wp hE _ c.clamp.b c.b.clamp_ok (hN.up (by have := g5.up; omega)) (v2.keep (g5.keep _ (by omega) (by simp))) (by have := g5.up; omega) hFd' fun H6 s6 f6 u6 b6 => ?_
      have g6 := g5.comp f6 (by simp)
      have k6 := (g6.keep s (by omega) (by simp)).trans k2
      cases m2 : c.clamp.b.may
      · simp [k6, hFs, CfgA.cells, CfgR.cells, m1, m2]
        refine wp_bd ((calm hE _).ls _ _) b6 ?_
        refine own18_wp hE _ c.clamp (hN.up (by have := g6.up; omega)) b6 (v1.keep (g6.keep _ (by omega) (by simp))) (v2.keep (g6.keep _ (by omega) (by simp))) (by have := g6.up; omega) (by have := g6.up; omega) hF1.1 hFd' fun H8 s8 f8 u8 b8 => ?_
        have g8 := g6.comp f8 (by simp)
        simp
        refine lcheck_wp hE _ c.clamp.own (hN.up (by have := g8.up; omega)) fun H9 s9 f9 => ?_
        simp [efit, m1, m2]
        exact h _ _
      simp only [m1, m2, Bool.true_and] at em
      have hr : (c.clamp.room < 1 ∧ ¬ 1 ≤ c.clamp.room) ∨ (¬ c.clamp.room < 1 ∧ 1 ≤ c.clamp.room) := by omega
      by_cases m3 : c.clamp.a.start = c.clamp.b.start
      · rcases hr with ⟨r1, r2⟩ | ⟨r1, r2⟩
        · simp [k6, hFs, CfgA.cells, CfgR.cells, m1, m2, eq_true m3, r1, r2]
          refine wp_bd ((calm hE _).ls _ _) b6 ?_
          refine own18_wp hE _ c.clamp (hN.up (by have := g6.up; omega)) b6 (v1.keep (g6.keep _ (by omega) (by simp))) (v2.keep (g6.keep _ (by omega) (by simp))) (by have := g6.up; omega) (by have := g6.up; omega) hF1.1 hFd' fun H8 s8 f8 u8 b8 => ?_
          have g8 := g6.comp f8 (by simp)
          simp
          refine lcheck_wp hE _ c.clamp.own (hN.up (by have := g8.up; omega)) fun H9 s9 f9 => ?_
          simp [efit, m1, m2, eq_true m3, r1, r2]
          exact h _ _
        · have r3 : ¬ c.clamp.room ≤ 256 := by
            intro r4
            simp [m3, r2, r4] at em
          have r4 : 256 < c.clamp.room := by omega
          simp [k6, hFs, CfgA.cells, CfgR.cells, m1, m2, eq_true m3, r1, r2, r3, r4]
          refine wp_bd ((calm hE _).ls _ _) b6 ?_
          refine own18_wp hE _ c.clamp (hN.up (by have := g6.up; omega)) b6 (v1.keep (g6.keep _ (by omega) (by simp))) (v2.keep (g6.keep _ (by omega) (by simp))) (by have := g6.up; omega) (by have := g6.up; omega) hF1.1 hFd' fun H8 s8 f8 u8 b8 => ?_
          have g8 := g6.comp f8 (by simp)
          simp
          refine lcheck_wp hE _ c.clamp.own (hN.up (by have := g8.up; omega)) fun H9 s9 f9 => ?_
          simp [efit, m1, m2, eq_true m3, r1, r2, r3, r4]
          exact h _ _
      · simp [k6, hFs, CfgA.cells, CfgR.cells, m1, m2, m3]
        refine wp_bd ((calm hE _).ls _ _) b6 ?_
        refine own18_wp hE _ c.clamp (hN.up (by have := g6.up; omega)) b6 (v1.keep (g6.keep _ (by omega) (by simp))) (v2.keep (g6.keep _ (by omega) (by simp))) (by have := g6.up; omega) (by have := g6.up; omega) hF1.1 hFd' fun H8 s8 f8 u8 b8 => ?_
        have g8 := g6.comp f8 (by simp)
        simp
        refine lcheck_wp hE _ c.clamp.own (hN.up (by have := g8.up; omega)) fun H9 s9 f9 => ?_
        simp [efit, m1, m2, m3]
        exact h _ _
  · have e6 : ¬ (k : Int) = 5 := by omega
    have e6' : ¬ (k' : Int) = 5 := by omega
    have hh := hk e5
    have hh' := hk' e5'
    have hF11 := hN (s1 + 1) (by omega)
    simp [k1, hFs, clamp_eq hE, b1, e6, e6', upd_ne, hne, show s ≠ s1 + 1 by omega]
    refine ⟨(b1'.set (by omega)).new.set (by omega), by omega, ?_⟩
    obtain ⟨H2, hH⟩ : ∃ H2, H2 = upd (upd (upd (upd H1 s1 (some (.cells [.int .i64 3, .int .i64 2, .int .i64 5, .int .i64 9, .int .i64 4] 3 true))) s (some (.cells (tickCells c.a (some ⟨s1, 0, none⟩) 5 ++ (tickCells c.b a' k' ++ [Value.int .i64 c.room])) 26 true))) (s1 + 1) (some (.cells [.int .i64 3, .int .i64 2, .int .i64 5, .int .i64 9, .int .i64 4] 3 true))) s (some (.cells (c.clamp.cells (s1) 0 (s1 + 1) 0) 26 true)) := ⟨_, rfl⟩
    show Wp F G _ (upd (upd (upd (upd H1 s1 (some (.cells [.int .i64 3, .int .i64 2, .int .i64 5, .int .i64 9, .int .i64 4] 3 true))) s (some (.cells (tickCells c.a (some ⟨s1, 0, none⟩) 5 ++ (tickCells c.b a' k' ++ [Value.int .i64 c.room])) 26 true))) (s1 + 1) (some (.cells [.int .i64 3, .int .i64 2, .int .i64 5, .int .i64 9, .int .i64 4] 3 true))) s (some (.cells (c.clamp.cells (s1) 0 (s1 + 1) 0) 26 true))) (s1 + 1 + 1) _
    rw [← hH]
    have k2 : H2 s = some (.cells (c.clamp.cells (s1) 0 (s1 + 1) 0) 26 true) := by rw [hH]; exact upd_same _ _ _
    have v1 : Five H2 (s1) 0 c.clamp.a.c0 c.clamp.a.c1 c.clamp.a.c2 c.clamp.a.c3 c.clamp.a.c4 := by rw [hH]; show Five _ _ _ c.a.c0 c.a.c1 c.a.c2 c.a.c3 c.a.c4; exact (by rw [hh.1, hh.2.1, hh.2.2.1, hh.2.2.2.1, hh.2.2.2.2]; exact five_new ((upd_ne _ _ (by omega)).trans ((upd_ne _ _ (by omega)).trans ((upd_ne _ _ (by omega)).trans (upd_same _ _ _)))))
    have v2 : Five H2 (s1 + 1) 0 c.clamp.b.c0 c.clamp.b.c1 c.clamp.b.c2 c.clamp.b.c3 c.clamp.b.c4 := by rw [hH]; show Five _ _ _ c.b.c0 c.b.c1 c.b.c2 c.b.c3 c.b.c4; exact (by rw [hh'.1, hh'.2.1, hh'.2.2.1, hh'.2.2.2.1, hh'.2.2.2.2]; exact five_new ((upd_ne _ _ (by omega)).trans (upd_same _ _ _)))
    have bd2 : Bd H2 (s1 + 1 + 1) := by rw [hH]; exact ((b1'.set (by omega)).new).set (by omega)
    refine wp_bd ((calm hE _).ls _ _) bd2 ?_
    refine own18_wp hE _ c.clamp (hN.up (by omega)) bd2 v1 v2 (by omega) (by omega) hF1.1 hF11.1 fun H3 s3 g3 u3 b3 => ?_
    simp
    refine wp_bd ((calm hE _).ls _ _) b3 ?_
    have fe : c.clamp.own.fits = (c.clamp.a.may && (c.clamp.b.may && (decide (c.clamp.a.start = c.clamp.b.start) && (decide (1 ≤ c.clamp.room) && decide (c.clamp.room ≤ 256))))) := c.fits_eq
    refine lnew_wp hE _ c.clamp.own (hN.up (by omega)) b3 (fun efit H4 s4 l w n0 p0 n1 p1 f4 _ u4 b4 => ?_) (fun efit H4 s4 f4 u4 b4 => ?_)
    · have g4 := g3.comp f4 (by simp)
      have k4 := (g4.keep s (by omega) (by simp)).trans k2
      have em := efit
      rw [fe] at em
      simp only [Bool.and_eq_true, decide_eq_true_eq] at em
      obtain ⟨m1, m2, m3, m4, m5⟩ := em
      simp [k4, hFs, CfgA.cells, CfgR.cells]
      refine wp_bd ((calm hE _).ls _ _) b4 ?_
      refine chk16_wp hE _ c.clamp.a c.a.clamp_ok (hN.up (by have := g4.up; omega)) (v1.keep (g4.keep _ (by omega) (by simp))) (by have := g4.up; omega) hF1.1 fun H5 s5 f5 u5 b5 => ?_
      have g5 := g4.comp f5 (by simp)
      have k5 := (g5.keep s (by omega) (by simp)).trans k2
      simp [k5, hFs, CfgA.cells, CfgR.cells, m1]
      refine wp_bd ((calm hE _).ls _ _) b5 ?_
      refine chk16_wp hE _ c.clamp.b c.b.clamp_ok (hN.up (by have := g5.up; omega)) (v2.keep (g5.keep _ (by omega) (by simp))) (by have := g5.up; omega) hF11.1 fun H6 s6 f6 u6 b6 => ?_
      have g6 := g5.comp f6 (by simp)
      have k6 := (g6.keep s (by omega) (by simp)).trans k2
      simp [k6, hFs, CfgA.cells, CfgR.cells, m1, m2, eq_true m3, m4, m5]
      refine wp_bd ((calm hE _).ls _ _) b6 ?_
      refine own18_wp hE _ c.clamp (hN.up (by have := g6.up; omega)) b6 (v1.keep (g6.keep _ (by omega) (by simp))) (v2.keep (g6.keep _ (by omega) (by simp))) (by have := g6.up; omega) (by have := g6.up; omega) hF1.1 hF11.1 fun H8 s8 f8 u8 b8 => ?_
      have g8 := g6.comp f8 (by simp)
      simp
      refine lcheck_wp hE _ c.clamp.own (hN.up (by have := g8.up; omega)) fun H9 s9 f9 => ?_
      simp [efit, m1, m2, eq_true m3, m4, m5]
      exact h _ _
    · have g4 := g3.comp f4 (by simp)
      have k4 := (g4.keep s (by omega) (by simp)).trans k2
      have em := efit
      rw [fe] at em
      simp [k4, hFs, CfgA.cells, CfgR.cells]
      refine wp_bd ((calm hE _).ls _ _) b4 ?_
      refine chk16_wp hE _ c.clamp.a c.a.clamp_ok (hN.up (by have := g4.up; omega)) (v1.keep (g4.keep _ (by omega) (by simp))) (by have := g4.up; omega) hF1.1 fun H5 s5 f5 u5 b5 => ?_
      have g5 := g4.comp f5 (by simp)
      have k5 := (g5.keep s (by omega) (by simp)).trans k2
      cases m1 : c.clamp.a.may
      · simp [k5, hFs, CfgA.cells, CfgR.cells, m1]
        refine wp_bd ((calm hE _).ls _ _) b5 ?_
        refine own18_wp hE _ c.clamp (hN.up (by have := g5.up; omega)) b5 (v1.keep (g5.keep _ (by omega) (by simp))) (v2.keep (g5.keep _ (by omega) (by simp))) (by have := g5.up; omega) (by have := g5.up; omega) hF1.1 hF11.1 fun H8 s8 f8 u8 b8 => ?_
        have g8 := g5.comp f8 (by simp)
        simp
        refine lcheck_wp hE _ c.clamp.own (hN.up (by have := g8.up; omega)) fun H9 s9 f9 => ?_
        simp [efit, m1]
        exact h _ _
      simp [k5, hFs, CfgA.cells, CfgR.cells, m1]
      refine wp_bd ((calm hE _).ls _ _) b5 ?_
      refine chk16_wp hE _ c.clamp.b c.b.clamp_ok (hN.up (by have := g5.up; omega)) (v2.keep (g5.keep _ (by omega) (by simp))) (by have := g5.up; omega) hF11.1 fun H6 s6 f6 u6 b6 => ?_
      have g6 := g5.comp f6 (by simp)
      have k6 := (g6.keep s (by omega) (by simp)).trans k2
      cases m2 : c.clamp.b.may
      · simp [k6, hFs, CfgA.cells, CfgR.cells, m1, m2]
        refine wp_bd ((calm hE _).ls _ _) b6 ?_
        refine own18_wp hE _ c.clamp (hN.up (by have := g6.up; omega)) b6 (v1.keep (g6.keep _ (by omega) (by simp))) (v2.keep (g6.keep _ (by omega) (by simp))) (by have := g6.up; omega) (by have := g6.up; omega) hF1.1 hF11.1 fun H8 s8 f8 u8 b8 => ?_
        have g8 := g6.comp f8 (by simp)
        simp
        refine lcheck_wp hE _ c.clamp.own (hN.up (by have := g8.up; omega)) fun H9 s9 f9 => ?_
        simp [efit, m1, m2]
        exact h _ _
      simp only [m1, m2, Bool.true_and] at em
      have hr : (c.clamp.room < 1 ∧ ¬ 1 ≤ c.clamp.room) ∨ (¬ c.clamp.room < 1 ∧ 1 ≤ c.clamp.room) := by omega
      by_cases m3 : c.clamp.a.start = c.clamp.b.start
      · rcases hr with ⟨r1, r2⟩ | ⟨r1, r2⟩
        · simp [k6, hFs, CfgA.cells, CfgR.cells, m1, m2, eq_true m3, r1, r2]
          refine wp_bd ((calm hE _).ls _ _) b6 ?_
          refine own18_wp hE _ c.clamp (hN.up (by have := g6.up; omega)) b6 (v1.keep (g6.keep _ (by omega) (by simp))) (v2.keep (g6.keep _ (by omega) (by simp))) (by have := g6.up; omega) (by have := g6.up; omega) hF1.1 hF11.1 fun H8 s8 f8 u8 b8 => ?_
          have g8 := g6.comp f8 (by simp)
          simp
          refine lcheck_wp hE _ c.clamp.own (hN.up (by have := g8.up; omega)) fun H9 s9 f9 => ?_
          simp [efit, m1, m2, eq_true m3, r1, r2]
          exact h _ _
        · have r3 : ¬ c.clamp.room ≤ 256 := by
            intro r4
            simp [m3, r2, r4] at em
          have r4 : 256 < c.clamp.room := by omega
          simp [k6, hFs, CfgA.cells, CfgR.cells, m1, m2, eq_true m3, r1, r2, r3, r4]
          refine wp_bd ((calm hE _).ls _ _) b6 ?_
          refine own18_wp hE _ c.clamp (hN.up (by have := g6.up; omega)) b6 (v1.keep (g6.keep _ (by omega) (by simp))) (v2.keep (g6.keep _ (by omega) (by simp))) (by have := g6.up; omega) (by have := g6.up; omega) hF1.1 hF11.1 fun H8 s8 f8 u8 b8 => ?_
          have g8 := g6.comp f8 (by simp)
          simp
          refine lcheck_wp hE _ c.clamp.own (hN.up (by have := g8.up; omega)) fun H9 s9 f9 => ?_
          simp [efit, m1, m2, eq_true m3, r1, r2, r3, r4]
          exact h _ _
      · simp [k6, hFs, CfgA.cells, CfgR.cells, m1, m2, m3]
        refine wp_bd ((calm hE _).ls _ _) b6 ?_
        refine own18_wp hE _ c.clamp (hN.up (by have := g6.up; omega)) b6 (v1.keep (g6.keep _ (by omega) (by simp))) (v2.keep (g6.keep _ (by omega) (by simp))) (by have := g6.up; omega) (by have := g6.up; omega) hF1.1 hF11.1 fun H8 s8 f8 u8 b8 => ?_
        have g8 := g6.comp f8 (by simp)
        simp
        refine lcheck_wp hE _ c.clamp.own (hN.up (by have := g8.up; omega)) fun H9 s9 f9 => ?_
        simp [efit, m1, m2, m3]
        exact h _ _
end Go.Proofs.YtnimgpfgfohdoaaGreat
