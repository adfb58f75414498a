/-
  A link is made.
-/
import Derived.Test.YtnimgpfgfohdoaaGreatMMake
set_option linter.unusedVariables false
set_option linter.unusedSimpArgs false
namespace Go.Proofs.YtnimgpfgfohdoaaGreat
open Go AX
variable {E : FuncId → Option (Array Value → AX Value)} {F G : Nat → Prop} {H : AH} {s b : Nat} {Q : Value → AH → Nat → Prop}
set_option maxRecDepth 10000
set_option maxHeartbeats 4000000
/-- A link's config. -/
structure CfgL where
  a : CfgN
  b : CfgN
  room : Int
def CfgL.cells (c : CfgL) : List Value := c.a.cells ++ (c.b.cells ++ [.int .i64 c.room])
def CfgL.fits (c : CfgL) : Bool := c.a.fits && (c.b.fits && (decide (c.a.start = c.b.start) && (decide (1 ≤ c.room) && decide (c.room ≤ 256))))
theorem lcheck_wp (hE : Bare E) (n : Nat) (c : CfgL) (hN : New F G s) (h : ∀ H' s', Fr [] H s H' s' → Q (.int .i64 (if c.fits then 0 else 1)) H' s') : Wp F G (aCall Tryz.prog E (n + 3) 9 #[.agg c.cells.toArray]) H s Q := by
  have hFs := (hN s (Nat.le_refl _))
  have hFs1 := (hN (s + 1) (by omega))
  refine enter (calm hE _) [] (hE.no _ (by decide)) Tryz.func9 Tryz.ntmps9 (by unfold Tryz.f9; rfl) (by unfold Tryz.f9; rfl) (by kernel_rfl) ?_
  simp [CfgL.cells, CfgN.cells, hFs, hFs1]
  refine wp_rounds 3 (by decide) ?_
  simp [wp_round, hFs1]
  refine ncheck_wp hE _ c.a (hN.up (by omega)) fun H1 s1 f1 => ?_
  have up1 := f1.up
  have g1 : Fr [] H s H1 s1 := (Fr.refl _ _ _).new.new.comp f1 (by simp)
  have k1 := ((f1.keep s (by omega) (by simp)).trans (upd_ne _ _ (by omega))).trans (upd_same _ _ _)
  cases ea : c.a.fits
  · simp
    simpa [CfgL.fits, ea] using h _ _ g1
  have hF1 := hN s1 (by omega)
  simp [wp_round, hF1]
  refine ncheck_wp hE _ c.b (hN.up (by omega)) fun H2 s2 f2 => ?_
  have up2 := f2.up
  have g2 : Fr [] H s H2 s2 := g1.new.comp f2 (by simp)
  have k2 := ((f2.keep s (by omega) (by simp)).trans (upd_ne _ _ (by omega))).trans k1
  cases eb : c.b.fits
  · simp
    simpa [CfgL.fits, ea, eb] using h _ _ g2
  have hd : (c.a.start = c.b.start) ∨ ¬ (c.a.start = c.b.start) := by omega
  have hr : (c.room < 1 ∧ ¬ 1 ≤ c.room) ∨ (¬ c.room < 1 ∧ 1 ≤ c.room) := by omega
  have ht : (256 < c.room ∧ ¬ c.room ≤ 256) ∨ (¬ 256 < c.room ∧ c.room ≤ 256) := by omega
  rcases hd with hd | hd <;> rcases hr with ⟨hr, hr'⟩ | ⟨hr, hr'⟩ <;> rcases ht with ⟨ht, ht'⟩ | ⟨ht, ht'⟩
  all_goals
    simp [wp_round, k2, hFs, hd, hr, hr', ht, ht']
    simpa [CfgL.fits, ea, eb, hd, hr, hr', ht, ht'] using h _ _ g2
theorem wnew_wp (hE : Bare E) (n : Nat) (h : Q (ptr s) (upd H s (some wireBlk)) (s + 1)) : Wp F G (aCall Tryz.prog E (n + 1) 16 #[]) H s Q := by
  unfold aCall
  rw [hE.wire]
  simpa [wireX] using h
/-- A link that is new: its blocks. -/
structure NewLink (H : AH) (s s' : Nat) (c : CfgL) (l w n0 p0 n1 p1 : Nat) : Prop where
  own : s ≤ l ∧ s ≤ w ∧ l < s' ∧ w < s' ∧ w ≠ l
  wire : H w = some wireBlk
  link : H l = some (.cells [ptr w, ptr n0, ptr p0, ptr n1, ptr p1] 78 true)
  side0 : ∃ s1 s2 bc bp br r, s ≤ s1 ∧ l < s1 ∧ w < s1 ∧ NewNode H s1 s2 c.a n0 bc bp br ∧ s2 ≤ r ∧ r < p0 ∧ H r = some (.cells [nilS, .int .i64 0, .int .i64 0, .int .i64 c.room] 93 true) ∧ H p0 = some (.cells [ptr r, .int .i64 0, .int .i64 0, .int .i64 0] 69 true)
  side1 : ∃ s1 s2 bc bp br r, p0 < s1 ∧ NewNode H s1 s2 c.b n1 bc bp br ∧ s2 ≤ r ∧ r < p1 ∧ p1 < s' ∧ H r = some (.cells [nilS, .int .i64 0, .int .i64 0, .int .i64 c.room] 93 true) ∧ H p1 = some (.cells [ptr r, .int .i64 0, .int .i64 0, .int .i64 0] 69 true)
theorem lnew_wp (hE : Bare E) (n : Nat) (c : CfgL) (hN : New F G s) (hB : Bd H s) (h1 : c.fits = true → ∀ H' s' l w n0 p0 n1 p1, Fr [] H s H' s' → NewLink H' s s' c l w n0 p0 n1 p1 → Q (.tuple #[ptr l, .int .i64 0]) H' s')
    (h2 : c.fits = false → ∀ H' s', Fr [] H s H' s' → Q (.tuple #[.pointer none, .int .i64 1]) H' s') : Wp F G (aCall Tryz.prog E (n + 4) 6 #[.agg c.cells.toArray]) H s Q := by
  have hFs := hN s (Nat.le_refl _)
  have hB1 : Bd (upd H s (some (.cells c.cells 41 true))) (s + 1) := fun k hk => (upd_ne _ _ (by omega)).trans (hB k (by omega))
  refine enter (calm hE _) [(11, [], [], [])] (hE.no _ (by decide)) Tryz.func6 Tryz.ntmps6 (by unfold Tryz.f6; rfl) (by unfold Tryz.f6; rfl) (by kernel_rfl) ?_
  simp [CfgL.cells, CfgN.cells, hFs]
  refine wp_bd ((calm hE _).ls _ _) hB1 ?_
  refine lcheck_wp hE _ c (hN.up (Nat.le_succ _)) fun H1 s1 f1 u1 b1 => ?_
  have k1 := (f1.keep s (by omega) (by simp)).trans (upd_same _ _ _)
  cases e : c.fits
  · simp
    exact h2 e _ _ ((Fr.refl _ _ _).new.comp f1 (by simp))
  simp [k1]
  refine wnew_wp hE _ ?_
  have hss : s ≠ s1 := by omega
  have hss1 : s ≠ s1 + 1 := by omega
  have hF2 := hN (s1 + 2) (by omega)
  simp [upd_ne, hss, hss1, k1, hFs]
  refine wp_rounds 3 (by decide) ?_
  simp [wp_round, hF2]
  have b2 : Bd (upd (upd (upd H1 s1 (some wireBlk)) (s1 + 1) (some (.cells [ptr s1, .pointer none, .pointer none, .pointer none, .pointer none] 78 true))) (s1 + 2) (some (.cells c.a.cells 38 true))) (s1 + 3) := fun k hk => (upd_ne _ _ (by omega)).trans ((upd_ne _ _ (by omega)).trans ((upd_ne _ _ (by omega)).trans (b1 k (by omega))))
  have e' := e
  simp only [CfgL.fits, Bool.and_eq_true, decide_eq_true_eq] at e'
  obtain ⟨ea, eb, _, er⟩ := e'
  refine wp_bd ((calm hE _).ls _ _) b2 ?_
  refine nnew_wp hE _ c.a (hN.up (by omega)) b2 (fun _ H3 s3 n0 bc bp br f3 hn0 u3 b3 => ?_) (fun ea' => by rw [ea] at ea'; cases ea')
  have k3 := (f3.keep s (by omega) (by simp)).trans ((upd_ne _ _ (by omega)).trans ((upd_ne _ _ (by omega)).trans ((upd_ne _ _ (by omega)).trans k1)))
  simp [k3, hFs]
  have hFl := hN (s1 + 1) (by omega)
  have up3 := f3.up
  have l3 : H3 (s1 + 1) = _ := (f3.keep (s1 + 1) (by omega) (by simp)).trans ((upd_ne _ _ (by omega)).trans (upd_same _ _ _))
  have w3 : H3 s1 = some wireBlk := (f3.keep s1 (by omega) (by simp)).trans ((upd_ne _ _ (by omega)).trans ((upd_ne _ _ (by omega)).trans (upd_same _ _ _)))
  refine wp_bd ((calm hE _).ls _ _) b3 ?_
  refine pipenew_wp hE _ c.room fun H4 s4 r0 p0 f4 hr0 hr0p hp0 hrc0 hpc0 u4 b4 => ?_
  have up4 := f4.up
  have l4 := (f4.keep (s1 + 1) (by omega) (by simp)).trans l3
  simp [l4, hFl]
  have hb5 : Bd (upd (upd H4 (s1 + 1) (some (.cells [ptr s1, ptr n0, ptr p0, .pointer none, .pointer none] 78 true))) s4 (some (.cells c.b.cells 38 true))) (s4 + 1) := fun k hk => (upd_ne _ _ (by omega)).trans ((upd_ne _ _ (by omega)).trans (b4 k (by omega)))
  have hF4 := hN s4 (by omega)
  simp [wp_round, hF4]
  refine wp_bd ((calm hE _).ls _ _) hb5 ?_
  refine nnew_wp hE _ c.b (hN.up (by omega)) hb5 (fun _ H5 s5 n1 bc1 bp1 br1 f5 hn1 u5 b5 => ?_) (fun eb' => by rw [eb] at eb'; cases eb')
  have up5 := f5.up
  have k5 := (f5.keep s (by omega) (by simp)).trans ((upd_ne _ _ (by omega)).trans ((upd_ne _ _ (by omega)).trans ((f4.keep s (by omega) (by simp)).trans k3)))
  have l5 := (f5.keep (s1 + 1) (by omega) (by simp)).trans ((upd_ne _ _ (by omega)).trans (upd_same _ _ _))
  simp [k5, hFs]
  refine wp_bd ((calm hE _).ls _ _) b5 ?_
  refine pipenew_wp hE _ c.room fun H6 s6 r1 p1 f6 hr1 hr1p hp1 hrc1 hpc1 u6 b6 => ?_
  have up6 := f6.up
  have l6 := (f6.keep (s1 + 1) (by omega) (by simp)).trans l5
  simp [l6, hFl, wp_round]
  have er' : max 1 (min c.room 256) = c.room := by
    omega
  rw [er'] at hrc0 hrc1
  have o0 := hn0.ord; have o1 := hn1.ord
  have kp : ∀ k, k < s4 → k ≠ s1 + 1 → upd H6 (s1 + 1) (some (.cells [ptr s1, ptr n0, ptr p0, ptr n1, ptr p1] 78 true)) k = H4 k := fun k hk hne => (upd_ne _ _ hne).trans ((f6.keep k (by omega) (by simp)).trans ((f5.keep k (by omega) (by simp)).trans ((upd_ne _ _ (by omega)).trans (upd_ne _ _ hne))))
  have kp1 : ∀ k, k < s5 → k ≠ s1 + 1 → upd H6 (s1 + 1) (some (.cells [ptr s1, ptr n0, ptr p0, ptr n1, ptr p1] 78 true)) k = H5 k := fun k hk hne => (upd_ne _ _ hne).trans (f6.keep k (by omega) (by simp))
  refine h1 e _ s6 (s1 + 1) s1 n0 p0 n1 p1 ⟨by omega, fun k hk _ => ?_⟩ ⟨by omega, ?_, upd_same _ _ _, ⟨s1 + 3, s3, bc, bp, br, r0, by omega, by omega, by omega, ⟨o0, ?_, ?_, ?_, ?_⟩, by omega, by omega, ?_, ?_⟩, ⟨s4 + 1, s5, bc1, bp1, br1, r1, by omega, ⟨o1, ?_, ?_, ?_, ?_⟩, by omega, by omega, by omega, ?_, ?_⟩⟩
  · refine (kp k (by omega) (by omega)).trans ((f4.keep k (by omega) (by simp)).trans ((f3.keep k (by omega) (by simp)).trans ((upd_ne _ _ (by omega)).trans ((upd_ne _ _ (by omega)).trans ((upd_ne _ _ (by omega)).trans ((f1.keep k (by omega) (by simp)).trans (upd_ne _ _ (by omega))))))))
  · exact (kp s1 (by omega) (by omega)).trans ((f4.keep s1 (by omega) (by simp)).trans w3)
  · exact (kp bp (by omega) (by omega)).trans ((f4.keep bp (by omega) (by simp)).trans hn0.pace)
  · exact (kp bc (by omega) (by omega)).trans ((f4.keep bc (by omega) (by simp)).trans hn0.conn)
  · exact (kp br (by omega) (by omega)).trans ((f4.keep br (by omega) (by simp)).trans hn0.ring)
  · exact (kp n0 (by omega) (by omega)).trans ((f4.keep n0 (by omega) (by simp)).trans hn0.node)
  · exact (kp r0 (by omega) (by omega)).trans hrc0
  · exact (kp p0 (by omega) (by omega)).trans hpc0
  · exact (kp1 bp1 (by omega) (by omega)).trans hn1.pace
  · exact (kp1 bc1 (by omega) (by omega)).trans hn1.conn
  · exact (kp1 br1 (by omega) (by omega)).trans hn1.ring
  · exact (kp1 n1 (by omega) (by omega)).trans hn1.node
  · exact (upd_ne _ _ (by omega)).trans hrc1
  · exact (upd_ne _ _ (by omega)).trans hpc1
end Go.Proofs.YtnimgpfgfohdoaaGreat
