/-
  What makes a link: configs, rows, connections, ends.
-/
import Derived.Test.YtnimgpfgfohdoaaGreatMPace2
import Derived.Test.YtnimgpfgfohdoaaGreatMSeq
import Derived.Test.YtnimgpfgfohdoaaGreatMConn
set_option linter.unusedVariables false
set_option linter.unusedSimpArgs false
namespace Go.Proofs.YtnimgpfgfohdoaaGreat
open Go AX
variable {E : FuncId → Option (Array Value → AX Value)} {F G : Nat → Prop} {H : AH} {s b : Nat} {Q : Value → AH → Nat → Prop}
set_option maxRecDepth 10000
set_option maxHeartbeats 4000000
theorem New.own (h : New F G s) {s0 s1 : Nat} (hs : s ≤ s1) : New (fun b => F b ∧ (b < s0 ∨ s1 ≤ b)) (fun b => G b ∧ s1 ≤ b) s1 := fun k hk => ⟨⟨(h k (by omega)).1, .inr hk⟩, (h k (by omega)).2, hk⟩
/-- An end's config. -/
structure CfgN where
  most : Int
  window : Int
  queue : Int
  units : Int
  polls : Int
  start : Int
  c0 : Int
  c1 : Int
  c2 : Int
  c3 : Int
  c4 : Int
def CfgN.cells (c : CfgN) : List Value := [.int .i64 c.most, .int .i64 c.window, .int .i64 c.queue, .int .i64 c.units, .int .i64 c.polls, .int .u32 c.start, .int .i64 c.c0, .int .i64 c.c1, .int .i64 c.c2, .int .i64 c.c3, .int .i64 c.c4]
def inB (x m : Int) : Bool := decide (1 ≤ x) && decide (x ≤ m)
def CfgN.fits (c : CfgN) : Bool := inB c.most 16 && (inB c.window 64 && (inB c.queue 256 && (inB c.units 64 && (inB c.polls 256 && (decide (c.start = c.start % 16777216) && paceOK c.c0 c.c1 c.c2 c.c3 c.c4)))))
theorem in_eq (hE : Bare E) (n : Nat) (x m : Int) : aCall Tryz.prog E (n + 1) 37 #[.int .i64 x, .int .i64 m] = ret (.bool (inB x m)) := by
  refine dry_eq fun H s => ?_
  refine enter (calm hE _) [] (hE.no _ (by decide)) Tryz.func37 Tryz.ntmps37 (by unfold Tryz.f37; rfl) (by unfold Tryz.f37; rfl) (by kernel_rfl) ?_
  simp +contextual [inB]
@[simp] theorem cl_in : callable Tryz.prog 37 = true := by kernel_rfl
theorem ncheck_wp (hE : Bare E) (n : Nat) (c : CfgN) (hN : New F G s) (h : ∀ H' s', Fr [] H s H' s' → Q (.int .i64 (if c.fits then 0 else 1)) H' s') : Wp F G (aCall Tryz.prog E (n + 2) 21 #[.agg c.cells.toArray]) H s Q := by
  have hFs := (hN s (Nat.le_refl _)).1
  refine enter (calm hE _) [(2, [], [], [])] (hE.no _ (by decide)) Tryz.func21 Tryz.ntmps21 (by unfold Tryz.f21; rfl) (by unfold Tryz.f21; rfl) (by kernel_rfl) ?_
  cases e1 : inB c.most 16
  · simp [CfgN.cells, in_eq hE, low_eq hE, hFs, e1]
    simpa [CfgN.fits, e1] using h _ _ (Fr.refl _ _ _).new
  cases e2 : inB c.window 64
  · simp [CfgN.cells, in_eq hE, low_eq hE, hFs, e1, e2]
    simpa [CfgN.fits, e1, e2] using h _ _ (Fr.refl _ _ _).new
  cases e3 : inB c.queue 256
  · simp [CfgN.cells, in_eq hE, low_eq hE, hFs, e1, e2, e3]
    simpa [CfgN.fits, e1, e2, e3] using h _ _ (Fr.refl _ _ _).new
  cases e4 : inB c.units 64
  · simp [CfgN.cells, in_eq hE, low_eq hE, hFs, e1, e2, e3, e4]
    simpa [CfgN.fits, e1, e2, e3, e4] using h _ _ (Fr.refl _ _ _).new
  cases e5 : inB c.polls 256
  · simp [CfgN.cells, in_eq hE, low_eq hE, hFs, e1, e2, e3, e4, e5]
    simpa [CfgN.fits, e1, e2, e3, e4, e5] using h _ _ (Fr.refl _ _ _).new
  by_cases e6 : c.start = c.start % 16777216
  · simp [CfgN.cells, in_eq hE, low_eq hE, hFs, e1, e2, e3, e4, e5, ← e6]
    refine pcheck_wp hE _ c.c0 c.c1 c.c2 c.c3 c.c4 (hN.up (Nat.le_succ _)) fun H1 s1 f1 => ?_
    simp
    have := h _ _ ((Fr.refl _ _ _).new.comp f1 (by simp))
    simpa [CfgN.fits, e1, e2, e3, e4, e5, ← e6] using this
  · simp [CfgN.cells, in_eq hE, low_eq hE, hFs, e1, e2, e3, e4, e5, e6]
    simpa [CfgN.fits, e1, e2, e3, e4, e5, e6] using h _ _ (Fr.refl _ _ _).new
/-- A connection that is new. -/
def ConnS.new (most credit : Int) : ConnS := ⟨max 1 (min most 16), credit % 16777216, 1, 0, -1, 0, credit % 16777216, .empty⟩
theorem cnew_wp (hE : Bare E) (n : Nat) (most credit : Int) (hN : New F G s) (h : ∀ H' s' b, Fr [] H s H' s' → s ≤ b → b < s' → H' b = some (ConnS.new most credit).blk → Q (ptr b) H' s') : Wp F G (aCall Tryz.prog E (n + 2) 31 #[.agg #[.int .i64 most, .int .u32 credit]]) H s Q := by
  have hFs := hN s (Nat.le_refl _)
  refine enter (calm hE _) [(1, [], [], [])] (hE.no _ (by decide)) Tryz.func31 Tryz.ntmps31 (by unfold Tryz.f31; rfl) (by unfold Tryz.f31; rfl) (by kernel_rfl) ?_
  simp [low_eq hE, hFs]
  exact h _ _ (s + 1) ((Fr.refl _ _ _).new.new) (by omega) (by omega) (upd_same _ _ _)
/-- A row that is empty. -/
theorem rnewu_wp (hE : Bare E) (n : Nat) (most : Int) (h : ∀ H' s' b, Fr [] H s H' s' → s ≤ b → b < s' → H' b = some (.cells [nilS, .int .i64 0, .int .i64 0, .int .i64 (max 0 (min most 4096))] 154 true) → Q (ptr b) H' s') : Wp F G (aCall Tryz.prog E (n + 1) 33 #[.int .i64 most]) H s Q := by
  refine enter (calm hE _) [] (hE.no _ (by decide)) Tryz.func33 Tryz.ntmps33 (by unfold Tryz.f33; rfl) (by unfold Tryz.f33; rfl) (by kernel_rfl) ?_
  simp
  exact h _ _ s (Fr.refl _ _ _).new (by omega) (by omega) (upd_same _ _ _)
theorem rnews_wp (hE : Bare E) (n : Nat) (most : Int) (h : ∀ H' s' b, Fr [] H s H' s' → s ≤ b → b < s' → H' b = some (.cells [nilS, .int .i64 0, .int .i64 0, .int .i64 (max 0 (min most 4096))] 93 true) → Q (ptr b) H' s') : Wp F G (aCall Tryz.prog E (n + 1) 34 #[.int .i64 most]) H s Q := by
  refine enter (calm hE _) [] (hE.no _ (by decide)) Tryz.func34 Tryz.ntmps34 (by unfold Tryz.f34; rfl) (by unfold Tryz.f34; rfl) (by kernel_rfl) ?_
  simp
  exact h _ _ s (Fr.refl _ _ _).new (by omega) (by omega) (upd_same _ _ _)
theorem pipenew_wp (hE : Bare E) (n : Nat) (most : Int) (h : ∀ H' s' r b, Fr [] H s H' s' → s ≤ r → r < b → b < s' → H' r = some (.cells [nilS, .int .i64 0, .int .i64 0, .int .i64 (max 1 (min most 256))] 93 true) → H' b = some (.cells [ptr r, .int .i64 0, .int .i64 0, .int .i64 0] 69 true) → Q (ptr b) H' s') : Wp F G (aCall Tryz.prog E (n + 2) 18 #[.int .i64 most]) H s Q := by
  refine enter (calm hE _) [] (hE.no _ (by decide)) Tryz.func18 Tryz.ntmps18 (by unfold Tryz.f18; rfl) (by unfold Tryz.f18; rfl) (by kernel_rfl) ?_
  simp
  refine rnews_wp hE _ _ fun H1 s1 r f1 h1 h2 h3 => ?_
  simp
  refine h _ _ r s1 f1.new h1 h2 (by omega) ((upd_ne _ _ (by omega)).trans ?_) (upd_same _ _ _)
  rw [h3, show max 0 (min (max 1 (min most 256)) 4096) = max 1 (min most 256) by omega]
def CfgN.pace (c : CfgN) : PaceS := PaceS.of c.c0 c.c1 c.c2 c.c3 c.c4
/-- An end that is new: its blocks. -/
structure NewNode (H : AH) (s s' : Nat) (c : CfgN) (b bc bp br : Nat) : Prop where
  ord : s ≤ bp ∧ bp < bc ∧ bc < br ∧ br < b ∧ b < s'
  pace : H bp = some c.pace.blk
  conn : H bc = some (ConnS.new c.most ((c.start + c.window) % 16777216)).blk
  ring : H br = some (.cells [nilS, .int .i64 0, .int .i64 0, .int .i64 c.units] 154 true)
  node : H b = some (.cells (c.cells ++ [ptr bc, ptr bp, .pointer none, .pointer none, nilS, ptr br, .bool false, .bool false, .int .u32 0, .bool false, nilS]) 113 true)
theorem nnew_wp (hE : Bare E) (n : Nat) (c : CfgN) (hN : New F G s) (hB : Bd H s) (h1 : c.fits = true → ∀ H' s' b bc bp br, Fr [] H s H' s' → NewNode H' s s' c b bc bp br → Q (.tuple #[ptr b, .int .i64 0]) H' s')
    (h2 : c.fits = false → ∀ H' s', Fr [] H s H' s' → Q (.tuple #[.pointer none, .int .i64 1]) H' s') : Wp F G (aCall Tryz.prog E (n + 3) 17 #[.agg c.cells.toArray]) H s Q := by
  have hFs := (hN s (Nat.le_refl _)).1
  have hB1 : Bd (upd H s (some (.cells c.cells 38 true))) (s + 1) := fun k hk => (upd_ne _ _ (by omega)).trans (hB k (by omega))
  refine enter (calm hE _) [(7, [0, 12], [], [9, 13])] (hE.no _ (by decide)) Tryz.func17 Tryz.ntmps17 (by unfold Tryz.f17; rfl) (by unfold Tryz.f17; rfl) (by kernel_rfl) ?_
  simp [CfgN.cells, hFs]
  refine wp_bd ((calm hE _).ls _ _) hB1 ?_
  refine ncheck_wp hE _ c (hN.up (Nat.le_succ _)) fun H1 s1 f1 u1 b1 => ?_
  have k1 := (f1.keep s (by omega) (by simp)).trans (upd_same _ _ _)
  cases e : c.fits
  · simp
    exact h2 e _ _ ((Fr.refl _ _ _).new.comp f1 (by simp))
  have ep : paceOK c.c0 c.c1 c.c2 c.c3 c.c4 = true := by
    simp only [CfgN.fits, Bool.and_eq_true] at e
    exact e.2.2.2.2.2.2
  simp [k1, hFs]
  refine wp_bd ((calm hE _).ls _ _) b1 ?_
  refine pnew_wp hE _ c.c0 c.c1 c.c2 c.c3 c.c4 (hN.up (by omega)) (fun _ H2 s2 bp f2 hp1 hp2 hp3 u2 b2 => ?_) (fun ep' => by rw [ep] at ep'; cases ep')
  have k2 := (f2.keep s (by omega) (by simp)).trans k1
  simp [k2, hFs, add_eq hE]
  have up1 := f1.up; have up2 := f2.up
  refine ⟨by omega, b2, ?_⟩
  refine wp_bd ((calm hE _).ls _ _) b2 ?_
  refine cnew_wp hE _ c.most _ (New.own hN (by omega)) fun H3 s3 bc f3 hc1 hc2 hc3 u3 b3 => ?_
  have k3 := (f3.keep s (by omega) (by simp)).trans k2
  simp [k3, hFs]
  refine ⟨by omega, by omega, b3, ?_⟩
  refine wp_bd ((calm hE _).ls _ _) b3 ?_
  refine rnewu_wp hE _ c.units fun H4 s4 br f4 hr1 hr2 hr3 u4 b4 => ?_
  simp
  have up3 := f3.up; have up4 := f4.up
  have eu : inB c.units 64 = true := by
    simp only [CfgN.fits, Bool.and_eq_true] at e
    exact e.2.2.2.1
  simp [inB] at eu
  refine h1 e _ _ s4 bc bp br ((((Fr.refl _ _ _).new.comp f1 (by simp)).comp f2 (by simp)).comp f3 (by simp) |>.comp f4 (by simp)).new ⟨by omega, ?_, ?_, ?_, upd_same _ _ _⟩
  · exact (upd_ne _ _ (by omega)).trans ((f4.keep _ (by omega) (by simp)).trans ((f3.keep _ (by omega) (by simp)).trans hp3))
  · exact (upd_ne _ _ (by omega)).trans ((f4.keep _ (by omega) (by simp)).trans hc3)
  · refine (upd_ne _ _ (by omega)).trans (hr3.trans ?_)
    rw [show max 0 (min c.units 4096) = c.units by omega]
end Go.Proofs.YtnimgpfgfohdoaaGreat
