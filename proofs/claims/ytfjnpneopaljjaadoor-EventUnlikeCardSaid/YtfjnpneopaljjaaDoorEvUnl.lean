/-
  The walk of the statement EventUnlike.
-/
import Derived.Test.YtfjnpneopaljjaaDoorPlainInj
import Derived.Test.YtfjnpneopaljjaaDoorQTail
import Derived.Test.YtfjnpneopaljjaaDoorSigEq
set_option linter.unusedVariables false
set_option linter.unusedSimpArgs false
namespace Go.Proofs.YtfjnpneopaljjaaDoor
open Go.RowKit

theorem unl_end {p q : Nat} {s1 s2 : ByteArray} {g1 g2 : Bool} {e1 e2 m1 m2 : Int} {a b : List UInt8} (h : a = b → p = q ∧ s1.data.toList = s2.data.toList ∧ g1 = g2 ∧ e1 = e2 ∧ m1 = m2)
    (k : p = q → s1.data.toList = s2.data.toList → g1 = g2 → e1 = e2 → m1 = m2 → a = b) :
    ((a == b) == (1 + (p : Int) == 1 + (q : Int) && (s1.toList == s2.toList && (g1 == g2 && (e1 == e2 && m1 == m2))))) = true := by
  have e : (1 + (p : Int) == 1 + (q : Int) && (s1.toList == s2.toList && (g1 == g2 && (e1 == e2 && m1 == m2)))) = (a == b) := by
    rw [Bool.eq_iff_iff, Lib.toList_data, Lib.toList_data]
    simp only [Bool.and_eq_true, beq_iff_eq]
    constructor
    · rintro ⟨h1, h2, h3, h4, h5⟩
      exact k (by omega) h2 h3 h4 h5
    · intro hab
      obtain ⟨h1, h2, h3, h4, h5⟩ := h hab
      exact ⟨by omega, h2, h3, h4, h5⟩
  rw [e]
  simp

set_option maxHeartbeats 2000000 in
theorem eventUnlike_q (p q : Nat) (hp : p < 12) (hq : q < 12) (x1 x2 : Int) (hk1 : Hid (x1 % 256 % 12 = p)) (hk2 : Hid (x2 % 256 % 12 = q)) (d1 d2 : ByteArray) (f1 f2 : Bool) (c1 c2 n1 n2 : Int) (w : World) (hd1 : d1.size ≤ maxLen) (hd2 : d2.size ≤ maxLen)
    (hc1 : 0 ≤ c1 ∧ c1 ≤ 255) (hc2 : 0 ≤ c2 ∧ c2 ≤ 255) (hn1 : -9223372036854775808 ≤ n1 ∧ n1 ≤ 9223372036854775807) (hn2 : -9223372036854775808 ≤ n2 ∧ n2 ≤ 9223372036854775807) (hL : Laid w) :
    Calls Tryd.prog 5 #[.agg #[.int .i64 x1, .string d1, .bool f1, .int .u8 c1, .int .i64 n1], .agg #[.int .i64 x2, .string d2, .bool f2, .int .u8 c2, .int .i64 n2]] w fun e w' => e = .returned (.bool true) ∧ Below w.heap.size w w' := by
  go_enter Tryd.func5, Tryd.ntmps5
  go_wp2_with fail
  refine (awake_any _ ((hL.alloc _).alloc _)).mono ?_
  rintro e w1 ⟨rfl, hb1⟩
  have a0 := hb1.cell (p := ⟨w.heap.size, 0, none⟩) (by simp; omega)
  have a1 := hb1.cell (p := ⟨w.heap.size, 1, none⟩) (by simp; omega)
  have a2 := hb1.cell (p := ⟨w.heap.size, 2, none⟩) (by simp; omega)
  have a3 := hb1.cell (p := ⟨w.heap.size, 3, none⟩) (by simp; omega)
  have a4 := hb1.cell (p := ⟨w.heap.size, 4, none⟩) (by simp; omega)
  have b0 := hb1.cell (p := ⟨w.heap.size + 1, 0, none⟩) (by simp)
  have b1 := hb1.cell (p := ⟨w.heap.size + 1, 1, none⟩) (by simp)
  have b2 := hb1.cell (p := ⟨w.heap.size + 1, 2, none⟩) (by simp)
  have b3 := hb1.cell (p := ⟨w.heap.size + 1, 3, none⟩) (by simp)
  have b4 := hb1.cell (p := ⟨w.heap.size + 1, 4, none⟩) (by simp)
  have fa0 := hb1.frozen (p := ⟨w.heap.size, 0, none⟩) (by simp; omega)
  have fa1 := hb1.frozen (p := ⟨w.heap.size, 1, none⟩) (by simp; omega)
  have fa2 := hb1.frozen (p := ⟨w.heap.size, 2, none⟩) (by simp; omega)
  have fa3 := hb1.frozen (p := ⟨w.heap.size, 3, none⟩) (by simp; omega)
  have fa4 := hb1.frozen (p := ⟨w.heap.size, 4, none⟩) (by simp; omega)
  have fb0 := hb1.frozen (p := ⟨w.heap.size + 1, 0, none⟩) (by simp)
  have fb1 := hb1.frozen (p := ⟨w.heap.size + 1, 1, none⟩) (by simp)
  have fb2 := hb1.frozen (p := ⟨w.heap.size + 1, 2, none⟩) (by simp)
  have fb3 := hb1.frozen (p := ⟨w.heap.size + 1, 3, none⟩) (by simp)
  have fb4 := hb1.frozen (p := ⟨w.heap.size + 1, 4, none⟩) (by simp)
  simp at a0 a1 a2 a3 a4 b0 b1 b2 b3 b4 fa0 fa1 fa2 fa3 fa4 fb0 fb1 fb2 fb3 fb4
  have hsz := hb1.size
  simp only [World.size_alloc] at hsz
  have hB1 : Below w.heap.size w w1 := belAlloc (belAlloc hb1 (by simp)) (by simp)
  go_wp2_with fail
  have k0 := cell_regrown a0
  have k1 := cell_regrown a1
  have k2 := cell_regrown a2
  have k3 := cell_regrown a3
  have k4 := cell_regrown a4
  have l0 := cell_regrown b0
  have l1 := cell_regrown b1
  have l2 := cell_regrown b2
  have l3 := cell_regrown b3
  have l4 := cell_regrown b4
  have cA := fun d os => Calls.regrown_of (bare_q p hp x1 hk1.out d1 f1 c1 n1 (Sort.grow (redrawn w1 d) os) hd1)
  have cB := fun d os => Calls.regrown_of (bare_q q hq x2 hk2.out d2 f2 c2 n2 (Sort.grow (redrawn w1 d) os) hd2)
  have hs1 : (⟨(bareData p d1.data.toList).toArray⟩ : ByteArray).size ≤ 1000 := by
    rw [size_arr]; unfold bareData; have := List.length_take_le 60 d1.data.toList; split
    · simp
    · omega
  have hs2 : (⟨(bareData q d2.data.toList).toArray⟩ : ByteArray).size ≤ 1000 := by
    rw [size_arr]; unfold bareData; have := List.length_take_le 60 d2.data.toList; split
    · simp
    · omega
  refine wp_region_tail_below 6 (by kernel_rfl) (by kernel_rfl) ?_
  simp only [List.take_succ_cons, List.take_zero, List.drop_succ_cons, List.drop_zero]
  repeat (quiet_step (first | (with_reducible exact cA _ _) | (with_reducible exact cB _ _)))
  refine wpQuiet_nil ?_
  intro _ hw'
  obtain ⟨⟨dq, osq⟩, hw''⟩ := hw'
  subst hw''
  clear k0 k1 k2 k3 k4 l0 l1 l2 l3 l4 cA cB
  have hW2 := below_regrown w1 dq osq
  generalize Sort.grow (redrawn w1 dq) osq = w2 at *
  replace a0 := (bcell hW2 (w.heap.size) 0 (by omega)).trans a0
  replace fa0 := (bfroz hW2 (w.heap.size) 0 (by omega)).trans fa0
  replace a1 := (bcell hW2 (w.heap.size) 1 (by omega)).trans a1
  replace fa1 := (bfroz hW2 (w.heap.size) 1 (by omega)).trans fa1
  replace a2 := (bcell hW2 (w.heap.size) 2 (by omega)).trans a2
  replace fa2 := (bfroz hW2 (w.heap.size) 2 (by omega)).trans fa2
  replace a3 := (bcell hW2 (w.heap.size) 3 (by omega)).trans a3
  replace fa3 := (bfroz hW2 (w.heap.size) 3 (by omega)).trans fa3
  replace a4 := (bcell hW2 (w.heap.size) 4 (by omega)).trans a4
  replace fa4 := (bfroz hW2 (w.heap.size) 4 (by omega)).trans fa4
  replace b0 := (bcell hW2 (w.heap.size + 1) 0 (by omega)).trans b0
  replace fb0 := (bfroz hW2 (w.heap.size + 1) 0 (by omega)).trans fb0
  replace b1 := (bcell hW2 (w.heap.size + 1) 1 (by omega)).trans b1
  replace fb1 := (bfroz hW2 (w.heap.size + 1) 1 (by omega)).trans fb1
  replace b2 := (bcell hW2 (w.heap.size + 1) 2 (by omega)).trans b2
  replace fb2 := (bfroz hW2 (w.heap.size + 1) 2 (by omega)).trans fb2
  replace b3 := (bcell hW2 (w.heap.size + 1) 3 (by omega)).trans b3
  replace fb3 := (bfroz hW2 (w.heap.size + 1) 3 (by omega)).trans fb3
  replace b4 := (bcell hW2 (w.heap.size + 1) 4 (by omega)).trans b4
  replace fb4 := (bfroz hW2 (w.heap.size + 1) 4 (by omega)).trans fb4
  clear hb1
  have hinj := @sig_inj p q hp hq d1.data.toList d2.data.toList f1 f2 c1 c2 n1 n2 hc1 hc2
  have HI := Lib.hid hinj
  clear hinj
  have hbc1 : 0 ≤ bareCode p c1 ∧ bareCode p c1 ≤ 255 := by unfold bareCode; split <;> omega
  have hbc2 : 0 ≤ bareCode q c2 ∧ bareCode q c2 ≤ 255 := by unfold bareCode; split <;> omega
  have hbn1 : -9223372036854775808 ≤ bareNum p c1 n1 ∧ bareNum p c1 n1 ≤ 9223372036854775807 := by unfold bareNum; split <;> omega
  have hbn2 : -9223372036854775808 ≤ bareNum q c2 n2 ∧ bareNum q c2 n2 ≤ 9223372036854775807 := by unfold bareNum; split <;> omega
  obtain ⟨s1, hst1⟩ : ∃ s1 : ByteArray, s1 = ⟨(bareData p d1.data.toList).toArray⟩ := ⟨_, rfl⟩
  obtain ⟨s2, hst2⟩ : ∃ s2 : ByteArray, s2 = ⟨(bareData q d2.data.toList).toArray⟩ := ⟨_, rfl⟩
  have hl1 : bareData p d1.data.toList = s1.data.toList := by rw [hst1]
  have hl2 : bareData q d2.data.toList = s2.data.toList := by rw [hst2]
  rw [hl1, hl2] at HI
  rw [← hst1] at hs1
  rw [← hst2] at hs2
  rw [← hst1, ← hst2]
  clear hst1 hst2 hl1 hl2
  generalize bareSelf p f1 = g1 at *
  generalize bareSelf q f2 = g2 at *
  generalize bareCode p c1 = e1 at *
  generalize bareCode q c2 = e2 at *
  generalize bareNum p c1 n1 = m1 at *
  generalize bareNum q c2 n2 = m2 at *
  go_wp2_with fail
  refine region_gen (fun W => W.cell? ⟨w.heap.size, 0, none⟩ = some (.int .i64 (1 + (p : Int))) ∧ W.cell? ⟨w.heap.size, 1, none⟩ = some (.string s1) ∧ W.cell? ⟨w.heap.size, 2, none⟩ = some (.bool g1) ∧ W.cell? ⟨w.heap.size, 3, none⟩ = some (.int .u8 e1) ∧ W.cell? ⟨w.heap.size, 4, none⟩ = some (.int .i64 m1) ∧ W.cell? ⟨w.heap.size + 1, 0, none⟩ = some (.int .i64 (1 + (q : Int))) ∧ W.cell? ⟨w.heap.size + 1, 1, none⟩ = some (.string s2) ∧ W.cell? ⟨w.heap.size + 1, 2, none⟩ = some (.bool g2) ∧ W.cell? ⟨w.heap.size + 1, 3, none⟩ = some (.int .u8 e2) ∧ W.cell? ⟨w.heap.size + 1, 4, none⟩ = some (.int .i64 m2) ∧ Below w.heap.size w W) ⟨by go_simp, by go_simp, by go_simp, by go_simp, by go_simp, by go_simp, by go_simp, by go_simp, by go_simp, by go_simp, ?_⟩ ?_
  · have hB2 := belSeq hB1 hW2
    exact ((((((((((hB2.setCell (Nat.le_refl _) _).setCell (Nat.le_refl _) _).setCell (Nat.le_refl _) _).setCell (Nat.le_refl _) _).setCell (Nat.le_refl _) _).setCell (Nat.le_succ _) _).setCell (Nat.le_succ _) _).setCell (Nat.le_succ _) _).setCell (Nat.le_succ _) _).setCell (Nat.le_succ _) _)
  rintro W ⟨a0, a1, a2, a3, a4, b0, b1, b2, b3, b4, hB⟩
  have hLW := hL.below hB
  have k0 := cell_regrown a0
  have k1 := cell_regrown a1
  have k2 := cell_regrown a2
  have k3 := cell_regrown a3
  have k4 := cell_regrown a4
  have l0 := cell_regrown b0
  have l1 := cell_regrown b1
  have l2 := cell_regrown b2
  have l3 := cell_regrown b3
  have l4 := cell_regrown b4
  have cA := fun d os => Calls.regrown_of (sigtext_any (1 + (p : Int)) s1 g1 e1 m1 (Sort.grow (redrawn W d) os) (by omega) hbc1.1 hbc1.2 hbn1.1 hbn1.2 (hLW.below (below_regrown W d os)).words (hLW.below (below_regrown W d os)).g0 (hLW.below (below_regrown W d os)).pow (hLW.below (below_regrown W d os)).g1)
  have cB := fun d os => Calls.regrown_of (sigtext_any (1 + (q : Int)) s2 g2 e2 m2 (Sort.grow (redrawn W d) os) (by omega) hbc2.1 hbc2.2 hbn2.1 hbn2.2 (hLW.below (below_regrown W d os)).words (hLW.below (below_regrown W d os)).g0 (hLW.below (below_regrown W d os)).pow (hLW.below (below_regrown W d os)).g1)
  generalize htx1 : sigText (1 + (p : Int)) s1.data.toList g1 e1.toNat m1 = tx1 at *
  generalize htx2 : sigText (1 + (q : Int)) s2.data.toList g2 e2.toNat m2 = tx2 at *
  have HX1 := Lib.hid htx1
  have HX2 := Lib.hid htx2
  clear htx1 htx2
  clear a0 a1 a2 a3 a4 b0 b1 b2 b3 b4 fa0 fa1 fa2 fa3 fa4 fb0 fb1 fb2 fb3 fb4 hL hLW hB1 hW2
  have heq := fun W' => sig_eql (1 + (p : Int)) (1 + (q : Int)) s1 s2 g1 g2 e1 e2 m1 m2 W'
  refine wp_region_quiet_below (by kernel_rfl) (by kernel_rfl) ?_
  repeat (quiet_step (first | (with_reducible exact cA _ _) | (with_reducible exact cB _ _)))
  refine wpQuiet_nil ?_
  intro _ hw'
  obtain ⟨⟨dq, osq⟩, hw''⟩ := hw'
  subst hw''
  go_wp2_with fail
  go_ret
  refine ⟨ret_bool ?_, belSeq hB (below_regrown W dq osq)⟩
  exact unl_end HI.out (fun h1 h2 h3 h4 h5 => by rw [← HX1.out, ← HX2.out, h1, h2, h3, h4, h5])

theorem eventUnlike_any (x1 x2 : Int) (d1 d2 : ByteArray) (f1 f2 : Bool) (c1 c2 n1 n2 : Int) (w : World) (hd1 : d1.size ≤ maxLen) (hd2 : d2.size ≤ maxLen)
    (hc1 : 0 ≤ c1 ∧ c1 ≤ 255) (hc2 : 0 ≤ c2 ∧ c2 ≤ 255) (hn1 : -9223372036854775808 ≤ n1 ∧ n1 ≤ 9223372036854775807) (hn2 : -9223372036854775808 ≤ n2 ∧ n2 ≤ 9223372036854775807) (hL : Laid w) :
    Calls Tryd.prog 5 #[.agg #[.int .i64 x1, .string d1, .bool f1, .int .u8 c1, .int .i64 n1], .agg #[.int .i64 x2, .string d2, .bool f2, .int .u8 c2, .int .i64 n2]] w fun e w' => e = .returned (.bool true) ∧ Below w.heap.size w w' := by
  obtain ⟨p, hp⟩ := Int.eq_ofNat_of_zero_le (show 0 ≤ x1 % 256 % 12 by omega)
  obtain ⟨q, hq⟩ := Int.eq_ofNat_of_zero_le (show 0 ≤ x2 % 256 % 12 by omega)
  exact eventUnlike_q p q (by omega) (by omega) x1 x2 (Lib.hid hp) (Lib.hid hq) d1 d2 f1 f2 c1 c2 n1 n2 w hd1 hd2 hc1 hc2 hn1 hn2 hL
end Go.Proofs.YtfjnpneopaljjaaDoor
