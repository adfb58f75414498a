/-
  The walk of the statement EventTexts.
-/
import Derived.Test.YtfjnpneopaljjaaDoorAwake10
import Derived.Test.YtfjnpneopaljjaaDoorRefText
set_option linter.unusedVariables false
set_option linter.unusedSimpArgs false
namespace Go.Proofs.YtfjnpneopaljjaaDoor
open Go.RowKit

set_option maxHeartbeats 1000000 in
theorem eventTexts_any (k : Int) (s : ByteArray) (f : Bool) (c n : Int) (w : World) (hs : s.size ≤ maxLen) (hc0 : 0 ≤ c) (hc1 : c ≤ 255) (hn0 : -9223372036854775808 ≤ n) (hn1 : n ≤ 9223372036854775807) (hL : Laid w) :
    Calls Tryd.prog 4 #[.agg #[.int .i64 k, .string s, .bool f, .int .u8 c, .int .i64 n]] w fun e w' => e = .returned (.bool true) ∧ Below w.heap.size w w' := by
  go_enter Tryd.func4, Tryd.ntmps4
  go_wp2_with fail
  refine (awake_any _ (hL.alloc _)).mono ?_
  rintro e w1 ⟨rfl, hb1⟩
  have hL1 := (hL.alloc _).below hb1
  have c0 := hb1.cell (p := ⟨w.heap.size, 0, none⟩) (by simp)
  have c1 := hb1.cell (p := ⟨w.heap.size, 1, none⟩) (by simp)
  have c2 := hb1.cell (p := ⟨w.heap.size, 2, none⟩) (by simp)
  have c3 := hb1.cell (p := ⟨w.heap.size, 3, none⟩) (by simp)
  have c4 := hb1.cell (p := ⟨w.heap.size, 4, none⟩) (by simp)
  have f1 := hb1.frozen (p := ⟨w.heap.size, 1, none⟩) (by simp)
  simp at c0 c1 c2 c3 c4 f1
  go_wp2_with fail
  refine (cut_any _ 60 _ hs (by omega)).mono ?_
  rintro e w2 ⟨rfl, rfl⟩
  go_wp2_with fail
  have hs2 : (⟨(s.data.toList.take 60).toArray⟩ : ByteArray).size ≤ 1000000 := by
    rw [size_arr]; have := List.length_take_le 60 s.data.toList; omega
  have hBB : Below w.heap.size w w1 := belAlloc hb1 (by simp)
  refine region_gen (fun W => W.cell? ⟨w.heap.size, 0, none⟩ = some (.int .i64 k) ∧ W.cell? ⟨w.heap.size, 1, none⟩ = some (.string ⟨(s.data.toList.take 60).toArray⟩) ∧ W.cell? ⟨w.heap.size, 2, none⟩ = some (.bool f) ∧ W.cell? ⟨w.heap.size, 3, none⟩ = some (.int .u8 c) ∧ W.cell? ⟨w.heap.size, 4, none⟩ = some (.int .i64 n) ∧ Below w.heap.size w W) ⟨by go_simp, by go_simp, by go_simp, by go_simp, by go_simp, hBB.setCell (Nat.le_refl _) _⟩ ?_
  rintro W ⟨d0, d1, d2, d3, d4, hB⟩
  have hLW := hL.below hB
  generalize (⟨(s.data.toList.take 60).toArray⟩ : ByteArray) = s2 at *
  have k0 := cell_regrown d0
  have k1 := cell_regrown d1
  have k2 := cell_regrown d2
  have k3 := cell_regrown d3
  have k4 := cell_regrown d4
  have cA := fun d os => Calls.regrown_of (sigtext_any k s2 f c n (Sort.grow (redrawn W d) os) hs2 hc0 hc1 hn0 hn1 (hLW.below (below_regrown W d os)).words (hLW.below (below_regrown W d os)).g0 (hLW.below (below_regrown W d os)).pow (hLW.below (below_regrown W d os)).g1)
  have cB := fun d os => Calls.regrown_of (reftext_any k s2 f c n (Sort.grow (redrawn W d) os) hs2 hc0 hc1 hn0 hn1)
  clear d0 d1 d2 d3 d4 c0 c1 c2 c3 c4 f1 hb1 hL hL1 hLW hs hs2 hBB
  generalize sigText k s2.data.toList f c.toNat n = tx at *
  refine wp_region_quiet_below (by kernel_rfl) (by kernel_rfl) ?_
  repeat (quiet_step (first | exact cA _ _ | exact cB _ _))
  refine wpQuiet_nil ?_
  intro _ hw'
  obtain ⟨⟨dq, osq⟩, hw''⟩ := hw'
  subst hw''
  go_wp2_with fail
  go_ret
  exact ⟨ret_bool (by simp), belSeq hB (below_regrown W dq osq)⟩
end Go.Proofs.YtfjnpneopaljjaaDoor
