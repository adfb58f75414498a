/-
  The walk of the statement EventRequests.
-/
import Derived.Test.YtfjnpneopaljjaaDoorAwake10
set_option linter.unusedVariables false
set_option linter.unusedSimpArgs false
namespace Go.Proofs.YtfjnpneopaljjaaDoor
open Go.RowKit

set_option maxHeartbeats 1000000 in
theorem eventRequests_any (k : Int) (s : ByteArray) (n : Int) (w : World) (hs : s.size ≤ maxLen) (hL : Laid w) :
    Calls Tryd.prog 3 #[.agg #[.int .i64 k, .string s, .int .i64 n]] w fun e w' => e = .returned (.bool true) ∧ Below w.heap.size w w' := by
  go_enter Tryd.func3, Tryd.ntmps3
  go_wp2_with fail
  refine (awake_any _ (hL.alloc _)).mono ?_
  rintro e w1 ⟨rfl, hb1⟩
  have c0 := hb1.cell (p := ⟨w.heap.size, 0, none⟩) (by simp)
  have c1 := hb1.cell (p := ⟨w.heap.size, 1, none⟩) (by simp)
  have c2 := hb1.cell (p := ⟨w.heap.size, 2, none⟩) (by simp)
  have f1 := hb1.frozen (p := ⟨w.heap.size, 1, none⟩) (by simp)
  simp at c0 c1 c2 f1
  go_wp2_with fail
  refine (cut_any _ 210 _ hs (by omega)).mono ?_
  rintro e w2 ⟨rfl, rfl⟩
  go_wp2_with fail
  have hs2 : (⟨(s.data.toList.take 210).toArray⟩ : ByteArray).size ≤ maxLen := by
    rw [size_arr]; have := List.length_take_le 210 s.data.toList; unfold maxLen; omega
  refine region_gen (fun W => W.cell? ⟨w.heap.size, 0, none⟩ = some (.int .i64 k) ∧ W.cell? ⟨w.heap.size, 1, none⟩ = some (.string ⟨(s.data.toList.take 210).toArray⟩) ∧ W.cell? ⟨w.heap.size, 2, none⟩ = some (.int .i64 n) ∧ Below w.heap.size w W) ⟨by go_simp, by go_simp, by go_simp, (belAlloc hb1 (by simp)).setCell (Nat.le_refl _) _⟩ ?_
  rintro W ⟨d0, d1, d2, hB⟩
  generalize (⟨(s.data.toList.take 210).toArray⟩ : ByteArray) = s2 at *
  have k0 := cell_regrown d0
  have k1 := cell_regrown d1
  have k2 := cell_regrown d2
  have cA := fun d os => Calls.regrown_of (check_any k s2 n (Sort.grow (redrawn W d) os) hs2)
  have cB := fun d os => Calls.regrown_of (Calls.same_below (refCheck_any k s2 n (Sort.grow (redrawn W d) os) hs2))
  clear d0 d1 d2 c0 c1 c2 f1 hb1 hL hs hs2
  refine wp_region_quiet_below (by kernel_rfl) (by kernel_rfl) ?_
  repeat (quiet_step (first | exact cA _ _ | exact cB _ _))
  refine wpQuiet_nil ?_
  intro _ hw'
  obtain ⟨⟨dq, osq⟩, hw''⟩ := hw'
  subst hw''
  go_wp2_with fail
  go_ret
  exact ⟨ret_bool (by simp), belSeq hB (below_regrown W dq osq)⟩
end Go.Proofs.YtfjnpneopaljjaaDoor
