/-
  The walk of the statement FrameCells.
-/
import Derived.Test.YtdggnpecbdnkeaaDoorAwake05
set_option linter.unusedVariables false
set_option linter.unusedSimpArgs false
namespace Go.Proofs.YtdggnpecbdnkeaaDoor
open Go.RowKit

set_option maxRecDepth 100000 in
set_option maxHeartbeats 1000000 in
theorem frameCells_any (n : Int) (h0 : -9223372036854775808 ≤ n) (h1 : n ≤ 9223372036854775807) (w : World) : Calls Tryd.prog 7 #[.int .i64 n] w fun e w' => e = .returned (.bool true) ∧ Below w.heap.size w w' := by
  have HAW := Lib.hid awake5
  have HC := Lib.hid cells_any
  have key : ∀ m : Int, 0 ≤ m → m ≤ 1099511627776 → m + 8 ≤ 48 * cellsOf m ∧ 48 * (cellsOf m - 1) < m + 8 ∧ cellsOf m ≤ cellsOf (m + 1) ∧ cellsOf (m + 48) = cellsOf m + 1 ∧ 1 ≤ cellsOf m ∧ cellsOf m ≤ 100000000000 ∧ cellsOf (m + 1) ≤ 100000000000 := by
    intro m hm0 hm1
    unfold cellsOf
    rw [if_neg (by omega), if_neg (by omega), if_neg (by omega)]
    omega
  have hM0 : 0 ≤ min (max n 0) 1099511627776 ∧ min (max n 0) 1099511627776 ≤ 1099511627776 := by omega
  have hcM : cellsOf (min n 1099511627776) = cellsOf (min (max n 0) 1099511627776) := by
    unfold cellsOf
    by_cases hn : n < 0
    · rw [if_pos (by omega), if_neg (by omega)]; omega
    · rw [if_neg (by omega), if_neg (by omega)]; omega
  have HN : Hid (∀ w : World, Calls Tryd.prog 19 #[.int .i64 (min n 1099511627776)] w fun e w' => e = .returned (.int .i64 (cellsOf (min (max n 0) 1099511627776))) ∧ w = w') := Lib.hid (fun w => by have := HC.out (min n 1099511627776) (by omega) w; rw [hcM] at this; exact this)
  clear hcM
  go_enter Tryd.func7, Tryd.ntmps7
  go_wp2_with fail
  refine (HAW.out _).mono ?_
  rintro e w1 ⟨rfl, hb1⟩
  have HB1 := Lib.hid hb1
  clear hb1
  go_wp2_with fail
  refine (HN.out _).mono ?_
  rintro e w2 ⟨rfl, rfl⟩
  clear HN
  generalize min (max n 0) 1099511627776 = m at *
  obtain ⟨k1, k2, k3, k4, k5, k6, k7⟩ := key m hM0.1 hM0.2
  have H1 := Lib.hid (HC.out (m + 1) (by omega))
  have H2 := Lib.hid (HC.out (m + 48) (by omega))
  have e4 : (cellsOf (m + 48) == cellsOf m + 1) = true := by rw [k4]; simp
  clear k4 key HC HAW h0 h1
  obtain ⟨m1, m2⟩ := hM0
  generalize cellsOf (m + 1) = c1 at *
  generalize cellsOf (m + 48) = c2 at *
  generalize cellsOf m = c at *
  go_wp2_with fail
  refine (H1.out _).mono ?_
  rintro e w2 ⟨rfl, rfl⟩
  go_wp2_with fail
  refine (H2.out _).mono ?_
  rintro e w2 ⟨rfl, rfl⟩
  go_wp2_with fail
  go_ret
  exact ⟨ret_bool (by first | rfl | exact e4), HB1.out⟩
end Go.Proofs.YtdggnpecbdnkeaaDoor
