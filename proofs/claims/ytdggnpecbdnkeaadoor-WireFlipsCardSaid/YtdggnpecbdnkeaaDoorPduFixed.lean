/-
  Parse of the bytes of a unit that may be: the unit comes back.
-/
import Derived.Test.YtdggnpecbdnkeaaDoorPduTake
import Derived.Test.YtdggnpecbdnkeaaDoorPduReverse
import Derived.Test.YtdggnpecbdnkeaaDoorPduOwn
set_option linter.unusedVariables false
set_option linter.unusedSimpArgs false
namespace Go.Proofs.YtdggnpecbdnkeaaDoor
open Go.RowKit
attribute [local go_sem ↓] Go.wp_at_zero Go.wp_at_succ

/-- How many words a shape has at least. -/
def fixedOf (bq bp bm : Bool) (sl : Int) : Int := 1 + ((if bq then 1 else 0) + (if bp then 1 else 0) + (if bm then 1 else 0)) + (if sl < 0 then 0 else sl)
set_option maxRecDepth 100000 in
set_option maxHeartbeats 2000000 in
theorem fixed_any (sd : Int) (bq bn : Bool) (sl : Int) (bp bm bs bi : Bool) (hsl : -1 ≤ sl ∧ sl ≤ 2) (w : World) : Calls Tryd.prog 73 #[.agg #[.int .i64 sd, .bool bq, .bool bn, .int .i64 sl, .bool bp, .bool bm, .bool bs, .bool bi]] w fun e w' => e = .returned (.int .i64 (fixedOf bq bp bm sl)) ∧ Below w.heap.size w w' := by
  have h : sl = -1 ∨ sl = 0 ∨ sl = 1 ∨ sl = 2 := by omega
  have HF : Hid (fixedOf bq bp bm sl = 1 + ((if bq then 1 else 0) + (if bp then 1 else 0) + (if bm then 1 else 0)) + (if sl < 0 then 0 else sl)) := Lib.hid rfl
  generalize fixedOf bq bp bm sl = R at *
  clear hsl
  rcases h with rfl | rfl | rfl | rfl
  all_goals
    cases bq <;> cases bp <;> cases bm
    all_goals (as_aux_lemma =>
      go_enter Tryd.func73, Tryd.ntmps73
      go_wp2_with fail
      go_quiet ((go_at_call 55; exact Calls.quiet_of_same ((bit_any _ _).mono fun _ _ ⟨h1, h2⟩ => ⟨h1, h2.symm⟩)))
      go_wp2
      go_ret
      exact ⟨ret_int (by rw [HF.out]; rfl), below_drewN ((Below.refl _ _).alloc (Nat.le_refl _) _) _⟩)
end Go.Proofs.YtdggnpecbdnkeaaDoor
