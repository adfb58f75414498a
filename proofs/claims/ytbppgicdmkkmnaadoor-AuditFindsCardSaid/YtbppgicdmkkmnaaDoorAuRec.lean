/-
  Records, as an audit reads them: eighteen cells; what begins an epoch; what has a credit; what is refused.
-/
import Derived.Test.YtbppgicdmkkmnaaDoorAuData
import Derived.Test.YtbppgicdmkkmnaaDoorBigStruct
import Derived.Deep.MidRow
set_option linter.unusedVariables false
set_option linter.unusedSimpArgs false
namespace Go.Proofs.YtbppgicdmkkmnaaDoor
open Go.RowKit

/-- A record's cells. -/
def recC (en kd k n mr : Int) (lv : Value) (sk sc rk : Int) : List Value := [.int .i64 en, .int .i64 kd, .int .i64 k, .int .i64 0, .int .u32 n, .int .u32 0, .int .u32 mr, lv, .bool false, .string ⟨#[]⟩, .int .i64 sk, .string ⟨#[]⟩, .bool false, .int .u8 sc, .int .i64 0, .int .i64 rk, .string ⟨#[]⟩, .int .i64 0]
theorem rec_info : (Tryd.prog.info? 36).map (·.size) = some 18 := by kernel_rfl
theorem rec_one (en kd k n mr : Int) (a : Option Addr) (l c : Nat) (sk sc rk : Int) : (#[.int .i64 en, .int .i64 kd, .int .i64 k, .int .i64 0, .int .u32 n, .int .u32 0, .int .u32 mr, .slice a l c, .bool false, .string ⟨#[]⟩, .int .i64 sk, .string ⟨#[]⟩, .bool false, .int .u8 sc, .int .i64 0, .int .i64 rk, .string ⟨#[]⟩, .int .i64 0] : Array Value).all (·.oneCell') = true := by
  simp [Value.oneCell']
def beginsB (kd sk rk : Int) : Bool := if kd = 5 then decide (sk = 2 ∨ sk = 6) else if kd = 6 then decide (rk = 2 ∨ rk = 5 ∨ rk = 6) else false
set_option maxRecDepth 100000 in
set_option maxHeartbeats 2000000 in
theorem begins_any (en kd k n mr : Int) (a : Option Addr) (l c : Nat) (sk sc rk : Int) (w : World) :
    Calls Tryd.prog 16 #[.agg #[.int .i64 en, .int .i64 kd, .int .i64 k, .int .i64 0, .int .u32 n, .int .u32 0, .int .u32 mr, .slice a l c, .bool false, .string ⟨#[]⟩, .int .i64 sk, .string ⟨#[]⟩, .bool false, .int .u8 sc, .int .i64 0, .int .i64 rk, .string ⟨#[]⟩, .int .i64 0]] w fun e w' => e = .returned (.bool (beginsB kd sk rk)) ∧ Below w.heap.size w w' := by
  have hb := (Below.refl w.heap.size w).alloc (Nat.le_refl _) (.cells #[.int .i64 en, .int .i64 kd, .int .i64 k, .int .i64 0, .int .u32 n, .int .u32 0, .int .u32 mr, .slice a l c, .bool false, .string ⟨#[]⟩, .int .i64 sk, .string ⟨#[]⟩, .bool false, .int .u8 sc, .int .i64 0, .int .i64 rk, .string ⟨#[]⟩, .int .i64 0] 36)
  have HB := Lib.hid hb
  clear hb
  by_cases h5 : kd = 5
  · subst h5
    by_cases h2 : sk = 2
    · subst h2
      go_enter Tryd.func16, Tryd.ntmps16
      go_wp2_with fail
      go_ret
      exact ⟨rfl, HB.out⟩
    · by_cases h6 : sk = 6
      · subst h6
        go_enter Tryd.func16, Tryd.ntmps16
        go_wp2_with fail
        go_ret
        exact ⟨rfl, HB.out⟩
      · have hr : beginsB 5 sk rk = false := by simp [beginsB, h2, h6]
        rw [hr]
        go_enter Tryd.func16, Tryd.ntmps16
        go_wp2_with fail
        go_ret
        exact ⟨ret_bool (by simp [h2, h6]), HB.out⟩
  · by_cases h6 : kd = 6
    · subst h6
      by_cases h2 : rk = 2
      · subst h2
        go_enter Tryd.func16, Tryd.ntmps16
        go_wp2_with fail
        go_ret
        exact ⟨rfl, HB.out⟩
      · by_cases h3 : rk = 5
        · subst h3
          go_enter Tryd.func16, Tryd.ntmps16
          go_wp2_with fail
          go_ret
          exact ⟨rfl, HB.out⟩
        · by_cases h4 : rk = 6
          · subst h4
            go_enter Tryd.func16, Tryd.ntmps16
            go_wp2_with fail
            go_ret
            exact ⟨rfl, HB.out⟩
          · have hr : beginsB 6 sk rk = false := by simp [beginsB, h2, h3, h4]
            rw [hr]
            go_enter Tryd.func16, Tryd.ntmps16
            go_wp2_with fail
            go_ret
            exact ⟨ret_bool (by simp [h2, h3, h4]), HB.out⟩
    · have hr : beginsB kd sk rk = false := by simp [beginsB, h5, h6]
      rw [hr]
      go_enter Tryd.func16, Tryd.ntmps16
      go_wp2_with fail
      go_ret
      exact ⟨rfl, HB.out⟩
def grantsB (k : Int) : Bool := decide (k = 1 ∨ k = 2 ∨ k = 5 ∨ k = 6 ∨ k = 9 ∨ k = 15)
theorem grants_any (k : Int) (w : World) : Calls Tryd.prog 19 #[.int .i64 k] w fun e w' => e = .returned (.bool (grantsB k)) ∧ w = w' := by
  by_cases h : k = 1 ∨ k = 2 ∨ k = 5 ∨ k = 6 ∨ k = 9 ∨ k = 15
  · rcases h with rfl | rfl | rfl | rfl | rfl | rfl
    all_goals
      go_enter Tryd.func19, Tryd.ntmps19
      go_wp2_with fail
      go_ret
      exact ⟨rfl, rfl⟩
  · have hr : grantsB k = false := by unfold grantsB; exact decide_eq_false h
    rw [hr]
    have e1 : ¬ k = 1 := fun e => h (by omega)
    have e2 : ¬ k = 2 := fun e => h (by omega)
    have e3 : ¬ k = 5 := fun e => h (by omega)
    have e4 : ¬ k = 6 := fun e => h (by omega)
    have e5 : ¬ k = 9 := fun e => h (by omega)
    have e6 : ¬ k = 15 := fun e => h (by omega)
    clear h
    go_enter Tryd.func19, Tryd.ntmps19
    go_wp2_with fail
    go_ret
    exact ⟨rfl, rfl⟩
end Go.Proofs.YtbppgicdmkkmnaaDoor
