/-
  Contract of the statements' Cut.
-/
import Derived.Test.YtgilbdhoddmpbaaDoorRows
import Derived.Test.YtgilbdhoddmpbaaDoorCommon
import Derived.WalkSpells
import Derived.WalkLawsBesides
set_option linter.unusedVariables false
set_option linter.unusedSimpArgs false
namespace Go.Proofs.YtgilbdhoddmpbaaDoor
open Go.RowKit

theorem cut_any (s : ByteArray) (m : Nat) (w : World) (hs : s.size ≤ maxLen) (hm : m ≤ 1000000) :
    Calls Tryd.prog 9 #[.string s, .int .i64 m] w fun e w' => e = .returned (.string ⟨(s.data.toList.take m).toArray⟩) ∧ w = w' := by
  unfold maxLen at hs
  by_cases hl : m < s.size
  · go_enter Tryd.func9, Tryd.ntmps9
    go_wp2
    go_ret
    exact ⟨ret_str (by simp), rfl⟩
  · go_enter Tryd.func9, Tryd.ntmps9
    go_wp2
    go_ret
    exact ⟨ret_str (by simp; rw [List.take_of_length_le (by rw [size_len]; omega)]), rfl⟩
end Go.Proofs.YtgilbdhoddmpbaaDoor
