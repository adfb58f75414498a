/-
  Small contracts of package pdu: bit, four.
-/
import Derived.Test.YtlkceignfhnpoaaGreatDoorPduShape
import Derived.Test.YtlkceignfhnpoaaGreatDoorPlainPdu
import Derived.Test.YtlkceignfhnpoaaGreatDoorCommon
import Derived.Test.YtlkceignfhnpoaaGreatDoorBits
import Derived.Test.YtlkceignfhnpoaaGreatDoorBytes
import Derived.WalkSpells
import Derived.WalkLawsBesides
import Derived.Lib.Hide
import Derived.Lib.EndianBits
import Derived.Laws.BitsAllLaws
set_option linter.unusedVariables false
set_option linter.unusedSimpArgs false
namespace Go.Proofs.YtlkceignfhnpoaaGreatDoor
open Go.RowKit

theorem bit_any (b : Bool) (w : World) :
    Calls Tryz.prog 264 #[.bool b] w fun e w' => e = .returned (.int .u32 (if b then 1 else 0)) ∧ w = w' := by
  cases b
  all_goals
    go_enter Tryz.func264, Tryz.ntmps264
    go_wp2
    go_ret
    exact ⟨rfl, rfl⟩

theorem byte_mod (n : Nat) : UInt8.ofNat (n % 256) = UInt8.ofNat n := by
  apply UInt8.toNat_inj.1; simp
theorem four_any (n : Nat) (hn : n < 4294967296) (w : World) :
    Calls Tryz.prog 263 #[.int .u32 n] w fun e w' => e = .returned (.string ⟨#[(n / 16777216).toUInt8, (n / 65536).toUInt8, (n / 256).toUInt8, n.toUInt8]⟩) ∧ Below w.heap.size w w' := by
  have kc := conv4
  go_enter Tryz.func263, Tryz.ntmps263
  go_wp2
  go_ret
  refine ⟨ret_str ?_, (Below.refl _ _).alloc (Nat.le_refl _) _⟩
  simp [byte_mod]
end Go.Proofs.YtlkceignfhnpoaaGreatDoor
