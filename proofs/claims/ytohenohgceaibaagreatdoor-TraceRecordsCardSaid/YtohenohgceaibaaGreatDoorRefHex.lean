/-
  Contract of the document's Hex.
-/
import Derived.Test.YtohenohgceaibaaGreatDoorPlainText
import Derived.Test.YtohenohgceaibaaGreatDoorCommon
import Derived.Test.YtohenohgceaibaaGreatDoorBytes
import Derived.WalkSpells
import Derived.WalkLawsBesides
import Derived.Handy
import Derived.Lib.Hide
set_option linter.unusedVariables false
set_option linter.unusedSimpArgs false
namespace Go.Proofs.YtohenohgceaibaaGreatDoor
open Go.RowKit

set_option maxHeartbeats 1000000 in
theorem refHex_any (s : ByteArray) (w : World) (hs : s.size ≤ 1000000) :
    Calls Tryz.prog 16 #[.string s] w fun e w' => e = .returned (.string ⟨(hexOf s.data.toList).toArray⟩) ∧ Below w.heap.size w w' := by
  by_cases h0 : s.toList.isEmpty
  · have h1 : s.data.toList = [] := by rw [List.isEmpty_iff, Lib.toList_data] at h0; exact h0
    have H1 := Lib.hid h1; clear h1
    go_enter Tryz.func16, Tryz.ntmps16
    go_wp2
    go_ret
    exact ⟨by rw [H1.out]; simp [hexOf], Below.refl _ _⟩
  · have kc := conv1d
    go_enter Tryz.func16, Tryz.ntmps16
    go_wp2
    go_loopw [3, 4] (fun o i wr => ∃ k : Nat, k ≤ s.size ∧ i = .int .i64 k ∧ o = .string ⟨(hexBody (s.data.toList.take k)).toArray⟩ ∧ Below w.heap.size w wr) (fun _ i _ => s.size - (intOf i).toNat)
    case atStart => exact ⟨0, Nat.zero_le _, rfl, rfl, Below.refl _ _⟩
    case round =>
      obtain ⟨k, hk, rfl, rfl, hbel⟩ := hrel
      by_cases hlt : k < s.size
      · have hc : (s[k].toNat : Int) ≤ 255 := by have := s[k].toNat_lt; omega
        have hln : (hexBody (s.data.toList.take k)).length ≤ 2000000 := by
          rw [hexBody_length]; have := List.length_take_le k s.data.toList; omega
        have hbt := hexBody_take s k hlt
        have HBT := Lib.hid hbt; clear hbt
        generalize hexBody (s.data.toList.take k) = pre at *
        have hsz := hbel.size
        go_wp2_with fail
        go_region
        go_wp2_with fail
        by_cases hd1 : (s[k].toNat : Int) / 16 < 10
        all_goals by_cases hd2 : (s[k].toNat : Int) % 16 < 10
        all_goals
          go_rounds 3
          go_roundw
          case rel =>
            refine ⟨k + 1, by omega, by go_num, ?_, Below.drew (Below.alloc (Below.alloc (Below.alloc hbel hsz _) (by simp; omega) _) (by simp; omega) _)⟩
            rw [HBT.out]
            refine congrArg Value.string (str_eq ?_)
            have e1 : s[k].toNat / 16 < 16 := by omega
            have e2 : s[k].toNat % 16 < 16 := by omega
            first
              | rw [hexDigit_lo (s[k].toNat / 16) (by omega), hexDigit_lo (s[k].toNat % 16) (by omega)]; simp
              | rw [hexDigit_lo (s[k].toNat / 16) (by omega), hexDigit_hi (s[k].toNat % 16) (by omega)]; simp
              | rw [hexDigit_hi (s[k].toNat / 16) (by omega), hexDigit_lo (s[k].toNat % 16) (by omega)]; simp
              | rw [hexDigit_hi (s[k].toNat / 16) (by omega), hexDigit_hi (s[k].toNat % 16) (by omega)]; simp
          case measure => simp [intOf]; omega
      · have hk' : k = s.size := by omega
        have hfull : s.data.toList.take k = s.data.toList := by rw [hk']; exact List.take_of_length_le (by simp)
        have HF := Lib.hid hfull
        clear hfull hk'
        go_wp2_with fail
        go_ret
        refine ⟨ret_str ?_, hbel⟩
        rw [HF.out, hexOf, if_neg]
        intro h; exact h0 (by rw [List.isEmpty_iff, Lib.toList_data]; exact h)
end Go.Proofs.YtohenohgceaibaaGreatDoor
