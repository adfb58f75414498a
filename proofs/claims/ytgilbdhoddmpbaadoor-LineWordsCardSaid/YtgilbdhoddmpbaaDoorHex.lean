/-
  Contract of event.Hex.
-/
import Derived.Test.YtgilbdhoddmpbaaDoorRows
import Derived.Test.YtgilbdhoddmpbaaDoorShelf
import Derived.Test.YtgilbdhoddmpbaaDoorPlainHex
import Derived.WalkKit
import Derived.WalkSpells
import Derived.WalkLawsBesides
import Derived.Lib.Hide
set_option linter.unusedVariables false
set_option linter.unusedSimpArgs false
namespace Go.Proofs.YtgilbdhoddmpbaaDoor
open Go.RowKit

set_option maxHeartbeats 400000 in
theorem hex_any (s : ByteArray) (w : World) (hs : s.size ≤ 1000000) :
    Calls Tryd.prog 25 #[.string s] w fun e w' => e = .returned (.string ⟨(hexOf s.data.toList).toArray⟩) ∧ Below w.heap.size w w' := by
  by_cases h0 : s.toList.isEmpty
  · have h1 : s.data.toList = [] := by rw [List.isEmpty_iff] at h0; rw [Lib.toList_data] at h0; exact h0
    have H1 := Lib.hid h1; clear h1
    go_enter Tryd.func25, Tryd.ntmps25
    go_wp2
    go_ret
    exact ⟨by rw [H1.out]; simp [hexOf], Below.refl _ _⟩
  · go_enter Tryd.func25, Tryd.ntmps25
    go_wp2
    go_loopw [9] (fun i wr => ∃ k : Nat, k ≤ s.size ∧ i = .int .i64 k ∧ Lib.IsBuilder 62 5 w.heap.size w.heap.size (Lib.byteCells (hexBody (s.data.toList.take k))) wr ∧ Below w.heap.size w wr) (fun i _ => s.size - (intOf i).toNat)
    case atStart => 
      exact ⟨0, Nat.zero_le _, rfl, Lib.fresh_isBuilder _ _ w, (Below.refl _ _).alloc (Nat.le_refl _) _⟩
    case round =>
      obtain ⟨k, hk, rfl, hbu, hbel⟩ := hrel
      by_cases hlt : k < s.size
      · have hc : (s[k].toNat : Int) ≤ 255 := by have := s[k].toNat_lt; omega
        have hln : (hexBody (s.data.toList.take k)).length ≤ 2000000 := by
          rw [hexBody_length]; have := List.length_take_le k s.data.toList; omega
        have hsz := hbel.size
        go_wp2_with fail
        refine (Tryd.Builder_WriteByte _ _ _ _ _ hbu (by rw [Lib.byteCells_length]; omega) hsz).mono ?_
        rintro e w1 ⟨rfl, hb1, hbel1⟩
        go_wp2_with fail
        have hsz1 := Nat.le_trans hsz hbel1.size
        refine (Tryd.Builder_WriteByte _ _ _ _ _ (Or.inr hb1) (by rw [List.length_append, Lib.byteCells_length]; simp; omega) hsz1).mono ?_
        rintro e w2 ⟨rfl, hb2, hbel2⟩
        have hB : Lib.IsBuilder 62 5 w.heap.size w.heap.size (Lib.byteCells (hexBody (s.data.toList.take (k + 1)))) w2 := by
          rw [hexBody_take s k hlt, Lib.byteCells_append, Lib.byteCells_append]
          rw [digits_lt _ (by omega), digits_lt _ (by omega)] at hb2
          exact Or.inr hb2
        have hbel3 := (hbel.trans hbel1).trans hbel2
        clear hb1 hb2 hbu hbel hbel1 hbel2 hc hln
        go_wp2_with fail
        go_roundw
        case rel => exact ⟨k + 1, by omega, by go_num, hB, hbel3⟩
        case measure => simp [intOf]; omega
      · have hk' : k = s.size := by omega
        have hfull : s.data.toList.take k = s.data.toList := by rw [hk']; exact List.take_of_length_le (by simp)
        rw [hfull] at hbu
        clear hfull hk'
        go_wp2_with fail
        refine (Tryd.Builder_String_any _ _ _ _ hbu hbel.size).mono ?_
        rintro e w1 ⟨rfl, hbel1⟩
        go_wp2_with fail
        go_ret
        refine ⟨?_, hbel.trans hbel1⟩
        rw [hexOf, if_neg]
        · rfl
        · intro h; exact h0 (by rw [List.isEmpty_iff, Lib.toList_data]; exact h)
end Go.Proofs.YtgilbdhoddmpbaaDoor
