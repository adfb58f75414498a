/-
  Contract of the statement's own 'written'.
-/
import Derived.Test.YtfjnpneopaljjaaDoorRows
import Derived.Test.YtfjnpneopaljjaaDoorPlainUnhex
import Derived.Test.YtfjnpneopaljjaaDoorCommon
import Derived.WalkSpells
import Derived.WalkLawsBesides
import Derived.Laws.IdiomStrings
set_option linter.unusedVariables false
set_option linter.unusedSimpArgs false
namespace Go.Proofs.YtfjnpneopaljjaaDoor
open Go.RowKit

theorem bytes_of (s : ByteArray) (w : World) : ∃ c w1, (convert 9 38 (.string s)).run Tryd.prog w = .ok (.slice (some ⟨w.heap.size, 0, none⟩) s.size c) w1 ∧
    (∀ i, (h : i < s.size) → w1.cell? ⟨w.heap.size, i, none⟩ = some (.int .u8 (s[i].toNat : Int))) ∧ Below w.heap.size w w1 := by
  refine ⟨_, _, run_bytes_of_string (P := Tryd.prog) w 9 38 5 s Tryd.underlying9 Tryd.underlying38 Tryd.underlying5, ?_, (Below.refl _ _).drew.alloc (Nat.le_refl _) _⟩
  intro i h
  have := World.cell?_alloc_mark w.drew (bytesRow s (grownCap w s.size 0 5)) 5 ((bytesRow s (grownCap w s.size 0 5)).size, (bytesRow s (grownCap w s.size 0 5)).size + 1) i
  refine this.trans ?_
  exact bytesRow_at s _ i h

set_option maxHeartbeats 1000000 in
theorem written_any (s : ByteArray) (w : World) (hs : s.size ≤ 1000000) :
    Calls Tryd.prog 19 #[.string s] w fun e w' => e = .returned (.bool (writtenOf s.data.toList)) ∧ Below w.heap.size w w' := by
  by_cases hd : s.data.toList = [45]
  · have hs1 : s = ⟨#[45]⟩ := str_eq (by rw [hd])
    subst hs1
    go_enter Tryd.func19, Tryd.ntmps19
    go_wp2
    go_ret
    exact ⟨rfl, Below.refl _ _⟩
  · have hd2 : (s.toList == [45]) = false := by rw [Lib.toList_data]; simpa using hd
    have hfin : writtenOf s.data.toList = (s.data.toList.all isDig && (s.data.toList ≠ [] && s.size % 2 == 0)) := by
      unfold writtenOf; rw [if_neg hd, size_len]
    have HW := Lib.hid hfin
    clear hfin hd
    obtain ⟨c, w1, hrun, hcell, hbel⟩ := bytes_of s w
    have HC := Lib.hid hcell
    clear hcell
    go_enter Tryd.func19, Tryd.ntmps19
    go_wp2_with fail
    clear hrun
    go_loop [10] (fun i => ∃ k : Nat, k ≤ s.size ∧ i = .int .i64 k ∧ Hid ((s.data.toList.take k).all isDig = true)) (fun i => s.size - (intOf i).toNat)
    case atStart => exact ⟨0, Nat.zero_le _, rfl, Lib.hid rfl⟩
    case round =>
      obtain ⟨k, hk, rfl, hall⟩ := hrel
      by_cases hlt : k < s.size
      · have hcell := HC.out k hlt
        have hb : (s[k].toNat : Int) ≤ 255 := by have := s[k].toNat_lt; omega
        by_cases hdig : isDig s[k] = true
        · have hnext : (s.data.toList.take (k + 1)).all isDig = true := by rw [take_snoc s k hlt, List.all_append, hall.out]; simp [hdig]
          have HN := Lib.hid hnext
          clear hnext
          have hd3 : (48 ≤ (s[k].toNat : Int) ∧ (s[k].toNat : Int) ≤ 57) ∨ (97 ≤ (s[k].toNat : Int) ∧ (s[k].toNat : Int) ≤ 102) := by
            have := (isDig_iff s[k]).1 hdig; unfold digVal at this; split at this
            · omega
            · split at this <;> omega
          clear hdig
          rcases hd3 with ⟨h1, h2⟩ | ⟨h1, h2⟩
          all_goals
            go_wp2_with fail
            go_round
            case rel => exact ⟨k + 1, by omega, by go_num, HN⟩
            case measure => simp [intOf]; omega
        · have hbad : s.data.toList.all isDig = false := by
            rw [← Bool.not_eq_true]; intro h
            rw [List.all_eq_true] at h
            exact hdig (h s[k] (by simp; exact Array.getElem_mem _))
          have HB := Lib.hid hbad
          clear hbad
          have hd3 : (s[k].toNat : Int) < 48 ∨ (57 < (s[k].toNat : Int) ∧ (s[k].toNat : Int) < 97) ∨ 102 < (s[k].toNat : Int) := by
            have h1 : ¬ 0 ≤ digVal s[k] := fun h => hdig ((isDig_iff s[k]).2 h)
            unfold digVal at h1; split at h1
            · omega
            · split at h1 <;> omega
          clear hdig
          rcases hd3 with h1 | ⟨h1, h2⟩ | h1
          all_goals
            go_wp2_with fail
            go_ret
            exact ⟨ret_bool (by rw [HW.out, HB.out]; rfl), hbel⟩
      · have hfull : s.data.toList.all isDig = true := by
          have := hall.out; rwa [List.take_of_length_le (by rw [size_len]; omega)] at this
        have HF := Lib.hid hfull
        clear hfull HC
        by_cases h0 : s.size = 0
        · have he := empty_bool h0
          have hn : s.data.toList = [] := List.eq_nil_of_length_eq_zero (by rw [size_len]; exact h0)
          have HNn := Lib.hid hn
          clear hn h0
          go_wp2_with fail
          go_ret
          exact ⟨ret_bool (by rw [HW.out, HF.out, HNn.out]; rfl), hbel⟩
        · have he := full_bool h0
          have hn : s.data.toList ≠ [] := fun h => h0 (by rw [← size_len, h]; rfl)
          have HNn := Lib.hid hn
          clear hn h0
          by_cases hev : s.size % 2 = 0
          · have hev2 : ((s.size : Int) % 2 == 0) = true := by simp; omega
            have HE := Lib.hid hev
            clear hev
            go_wp2_with fail
            go_ret
            exact ⟨ret_bool (by rw [HW.out, HF.out, HE.out]; simpa using HNn.out), hbel⟩
          · have hev2 : ((s.size : Int) % 2 == 0) = false := by simp; omega
            have HE : Hid (s.size % 2 = 1) := Lib.hid (by omega)
            clear hev
            go_wp2_with fail
            go_ret
            exact ⟨ret_bool (by rw [HW.out, HF.out, HE.out]; simp), hbel⟩
end Go.Proofs.YtfjnpneopaljjaaDoor
