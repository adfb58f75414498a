/-
  The walk of the statement EventKinds.
-/
import Derived.Test.YtfjnpneopaljjaaDoorAwake10
import Derived.Test.YtfjnpneopaljjaaDoorBits
set_option linter.unusedVariables false
set_option linter.unusedSimpArgs false
namespace Go.Proofs.YtfjnpneopaljjaaDoor
open Go.RowKit

theorem hexOf_ne (l : List UInt8) : hexOf l ≠ [] := by
  unfold hexOf
  cases l with
  | nil => simp
  | cons c t => simp [hexBody]
theorem sigText_ne (k : Int) (d : List UInt8) (f : Bool) (c : Nat) (n : Int) (h : 1 ≤ k ∧ k ≤ 12) : sigText k d f c n ≠ [] := by
  obtain ⟨m, rfl⟩ := Int.eq_ofNat_of_zero_le (show 0 ≤ k by omega)
  have : m = 1 ∨ m = 2 ∨ m = 3 ∨ m = 4 ∨ m = 5 ∨ m = 6 ∨ m = 7 ∨ m = 8 ∨ m = 9 ∨ m = 10 ∨ m = 11 ∨ m = 12 := by omega
  rcases this with rfl | rfl | rfl | rfl | rfl | rfl | rfl | rfl | rfl | rfl | rfl | rfl <;> simp [sigText, sigWord]
theorem text_bool {l : List UInt8} (h : l ≠ []) : l.isEmpty = false := by
  cases l with
  | nil => exact absurd rfl h
  | cons => rfl

set_option maxHeartbeats 2000000 in
theorem eventKinds_data (k : Nat) (hk : k = 1 ∨ k = 3 ∨ k = 4 ∨ k = 7 ∨ k = 8 ∨ k = 9) (s : ByteArray) (w : World) (hs : s.size ≤ maxLen) (hL : Laid w) :
    Calls Tryd.prog 6 #[.int .i64 k, .string s] w fun e w' => e = .returned (.bool true) ∧ Below w.heap.size w w' := by
  have HT := Lib.hid (text_bool (sigText_ne k (⟨#[]⟩ : ByteArray).data.toList false (Int.toNat 65) 0 (by omega)))
  have hlen := List.length_take_le 64 s.data.toList
  have hchk : reqCheck k (⟨(s.data.toList.take 64).toArray⟩ : ByteArray).size 0 = 0 := by
    rw [size_arr]
    rcases hk with rfl | rfl | rfl | rfl | rfl | rfl
    · exact reqCheck_ok 64 rfl (by omega) (by omega) (by omega) (by omega) rfl
    · exact reqCheck_ok 64 rfl (by omega) (by omega) (by omega) (by omega) rfl
    · exact reqCheck_ok 64 rfl (by omega) (by omega) (by omega) (by omega) rfl
    · exact reqCheck_ok 200 rfl (by omega) (by omega) (by omega) (by omega) rfl
    · exact reqCheck_ok 200 rfl (by omega) (by omega) (by omega) (by omega) rfl
    · exact reqCheck_ok 200 rfl (by omega) (by omega) (by omega) (by omega) rfl
  have HC := Lib.hid hchk; clear hchk
  have hs2 : (⟨(s.data.toList.take 64).toArray⟩ : ByteArray).size ≤ maxLen := by rw [size_arr]; unfold maxLen; omega
  rcases hk with rfl | rfl | rfl | rfl | rfl | rfl
  all_goals
    go_enter Tryd.func6, Tryd.ntmps6
    go_wp2_with fail
    refine (awake_any _ hL).mono ?_
    rintro e w1 ⟨rfl, hb1⟩
    go_wp2_with fail
    refine (cut_any _ 64 _ hs (by omega)).mono ?_
    rintro e w2 ⟨rfl, rfl⟩
    generalize (⟨(s.data.toList.take 64).toArray⟩ : ByteArray) = s2 at *
    go_wp2_with fail
    refine (check_any _ _ _ _ hs2).mono ?_
    rintro e w3 ⟨rfl, hb3⟩
    simp only [Int.cast_ofNat_Int] at HC
    rw [HC.out]
    have c0 := hb3.cell (p := ⟨w1.heap.size + 1, 0, none⟩) (by simp)
    have c1 := hb3.cell (p := ⟨w1.heap.size + 1, 1, none⟩) (by simp)
    have c2 := hb3.cell (p := ⟨w1.heap.size + 1, 2, none⟩) (by simp)
    have c3 := hb3.cell (p := ⟨w1.heap.size + 1, 3, none⟩) (by simp)
    have c4 := hb3.cell (p := ⟨w1.heap.size + 1, 4, none⟩) (by simp)
    simp at c0 c1 c2 c3 c4
    have hB3 : Below w.heap.size w w3 := belSeq hb1 (belAlloc (belAlloc hb3 (by simp)) (by simp))
    have hL3 := hL.below hB3
    go_wp2_with fail
    refine (sigtext_any _ _ _ _ _ _ (by decide) (by decide) (by decide) (by decide) (by decide) hL3.words hL3.g0 hL3.pow hL3.g1).mono ?_
    rintro e w4 ⟨rfl, hb4⟩
    have ht := HT.out
    clear HT
    try simp only [Int.cast_ofNat_Int] at ht
    generalize sigText _ _ _ _ _ = tx at *
    go_wp2_with fail
    go_ret
    exact ⟨ret_bool (by first | rfl | simp [ht]), belSeq hB3 hb4⟩

set_option maxHeartbeats 2000000 in
theorem eventKinds_bare (k : Nat) (hk : k = 2 ∨ k = 5 ∨ k = 6 ∨ k = 11) (s : ByteArray) (w : World) (hs : s.size ≤ maxLen) (hL : Laid w) :
    Calls Tryd.prog 6 #[.int .i64 k, .string s] w fun e w' => e = .returned (.bool true) ∧ Below w.heap.size w w' := by
  have HT := Lib.hid (text_bool (sigText_ne k (⟨#[]⟩ : ByteArray).data.toList false (Int.toNat 65) 0 (by omega)))
  have hchk : reqCheck k (⟨#[]⟩ : ByteArray).size 0 = 0 := by
    rcases hk with rfl | rfl | rfl | rfl <;> decide
  have HC := Lib.hid hchk; clear hchk
  rcases hk with rfl | rfl | rfl | rfl
  all_goals
    go_enter Tryd.func6, Tryd.ntmps6
    go_wp2_with fail
    refine (awake_any _ hL).mono ?_
    rintro e w1 ⟨rfl, hb1⟩
    go_wp2_with fail
    refine (cut_any _ 64 _ hs (by omega)).mono ?_
    rintro e w2 ⟨rfl, rfl⟩
    generalize (⟨(s.data.toList.take 64).toArray⟩ : ByteArray) = s2 at *
    go_wp2_with fail
    refine (check_any _ _ _ _ (by decide)).mono ?_
    rintro e w3 ⟨rfl, hb3⟩
    simp only [Int.cast_ofNat_Int] at HC
    rw [HC.out]
    have c0 := hb3.cell (p := ⟨w1.heap.size + 1, 0, none⟩) (by simp)
    have c1 := hb3.cell (p := ⟨w1.heap.size + 1, 1, none⟩) (by simp)
    have c2 := hb3.cell (p := ⟨w1.heap.size + 1, 2, none⟩) (by simp)
    have c3 := hb3.cell (p := ⟨w1.heap.size + 1, 3, none⟩) (by simp)
    have c4 := hb3.cell (p := ⟨w1.heap.size + 1, 4, none⟩) (by simp)
    simp at c0 c1 c2 c3 c4
    have hB3 : Below w.heap.size w w3 := belSeq hb1 (belAlloc (belAlloc hb3 (by simp)) (by simp))
    have hL3 := hL.below hB3
    go_wp2_with fail
    refine (sigtext_any _ _ _ _ _ _ (by decide) (by decide) (by decide) (by decide) (by decide) hL3.words hL3.g0 hL3.pow hL3.g1).mono ?_
    rintro e w4 ⟨rfl, hb4⟩
    have ht := HT.out
    clear HT
    try simp only [Int.cast_ofNat_Int] at ht
    generalize sigText _ _ _ _ _ = tx at *
    go_wp2_with fail
    go_ret
    exact ⟨ret_bool (by first | rfl | simp [ht]), belSeq hB3 hb4⟩

set_option maxHeartbeats 2000000 in
theorem eventKinds_take  (s : ByteArray) (w : World) (hs : s.size ≤ maxLen) (hL : Laid w) :
    Calls Tryd.prog 6 #[.int .i64 10, .string s] w fun e w' => e = .returned (.bool true) ∧ Below w.heap.size w w' := by
  have HT := Lib.hid (text_bool (sigText_ne 10 (⟨#[]⟩ : ByteArray).data.toList false (Int.toNat 65) 0 (by omega)))
  have hlen := List.length_take_le 64 s.data.toList
  have hs2 : (⟨(s.data.toList.take 64).toArray⟩ : ByteArray).size ≤ 64 := by rw [size_arr]; omega
  have HC : Hid (∀ n : Int, 1 ≤ n ∧ n ≤ 64 → reqCheck 10 (⟨#[]⟩ : ByteArray).size n = 0) := Lib.hid (by
    intro n hn
    rw [reqCheck_take (len := (⟨#[]⟩ : ByteArray).size) rfl, if_neg (by omega)])
  all_goals
    go_enter Tryd.func6, Tryd.ntmps6
    go_wp2_with fail
    refine (awake_any _ hL).mono ?_
    rintro e w1 ⟨rfl, hb1⟩
    go_wp2_with fail
    refine (cut_any _ 64 _ hs (by omega)).mono ?_
    rintro e w2 ⟨rfl, rfl⟩
    generalize (⟨(s.data.toList.take 64).toArray⟩ : ByteArray) = s2 at *
    go_wp2_with fail
    refine (check_any _ _ _ _ (by decide)).mono ?_
    rintro e w3 ⟨rfl, hb3⟩
    rw [HC.out _ (by omega)]
    have c0 := hb3.cell (p := ⟨w1.heap.size + 1, 0, none⟩) (by simp)
    have c1 := hb3.cell (p := ⟨w1.heap.size + 1, 1, none⟩) (by simp)
    have c2 := hb3.cell (p := ⟨w1.heap.size + 1, 2, none⟩) (by simp)
    have c3 := hb3.cell (p := ⟨w1.heap.size + 1, 3, none⟩) (by simp)
    have c4 := hb3.cell (p := ⟨w1.heap.size + 1, 4, none⟩) (by simp)
    simp at c0 c1 c2 c3 c4
    have hB3 : Below w.heap.size w w3 := belSeq hb1 (belAlloc (belAlloc hb3 (by simp)) (by simp))
    have hL3 := hL.below hB3
    go_wp2_with fail
    refine (sigtext_any _ _ _ _ _ _ (by decide) (by decide) (by decide) (by decide) (by decide) hL3.words hL3.g0 hL3.pow hL3.g1).mono ?_
    rintro e w4 ⟨rfl, hb4⟩
    have ht := HT.out
    clear HT
    try simp only [Int.cast_ofNat_Int] at ht
    generalize sigText _ _ _ _ _ = tx at *
    go_wp2_with fail
    go_ret
    exact ⟨ret_bool (by first | rfl | simp [ht]), belSeq hB3 hb4⟩

set_option maxHeartbeats 2000000 in
theorem eventKinds_rep  (s : ByteArray) (w : World) (hs : s.size ≤ maxLen) (hL : Laid w) :
    Calls Tryd.prog 6 #[.int .i64 12, .string s] w fun e w' => e = .returned (.bool true) ∧ Below w.heap.size w w' := by
  have HT := Lib.hid (text_bool (sigText_ne 12 (⟨#[]⟩ : ByteArray).data.toList false (Int.toNat 65) 0 (by omega)))
  have hchk : reqCheck 12 (⟨#[]⟩ : ByteArray).size 0 = 10 := by decide
  have HC := Lib.hid hchk; clear hchk
  all_goals
    go_enter Tryd.func6, Tryd.ntmps6
    go_wp2_with fail
    refine (awake_any _ hL).mono ?_
    rintro e w1 ⟨rfl, hb1⟩
    go_wp2_with fail
    refine (cut_any _ 64 _ hs (by omega)).mono ?_
    rintro e w2 ⟨rfl, rfl⟩
    generalize (⟨(s.data.toList.take 64).toArray⟩ : ByteArray) = s2 at *
    go_wp2_with fail
    refine (check_any _ _ _ _ (by decide)).mono ?_
    rintro e w3 ⟨rfl, hb3⟩
    rw [HC.out]
    have c0 := hb3.cell (p := ⟨w1.heap.size + 1, 0, none⟩) (by simp)
    have c1 := hb3.cell (p := ⟨w1.heap.size + 1, 1, none⟩) (by simp)
    have c2 := hb3.cell (p := ⟨w1.heap.size + 1, 2, none⟩) (by simp)
    have c3 := hb3.cell (p := ⟨w1.heap.size + 1, 3, none⟩) (by simp)
    have c4 := hb3.cell (p := ⟨w1.heap.size + 1, 4, none⟩) (by simp)
    simp at c0 c1 c2 c3 c4
    have hB3 : Below w.heap.size w w3 := belSeq hb1 (belAlloc (belAlloc hb3 (by simp)) (by simp))
    have hL3 := hL.below hB3
    go_wp2_with fail
    refine (sigtext_any _ _ _ _ _ _ (by decide) (by decide) (by decide) (by decide) (by decide) hL3.words hL3.g0 hL3.pow hL3.g1).mono ?_
    rintro e w4 ⟨rfl, hb4⟩
    have ht := HT.out
    clear HT
    try simp only [Int.cast_ofNat_Int] at ht
    generalize sigText _ _ _ _ _ = tx at *
    go_wp2_with fail
    go_ret
    exact ⟨ret_bool (by first | rfl | simp [ht]), belSeq hB3 hb4⟩

set_option maxHeartbeats 2000000 in
theorem eventKinds_none (k : Int) (hk : k < 1 ∨ 12 < k) (s : ByteArray) (w : World) (hs : s.size ≤ maxLen) (hL : Laid w) :
    Calls Tryd.prog 6 #[.int .i64 k, .string s] w fun e w' => e = .returned (.bool true) ∧ Below w.heap.size w w' := by
  have hchk : reqCheck k (⟨#[]⟩ : ByteArray).size 0 = 10 := reqCheck_none (by omega)
  have HC := Lib.hid hchk; clear hchk
  rcases hk with hk | hk
  all_goals
    go_enter Tryd.func6, Tryd.ntmps6
    go_wp2_with fail
    refine (awake_any _ hL).mono ?_
    rintro e w1 ⟨rfl, hb1⟩
    go_wp2_with fail
    refine (cut_any _ 64 _ hs (by omega)).mono ?_
    rintro e w2 ⟨rfl, rfl⟩
    generalize (⟨(s.data.toList.take 64).toArray⟩ : ByteArray) = s2 at *
    go_wp2_with fail
    refine (check_any _ _ _ _ (by decide)).mono ?_
    rintro e w3 ⟨rfl, hb3⟩
    rw [HC.out]
    have c0 := hb3.cell (p := ⟨w1.heap.size + 1, 0, none⟩) (by simp)
    have c1 := hb3.cell (p := ⟨w1.heap.size + 1, 1, none⟩) (by simp)
    have c2 := hb3.cell (p := ⟨w1.heap.size + 1, 2, none⟩) (by simp)
    have c3 := hb3.cell (p := ⟨w1.heap.size + 1, 3, none⟩) (by simp)
    have c4 := hb3.cell (p := ⟨w1.heap.size + 1, 4, none⟩) (by simp)
    simp at c0 c1 c2 c3 c4
    have hB3 : Below w.heap.size w w3 := belSeq hb1 (belAlloc (belAlloc hb3 (by simp)) (by simp))
    have hL3 := hL.below hB3
    go_wp2_with fail
    refine (sigtext_none _ _ _ _ _ _ (by omega)).mono ?_
    rintro e w4 ⟨rfl, hb4⟩
    have hnil : sigText k (⟨#[]⟩ : ByteArray).data.toList false (Int.toNat 65) 0 = [] := by unfold sigText; rw [if_pos (by omega)]
    rw [hnil]
    go_wp2_with fail
    go_ret
    exact ⟨ret_bool (by first | rfl | (simp; omega)), belSeq hB3 hb4⟩

theorem eventKinds_any (k : Int) (s : ByteArray) (w : World) (hs : s.size ≤ maxLen) (hL : Laid w) :
    Calls Tryd.prog 6 #[.int .i64 k, .string s] w fun e w' => e = .returned (.bool true) ∧ Below w.heap.size w w' := by
  by_cases hk : k < 1 ∨ 12 < k
  · exact eventKinds_none k hk s w hs hL
  · obtain ⟨m, rfl⟩ := Int.eq_ofNat_of_zero_le (show 0 ≤ k by omega)
    have h : (m = 1 ∨ m = 3 ∨ m = 4 ∨ m = 7 ∨ m = 8 ∨ m = 9) ∨ (m = 2 ∨ m = 5 ∨ m = 6 ∨ m = 11) ∨ m = 10 ∨ m = 12 := by omega
    rcases h with h | h | rfl | rfl
    · exact eventKinds_data m h s w hs hL
    · exact eventKinds_bare m h s w hs hL
    · exact eventKinds_take s w hs hL
    · exact eventKinds_rep s w hs hL
end Go.Proofs.YtfjnpneopaljjaaDoor
