/-
  Contracts of event.Request.Check, of the document's Check and of Cut.
-/
import Derived.Test.YtfjnpneopaljjaaDoorRows
import Derived.Test.YtfjnpneopaljjaaDoorPlainText
import Derived.Test.YtfjnpneopaljjaaDoorCommon
import Derived.WalkSpells
import Derived.WalkLawsBesides
import Derived.Lib.Hide
set_option linter.unusedVariables false
set_option linter.unusedSimpArgs false
namespace Go.Proofs.YtfjnpneopaljjaaDoor
open Go.RowKit

theorem reqCheck_big {k : Int} {len : Nat} {n : Int} (m : Nat) (hm : reqMost k = m) (h0 : 0 < m) (hk : 1 ≤ k ∧ k ≤ 11) (h : m < len) : reqCheck k len n = 6 := by
  unfold reqCheck; rw [if_neg (by omega), if_pos (by omega)]
theorem reqCheck_arg {k : Int} {len : Nat} {n : Int} (m : Nat) (hm : reqMost k = m) (h0 : 0 < m) (hk : 1 ≤ k ∧ k ≤ 11) (h : len ≤ m) (h10 : k ≠ 10) (hn : n ≠ 0) : reqCheck k len n = 1 := by
  unfold reqCheck; rw [if_neg (by omega), if_neg (by omega), if_neg (by omega), if_pos (by omega)]
theorem reqCheck_ok {k : Int} {len : Nat} {n : Int} (m : Nat) (hm : reqMost k = m) (h0 : 0 < m) (hk : 1 ≤ k ∧ k ≤ 11) (h : len ≤ m) (h10 : k ≠ 10) (hn : n = 0) : reqCheck k len n = 0 := by
  unfold reqCheck; rw [if_neg (by omega), if_neg (by omega), if_neg (by omega), if_neg (by omega), if_neg (by omega)]
theorem reqCheck_data {k : Int} {len : Nat} {n : Int} (hm : reqMost k = 0) (hk : 1 ≤ k ∧ k ≤ 11) (h : len ≠ 0) : reqCheck k len n = 1 := by
  unfold reqCheck; rw [if_neg (by omega), if_neg (by omega), if_pos (by omega)]
theorem reqCheck_arg0 {k : Int} {len : Nat} {n : Int} (hm : reqMost k = 0) (hk : 1 ≤ k ∧ k ≤ 11) (h : len = 0) (h10 : k ≠ 10) (hn : n ≠ 0) : reqCheck k len n = 1 := by
  unfold reqCheck; rw [if_neg (by omega), if_neg (by omega), if_neg (by omega), if_pos (by omega)]
theorem reqCheck_ok0 {k : Int} {len : Nat} {n : Int} (hm : reqMost k = 0) (hk : 1 ≤ k ∧ k ≤ 11) (h : len = 0) (h10 : k ≠ 10) (hn : n = 0) : reqCheck k len n = 0 := by
  unfold reqCheck; rw [if_neg (by omega), if_neg (by omega), if_neg (by omega), if_neg (by omega), if_neg (by omega)]
theorem reqCheck_take {len : Nat} {n : Int} (h : len = 0) : reqCheck 10 len n = if n < 1 ∨ 64 < n then 1 else 0 := by
  unfold reqCheck; rw [if_neg (by omega), if_neg (by simp [reqMost]), if_neg (by simp [reqMost]; omega), if_neg (by omega)]; simp
theorem reqCheck_none {k : Int} {len : Nat} {n : Int} (hk : k < 1 ∨ 11 < k) : reqCheck k len n = 10 := by
  unfold reqCheck; rw [if_pos hk]
set_option maxHeartbeats 1000000 in
theorem check_most (k : Nat) (hk : k = 1 ∨ k = 3 ∨ k = 4 ∨ k = 7 ∨ k = 8 ∨ k = 9) (s : ByteArray) (n : Int) (w : World) (hs : s.size ≤ maxLen) :
    Calls Tryd.prog 11 #[.agg #[.int .i64 k, .string s, .int .i64 n]] w fun e w' => e = .returned (.int .i64 (reqCheck k s.size n)) ∧ Below w.heap.size w w' := by
  unfold maxLen at hs
  obtain ⟨m, hm⟩ : ∃ m, reqMost k = m := ⟨_, rfl⟩
  have h0 : m = 64 ∨ m = 200 := by rw [← hm]; rcases hk with rfl | rfl | rfl | rfl | rfl | rfl <;> simp [reqMost]
  by_cases hl : m < s.size
  · rw [reqCheck_big m hm (by omega) (by omega) hl]
    rcases hk with rfl | rfl | rfl | rfl | rfl | rfl <;> simp [reqMost] at hm <;> subst hm
    all_goals
      clear h0
      go_enter Tryd.func11, Tryd.ntmps11
      go_wp2
      go_ret
      exact ⟨rfl, (Below.refl _ _).alloc (Nat.le_refl _) _⟩
  · by_cases hn : n = 0
    · rw [reqCheck_ok m hm (by omega) (by omega) (by omega) (by omega) hn]
      subst hn
      rcases hk with rfl | rfl | rfl | rfl | rfl | rfl <;> simp [reqMost] at hm <;> subst hm
      all_goals
        clear h0
        go_enter Tryd.func11, Tryd.ntmps11
        go_wp2
        go_ret
        exact ⟨rfl, (Below.refl _ _).alloc (Nat.le_refl _) _⟩
    · rw [reqCheck_arg m hm (by omega) (by omega) (by omega) (by omega) hn]
      have hn2 : (n != 0) = true := by simpa using hn
      have hn3 : (n == 0) = false := by simpa using hn
      rcases hk with rfl | rfl | rfl | rfl | rfl | rfl <;> simp [reqMost] at hm <;> subst hm
      all_goals
        clear h0
        go_enter Tryd.func11, Tryd.ntmps11
        go_wp2
        go_ret
        exact ⟨rfl, (Below.refl _ _).alloc (Nat.le_refl _) _⟩

set_option maxHeartbeats 1000000 in
theorem check_bare (k : Nat) (hk : k = 2 ∨ k = 5 ∨ k = 6 ∨ k = 11) (s : ByteArray) (n : Int) (w : World) (hs : s.size ≤ maxLen) :
    Calls Tryd.prog 11 #[.agg #[.int .i64 k, .string s, .int .i64 n]] w fun e w' => e = .returned (.int .i64 (reqCheck k s.size n)) ∧ Below w.heap.size w w' := by
  unfold maxLen at hs
  have hm : reqMost k = 0 := by rcases hk with rfl | rfl | rfl | rfl <;> simp [reqMost]
  by_cases hl : s.size = 0
  · have he := empty_bool hl
    by_cases hn : n = 0
    · rw [reqCheck_ok0 hm (by omega) hl (by omega) hn]
      subst hn
      clear hm hl
      rcases hk with rfl | rfl | rfl | rfl
      all_goals
        go_enter Tryd.func11, Tryd.ntmps11
        go_wp2
        go_ret
        exact ⟨rfl, (Below.refl _ _).alloc (Nat.le_refl _) _⟩
    · rw [reqCheck_arg0 hm (by omega) hl (by omega) hn]
      have hn2 : (n != 0) = true := by simpa using hn
      have hn3 : (n == 0) = false := by simpa using hn
      clear hm hl
      rcases hk with rfl | rfl | rfl | rfl
      all_goals
        go_enter Tryd.func11, Tryd.ntmps11
        go_wp2
        go_ret
        exact ⟨rfl, (Below.refl _ _).alloc (Nat.le_refl _) _⟩
  · have he := full_bool hl
    rw [reqCheck_data hm (by omega) hl]
    clear hm hl
    rcases hk with rfl | rfl | rfl | rfl
    all_goals
      go_enter Tryd.func11, Tryd.ntmps11
      go_wp2
      go_ret
      exact ⟨rfl, (Below.refl _ _).alloc (Nat.le_refl _) _⟩

set_option maxHeartbeats 1000000 in
theorem check_take (s : ByteArray) (n : Int) (w : World) (hs : s.size ≤ maxLen) :
    Calls Tryd.prog 11 #[.agg #[.int .i64 10, .string s, .int .i64 n]] w fun e w' => e = .returned (.int .i64 (reqCheck 10 s.size n)) ∧ Below w.heap.size w w' := by
  unfold maxLen at hs
  by_cases hl : s.size = 0
  · have he := empty_bool hl
    rw [reqCheck_take hl]
    clear hl
    by_cases h1 : n < 1
    · rw [if_pos (Or.inl h1)]
      go_enter Tryd.func11, Tryd.ntmps11
      go_wp2
      go_ret
      exact ⟨rfl, (Below.refl _ _).alloc (Nat.le_refl _) _⟩
    · by_cases h2 : 64 < n
      · rw [if_pos (Or.inr h2)]
        go_enter Tryd.func11, Tryd.ntmps11
        go_wp2
        go_ret
        exact ⟨rfl, (Below.refl _ _).alloc (Nat.le_refl _) _⟩
      · rw [if_neg (by omega)]
        go_enter Tryd.func11, Tryd.ntmps11
        go_wp2
        go_ret
        exact ⟨rfl, (Below.refl _ _).alloc (Nat.le_refl _) _⟩
  · have he := full_bool hl
    rw [reqCheck_data (by simp [reqMost]) (by omega) hl]
    clear hl
    go_enter Tryd.func11, Tryd.ntmps11
    go_wp2
    go_ret
    exact ⟨rfl, (Below.refl _ _).alloc (Nat.le_refl _) _⟩

set_option maxHeartbeats 1000000 in
theorem check_any (k : Int) (s : ByteArray) (n : Int) (w : World) (hs : s.size ≤ maxLen) :
    Calls Tryd.prog 11 #[.agg #[.int .i64 k, .string s, .int .i64 n]] w fun e w' => e = .returned (.int .i64 (reqCheck k s.size n)) ∧ Below w.heap.size w w' := by
  by_cases hk : k < 1 ∨ 11 < k
  · rw [reqCheck_none hk]
    unfold maxLen at hs
    rcases hk with hk | hk
    all_goals
      go_enter Tryd.func11, Tryd.ntmps11
      go_wp2
      go_ret
      exact ⟨rfl, (Below.refl _ _).alloc (Nat.le_refl _) _⟩
  · obtain ⟨m, rfl⟩ := Int.eq_ofNat_of_zero_le (show 0 ≤ k by omega)
    have h : (m = 1 ∨ m = 3 ∨ m = 4 ∨ m = 7 ∨ m = 8 ∨ m = 9) ∨ (m = 2 ∨ m = 5 ∨ m = 6 ∨ m = 11) ∨ m = 10 := by omega
    rcases h with h | h | rfl
    · exact check_most m h s n w hs
    · exact check_bare m h s n w hs
    · exact check_take s n w hs

set_option maxHeartbeats 1000000 in
theorem refCheck_most (k : Nat) (hk : k = 1 ∨ k = 3 ∨ k = 4 ∨ k = 7 ∨ k = 8 ∨ k = 9) (s : ByteArray) (n : Int) (w : World) (hs : s.size ≤ maxLen) :
    Calls Tryd.prog 12 #[.int .i64 k, .string s, .int .i64 n] w fun e w' => e = .returned (.int .i64 (reqCheck k s.size n)) ∧ w = w' := by
  unfold maxLen at hs
  obtain ⟨m, hm⟩ : ∃ m, reqMost k = m := ⟨_, rfl⟩
  have h0 : m = 64 ∨ m = 200 := by rw [← hm]; rcases hk with rfl | rfl | rfl | rfl | rfl | rfl <;> simp [reqMost]
  by_cases hl : m < s.size
  · rw [reqCheck_big m hm (by omega) (by omega) hl]
    rcases hk with rfl | rfl | rfl | rfl | rfl | rfl <;> simp [reqMost] at hm <;> subst hm
    all_goals
      clear h0
      go_enter Tryd.func12, Tryd.ntmps12
      go_wp2
      go_ret
      exact ⟨rfl, rfl⟩
  · by_cases hn : n = 0
    · rw [reqCheck_ok m hm (by omega) (by omega) (by omega) (by omega) hn]
      subst hn
      rcases hk with rfl | rfl | rfl | rfl | rfl | rfl <;> simp [reqMost] at hm <;> subst hm
      all_goals
        clear h0
        go_enter Tryd.func12, Tryd.ntmps12
        go_wp2
        go_ret
        exact ⟨rfl, rfl⟩
    · rw [reqCheck_arg m hm (by omega) (by omega) (by omega) (by omega) hn]
      have hn2 : (n != 0) = true := by simpa using hn
      have hn3 : (n == 0) = false := by simpa using hn
      rcases hk with rfl | rfl | rfl | rfl | rfl | rfl <;> simp [reqMost] at hm <;> subst hm
      all_goals
        clear h0
        go_enter Tryd.func12, Tryd.ntmps12
        go_wp2
        go_ret
        exact ⟨rfl, rfl⟩

set_option maxHeartbeats 1000000 in
theorem refCheck_bare (k : Nat) (hk : k = 2 ∨ k = 5 ∨ k = 6 ∨ k = 11) (s : ByteArray) (n : Int) (w : World) (hs : s.size ≤ maxLen) :
    Calls Tryd.prog 12 #[.int .i64 k, .string s, .int .i64 n] w fun e w' => e = .returned (.int .i64 (reqCheck k s.size n)) ∧ w = w' := by
  unfold maxLen at hs
  have hm : reqMost k = 0 := by rcases hk with rfl | rfl | rfl | rfl <;> simp [reqMost]
  by_cases hl : s.size = 0
  · have he := empty_bool hl
    by_cases hn : n = 0
    · rw [reqCheck_ok0 hm (by omega) hl (by omega) hn]
      subst hn
      clear hm hl
      rcases hk with rfl | rfl | rfl | rfl
      all_goals
        go_enter Tryd.func12, Tryd.ntmps12
        go_wp2
        go_ret
        exact ⟨rfl, rfl⟩
    · rw [reqCheck_arg0 hm (by omega) hl (by omega) hn]
      have hn2 : (n != 0) = true := by simpa using hn
      have hn3 : (n == 0) = false := by simpa using hn
      clear hm hl
      rcases hk with rfl | rfl | rfl | rfl
      all_goals
        go_enter Tryd.func12, Tryd.ntmps12
        go_wp2
        go_ret
        exact ⟨rfl, rfl⟩
  · have he := full_bool hl
    rw [reqCheck_data hm (by omega) hl]
    clear hm hl
    rcases hk with rfl | rfl | rfl | rfl
    all_goals
      go_enter Tryd.func12, Tryd.ntmps12
      go_wp2
      go_ret
      exact ⟨rfl, rfl⟩

set_option maxHeartbeats 1000000 in
theorem refCheck_take (s : ByteArray) (n : Int) (w : World) (hs : s.size ≤ maxLen) :
    Calls Tryd.prog 12 #[.int .i64 10, .string s, .int .i64 n] w fun e w' => e = .returned (.int .i64 (reqCheck 10 s.size n)) ∧ w = w' := by
  unfold maxLen at hs
  by_cases hl : s.size = 0
  · have he := empty_bool hl
    rw [reqCheck_take hl]
    clear hl
    by_cases h1 : n < 1
    · rw [if_pos (Or.inl h1)]
      go_enter Tryd.func12, Tryd.ntmps12
      go_wp2
      go_ret
      exact ⟨rfl, rfl⟩
    · by_cases h2 : 64 < n
      · rw [if_pos (Or.inr h2)]
        go_enter Tryd.func12, Tryd.ntmps12
        go_wp2
        go_ret
        exact ⟨rfl, rfl⟩
      · rw [if_neg (by omega)]
        go_enter Tryd.func12, Tryd.ntmps12
        go_wp2
        go_ret
        exact ⟨rfl, rfl⟩
  · have he := full_bool hl
    rw [reqCheck_data (by simp [reqMost]) (by omega) hl]
    clear hl
    go_enter Tryd.func12, Tryd.ntmps12
    go_wp2
    go_ret
    exact ⟨rfl, rfl⟩

set_option maxHeartbeats 1000000 in
theorem refCheck_any (k : Int) (s : ByteArray) (n : Int) (w : World) (hs : s.size ≤ maxLen) :
    Calls Tryd.prog 12 #[.int .i64 k, .string s, .int .i64 n] w fun e w' => e = .returned (.int .i64 (reqCheck k s.size n)) ∧ w = w' := by
  by_cases hk : k < 1 ∨ 11 < k
  · rw [reqCheck_none hk]
    unfold maxLen at hs
    rcases hk with hk | hk
    all_goals
      go_enter Tryd.func12, Tryd.ntmps12
      go_wp2
      go_ret
      exact ⟨rfl, rfl⟩
  · obtain ⟨m, rfl⟩ := Int.eq_ofNat_of_zero_le (show 0 ≤ k by omega)
    have h : (m = 1 ∨ m = 3 ∨ m = 4 ∨ m = 7 ∨ m = 8 ∨ m = 9) ∨ (m = 2 ∨ m = 5 ∨ m = 6 ∨ m = 11) ∨ m = 10 := by omega
    rcases h with h | h | rfl
    · exact refCheck_most m h s n w hs
    · exact refCheck_bare m h s n w hs
    · exact refCheck_take s n w hs

theorem cut_any (s : ByteArray) (m : Nat) (w : World) (hs : s.size ≤ maxLen) (hm : m ≤ 1000000) :
    Calls Tryd.prog 10 #[.string s, .int .i64 m] w fun e w' => e = .returned (.string ⟨(s.data.toList.take m).toArray⟩) ∧ w = w' := by
  unfold maxLen at hs
  by_cases hl : m < s.size
  · go_enter Tryd.func10, Tryd.ntmps10
    go_wp2
    go_ret
    exact ⟨ret_str (by simp), rfl⟩
  · go_enter Tryd.func10, Tryd.ntmps10
    go_wp2
    go_ret
    exact ⟨ret_str (by simp; rw [List.take_of_length_le (by rw [size_len]; omega)]), rfl⟩
end Go.Proofs.YtfjnpneopaljjaaDoor
