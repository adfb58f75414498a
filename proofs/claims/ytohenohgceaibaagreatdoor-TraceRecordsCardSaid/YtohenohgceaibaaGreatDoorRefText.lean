/-
  Contract of the document's Text.
-/
import Derived.Test.YtohenohgceaibaaGreatDoorRefHex
import Derived.Test.YtohenohgceaibaaGreatDoorDigits
set_option linter.unusedVariables false
set_option linter.unusedSimpArgs false
namespace Go.Proofs.YtohenohgceaibaaGreatDoor
open Go.RowKit

set_option maxHeartbeats 2000000 in
theorem reftext_hex (k : Nat) (hk : k = 1 ∨ k = 5 ∨ k = 8 ∨ k = 9 ∨ k = 10 ∨ k = 11) (d : ByteArray) (self : Bool) (c n : Int) (w : World) (hd : d.size ≤ 1000000) :
    Calls Tryz.prog 15 #[.int .i64 k, .string d, .bool self, .int .u8 c, .int .i64 n] w fun e w' => e = .returned (.string ⟨(sigText k d.data.toList self c.toNat n).toArray⟩) ∧ Below w.heap.size w w' := by
  have hl := hexOf_length d.data.toList
  have hsz := size_len d
  have hfin : sigText k d.data.toList self c.toNat n = sigWord k ++ [32] ++ hexOf d.data.toList := by
    unfold sigText; rw [if_neg (by omega), if_neg (by omega), if_pos (by omega)]
  rw [hfin]
  clear hfin
  rcases hk with rfl | rfl | rfl | rfl | rfl | rfl
  all_goals
    go_enter Tryz.func15, Tryz.ntmps15
    go_wp2_with fail
    refine (refHex_any _ _ hd).mono ?_
    rintro e w1 ⟨rfl, hb⟩
    go_wp2_with fail
    go_ret
    exact ⟨ret_str (by simp [sigWord]), belAlloc hb (by simp)⟩

set_option maxHeartbeats 1000000 in
theorem reftext_plain (k : Nat) (hk : k = 2 ∨ k = 4 ∨ k = 6 ∨ k = 7) (d : ByteArray) (self : Bool) (c n : Int) (w : World) :
    Calls Tryz.prog 15 #[.int .i64 k, .string d, .bool self, .int .u8 c, .int .i64 n] w fun e w' => e = .returned (.string ⟨(sigText k d.data.toList self c.toNat n).toArray⟩) ∧ Below w.heap.size w w' := by
  have hfin : sigText k d.data.toList self c.toNat n = sigWord k := by
    unfold sigText; rw [if_neg (by omega), if_neg (by omega), if_neg (by omega), if_neg (by omega)]
  rw [hfin]
  clear hfin
  rcases hk with rfl | rfl | rfl | rfl
  all_goals
    go_enter Tryz.func15, Tryz.ntmps15
    go_wp2_with fail
    go_ret
    exact ⟨ret_str (by simp [sigWord]), (Below.refl _ _).alloc (Nat.le_refl _) _⟩

set_option maxHeartbeats 1000000 in
theorem reftext_rel (d : ByteArray) (self : Bool) (c n : Int) (w : World) (hd : d.size ≤ 1000000) :
    Calls Tryz.prog 15 #[.int .i64 3, .string d, .bool self, .int .u8 c, .int .i64 n] w fun e w' => e = .returned (.string ⟨(sigText 3 d.data.toList self c.toNat n).toArray⟩) ∧ Below w.heap.size w w' := by
  have hl := hexOf_length d.data.toList
  have hsz := size_len d
  have hfin : sigText 3 d.data.toList self c.toNat n = sigWord 3 ++ (if self then [32, 115, 101, 108, 102, 32] else [32, 117, 115, 101, 114, 32]) ++ hexOf d.data.toList := by
    unfold sigText; rw [if_neg (by omega), if_pos rfl]
  rw [hfin]
  clear hfin
  cases self
  all_goals
    go_enter Tryz.func15, Tryz.ntmps15
    go_wp2_with fail
    refine (refHex_any _ _ hd).mono ?_
    rintro e w1 ⟨rfl, hb⟩
    go_wp2_with fail
    go_ret
    exact ⟨ret_str (by simp [sigWord]), belAlloc hb (by simp)⟩

set_option maxHeartbeats 1000000 in
theorem reftext_rep (d : ByteArray) (self : Bool) (c n : Int) (w : World) (hc0 : 0 ≤ c) (hc1 : c ≤ 255) (hn0 : -9223372036854775808 ≤ n) (hn1 : n ≤ 9223372036854775807) :
    Calls Tryz.prog 15 #[.int .i64 12, .string d, .bool self, .int .u8 c, .int .i64 n] w fun e w' => e = .returned (.string ⟨(sigText 12 d.data.toList self c.toNat n).toArray⟩) ∧ Below w.heap.size w w' := by
  have kc := conv1
  have hil := Lib.itoa_length_le n hn0 hn1
  have hfin : sigText 12 d.data.toList self c.toNat n = sigWord 12 ++ [32, c.toNat.toUInt8] ++ (if c.toNat = 86 then [32] ++ Lib.itoa n else []) := by
    unfold sigText; rw [if_neg (by omega), if_neg (by omega), if_neg (by omega), if_pos rfl]
  rw [hfin]
  clear hfin
  by_cases hv : c = 86
  · subst hv
    go_enter Tryz.func15, Tryz.ntmps15
    go_wp2_with fail
    refine (digits_any _ _ hn0 hn1).mono ?_
    rintro e w1 ⟨rfl, hb⟩
    go_wp2_with fail
    go_ret
    exact ⟨ret_str (by simp [sigWord]), belAlloc (belAlloc hb (by simp)) (by simp)⟩
  · have hv2 : ((c : Int) == 86) = false := by simpa using hv
    go_enter Tryz.func15, Tryz.ntmps15
    go_wp2_with fail
    go_ret
    refine ⟨ret_str ?_, ((Below.refl _ _).alloc (Nat.le_refl _) _).alloc (by simp) _⟩
    simp [sigWord]

set_option maxHeartbeats 400000 in
theorem reftext_none (k : Int) (d : ByteArray) (self : Bool) (c n : Int) (w : World) (hk : k < 1 ∨ 12 < k) :
    Calls Tryz.prog 15 #[.int .i64 k, .string d, .bool self, .int .u8 c, .int .i64 n] w fun e w' => e = .returned (.string ⟨(sigText k d.data.toList self c.toNat n).toArray⟩) ∧ Below w.heap.size w w' := by
  have hfin : sigText k d.data.toList self c.toNat n = [] := by
    unfold sigText; rw [if_pos hk]
  rw [hfin]
  clear hfin
  rcases hk with hk | hk
  all_goals
    go_enter Tryz.func15, Tryz.ntmps15
    go_wp2_with fail
    go_ret
    exact ⟨rfl, Below.refl _ _⟩

theorem reftext_any (k : Int) (d : ByteArray) (self : Bool) (c n : Int) (w : World) (hd : d.size ≤ 1000000) (hc0 : 0 ≤ c) (hc1 : c ≤ 255) (hn0 : -9223372036854775808 ≤ n) (hn1 : n ≤ 9223372036854775807) :
    Calls Tryz.prog 15 #[.int .i64 k, .string d, .bool self, .int .u8 c, .int .i64 n] w fun e w' => e = .returned (.string ⟨(sigText k d.data.toList self c.toNat n).toArray⟩) ∧ Below w.heap.size w w' := by
  by_cases hk : k < 1 ∨ 12 < k
  · exact reftext_none k d self c n w hk
  · obtain ⟨m, rfl⟩ := Int.eq_ofNat_of_zero_le (show 0 ≤ k by omega)
    have h : (m = 1 ∨ m = 5 ∨ m = 8 ∨ m = 9 ∨ m = 10 ∨ m = 11) ∨ (m = 2 ∨ m = 4 ∨ m = 6 ∨ m = 7) ∨ m = 3 ∨ m = 12 := by omega
    rcases h with h | h | rfl | rfl
    · exact reftext_hex m h d self c n w hd
    · exact reftext_plain m h d self c n w
    · exact reftext_rel d self c n w hd
    · exact reftext_rep d self c n w hc0 hc1 hn0 hn1
end Go.Proofs.YtohenohgceaibaaGreatDoor
