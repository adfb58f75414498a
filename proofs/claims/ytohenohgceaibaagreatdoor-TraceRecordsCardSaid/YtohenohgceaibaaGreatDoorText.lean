/-
  Contract of event.Signal.Text.
-/
import Derived.Test.YtohenohgceaibaaGreatDoorHex
import Derived.Test.YtohenohgceaibaaGreatDoorBytes
import Derived.Test.YtohenohgceaibaaGreatDoorPlainText
import Derived.Test.YtohenohgceaibaaGreatDoorCommon
import Derived.Lib.LaidTab
import Derived.Lib.ItoaLen
import Derived.WalkSmall
set_option linter.unusedVariables false
set_option linter.unusedSimpArgs false
namespace Go.Proofs.YtohenohgceaibaaGreatDoor
open Go.RowKit

/-- The table of words lies as the program's text lays it. -/
def WordsAt (w : World) : Prop := ∀ i : Nat, 1 ≤ i → i ≤ 12 → w.cell? ⟨0, i, none⟩ = some (.string ⟨(sigWord i).toArray⟩)
/-- The library's table of powers of ten. -/
def PowAt (w : World) : Prop := Lib.TabIs Tryz.prog w "internal/strconv.uint64pow10" .u64 Lib.pow10Tab

theorem PowAt.below {w w' : World} (h : PowAt w) (hb : Below w.heap.size w w') (hg : 1 < w.heap.size) : PowAt w' :=
  var?_below hb (by kernel_rfl) hg h
theorem PowAt.alloc {w : World} {o : Obj} (h : PowAt w) (hg : 1 < w.heap.size) : PowAt (w.alloc o) :=
  h.below ((Below.refl _ _).alloc (Nat.le_refl _) o) hg
theorem WordsAt.below {w w' : World} (h : WordsAt w) (hb : Below w.heap.size w w') (hg : 0 < w.heap.size) : WordsAt w' :=
  fun i h1 h2 => (hb.cell hg).trans (h i h1 h2)

set_option maxHeartbeats 1000000 in
theorem sigtext_hex (k : Nat) (hk : k = 1 ∨ k = 5 ∨ k = 8 ∨ k = 9 ∨ k = 10 ∨ k = 11) (d : ByteArray) (self : Bool) (c n : Int) (w : World) (hd : d.size ≤ 1000000)
    (hw : WordsAt w) (hg : 0 < w.heap.size) :
    Calls Tryz.prog 36 #[.agg #[.int .i64 k, .string d, .bool self, .int .u8 c, .int .i64 n]] w fun e w' => e = .returned (.string ⟨(sigText k d.data.toList self c.toNat n).toArray⟩) ∧ Below w.heap.size w w' := by
  have hl := hexOf_length d.data.toList
  have hsz := size_len d
  have hwl := sigWord_length k
  have hcell := hw k (by omega) (by omega)
  have hfin : sigText k d.data.toList self c.toNat n = sigWord k ++ [32] ++ hexOf d.data.toList := by
    unfold sigText; rw [if_neg (by omega), if_neg (by omega), if_pos (by omega)]
  rw [hfin]
  clear hfin
  generalize sigWord k = wd at *
  rcases hk with rfl | rfl | rfl | rfl | rfl | rfl
  all_goals
    go_enter Tryz.func36, Tryz.ntmps36
    go_wp2_with fail
    refine (hex_any _ _ hd).mono ?_
    rintro e w1 ⟨rfl, hb⟩
    go_wp2_with fail
    go_ret
    exact ⟨ret_str (by simp), belAlloc hb (by simp)⟩

set_option maxHeartbeats 1000000 in
theorem sigtext_plain (k : Nat) (hk : k = 2 ∨ k = 4 ∨ k = 6 ∨ k = 7) (d : ByteArray) (self : Bool) (c n : Int) (w : World)
    (hw : WordsAt w) (hg : 0 < w.heap.size) :
    Calls Tryz.prog 36 #[.agg #[.int .i64 k, .string d, .bool self, .int .u8 c, .int .i64 n]] w fun e w' => e = .returned (.string ⟨(sigText k d.data.toList self c.toNat n).toArray⟩) ∧ Below w.heap.size w w' := by
  have hcell := hw k (by omega) (by omega)
  have hfin : sigText k d.data.toList self c.toNat n = sigWord k := by
    unfold sigText; rw [if_neg (by omega), if_neg (by omega), if_neg (by omega), if_neg (by omega)]
  rw [hfin]
  clear hfin
  generalize sigWord k = wd at *
  rcases hk with rfl | rfl | rfl | rfl
  all_goals
    go_enter Tryz.func36, Tryz.ntmps36
    go_wp2_with fail
    go_ret
    exact ⟨rfl, (Below.refl _ _).alloc (Nat.le_refl _) _⟩

set_option maxHeartbeats 1000000 in
theorem sigtext_rel (d : ByteArray) (self : Bool) (c n : Int) (w : World) (hd : d.size ≤ 1000000)
    (hw : WordsAt w) (hg : 0 < w.heap.size) :
    Calls Tryz.prog 36 #[.agg #[.int .i64 3, .string d, .bool self, .int .u8 c, .int .i64 n]] w fun e w' => e = .returned (.string ⟨(sigText 3 d.data.toList self c.toNat n).toArray⟩) ∧ Below w.heap.size w w' := by
  have hl := hexOf_length d.data.toList
  have hsz := size_len d
  have hwl := sigWord_length 3
  have hcell : w.cell? ⟨0, 3, none⟩ = some (.string ⟨(sigWord 3).toArray⟩) := hw 3 (by omega) (by omega)
  have hfin : sigText 3 d.data.toList self c.toNat n = sigWord 3 ++ (if self then [32, 115, 101, 108, 102, 32] else [32, 117, 115, 101, 114, 32]) ++ hexOf d.data.toList := by
    unfold sigText; rw [if_neg (by omega), if_pos rfl]
  rw [hfin]
  clear hfin
  generalize sigWord 3 = wd at *
  cases self
  all_goals
    go_enter Tryz.func36, Tryz.ntmps36
    go_wp2_with fail
    refine (hex_any _ _ hd).mono ?_
    rintro e w1 ⟨rfl, hb⟩
    go_wp2_with fail
    go_ret
    exact ⟨ret_str (by simp), belAlloc hb (by simp)⟩

set_option maxHeartbeats 1000000 in
theorem sigtext_rep (d : ByteArray) (self : Bool) (c n : Int) (w : World) (hc0 : 0 ≤ c) (hc1 : c ≤ 255) (hn0 : -9223372036854775808 ≤ n) (hn1 : n ≤ 9223372036854775807)
    (hw : WordsAt w) (hg : 0 < w.heap.size) (hp : PowAt w) (hgp : 1 < w.heap.size) :
    Calls Tryz.prog 36 #[.agg #[.int .i64 12, .string d, .bool self, .int .u8 c, .int .i64 n]] w fun e w' => e = .returned (.string ⟨(sigText 12 d.data.toList self c.toNat n).toArray⟩) ∧ Below w.heap.size w w' := by
  have kc := conv1
  have hwl := sigWord_length 12
  have hcell : w.cell? ⟨0, 12, none⟩ = some (.string ⟨(sigWord 12).toArray⟩) := hw 12 (by omega) (by omega)
  have hil := Lib.itoa_length_le n hn0 hn1
  have hfin : sigText 12 d.data.toList self c.toNat n = sigWord 12 ++ [32, c.toNat.toUInt8] ++ (if c.toNat = 86 then [32] ++ Lib.itoa n else []) := by
    unfold sigText; rw [if_neg (by omega), if_neg (by omega), if_neg (by omega), if_pos rfl]
  rw [hfin]
  clear hfin
  generalize sigWord 12 = wd at *
  by_cases hv : c = 86
  · subst hv
    go_enter Tryz.func36, Tryz.ntmps36
    go_wp2_with fail
    refine (Tryz.strconv_Itoa _ hn0 hn1 _ (PowAt.alloc (PowAt.alloc hp hgp) (by simp; omega))).mono ?_
    rintro e w1 ⟨rfl, k, os, rfl⟩
    go_wp2_with fail
    go_ret
    exact ⟨ret_str (by simp), belAlloc (belAlloc belGrow (by simp)) (by simp)⟩
  · have hv2 : ((c : Int) == 86) = false := by simpa using hv
    go_enter Tryz.func36, Tryz.ntmps36
    go_wp2_with fail
    go_ret
    refine ⟨ret_str ?_, ((Below.refl _ _).alloc (Nat.le_refl _) _).alloc (by simp) _⟩
    simp

set_option maxHeartbeats 400000 in
theorem sigtext_none (k : Int) (d : ByteArray) (self : Bool) (c n : Int) (w : World) (hk : k < 1 ∨ 12 < k) :
    Calls Tryz.prog 36 #[.agg #[.int .i64 k, .string d, .bool self, .int .u8 c, .int .i64 n]] w fun e w' => e = .returned (.string ⟨(sigText k d.data.toList self c.toNat n).toArray⟩) ∧ Below w.heap.size w w' := by
  have hfin : sigText k d.data.toList self c.toNat n = [] := by
    unfold sigText; rw [if_pos hk]
  rw [hfin]
  clear hfin
  rcases hk with hk | hk
  all_goals
    go_enter Tryz.func36, Tryz.ntmps36
    go_wp2_with fail
    go_ret
    exact ⟨rfl, (Below.refl _ _).alloc (Nat.le_refl _) _⟩

theorem sigtext_any (k : Int) (d : ByteArray) (self : Bool) (c n : Int) (w : World) (hd : d.size ≤ 1000000) (hc0 : 0 ≤ c) (hc1 : c ≤ 255) (hn0 : -9223372036854775808 ≤ n) (hn1 : n ≤ 9223372036854775807)
    (hw : WordsAt w) (hg : 0 < w.heap.size) (hp : PowAt w) (hgp : 1 < w.heap.size) :
    Calls Tryz.prog 36 #[.agg #[.int .i64 k, .string d, .bool self, .int .u8 c, .int .i64 n]] w fun e w' => e = .returned (.string ⟨(sigText k d.data.toList self c.toNat n).toArray⟩) ∧ Below w.heap.size w w' := by
  by_cases hk : k < 1 ∨ 12 < k
  · exact sigtext_none k d self c n w hk
  · obtain ⟨m, rfl⟩ := Int.eq_ofNat_of_zero_le (show 0 ≤ k by omega)
    have h : (m = 1 ∨ m = 5 ∨ m = 8 ∨ m = 9 ∨ m = 10 ∨ m = 11) ∨ (m = 2 ∨ m = 4 ∨ m = 6 ∨ m = 7) ∨ m = 3 ∨ m = 12 := by omega
    rcases h with h | h | rfl | rfl
    · exact sigtext_hex m h d self c n w hd hw hg
    · exact sigtext_plain m h d self c n w hw hg
    · exact sigtext_rel d self c n w hd hw hg
    · exact sigtext_rep d self c n w hc0 hc1 hn0 hn1 hw hg hp hgp
end Go.Proofs.YtohenohgceaibaaGreatDoor
