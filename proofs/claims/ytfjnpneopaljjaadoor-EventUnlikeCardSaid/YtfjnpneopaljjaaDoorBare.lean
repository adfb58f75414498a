/-
  Contract of the function inside the statement EventUnlike: what isn't named is zero.
-/
import Derived.Test.YtfjnpneopaljjaaDoorAwake10
import Derived.Test.YtfjnpneopaljjaaDoorBits
set_option linter.unusedVariables false
set_option linter.unusedSimpArgs false
namespace Go.Proofs.YtfjnpneopaljjaaDoor
open Go.RowKit

def bareData (q : Int) (d : List UInt8) : List UInt8 := if q = 1 ∨ q = 3 ∨ q = 5 ∨ q = 6 ∨ q = 11 then [] else d.take 60
def bareSelf (q : Int) (f : Bool) : Bool := if q = 2 then f else false
def bareCode (q c : Int) : Int := if q = 11 then c else 0
def bareNum (q c n : Int) : Int := if q = 11 ∧ c = 86 then n else 0

set_option maxHeartbeats 4000000 in
theorem bare_q (q : Nat) (hq : q < 12) (k : Int) (hk : k % 256 % 12 = q) (d : ByteArray) (f : Bool) (c n : Int) (w : World) (hd : d.size ≤ maxLen) :
    Calls Tryd.prog 15 #[.agg #[.int .i64 k, .string d, .bool f, .int .u8 c, .int .i64 n]] w fun e w' =>
      e = .returned (.agg #[.int .i64 (1 + q), .string ⟨(bareData q d.data.toList).toArray⟩, .bool (bareSelf q f), .int .u8 (bareCode q c), .int .i64 (bareNum q c n)]) ∧ Below w.heap.size w w' := by
  have hq12 : q = 0 ∨ q = 1 ∨ q = 2 ∨ q = 3 ∨ q = 4 ∨ q = 5 ∨ q = 6 ∨ q = 7 ∨ q = 8 ∨ q = 9 ∨ q = 10 ∨ q = 11 := by omega
  clear hq
  rcases hq12 with rfl | rfl | rfl | rfl | rfl | rfl | rfl | rfl | rfl | rfl | rfl | rfl
  · go_enter Tryd.func15, Tryd.ntmps15
    go_wp2_with fail
    refine (cut_any _ 60 _ hd (by omega)).mono ?_
    rintro e w1 ⟨rfl, rfl⟩
    go_wp2_with fail
    refine bodyPost_ret (v := .agg #[.int .i64 (1 + (0 : Nat)), .string ⟨(bareData (0 : Nat) d.data.toList).toArray⟩, .bool (bareSelf (0 : Nat) f), .int .u8 (bareCode (0 : Nat) c), .int .i64 (bareNum (0 : Nat) c n)]) (by simp [results, Tryd.results15, go_sem, bareData, bareSelf, bareCode, bareNum]) rfl ⟨rfl, ?_⟩
    exact ((Below.refl _ _).alloc (Nat.le_refl _) _).alloc (by simp) _
  · go_enter Tryd.func15, Tryd.ntmps15
    go_wp2_with fail
    refine (cut_any _ 60 _ hd (by omega)).mono ?_
    rintro e w1 ⟨rfl, rfl⟩
    go_wp2_with fail
    refine bodyPost_ret (v := .agg #[.int .i64 (1 + (1 : Nat)), .string ⟨(bareData (1 : Nat) d.data.toList).toArray⟩, .bool (bareSelf (1 : Nat) f), .int .u8 (bareCode (1 : Nat) c), .int .i64 (bareNum (1 : Nat) c n)]) (by simp [results, Tryd.results15, go_sem, bareData, bareSelf, bareCode, bareNum]) rfl ⟨rfl, ?_⟩
    exact ((Below.refl _ _).alloc (Nat.le_refl _) _).alloc (by simp) _
  · go_enter Tryd.func15, Tryd.ntmps15
    go_wp2_with fail
    refine (cut_any _ 60 _ hd (by omega)).mono ?_
    rintro e w1 ⟨rfl, rfl⟩
    go_wp2_with fail
    refine bodyPost_ret (v := .agg #[.int .i64 (1 + (2 : Nat)), .string ⟨(bareData (2 : Nat) d.data.toList).toArray⟩, .bool (bareSelf (2 : Nat) f), .int .u8 (bareCode (2 : Nat) c), .int .i64 (bareNum (2 : Nat) c n)]) (by simp [results, Tryd.results15, go_sem, bareData, bareSelf, bareCode, bareNum]) rfl ⟨rfl, ?_⟩
    exact ((Below.refl _ _).alloc (Nat.le_refl _) _).alloc (by simp) _
  · go_enter Tryd.func15, Tryd.ntmps15
    go_wp2_with fail
    refine (cut_any _ 60 _ hd (by omega)).mono ?_
    rintro e w1 ⟨rfl, rfl⟩
    go_wp2_with fail
    refine bodyPost_ret (v := .agg #[.int .i64 (1 + (3 : Nat)), .string ⟨(bareData (3 : Nat) d.data.toList).toArray⟩, .bool (bareSelf (3 : Nat) f), .int .u8 (bareCode (3 : Nat) c), .int .i64 (bareNum (3 : Nat) c n)]) (by simp [results, Tryd.results15, go_sem, bareData, bareSelf, bareCode, bareNum]) rfl ⟨rfl, ?_⟩
    exact ((Below.refl _ _).alloc (Nat.le_refl _) _).alloc (by simp) _
  · go_enter Tryd.func15, Tryd.ntmps15
    go_wp2_with fail
    refine (cut_any _ 60 _ hd (by omega)).mono ?_
    rintro e w1 ⟨rfl, rfl⟩
    go_wp2_with fail
    refine bodyPost_ret (v := .agg #[.int .i64 (1 + (4 : Nat)), .string ⟨(bareData (4 : Nat) d.data.toList).toArray⟩, .bool (bareSelf (4 : Nat) f), .int .u8 (bareCode (4 : Nat) c), .int .i64 (bareNum (4 : Nat) c n)]) (by simp [results, Tryd.results15, go_sem, bareData, bareSelf, bareCode, bareNum]) rfl ⟨rfl, ?_⟩
    exact ((Below.refl _ _).alloc (Nat.le_refl _) _).alloc (by simp) _
  · go_enter Tryd.func15, Tryd.ntmps15
    go_wp2_with fail
    refine (cut_any _ 60 _ hd (by omega)).mono ?_
    rintro e w1 ⟨rfl, rfl⟩
    go_wp2_with fail
    refine bodyPost_ret (v := .agg #[.int .i64 (1 + (5 : Nat)), .string ⟨(bareData (5 : Nat) d.data.toList).toArray⟩, .bool (bareSelf (5 : Nat) f), .int .u8 (bareCode (5 : Nat) c), .int .i64 (bareNum (5 : Nat) c n)]) (by simp [results, Tryd.results15, go_sem, bareData, bareSelf, bareCode, bareNum]) rfl ⟨rfl, ?_⟩
    exact ((Below.refl _ _).alloc (Nat.le_refl _) _).alloc (by simp) _
  · go_enter Tryd.func15, Tryd.ntmps15
    go_wp2_with fail
    refine (cut_any _ 60 _ hd (by omega)).mono ?_
    rintro e w1 ⟨rfl, rfl⟩
    go_wp2_with fail
    refine bodyPost_ret (v := .agg #[.int .i64 (1 + (6 : Nat)), .string ⟨(bareData (6 : Nat) d.data.toList).toArray⟩, .bool (bareSelf (6 : Nat) f), .int .u8 (bareCode (6 : Nat) c), .int .i64 (bareNum (6 : Nat) c n)]) (by simp [results, Tryd.results15, go_sem, bareData, bareSelf, bareCode, bareNum]) rfl ⟨rfl, ?_⟩
    exact ((Below.refl _ _).alloc (Nat.le_refl _) _).alloc (by simp) _
  · go_enter Tryd.func15, Tryd.ntmps15
    go_wp2_with fail
    refine (cut_any _ 60 _ hd (by omega)).mono ?_
    rintro e w1 ⟨rfl, rfl⟩
    go_wp2_with fail
    refine bodyPost_ret (v := .agg #[.int .i64 (1 + (7 : Nat)), .string ⟨(bareData (7 : Nat) d.data.toList).toArray⟩, .bool (bareSelf (7 : Nat) f), .int .u8 (bareCode (7 : Nat) c), .int .i64 (bareNum (7 : Nat) c n)]) (by simp [results, Tryd.results15, go_sem, bareData, bareSelf, bareCode, bareNum]) rfl ⟨rfl, ?_⟩
    exact ((Below.refl _ _).alloc (Nat.le_refl _) _).alloc (by simp) _
  · go_enter Tryd.func15, Tryd.ntmps15
    go_wp2_with fail
    refine (cut_any _ 60 _ hd (by omega)).mono ?_
    rintro e w1 ⟨rfl, rfl⟩
    go_wp2_with fail
    refine bodyPost_ret (v := .agg #[.int .i64 (1 + (8 : Nat)), .string ⟨(bareData (8 : Nat) d.data.toList).toArray⟩, .bool (bareSelf (8 : Nat) f), .int .u8 (bareCode (8 : Nat) c), .int .i64 (bareNum (8 : Nat) c n)]) (by simp [results, Tryd.results15, go_sem, bareData, bareSelf, bareCode, bareNum]) rfl ⟨rfl, ?_⟩
    exact ((Below.refl _ _).alloc (Nat.le_refl _) _).alloc (by simp) _
  · go_enter Tryd.func15, Tryd.ntmps15
    go_wp2_with fail
    refine (cut_any _ 60 _ hd (by omega)).mono ?_
    rintro e w1 ⟨rfl, rfl⟩
    go_wp2_with fail
    refine bodyPost_ret (v := .agg #[.int .i64 (1 + (9 : Nat)), .string ⟨(bareData (9 : Nat) d.data.toList).toArray⟩, .bool (bareSelf (9 : Nat) f), .int .u8 (bareCode (9 : Nat) c), .int .i64 (bareNum (9 : Nat) c n)]) (by simp [results, Tryd.results15, go_sem, bareData, bareSelf, bareCode, bareNum]) rfl ⟨rfl, ?_⟩
    exact ((Below.refl _ _).alloc (Nat.le_refl _) _).alloc (by simp) _
  · go_enter Tryd.func15, Tryd.ntmps15
    go_wp2_with fail
    refine (cut_any _ 60 _ hd (by omega)).mono ?_
    rintro e w1 ⟨rfl, rfl⟩
    go_wp2_with fail
    refine bodyPost_ret (v := .agg #[.int .i64 (1 + (10 : Nat)), .string ⟨(bareData (10 : Nat) d.data.toList).toArray⟩, .bool (bareSelf (10 : Nat) f), .int .u8 (bareCode (10 : Nat) c), .int .i64 (bareNum (10 : Nat) c n)]) (by simp [results, Tryd.results15, go_sem, bareData, bareSelf, bareCode, bareNum]) rfl ⟨rfl, ?_⟩
    exact ((Below.refl _ _).alloc (Nat.le_refl _) _).alloc (by simp) _
  · by_cases hv : c = 86
    · subst hv
      go_enter Tryd.func15, Tryd.ntmps15
      go_wp2_with fail
      refine (cut_any _ 60 _ hd (by omega)).mono ?_
      rintro e w1 ⟨rfl, rfl⟩
      go_wp2_with fail
      refine bodyPost_ret (v := .agg #[.int .i64 (1 + (11 : Nat)), .string ⟨(bareData (11 : Nat) d.data.toList).toArray⟩, .bool (bareSelf (11 : Nat) f), .int .u8 (bareCode (11 : Nat) 86), .int .i64 (bareNum (11 : Nat) 86 n)]) (by simp [results, Tryd.results15, go_sem, bareData, bareSelf, bareCode, bareNum]) rfl ⟨rfl, ?_⟩
      exact ((Below.refl _ _).alloc (Nat.le_refl _) _).alloc (by simp) _
    · have hv2 : ((c : Int) == 86) = false := by simpa using hv
      have hv3 : ((c : Int) != 86) = true := by simpa using hv
      go_enter Tryd.func15, Tryd.ntmps15
      go_wp2_with fail
      refine (cut_any _ 60 _ hd (by omega)).mono ?_
      rintro e w1 ⟨rfl, rfl⟩
      go_wp2_with fail
      refine bodyPost_ret (v := .agg #[.int .i64 (1 + (11 : Nat)), .string ⟨(bareData (11 : Nat) d.data.toList).toArray⟩, .bool (bareSelf (11 : Nat) f), .int .u8 (bareCode (11 : Nat) c), .int .i64 (bareNum (11 : Nat) c n)]) (by simp [results, Tryd.results15, go_sem, bareData, bareSelf, bareCode, bareNum, hv]) rfl ⟨rfl, ?_⟩
      exact ((Below.refl _ _).alloc (Nat.le_refl _) _).alloc (by simp) _
end Go.Proofs.YtfjnpneopaljjaaDoor
