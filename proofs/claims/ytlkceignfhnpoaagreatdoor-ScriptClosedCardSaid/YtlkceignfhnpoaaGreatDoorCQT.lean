/-
  Contract of event.Signal.Text.
  The package-level variables that the trace reads, as the walks need them.
  A unit's text, and back; plainly.
  What a unit that may be has; the document's text of it; plainly.
  Contracts of trace.has and trace.list.
  Contract of PDU.Name.
  Contracts of trace.number, seq.Of, trace.kind.
  Contract of trace.Unit.
  A struct of many cells, copied into a new variable: one step, with no unrolling.
  Contract of trace.Record, of any record; of trace.Lines, of two records and of none.
-/
import Derived.Test.YtlkceignfhnpoaaGreatDoorCQL
import Derived.Test.YtlkceignfhnpoaaGreatDoorBytes
import Derived.Test.YtlkceignfhnpoaaGreatDoorCQP
import Derived.Test.YtlkceignfhnpoaaGreatDoorCommon
import Derived.Lib.LaidTab
import Derived.Lib.ItoaLen
import Derived.WalkSmall
import Derived.Test.YtlkceignfhnpoaaGreatDoorPlainPduCheck
import Derived.Lib.AtoiAll
import Derived.Lib.AtoiAllCases
import Derived.Lib.ItoaNum
import Derived.Lib.ItoaMem
import Derived.Test.YtlkceignfhnpoaaGreatDoorOwnInts
import Derived.Test.YtlkceignfhnpoaaGreatDoorPduShape
import Derived.Test.YtlkceignfhnpoaaGreatDoorPduCheck
import Derived.Test.YtlkceignfhnpoaaGreatDoorBox
import Derived.Lib.OthersKept
import Derived.Laws.RangeAny
import Derived.Deep.Light
import Derived.WalkKit
import Derived.Deep.MidRow
set_option linter.unusedVariables false
set_option linter.unusedSimpArgs false
section
namespace Go.Proofs.YtlkceignfhnpoaaGreatDoor
open Go.RowKit

/-- The table of words lies as the program's text lays it. -/
def WordsAt (w : World) : Prop := ∀ i : Nat, 1 ≤ i → i ≤ 12 → w.cell? ⟨0, i, none⟩ = some (.string ⟨(sigWord i).toArray⟩)
/-- The library's table of powers of ten. -/
def PowAt (w : World) : Prop := Lib.TabIs Tryz.prog w "internal/strconv.uint64pow10" .u64 Lib.pow10Tab

theorem PowAt.below {w w' : World} (h : PowAt w) (hb : Below w.heap.size w w') (hg : 1 < w.heap.size) : PowAt w' :=
  var?_below hb (by kernel_rfl) hg h
theorem PowAt.alloc {w : World} {o : Obj} (h : PowAt w) (hg : 1 < w.heap.size) : PowAt (w.alloc o) :=
  h.below ((Below.refl _ _).alloc (Nat.le_refl _) o) hg
theorem WordsAt.below {w w' : World} (h : WordsAt w) (hb : Below w.heap.size w w') (hg : 0 < w.heap.size) : WordsAt w' :=
  fun i h1 h2 => (hb.cell hg).trans (h i h1 h2)

set_option maxHeartbeats 1000000 in
theorem sigtext_hex (k : Nat) (hk : k = 1 ∨ k = 5 ∨ k = 8 ∨ k = 9 ∨ k = 10 ∨ k = 11) (d : ByteArray) (self : Bool) (c n : Int) (w : World) (hd : d.size ≤ 1000000)
    (hw : WordsAt w) (hg : 0 < w.heap.size) :
    Calls Tryz.prog 125 #[.agg #[.int .i64 k, .string d, .bool self, .int .u8 c, .int .i64 n]] w fun e w' => e = .returned (.string ⟨(sigText k d.data.toList self c.toNat n).toArray⟩) ∧ Below w.heap.size w w' := by
  have hl := hexOf_length d.data.toList
  have hsz := size_len d
  have hwl := sigWord_length k
  have hcell := hw k (by omega) (by omega)
  have hfin : sigText k d.data.toList self c.toNat n = sigWord k ++ [32] ++ hexOf d.data.toList := by
    unfold sigText; rw [if_neg (by omega), if_neg (by omega), if_pos (by omega)]
  rw [hfin]
  clear hfin
  generalize sigWord k = wd at *
  rcases hk with rfl | rfl | rfl | rfl | rfl | rfl
  all_goals
    go_enter Tryz.func125, Tryz.ntmps125
    go_wp2_with fail
    refine (hex_any _ _ hd).mono ?_
    rintro e w1 ⟨rfl, hb⟩
    go_wp2_with fail
    go_ret
    exact ⟨ret_str (by simp), belAlloc hb (by simp)⟩

set_option maxHeartbeats 1000000 in
theorem sigtext_plain (k : Nat) (hk : k = 2 ∨ k = 4 ∨ k = 6 ∨ k = 7) (d : ByteArray) (self : Bool) (c n : Int) (w : World)
    (hw : WordsAt w) (hg : 0 < w.heap.size) :
    Calls Tryz.prog 125 #[.agg #[.int .i64 k, .string d, .bool self, .int .u8 c, .int .i64 n]] w fun e w' => e = .returned (.string ⟨(sigText k d.data.toList self c.toNat n).toArray⟩) ∧ Below w.heap.size w w' := by
  have hcell := hw k (by omega) (by omega)
  have hfin : sigText k d.data.toList self c.toNat n = sigWord k := by
    unfold sigText; rw [if_neg (by omega), if_neg (by omega), if_neg (by omega), if_neg (by omega)]
  rw [hfin]
  clear hfin
  generalize sigWord k = wd at *
  rcases hk with rfl | rfl | rfl | rfl
  all_goals
    go_enter Tryz.func125, Tryz.ntmps125
    go_wp2_with fail
    go_ret
    exact ⟨rfl, (Below.refl _ _).alloc (Nat.le_refl _) _⟩

set_option maxHeartbeats 1000000 in
theorem sigtext_rel (d : ByteArray) (self : Bool) (c n : Int) (w : World) (hd : d.size ≤ 1000000)
    (hw : WordsAt w) (hg : 0 < w.heap.size) :
    Calls Tryz.prog 125 #[.agg #[.int .i64 3, .string d, .bool self, .int .u8 c, .int .i64 n]] w fun e w' => e = .returned (.string ⟨(sigText 3 d.data.toList self c.toNat n).toArray⟩) ∧ Below w.heap.size w w' := by
  have hl := hexOf_length d.data.toList
  have hsz := size_len d
  have hwl := sigWord_length 3
  have hcell : w.cell? ⟨0, 3, none⟩ = some (.string ⟨(sigWord 3).toArray⟩) := hw 3 (by omega) (by omega)
  have hfin : sigText 3 d.data.toList self c.toNat n = sigWord 3 ++ (if self then [32, 115, 101, 108, 102, 32] else [32, 117, 115, 101, 114, 32]) ++ hexOf d.data.toList := by
    unfold sigText; rw [if_neg (by omega), if_pos rfl]
  rw [hfin]
  clear hfin
  generalize sigWord 3 = wd at *
  cases self
  all_goals
    go_enter Tryz.func125, Tryz.ntmps125
    go_wp2_with fail
    refine (hex_any _ _ hd).mono ?_
    rintro e w1 ⟨rfl, hb⟩
    go_wp2_with fail
    go_ret
    exact ⟨ret_str (by simp), belAlloc hb (by simp)⟩

set_option maxHeartbeats 1000000 in
theorem sigtext_rep (d : ByteArray) (self : Bool) (c n : Int) (w : World) (hc0 : 0 ≤ c) (hc1 : c ≤ 255) (hn0 : -9223372036854775808 ≤ n) (hn1 : n ≤ 9223372036854775807)
    (hw : WordsAt w) (hg : 0 < w.heap.size) (hp : PowAt w) (hgp : 1 < w.heap.size) :
    Calls Tryz.prog 125 #[.agg #[.int .i64 12, .string d, .bool self, .int .u8 c, .int .i64 n]] w fun e w' => e = .returned (.string ⟨(sigText 12 d.data.toList self c.toNat n).toArray⟩) ∧ Below w.heap.size w w' := by
  have kc := conv1
  have hwl := sigWord_length 12
  have hcell : w.cell? ⟨0, 12, none⟩ = some (.string ⟨(sigWord 12).toArray⟩) := hw 12 (by omega) (by omega)
  have hil := Lib.itoa_length_le n hn0 hn1
  have hfin : sigText 12 d.data.toList self c.toNat n = sigWord 12 ++ [32, c.toNat.toUInt8] ++ (if c.toNat = 86 then [32] ++ Lib.itoa n else []) := by
    unfold sigText; rw [if_neg (by omega), if_neg (by omega), if_neg (by omega), if_pos rfl]
  rw [hfin]
  clear hfin
  generalize sigWord 12 = wd at *
  by_cases hv : c = 86
  · subst hv
    go_enter Tryz.func125, Tryz.ntmps125
    go_wp2_with fail
    refine (Tryz.strconv_Itoa _ hn0 hn1 _ (PowAt.alloc (PowAt.alloc hp hgp) (by simp; omega))).mono ?_
    rintro e w1 ⟨rfl, k, os, rfl⟩
    go_wp2_with fail
    go_ret
    exact ⟨ret_str (by simp), belAlloc (belAlloc belGrow (by simp)) (by simp)⟩
  · have hv2 : ((c : Int) == 86) = false := by simpa using hv
    go_enter Tryz.func125, Tryz.ntmps125
    go_wp2_with fail
    go_ret
    refine ⟨ret_str ?_, ((Below.refl _ _).alloc (Nat.le_refl _) _).alloc (by simp) _⟩
    simp

set_option maxHeartbeats 400000 in
theorem sigtext_none (k : Int) (d : ByteArray) (self : Bool) (c n : Int) (w : World) (hk : k < 1 ∨ 12 < k) :
    Calls Tryz.prog 125 #[.agg #[.int .i64 k, .string d, .bool self, .int .u8 c, .int .i64 n]] w fun e w' => e = .returned (.string ⟨(sigText k d.data.toList self c.toNat n).toArray⟩) ∧ Below w.heap.size w w' := by
  have hfin : sigText k d.data.toList self c.toNat n = [] := by
    unfold sigText; rw [if_pos hk]
  rw [hfin]
  clear hfin
  rcases hk with hk | hk
  all_goals
    go_enter Tryz.func125, Tryz.ntmps125
    go_wp2_with fail
    go_ret
    exact ⟨rfl, (Below.refl _ _).alloc (Nat.le_refl _) _⟩

theorem sigtext_any (k : Int) (d : ByteArray) (self : Bool) (c n : Int) (w : World) (hd : d.size ≤ 1000000) (hc0 : 0 ≤ c) (hc1 : c ≤ 255) (hn0 : -9223372036854775808 ≤ n) (hn1 : n ≤ 9223372036854775807)
    (hw : WordsAt w) (hg : 0 < w.heap.size) (hp : PowAt w) (hgp : 1 < w.heap.size) :
    Calls Tryz.prog 125 #[.agg #[.int .i64 k, .string d, .bool self, .int .u8 c, .int .i64 n]] w fun e w' => e = .returned (.string ⟨(sigText k d.data.toList self c.toNat n).toArray⟩) ∧ Below w.heap.size w w' := by
  by_cases hk : k < 1 ∨ 12 < k
  · exact sigtext_none k d self c n w hk
  · obtain ⟨m, rfl⟩ := Int.eq_ofNat_of_zero_le (show 0 ≤ k by omega)
    have h : (m = 1 ∨ m = 5 ∨ m = 8 ∨ m = 9 ∨ m = 10 ∨ m = 11) ∨ (m = 2 ∨ m = 4 ∨ m = 6 ∨ m = 7) ∨ m = 3 ∨ m = 12 := by omega
    rcases h with h | h | rfl | rfl
    · exact sigtext_hex m h d self c n w hd hw hg
    · exact sigtext_plain m h d self c n w hw hg
    · exact sigtext_rel d self c n w hd hw hg
    · exact sigtext_rep d self c n w hc0 hc1 hn0 hn1 hw hg hp hgp
end Go.Proofs.YtlkceignfhnpoaaGreatDoor
end
section
namespace Go.Proofs.YtlkceignfhnpoaaGreatDoor
open Go.RowKit

/-- The tables lie as the program's text lays them; bytealg.MaxLen is a number; the two errors are there. -/
structure EnvT (w : World) : Prop where
  pow : PowAt w
  powLt : 1 < w.heap.size
  words : WordsAt w
  wordsLt : 0 < w.heap.size
  most : ∃ m, w.cell? ⟨2, 0, none⟩ = some (.int .i64 m)
theorem EnvT.below {w w' : World} (h : EnvT w) (hb : Below w.heap.size w w') : EnvT w' := by
  obtain ⟨m, hm⟩ := h.most
  exact ⟨h.pow.below hb h.powLt, Nat.lt_of_lt_of_le h.powLt hb.size, h.words.below hb h.wordsLt, Nat.lt_of_lt_of_le h.wordsLt hb.size, ⟨m, (hb.cell (block_lt_of_cell hm)).trans hm⟩⟩
theorem EnvT.alloc {w : World} {o : Obj} (h : EnvT w) : EnvT (w.alloc o) := h.below ((Below.refl _ _).alloc (Nat.le_refl _) o)
/-- strconv.Itoa. -/
theorem itoa_any (n : Int) (w : World) (h0 : -9223372036854775808 ≤ n) (h1 : n ≤ 9223372036854775807) (he : EnvT w) :
    Calls Tryz.prog 23 #[.int .i64 n] w fun e w' => e = .returned (.string ⟨(Lib.itoa n).toArray⟩) ∧ Below w.heap.size w w' :=
  (Tryz.strconv_Itoa n h0 h1 w he.pow).mono fun e w' ⟨h, k, os, hw⟩ => ⟨h, by rw [hw]; exact belGrow⟩
end Go.Proofs.YtlkceignfhnpoaaGreatDoor
end
section
namespace Go.Proofs.YtlkceignfhnpoaaGreatDoor
open Go

def nameOf (k : Int) : List UInt8 :=
  if k = 1 then [98, 103, 110] else if k = 2 then [98, 103, 97, 107] else if k = 3 then [101, 110, 100] else if k = 4 then [101, 110, 100, 97, 107] else if k = 5 then [114, 115]
  else if k = 6 then [114, 115, 97, 107] else if k = 7 then [98, 103, 114, 101, 106] else if k = 8 then [115, 100] else if k = 9 then [101, 114] else if k = 10 then [112, 111, 108, 108]
  else if k = 11 then [115, 116, 97, 116] else if k = 12 then [117, 115, 116, 97, 116] else if k = 13 then [117, 100] else if k = 14 then [109, 100] else if k = 15 then [101, 114, 97, 107] else []
/-- Which words a kind has, by their letters. -/
def hasL (k : Int) : List UInt8 :=
  if k = 1 ∨ k = 5 then [115, 110, 100] else if k = 2 ∨ k = 6 ∨ k = 9 ∨ k = 15 then [115, 110] else if k = 7 ∨ k = 3 then [115, 100] else if k = 4 then [115] else if k = 8 then [110, 100]
  else if k = 10 then [110, 112] else if k = 11 then [110, 112, 109, 108] else if k = 12 then [110, 109, 108] else if k = 13 ∨ k = 14 then [100] else []
/-- A unit. -/
structure Pd where
  k : Int
  sq : Int
  n : Int
  ps : Int
  mr : Int
  l : List Int
  self : Bool
  d : List UInt8
def listW (l : List Int) : List UInt8 := if l = [] then [45] else joinBy 44 (l.map Lib.itoa)
def selfW : List UInt8 := [115, 101, 108, 102]
def fieldW (p : Pd) (c : UInt8) : List UInt8 :=
  if c = 115 then [115, 113] ++ Lib.itoa p.sq else if c = 110 then [110] ++ Lib.itoa p.n else if c = 112 then [112, 115] ++ Lib.itoa p.ps else if c = 109 then [109, 114] ++ Lib.itoa p.mr
  else if c = 108 then [108] ++ listW p.l else [100] ++ hexOf p.d
def fieldWs (p : Pd) (c : UInt8) : List (List UInt8) := if c = 100 ∧ p.self = true then [selfW, fieldW p c] else [fieldW p c]
def wordsP (p : Pd) : List (List UInt8) := nameOf p.k :: (hasL p.k).flatMap (fieldWs p)
def unitText (p : Pd) : List UInt8 := joinBy 32 (wordsP p)

/-- A kind's number, of its name; 0: there is none such. -/
def kindOf (w : List UInt8) : Int := match (List.range 15).find? (fun (i : Nat) => decide (nameOf ((i : Int) + 1) = w)) with
  | some i => (i : Int) + 1
  | none => 0
def numOf (pre w : List UInt8) : Option Int := if Lib.hasPrefix w pre = true then match Lib.atoiAll (Lib.trimPrefix w pre) with
    | .ok v => if Lib.itoa v = Lib.trimPrefix w pre ∧ 0 ≤ v ∧ v < 16777216 then some v else none
    | _ => none
  else none
def numList : List (List UInt8) → Option (List Int)
  | [] => some []
  | w :: ws => match numOf [] w with
    | none => none
    | some v => (numList ws).map (v :: ·)
def numsOf (w : List UInt8) : Option (List Int) := if Lib.hasPrefix w [108] = true then (if Lib.trimPrefix w [108] = [45] then some [] else numList (splitBy 44 (Lib.trimPrefix w [108]))) else none
def dataOf (w : List UInt8) : Option (List UInt8) := if Lib.hasPrefix w [100] = true then unhexOf (Lib.trimPrefix w [100]) else none
def takeF (c : UInt8) (w : List UInt8) (p : Pd) : Option Pd :=
  if c = 115 then (numOf [115, 113] w).map fun v => { p with sq := v } else if c = 110 then (numOf [110] w).map fun v => { p with n := v } else if c = 112 then (numOf [112, 115] w).map fun v => { p with ps := v }
  else if c = 109 then (numOf [109, 114] w).map fun v => { p with mr := v } else if c = 108 then (numsOf w).map fun v => { p with l := v } else (dataOf w).map fun v => { p with d := v }
def fieldsOf : List UInt8 → List (List UInt8) → Pd → Option Pd
  | [], _, p => some p
  | _ :: _, [], _ => none
  | c :: t, w :: ws, p => match takeF c w p with
    | none => none
    | some q => fieldsOf t ws q
def ckOf (p : Pd) : Int := checkOf p.k p.sq p.n p.ps p.mr p.l p.self p.d.length
/-- Is the word for 'by itself' there? -/
def selfAt (k : Int) (ws : List (List UInt8)) : Bool := decide (k = 3) && decide (ws.length = 4) && decide (ws.getD 2 [] = selfW)
def restOf (k : Int) (ws : List (List UInt8)) : List (List UInt8) := if selfAt k ws then [ws.getD 0 [], ws.getD 1 [], ws.getD 3 []] else ws
def parseWs (ws : List (List UInt8)) : Option Pd :=
  if kindOf (ws.getD 0 []) = 0 ∨ (restOf (kindOf (ws.getD 0 [])) ws).length ≠ 1 + (hasL (kindOf (ws.getD 0 []))).length then none else
  match fieldsOf (hasL (kindOf (ws.getD 0 []))) (restOf (kindOf (ws.getD 0 [])) ws).tail ⟨kindOf (ws.getD 0 []), 0, 0, 0, 0, [], selfAt (kindOf (ws.getD 0 [])) ws, []⟩ with
  | none => none
  | some p => if ckOf p = 0 then some p else none
def parseT (s : List UInt8) : Option Pd := parseWs (splitBy 32 s)

theorem hasPrefix_iff (w pre : List UInt8) : Lib.hasPrefix w pre = true ↔ ∃ t, w = pre ++ t := by
  unfold Lib.hasPrefix
  rw [List.isPrefixOf_iff_prefix]
  exact ⟨fun ⟨t, h⟩ => ⟨t, h.symm⟩, fun ⟨t, h⟩ => ⟨t, h.symm⟩⟩
theorem hasPrefix_app (pre t : List UInt8) : Lib.hasPrefix (pre ++ t) pre = true := (hasPrefix_iff _ _).2 ⟨t, rfl⟩
theorem trimPrefix_app (pre t : List UInt8) : Lib.trimPrefix (pre ++ t) pre = t := by
  unfold Lib.trimPrefix; rw [if_pos (hasPrefix_app pre t), List.drop_left]
theorem parse10_app : ∀ (a b : List UInt8) (acc v : Nat), Lib.parseUint10 acc a = .ok v → Lib.parseUint10 acc (a ++ b) = Lib.parseUint10 v b
  | [], b, acc, v, h => by
    simp only [Lib.parseUint10] at h
    cases h; rfl
  | c :: a, b, acc, v, h => by
    simp only [List.cons_append, Lib.parseUint10] at h ⊢
    split at h
    · split at h
      · cases h
      · split at h
        · cases h
        · rename_i h1 h2 h3
          rw [if_pos (by assumption), if_neg h2, if_neg h3]
          exact parse10_app a b _ _ h
    · cases h
theorem parse10_dec (u : Nat) (hu : u < 1000000000000) : Lib.parseUint10 0 (Lib.decDigits u) = .ok u := by
  induction u using Nat.strongRecOn with
  | ind u ih =>
    rw [Lib.decDigits]
    by_cases h : u < 10
    · rw [dif_pos h]
      have e : (UInt8.ofNat (48 + u)).toNat = 48 + u := by rw [UInt8.toNat_ofNat']; omega
      simp only [Lib.parseUint10]
      rw [e, if_pos (by omega), if_neg (by omega), if_neg (by omega)]
      congr 1; omega
    · rw [dif_neg h, parse10_app _ _ _ _ (ih (u / 10) (by omega) (by omega))]
      have e : (UInt8.ofNat (48 + u % 10)).toNat = 48 + u % 10 := by rw [UInt8.toNat_ofNat']; omega
      simp only [Lib.parseUint10]
      rw [e, if_pos (by omega), if_neg (by omega), if_neg (by omega)]
      congr 1; omega
theorem dec_bytes (u : Nat) : ∀ b ∈ Lib.decDigits u, 48 ≤ b.toNat ∧ b.toNat ≤ 57 := by
  induction u using Nat.strongRecOn with
  | ind u ih =>
    rw [Lib.decDigits]
    by_cases h : u < 10
    · rw [dif_pos h]
      intro b hb
      obtain rfl := List.mem_singleton.1 hb
      rw [UInt8.toNat_ofNat']; omega
    · rw [dif_neg h]
      intro b hb
      rcases List.mem_append.1 hb with hb | hb
      · exact ih (u / 10) (by omega) b hb
      · obtain rfl := List.mem_singleton.1 hb
        rw [UInt8.toNat_ofNat']; omega
theorem dec_ne (u : Nat) : Lib.decDigits u ≠ [] := by
  rw [Lib.decDigits]; split <;> simp
theorem itoa_bytes (v : Int) (h : 0 ≤ v) : ∀ b ∈ Lib.itoa v, 48 ≤ b.toNat ∧ b.toNat ≤ 57 := by
  obtain ⟨u, rfl⟩ := Int.eq_ofNat_of_zero_le h
  rw [Lib.itoa_nonneg]; exact dec_bytes u
theorem itoa_ne (v : Int) (h : 0 ≤ v) : Lib.itoa v ≠ [] := by
  obtain ⟨u, rfl⟩ := Int.eq_ofNat_of_zero_le h
  rw [Lib.itoa_nonneg]; exact dec_ne u
theorem atoi_itoa (v : Int) (h0 : 0 ≤ v) (h1 : v < 1000000000000) : Lib.atoiAll (Lib.itoa v) = .ok v := by
  obtain ⟨u, rfl⟩ := Int.eq_ofNat_of_zero_le h0
  rw [Lib.itoa_nonneg]
  cases hd : Lib.decDigits u with
  | nil => exact absurd hd (dec_ne u)
  | cons c r =>
    have hc := dec_bytes u c (by rw [hd]; simp)
    have hp := parse10_dec u (by omega)
    rw [hd] at hp
    have hm : Lib.parseMag (c :: r) = .ok u := by unfold Lib.parseMag; rw [if_neg (by simp)]; exact hp
    unfold Lib.atoiAll
    simp only
    rw [if_neg (by omega), hm]
    simp only
    rw [if_neg (by omega), if_neg (by omega), if_neg (by omega)]
theorem numOf_iff (pre w : List UInt8) (v : Int) : numOf pre w = some v ↔ w = pre ++ Lib.itoa v ∧ 0 ≤ v ∧ v < 16777216 := by
  unfold numOf
  constructor
  · intro h
    split at h
    · rename_i hp
      obtain ⟨t, rfl⟩ := (hasPrefix_iff _ _).1 hp
      rw [trimPrefix_app] at h
      split at h
      · rename_i v' hv
        split at h
        · rename_i hc
          cases h
          exact ⟨by rw [hc.1], hc.2⟩
        · cases h
      · cases h
    · cases h
  · rintro ⟨rfl, h0, h1⟩
    rw [if_pos (hasPrefix_app _ _), trimPrefix_app, atoi_itoa v h0 (by omega)]
    simp only
    rw [if_pos ⟨trivial, h0, h1⟩]
theorem numList_iff : ∀ (ws : List (List UInt8)) (l : List Int), numList ws = some l ↔ ws = l.map Lib.itoa ∧ ∀ x ∈ l, 0 ≤ x ∧ x < 16777216
  | [], l => by
    constructor
    · intro h; cases h; exact ⟨rfl, by simp⟩
    · rintro ⟨h, _⟩
      have : l = [] := by cases l with
        | nil => rfl
        | cons a t => simp at h
      subst this; rfl
  | w :: ws, l => by
    unfold numList
    cases hn : numOf [] w with
    | none =>
      simp only
      constructor
      · intro h; cases h
      · rintro ⟨h, hl⟩
        cases l with
        | nil => simp at h
        | cons a t =>
          simp only [List.map_cons, List.cons.injEq] at h
          have := (numOf_iff [] w a).2 ⟨by rw [h.1]; rfl, hl a (by simp)⟩
          rw [hn] at this; cases this
    | some v =>
      simp only
      have hv := (numOf_iff [] w v).1 hn
      constructor
      · intro h
        obtain ⟨t, ht, rfl⟩ := Option.map_eq_some_iff.1 h
        have := (numList_iff ws t).1 ht
        refine ⟨by rw [List.map_cons, ← this.1]; rw [hv.1]; rfl, fun x hx => ?_⟩
        rcases List.mem_cons.1 hx with e | e
        · subst e; exact hv.2
        · exact this.2 x e
      · rintro ⟨h, hl⟩
        cases l with
        | nil => simp at h
        | cons a t =>
          simp only [List.map_cons, List.cons.injEq] at h
          have e : v = a := by
            have h2 := (numOf_iff [] w a).2 ⟨by rw [h.1]; rfl, hl a (by simp)⟩
            rw [hn] at h2; cases h2; rfl
          subst e
          rw [(numList_iff ws t).2 ⟨h.2, fun x hx => hl x (by simp [hx])⟩]; rfl
theorem itoa_free (v : Int) (h : 0 ≤ v) (c : UInt8) (hc : c.toNat < 48) : c ∉ Lib.itoa v := fun hm => by
  have := itoa_bytes v h c hm; omega
theorem numsOf_iff (w : List UInt8) (l : List Int) : numsOf w = some l ↔ w = [108] ++ listW l ∧ ∀ x ∈ l, 0 ≤ x ∧ x < 16777216 := by
  unfold numsOf listW
  constructor
  · intro h
    split at h
    · rename_i hp
      obtain ⟨t, rfl⟩ := (hasPrefix_iff _ _).1 hp
      rw [trimPrefix_app] at h
      split at h
      · rename_i e
        cases h
        exact ⟨by rw [e, if_pos rfl], by simp⟩
      · have h2 := (numList_iff _ _).1 h
        have hne : l ≠ [] := by
          intro e; subst e
          exact splitBy_ne 44 t h2.1
        refine ⟨?_, h2.2⟩
        rw [if_neg hne, ← h2.1, join_split]
    · cases h
  · rintro ⟨rfl, hl⟩
    rw [if_pos (hasPrefix_app _ _), trimPrefix_app]
    by_cases hne : l = []
    · subst hne; rfl
    · rw [if_neg hne]
      have hfree : ∀ w ∈ l.map Lib.itoa, (44 : UInt8) ∉ w := by
        intro w hw
        obtain ⟨x, hx, rfl⟩ := List.mem_map.1 hw
        exact itoa_free x (hl x hx).1 44 (by decide)
      have hj : joinBy 44 (l.map Lib.itoa) ≠ [45] := by
        cases l with
        | nil => exact absurd rfl hne
        | cons a t =>
          intro e
          have hb := itoa_bytes a (hl a (by simp)).1
          cases hi : Lib.itoa a with
          | nil => exact itoa_ne a (hl a (by simp)).1 hi
          | cons c r =>
            have hc := hb c (by rw [hi]; simp)
            have : joinBy 44 ((a :: t).map Lib.itoa) = c :: (joinBy 44 ((a :: t).map Lib.itoa)).tail := by
              cases t with
              | nil => show Lib.itoa a = c :: (Lib.itoa a).tail; rw [hi]; rfl
              | cons b t => show Lib.itoa a ++ _ = _ :: (Lib.itoa a ++ _).tail; rw [hi]; rfl
            rw [this] at e
            have := (List.cons.inj e).1
            subst this
            simp at hc
      rw [if_neg hj, split_join 44 _ (by simpa using hne) hfree]
      exact (numList_iff _ _).2 ⟨rfl, hl⟩
theorem dataOf_iff (w d : List UInt8) : dataOf w = some d ↔ w = [100] ++ hexOf d := by
  unfold dataOf
  constructor
  · intro h
    split at h
    · rename_i hp
      obtain ⟨t, rfl⟩ := (hasPrefix_iff _ _).1 hp
      rw [trimPrefix_app] at h
      rw [hex_unhex _ _ h]
    · cases h
  · rintro rfl
    rw [if_pos (hasPrefix_app _ _), trimPrefix_app, unhex_hex]

theorem kindOf_name : ∀ i : Fin 15, kindOf (nameOf ((i.val : Int) + 1)) = (i.val : Int) + 1 := by decide +kernel
theorem kindOf_pos (w : List UInt8) (h : kindOf w ≠ 0) : 1 ≤ kindOf w ∧ kindOf w ≤ 15 ∧ nameOf (kindOf w) = w := by
  unfold kindOf at h ⊢
  cases hf : (List.range 15).find? (fun (i : Nat) => decide (nameOf ((i : Int) + 1) = w)) with
  | none => rw [hf] at h; exact absurd rfl h
  | some i =>
    have h1 := List.find?_some hf
    have h2 := List.mem_of_find?_eq_some hf
    rw [List.mem_range] at h2
    exact ⟨by show 1 ≤ (i : Int) + 1; omega, by show (i : Int) + 1 ≤ 15; omega, by simpa using h1⟩
theorem kindOf_is (k : Int) (h1 : 1 ≤ k) (h2 : k ≤ 15) : kindOf (nameOf k) = k := by
  obtain ⟨i, rfl⟩ : ∃ i : Nat, k = (i : Int) + 1 := ⟨(k - 1).toNat, by omega⟩
  exact kindOf_name ⟨i, by omega⟩
/-- What a unit that may be has, and has not. -/
structure Fit (p : Pd) : Prop where
  k1 : 1 ≤ p.k
  k2 : p.k ≤ 15
  sq : 0 ≤ p.sq ∧ p.sq < 16777216
  n : 0 ≤ p.n ∧ p.n < 16777216
  ps : 0 ≤ p.ps ∧ p.ps < 16777216
  mr : 0 ≤ p.mr ∧ p.mr < 16777216
  l : ∀ x ∈ p.l, 0 ≤ x ∧ x < 16777216
  noSq : 115 ∉ hasL p.k → p.sq = 0
  noN : 110 ∉ hasL p.k → p.n = 0
  noPs : 112 ∉ hasL p.k → p.ps = 0
  noMr : 109 ∉ hasL p.k → p.mr = 0
  noL : 108 ∉ hasL p.k → p.l = []
  noD : 100 ∉ hasL p.k → p.d = []
  self : p.self = true → p.k = 3
theorem field_num {pre : List UInt8} {v : Int} (h : 0 ≤ v ∧ v < 16777216) : numOf pre (pre ++ Lib.itoa v) = some v := (numOf_iff _ _ _).2 ⟨rfl, h⟩
theorem hex_free (d : List UInt8) : (32 : UInt8) ∉ hexOf d := by
  unfold hexOf
  split
  · decide
  · have : ∀ l : List UInt8, (32 : UInt8) ∉ hexBody l := by
      intro l
      induction l with
      | nil => simp [hexBody]
      | cons c t ih =>
        have hd : ∀ q : Fin 16, hexDigit q.val ≠ 32 := by decide
        have hc := c.toNat_lt
        simp only [hexBody, List.mem_cons, not_or]
        exact ⟨fun e => hd ⟨c.toNat / 16, by omega⟩ e.symm, fun e => hd ⟨c.toNat % 16, by omega⟩ e.symm, ih⟩
    exact this d
theorem join_free (c b : UInt8) (hcb : b ≠ c) : ∀ (ws : List (List UInt8)), (∀ w ∈ ws, b ∉ w) → b ∉ joinBy c ws
  | [], _ => by simp [joinBy]
  | [w], h => h w (by simp)
  | w :: v :: ws, h => by
    show b ∉ w ++ c :: joinBy c (v :: ws)
    have ih := join_free c b hcb (v :: ws) (fun x hx => h x (by simp [hx]))
    have := h w (by simp)
    simp only [List.mem_append, List.mem_cons, not_or]
    exact ⟨this, hcb, ih⟩
theorem listW_free (l : List Int) (h : ∀ x ∈ l, 0 ≤ x ∧ x < 16777216) : (32 : UInt8) ∉ listW l := by
  unfold listW
  split
  · decide
  · apply join_free 44 32 (by decide)
    intro w hw
    obtain ⟨x, hx, rfl⟩ := List.mem_map.1 hw
    exact itoa_free x (h x hx).1 32 (by decide)
theorem fieldW_free (p : Pd) (hp : Fit p) (c : UInt8) : (32 : UInt8) ∉ fieldW p c := by
  unfold fieldW
  have e : ∀ (a b : List UInt8), (32 : UInt8) ∉ a → (32 : UInt8) ∉ b → (32 : UInt8) ∉ a ++ b := fun a b h1 h2 hm => by
    rcases List.mem_append.1 hm with h | h
    · exact h1 h
    · exact h2 h
  repeat' split
  · exact e _ _ (by decide) (itoa_free _ hp.sq.1 32 (by decide))
  · exact e _ _ (by decide) (itoa_free _ hp.n.1 32 (by decide))
  · exact e _ _ (by decide) (itoa_free _ hp.ps.1 32 (by decide))
  · exact e _ _ (by decide) (itoa_free _ hp.mr.1 32 (by decide))
  · exact e _ _ (by decide) (listW_free _ hp.l)
  · exact e _ _ (by decide) (hex_free _)
theorem name_free : ∀ i : Fin 15, (32 : UInt8) ∉ nameOf ((i.val : Int) + 1) := by decide +kernel
theorem name_free' (k : Int) (h1 : 1 ≤ k) (h2 : k ≤ 15) : (32 : UInt8) ∉ nameOf k := by
  obtain ⟨i, rfl⟩ : ∃ i : Nat, k = (i : Int) + 1 := ⟨(k - 1).toNat, by omega⟩
  exact name_free ⟨i, by omega⟩
theorem words_free (p : Pd) (hp : Fit p) : ∀ w ∈ wordsP p, (32 : UInt8) ∉ w := by
  intro w hw
  unfold wordsP at hw
  rcases List.mem_cons.1 hw with e | e
  · subst e; exact name_free' _ hp.k1 hp.k2
  · obtain ⟨c, _, hc⟩ := List.mem_flatMap.1 e
    unfold fieldWs at hc
    split at hc
    · simp only [List.mem_cons, List.not_mem_nil, or_false] at hc
      rcases hc with e | e
      · subst e; decide
      · subst e; exact fieldW_free p hp c
    · simp only [List.mem_cons, List.not_mem_nil, or_false] at hc
      subst hc; exact fieldW_free p hp c
theorem split_unit (p : Pd) (hp : Fit p) : splitBy 32 (unitText p) = wordsP p := split_join 32 _ (by simp [wordsP]) (words_free p hp)
theorem data_back (d : List UInt8) : dataOf ([100] ++ hexOf d) = some d := (dataOf_iff _ _).2 rfl
theorem nums_back (l : List Int) (h : ∀ x ∈ l, 0 ≤ x ∧ x < 16777216) : numsOf ([108] ++ listW l) = some l := (numsOf_iff _ _).2 ⟨rfl, h⟩
theorem pd_ext {p q : Pd} (h1 : p.k = q.k) (h2 : p.sq = q.sq) (h3 : p.n = q.n) (h4 : p.ps = q.ps) (h5 : p.mr = q.mr) (h6 : p.l = q.l) (h7 : p.self = q.self) (h8 : p.d = q.d) : p = q := by
  cases p; cases q; simp_all
/-- A unit's text comes back. -/
theorem parse_unit (p : Pd) (hp : Fit p) (hc : ckOf p = 0) : parseT (unitText p) = some p := by
  unfold parseT
  rw [split_unit p hp]
  have hk : kindOf ((wordsP p).getD 0 []) = p.k := kindOf_is _ hp.k1 hp.k2
  unfold parseWs
  rw [hk]
  have hk1 := hp.k1
  have hk2 := hp.k2
  have hs : selfAt p.k (wordsP p) = p.self := by
    unfold selfAt
    cases hself : p.self with
    | true =>
      have h3 := hp.self hself
      simp [wordsP, hasL, h3, fieldWs, hself, nameOf]
    | false =>
      by_cases h3 : p.k = 3
      · simp [wordsP, hasL, h3, fieldWs, hself]
      · simp [h3]
  have hr : restOf p.k (wordsP p) = nameOf p.k :: (hasL p.k).map (fieldW p) := by
    unfold restOf
    rw [hs]
    cases hself : p.self with
    | true =>
      have h3 := hp.self hself
      simp [wordsP, hasL, h3, fieldWs, hself]
    | false =>
      rw [if_neg (by simp)]
      unfold wordsP
      congr 1
      have : ∀ t : List UInt8, t.flatMap (fieldWs p) = t.map (fieldW p) := by
        intro t
        induction t with
        | nil => rfl
        | cons c t ih =>
          rw [List.flatMap_cons, List.map_cons, ih]
          unfold fieldWs
          rw [if_neg (by simp [hself])]; rfl
      exact this _
  rw [hs, hr]
  rw [if_neg (by
    simp only [List.length_cons, List.length_map, not_or]
    constructor <;> omega)]
  have hf : fieldsOf (hasL p.k) (List.tail (nameOf p.k :: (hasL p.k).map (fieldW p))) ⟨p.k, 0, 0, 0, 0, [], p.self, []⟩ = some p := by
    have hsq := hp.noSq
    have hn := hp.noN
    have hps := hp.noPs
    have hmr := hp.noMr
    have hl := hp.noL
    have hd := hp.noD
    have f1 := field_num (pre := [115, 113]) hp.sq
    have f2 := field_num (pre := [110]) hp.n
    have f3 := field_num (pre := [112, 115]) hp.ps
    have f4 := field_num (pre := [109, 114]) hp.mr
    have f5 := nums_back p.l hp.l
    have f6 := data_back p.d
    obtain ⟨k, sq, n, ps, mr, l, self, d⟩ := p
    simp only at *
    have h : k = 1 ∨ k = 2 ∨ k = 3 ∨ k = 4 ∨ k = 5 ∨ k = 6 ∨ k = 7 ∨ k = 8 ∨ k = 9 ∨ k = 10 ∨ k = 11 ∨ k = 12 ∨ k = 13 ∨ k = 14 ∨ k = 15 := by omega
    simp only [List.cons_append, List.nil_append] at f1 f2 f3 f4 f5 f6
    rcases h with rfl | rfl | rfl | rfl | rfl | rfl | rfl | rfl | rfl | rfl | rfl | rfl | rfl | rfl | rfl <;>
      simp [hasL] at hsq hn hps hmr hl hd ⊢ <;> simp [fieldsOf, takeF, fieldW, f1, f2, f3, f4, f5, f6, hsq, hn, hps, hmr, hl, hd]
  rw [hf]
  simp only
  rw [if_pos hc]
def letters : List UInt8 := [115, 110, 112, 109, 108, 100]
theorem takeF_other {c c' : UInt8} {w : List UInt8} {p q : Pd} (hc : c ∈ letters) (hc' : c' ∈ letters) (hne : c ≠ c') (h : takeF c' w p = some q) : fieldW q c = fieldW p c ∧ q.k = p.k ∧ q.self = p.self := by
  simp only [letters, List.mem_cons, List.not_mem_nil, or_false] at hc hc'
  rcases hc' with rfl | rfl | rfl | rfl | rfl | rfl <;> simp only [takeF] at h <;> simp at h <;> obtain ⟨v, _, rfl⟩ := h <;>
    rcases hc with rfl | rfl | rfl | rfl | rfl | rfl <;> first | exact absurd rfl hne | exact ⟨rfl, rfl, rfl⟩
theorem takeF_self {c : UInt8} {w : List UInt8} {p q : Pd} (hc : c ∈ letters) (h : takeF c w p = some q) : w = fieldW q c ∧ q.k = p.k ∧ q.self = p.self := by
  simp only [letters, List.mem_cons, List.not_mem_nil, or_false] at hc
  rcases hc with rfl | rfl | rfl | rfl | rfl | rfl <;> simp only [takeF] at h <;> simp at h <;> obtain ⟨v, hv, rfl⟩ := h
  · exact ⟨((numOf_iff _ _ _).1 hv).1, rfl, rfl⟩
  · exact ⟨((numOf_iff _ _ _).1 hv).1, rfl, rfl⟩
  · exact ⟨((numOf_iff _ _ _).1 hv).1, rfl, rfl⟩
  · exact ⟨((numOf_iff _ _ _).1 hv).1, rfl, rfl⟩
  · exact ⟨((numsOf_iff _ _).1 hv).1, rfl, rfl⟩
  · exact ⟨(dataOf_iff _ _).1 hv, rfl, rfl⟩
theorem fields_other : ∀ (t : List UInt8) (ws : List (List UInt8)) (p q : Pd), (∀ x ∈ t, x ∈ letters) → fieldsOf t ws p = some q → q.k = p.k ∧ q.self = p.self ∧ ∀ c ∈ letters, c ∉ t → fieldW q c = fieldW p c
  | [], _, p, q, _, h => by cases h; exact ⟨rfl, rfl, fun _ _ _ => rfl⟩
  | _ :: _, [], _, _, _, h => by simp [fieldsOf] at h
  | b :: t, w :: ws, p, q, hl, h => by
    unfold fieldsOf at h
    cases ht : takeF b w p with
    | none => rw [ht] at h; cases h
    | some r =>
      rw [ht] at h
      have ih := fields_other t ws r q (fun x hx => hl x (by simp [hx])) h
      have hs := takeF_self (hl b (by simp)) ht
      refine ⟨ih.1.trans hs.2.1, ih.2.1.trans hs.2.2, fun c hc hn => ?_⟩
      rw [ih.2.2 c hc (fun x => hn (by simp [x]))]
      exact (takeF_other hc (hl b (by simp)) (fun e => hn (by rw [e]; simp)) ht).1
theorem fields_inv : ∀ (t : List UInt8) (ws : List (List UInt8)) (p q : Pd), (∀ x ∈ t, x ∈ letters) → t.Nodup → ws.length = t.length → fieldsOf t ws p = some q → ws = t.map (fieldW q)
  | [], ws, p, q, _, _, hlen, _ => by simpa using hlen
  | _ :: _, [], _, _, _, _, _, h => by simp [fieldsOf] at h
  | b :: t, w :: ws, p, q, hl, hnd, hlen, h => by
    unfold fieldsOf at h
    cases ht : takeF b w p with
    | none => rw [ht] at h; cases h
    | some r =>
      rw [ht] at h
      have ih := fields_inv t ws r q (fun x hx => hl x (by simp [hx])) (List.nodup_cons.1 hnd).2 (by simpa using hlen) h
      have ho := (fields_other t ws r q (fun x hx => hl x (by simp [hx])) h).2.2 b (hl b (by simp)) (List.nodup_cons.1 hnd).1
      rw [List.map_cons, ho, ← (takeF_self (hl b (by simp)) ht).1, ← ih]
theorem has_good : ∀ i : Fin 15, (∀ x ∈ hasL ((i.val : Int) + 1), x ∈ letters) ∧ (hasL ((i.val : Int) + 1)).Nodup := by decide +kernel
/-- A text that is read is the text of what was read. -/
theorem unit_parse (s : List UInt8) (p : Pd) (h : parseT s = some p) : unitText p = s ∧ ckOf p = 0 := by
  unfold parseT parseWs at h
  have hws : ∀ ws, ws = splitBy 32 s → joinBy 32 ws = s := fun ws e => by rw [e]; exact join_split 32 s
  generalize hW : splitBy 32 s = ws at *
  have hj := hws ws rfl
  split at h
  · cases h
  · rename_i hn
    simp only [not_or, Decidable.not_not] at hn
    obtain ⟨hk0, hlen⟩ := hn
    obtain ⟨hk1, hk2, hname⟩ := kindOf_pos _ hk0
    generalize kindOf (ws.getD 0 []) = k at *
    split at h
    · cases h
    · rename_i q hq
      split at h
      · rename_i hck
        cases h
        refine ⟨?_, hck⟩
        obtain ⟨i, rfl⟩ : ∃ i : Nat, k = (i : Int) + 1 := ⟨(k - 1).toNat, by omega⟩
        obtain ⟨hg1, hg2⟩ := has_good ⟨i, by omega⟩
        simp only at hg1 hg2
        generalize hK : ((i : Int) + 1) = k at *
        have hlen2 : (restOf k ws).tail.length = (hasL k).length := by rw [List.length_tail, hlen]; omega
        have hinv := fields_inv _ _ _ _ hg1 hg2 hlen2 hq
        have hoth := fields_other _ _ _ _ hg1 hq
        have hpk : p.k = k := hoth.1
        have hps : p.self = selfAt k ws := hoth.2.1
        have hrest : restOf k ws = ws.getD 0 [] :: (hasL k).map (fieldW p) := by
          rw [← hinv]
          have h0 : (restOf k ws).getD 0 [] = ws.getD 0 [] := by
            unfold restOf; split <;> rfl
          cases hr : restOf k ws with
          | nil => rw [hr] at hlen; simp at hlen; omega
          | cons a t => rw [hr] at h0; rw [← h0]; rfl
        unfold unitText
        rw [← hj]
        congr 1
        unfold wordsP
        rw [hpk, hname]
        cases hself : selfAt k ws with
        | false =>
          rw [hself] at hps
          unfold restOf at hrest
          rw [hself, if_neg (by simp)] at hrest
          rw [hrest]
          congr 1
          have : ∀ t : List UInt8, t.flatMap (fieldWs p) = t.map (fieldW p) := by
            intro t
            induction t with
            | nil => rfl
            | cons c t ih =>
              rw [List.flatMap_cons, List.map_cons, ih]
              unfold fieldWs
              rw [if_neg (by simp [hps])]; rfl
          exact this _
        | true =>
          rw [hself] at hps
          unfold restOf at hrest
          rw [hself, if_pos rfl] at hrest
          unfold selfAt at hself
          simp only [Bool.and_eq_true, decide_eq_true_eq] at hself
          obtain ⟨⟨h3, h4⟩, h5⟩ := hself
          have hh : hasL k = [115, 100] := by rw [h3]; decide
          rw [hh] at hrest ⊢
          match ws, h4 with
          | [a, b, c, d], _ =>
            simp only [List.getD_cons_zero, List.getD_cons_succ, List.map_cons, List.map_nil, List.cons.injEq, and_true, true_and] at hrest h5 ⊢
            simp only [List.flatMap_cons, List.flatMap_nil, List.append_nil, fieldWs, hps]
            simp [hrest.1, hrest.2, h5]
      · cases h
end Go.Proofs.YtlkceignfhnpoaaGreatDoor
end
section
namespace Go.Proofs.YtlkceignfhnpoaaGreatDoor
open Go

theorem ck_parts {k sq n ps mr : Int} {l : List Int} {self : Bool} {dl : Nat} (h : checkOf k sq n ps mr l self dl = 0) :
    (1 ≤ k ∧ k ≤ 15) ∧ l.length ≤ 128 ∧ dl ≤ 200 ∧ ((l.length : Int) = sList k ∨ (sList k < 0 ∧ l.length % 2 = 0)) ∧ (n < 16777216 ∧ ps < 16777216 ∧ mr < 16777216 ∧ ∀ x ∈ l, x < 16777216) ∧
      ((0 < sData k ∨ dl = 0) ∧ (sN k = true ∨ n = 0) ∧ (sPs k = true ∨ ps = 0) ∧ (sMr k = true ∨ mr = 0) ∧ (sSelf k = true ∨ self = false)) ∧ (0 ≤ sq ∧ sq ≤ 255 ∧ (sSq k = true ∨ sq = 0)) := by
  unfold checkOf at h
  split at h
  · omega
  rename_i h1
  split at h
  · omega
  rename_i h2
  rw [ite_eq_left_iff] at h
  have h3 := Classical.byContradiction fun hc => absurd (h hc) (by decide)
  have hk : 1 ≤ k ∧ k ≤ 15 := by simpa [sIs] using h1
  simp only [Bool.and_eq_true] at h3
  obtain ⟨⟨⟨hl, ha⟩, hs⟩, hq⟩ := h3
  unfold listB at hl
  unfold allB lowB at ha
  unfold sqB at hq
  unfold bigB at h2
  unfold someB at hs
  simp only [Bool.and_eq_true, decide_eq_true_eq, List.all_eq_true, Bool.or_eq_true, Bool.not_eq_true'] at ha hq h2 hs hl
  have hd : sData k = 0 ∨ sData k = 64 ∨ sData k = 200 := by
    unfold sData
    split
    · simp
    · split <;> simp
  have hs1 := hs.1.1.1.1
  exact ⟨hk, by omega, by omega, hl, ⟨ha.1.1.1, ha.1.1.2, ha.1.2, ha.2⟩, ⟨hs.1.1.1.1, hs.1.1.1.2, hs.1.1.2, hs.1.2, hs.2⟩, hq.1.1, hq.1.2, hq.2⟩
theorem fit_of (p : Pd) (hn : 0 ≤ p.n) (hps : 0 ≤ p.ps) (hmr : 0 ≤ p.mr) (hl : ∀ x ∈ p.l, 0 ≤ x) (h : ckOf p = 0) : Fit p := by
  obtain ⟨k, sq, n, ps, mr, l, self, d⟩ := p
  unfold ckOf at h
  simp only at hn hps hmr hl h
  obtain ⟨⟨k1, k2⟩, h1, h2, h3, ⟨h4, h5, h6, h7⟩, ⟨h8, h9, h10, h11, h12⟩, h13, h14, h15⟩ := ck_parts h
  have hk : k = 1 ∨ k = 2 ∨ k = 3 ∨ k = 4 ∨ k = 5 ∨ k = 6 ∨ k = 7 ∨ k = 8 ∨ k = 9 ∨ k = 10 ∨ k = 11 ∨ k = 12 ∨ k = 13 ∨ k = 14 ∨ k = 15 := by omega
  refine ⟨k1, k2, ⟨h13, by show sq < _; omega⟩, ⟨hn, h4⟩, ⟨hps, h5⟩, ⟨hmr, h6⟩, fun x hx => ⟨hl x hx, h7 x hx⟩, ?_, ?_, ?_, ?_, ?_, ?_, ?_⟩ <;> simp only
  · rcases hk with rfl | rfl | rfl | rfl | rfl | rfl | rfl | rfl | rfl | rfl | rfl | rfl | rfl | rfl | rfl <;> simp [hasL, sSq] at h15 ⊢ <;> first | exact h15 | skip
  · rcases hk with rfl | rfl | rfl | rfl | rfl | rfl | rfl | rfl | rfl | rfl | rfl | rfl | rfl | rfl | rfl <;> simp [hasL, sN] at h9 ⊢ <;> first | exact h9 | skip
  · rcases hk with rfl | rfl | rfl | rfl | rfl | rfl | rfl | rfl | rfl | rfl | rfl | rfl | rfl | rfl | rfl <;> simp [hasL, sPs] at h10 ⊢ <;> first | exact h10 | skip
  · rcases hk with rfl | rfl | rfl | rfl | rfl | rfl | rfl | rfl | rfl | rfl | rfl | rfl | rfl | rfl | rfl <;> simp [hasL, sMr] at h11 ⊢ <;> first | exact h11 | skip
  · rcases hk with rfl | rfl | rfl | rfl | rfl | rfl | rfl | rfl | rfl | rfl | rfl | rfl | rfl | rfl | rfl <;> simp [hasL, sList] at h3 ⊢ <;> first | exact h3 | skip
  · rcases hk with rfl | rfl | rfl | rfl | rfl | rfl | rfl | rfl | rfl | rfl | rfl | rfl | rfl | rfl | rfl <;> simp [hasL, sData] at h8 ⊢ <;> first | exact h8 | skip
  · rcases hk with rfl | rfl | rfl | rfl | rfl | rfl | rfl | rfl | rfl | rfl | rfl | rfl | rfl | rfl | rfl <;> simp [sSelf] at h12 ⊢ <;> first | (intro hs; rw [hs] at h12; cases h12) | (rw [h12]) | skip
/-- Joined, one by one. -/
theorem join_flat (c : UInt8) : ∀ (w : List UInt8) (ws : List (List UInt8)), joinBy c (w :: ws) = w ++ ws.flatMap (fun v => c :: v)
  | w, [] => by simp [joinBy]
  | w, v :: vs => by
    rw [join_cons c w (by simp), join_flat c v vs]; simp
theorem unit_flat (p : Pd) : unitText p = nameOf p.k ++ (hasL p.k).flatMap (fun c => (fieldWs p c).flatMap (fun v => 32 :: v)) := by
  unfold unitText wordsP
  rw [join_flat, List.flatMap_assoc]
/-- The document's text. -/
def refUnit (p : Pd) : List UInt8 :=
  nameOf p.k ++ (if sSq p.k then [32, 115, 113] ++ Lib.itoa p.sq else []) ++ (if sN p.k then [32, 110] ++ Lib.itoa p.n else []) ++ (if p.k = 10 ∨ p.k = 11 then [32, 112, 115] ++ Lib.itoa p.ps else [])
    ++ (if p.k = 11 ∨ p.k = 12 then [32, 109, 114] ++ Lib.itoa p.mr ++ [32, 108] ++ listW p.l else []) ++ (if p.self then 32 :: selfW else []) ++ (if 0 < sData p.k then [32, 100] ++ hexOf p.d else [])
theorem refUnit_eq (p : Pd) (hp : Fit p) : refUnit p = unitText p := by
  rw [unit_flat]
  unfold refUnit
  have hs := hp.self
  have h1 := hp.k1
  have h2 := hp.k2
  obtain ⟨k, sq, n, ps, mr, l, self, d⟩ := p
  simp only at hs h1 h2 ⊢
  have hk : k = 1 ∨ k = 2 ∨ k = 3 ∨ k = 4 ∨ k = 5 ∨ k = 6 ∨ k = 7 ∨ k = 8 ∨ k = 9 ∨ k = 10 ∨ k = 11 ∨ k = 12 ∨ k = 13 ∨ k = 14 ∨ k = 15 := by omega
  rcases hk with rfl | rfl | rfl | rfl | rfl | rfl | rfl | rfl | rfl | rfl | rfl | rfl | rfl | rfl | rfl <;> cases self <;> simp at hs <;>
    simp [hasL, sSq, sN, sData, fieldWs, fieldW, selfW]
/-- As many words as fields. -/
theorem words_count (p : Pd) (hp : Fit p) : (unitText p).count 32 + 1 = 1 + (if sSq p.k then 1 else 0) + (if sN p.k then 1 else 0) + (if p.k = 10 ∨ p.k = 11 then 1 else 0) + (if p.k = 11 ∨ p.k = 12 then 1 else 0) + (if p.k = 11 ∨ p.k = 12 then 1 else 0) + (if p.self then 1 else 0) + (if 0 < sData p.k then 1 else 0) := by
  rw [← splitBy_length, split_unit p hp]
  have hs := hp.self
  have h1 := hp.k1
  have h2 := hp.k2
  obtain ⟨k, sq, n, ps, mr, l, self, d⟩ := p
  simp only at hs h1 h2 ⊢
  have hk : k = 1 ∨ k = 2 ∨ k = 3 ∨ k = 4 ∨ k = 5 ∨ k = 6 ∨ k = 7 ∨ k = 8 ∨ k = 9 ∨ k = 10 ∨ k = 11 ∨ k = 12 ∨ k = 13 ∨ k = 14 ∨ k = 15 := by omega
  rcases hk with rfl | rfl | rfl | rfl | rfl | rfl | rfl | rfl | rfl | rfl | rfl | rfl | rfl | rfl | rfl <;> cases self <;> simp at hs <;>
    simp [wordsP, hasL, sSq, sN, sData, fieldWs]
theorem unit_inj {p q : Pd} (hp : Fit p) (hq : Fit q) (cp : ckOf p = 0) (cq : ckOf q = 0) (h : unitText p = unitText q) : p = q := by
  have h1 := parse_unit p hp cp
  rw [h, parse_unit q hq cq] at h1
  exact (Option.some.inj h1).symm
theorem parse_none : parseT [] = none := by decide +kernel
theorem join_le (c : UInt8) (m : Nat) : ∀ (ws : List (List UInt8)), (∀ w ∈ ws, w.length ≤ m) → (joinBy c ws).length ≤ ws.length * (m + 1)
  | [], _ => by simp [joinBy]
  | [w], h => by have := h w (by simp); show w.length ≤ 1 * (m + 1); omega
  | w :: v :: ws, h => by
    have h1 := h w (by simp)
    have h2 := join_le c m (v :: ws) (fun x hx => h x (by simp [hx]))
    show (w ++ c :: joinBy c (v :: ws)).length ≤ (ws.length + 1 + 1) * (m + 1)
    rw [List.length_append, List.length_cons, Nat.add_mul]
    simp only [List.length_cons] at h2
    omega
theorem itoa_le (v : Int) (h : 0 ≤ v ∧ v < 16777216) : (Lib.itoa v).length ≤ 21 := Lib.itoa_length_le v (by omega) (by omega)
theorem listW_le (l : List Int) (h : ∀ x ∈ l, 0 ≤ x ∧ x < 16777216) (hl : l.length ≤ 128) : (listW l).length ≤ 2816 := by
  unfold listW
  split
  · simp
  · have := join_le 44 21 (l.map Lib.itoa) (fun w hw => by
      obtain ⟨x, hx, rfl⟩ := List.mem_map.1 hw
      exact itoa_le x (h x hx))
    rw [List.length_map] at this
    omega
theorem ite5 {c : Prop} [Decidable c] {a b : List UInt8} (ha : a.length ≤ 5) (hb : b.length ≤ 5) : (if c then a else b).length ≤ 5 := by split <;> assumption
theorem name_le (k : Int) : (nameOf k).length ≤ 5 := by
  unfold nameOf
  repeat' (refine ite5 ?_ ?_)
  all_goals decide
theorem text_le (p : Pd) (hp : Fit p) (hl : p.l.length ≤ 128) (hd : p.d.length ≤ 200) : (unitText p).length ≤ 4000 := by
  rw [unit_flat]
  have h1 := hp.k1
  have h2 := hp.k2
  have n1 := itoa_le _ hp.sq
  have n2 := itoa_le _ hp.n
  have n3 := itoa_le _ hp.ps
  have n4 := itoa_le _ hp.mr
  have n5 := listW_le _ hp.l hl
  have n6 := hexOf_length p.d
  obtain ⟨k, sq, n, ps, mr, l, self, d⟩ := p
  simp only at *
  have hk : k = 1 ∨ k = 2 ∨ k = 3 ∨ k = 4 ∨ k = 5 ∨ k = 6 ∨ k = 7 ∨ k = 8 ∨ k = 9 ∨ k = 10 ∨ k = 11 ∨ k = 12 ∨ k = 13 ∨ k = 14 ∨ k = 15 := by omega
  rcases hk with rfl | rfl | rfl | rfl | rfl | rfl | rfl | rfl | rfl | rfl | rfl | rfl | rfl | rfl | rfl <;> cases self <;>
    simp [hasL, fieldWs, fieldW, selfW, nameOf] <;> omega
end Go.Proofs.YtlkceignfhnpoaaGreatDoor
end
section
namespace Go.Proofs.YtlkceignfhnpoaaGreatDoor
open Go.RowKit

set_option maxHeartbeats 1000000 in
theorem has_any (k : Int) (w : World) :
    Calls Tryz.prog 189 #[.int .i64 k] w fun e w' => e = .returned (.string ⟨(hasL k).toArray⟩) ∧ w = w' := by
  by_cases hk : k < 1 ∨ 15 < k
  · have hv : hasL k = [] := by unfold hasL; repeat rw [if_neg (by omega)]
    rw [hv]
    have e1 : (k == 1) = false := beq_eq_false_iff_ne.2 (by omega)
    have e2 : (k == 2) = false := beq_eq_false_iff_ne.2 (by omega)
    have e3 : (k == 3) = false := beq_eq_false_iff_ne.2 (by omega)
    have e4 : (k == 4) = false := beq_eq_false_iff_ne.2 (by omega)
    have e5 : (k == 5) = false := beq_eq_false_iff_ne.2 (by omega)
    have e6 : (k == 6) = false := beq_eq_false_iff_ne.2 (by omega)
    have e7 : (k == 7) = false := beq_eq_false_iff_ne.2 (by omega)
    have e8 : (k == 8) = false := beq_eq_false_iff_ne.2 (by omega)
    have e9 : (k == 9) = false := beq_eq_false_iff_ne.2 (by omega)
    have e10 : (k == 10) = false := beq_eq_false_iff_ne.2 (by omega)
    have e11 : (k == 11) = false := beq_eq_false_iff_ne.2 (by omega)
    have e12 : (k == 12) = false := beq_eq_false_iff_ne.2 (by omega)
    have e13 : (k == 13) = false := beq_eq_false_iff_ne.2 (by omega)
    have e14 : (k == 14) = false := beq_eq_false_iff_ne.2 (by omega)
    have e15 : (k == 15) = false := beq_eq_false_iff_ne.2 (by omega)
    clear hv hk
    go_enter Tryz.func189, Tryz.ntmps189
    go_wp2
    go_ret
    exact ⟨rfl, rfl⟩
  · have h : k = 1 ∨ k = 2 ∨ k = 3 ∨ k = 4 ∨ k = 5 ∨ k = 6 ∨ k = 7 ∨ k = 8 ∨ k = 9 ∨ k = 10 ∨ k = 11 ∨ k = 12 ∨ k = 13 ∨ k = 14 ∨ k = 15 := by omega
    clear hk
    rcases h with rfl | rfl | rfl | rfl | rfl | rfl | rfl | rfl | rfl | rfl | rfl | rfl | rfl | rfl | rfl
    all_goals
      go_enter Tryz.func189, Tryz.ntmps189
      go_wp2
      go_ret
      exact ⟨rfl, rfl⟩

theorem info_str : (Tryz.prog.info? 9).map (fun i => (i.zero, i.size, i.bytes)) = some (some (.string ⟨#[]⟩), 1, 16) := by kernel_rfl
def strVT (l : List UInt8) : Value := .string ⟨l.toArray⟩
theorem own_below {w w' : World} {base : Nat} {e : TypeId} {size : Nat} {v : Value} {n : Nat} {xs : List Value} (h : w.ownsRow base e size v n xs) (hb : Below w.heap.size w w') : w'.ownsRow base e size v n xs :=
  h.kept (row := none) ⟨hb.os, hb.tape, hb.output, hb.size, fun k hk _ => hb.block k hk⟩ (by cases hv : v.ownBlock <;> simp)
def ListRel (w : World) (l : List Int) (j : Nat) (v : Value) (wx : World) : Prop :=
  wx.ownsRow w.heap.size 9 1 v j ((l.take j).map fun x => strVT (Lib.itoa x)) ∧ Below w.heap.size w wx
theorem join_lib (c : UInt8) : ∀ ws : List (List UInt8), Lib.join ws [c] = joinBy c ws
  | [] => rfl
  | [w] => Lib.join_one w [c]
  | w :: v :: ws => by
    have ih := join_lib c (v :: ws)
    rw [join_cons c w (by simp), ← ih]
    simp [Lib.join, List.intercalate]
set_option maxHeartbeats 2000000 in
theorem list_any (lv : Value) (l : List Int) (w : World) (hl : IntsR .u32 w lv l) (hx : ∀ x ∈ l, 0 ≤ x ∧ x < 16777216) (hlen : l.length ≤ 128) (he : EnvT w) :
    Calls Tryz.prog 190 #[lv] w fun e w' => e = .returned (.string ⟨(listW l).toArray⟩) ∧ Below w.heap.size w w' := by
  obtain ⟨i0, hi, hz0, hz1, hz2⟩ := info_parts info_str
  have HL := Lib.hid hl
  have HE := Lib.hid he
  have HX := Lib.hid hx
  obtain ⟨a, c, rfl, hc, hm, ha⟩ := hl.len
  clear hl he hx
  by_cases h0 : l = []
  · subst h0
    simp only [List.length_nil] at *
    go_enter Tryz.func190, Tryz.ntmps190
    go_wp2_with fail
    go_ret
    exact ⟨rfl, Below.refl _ _⟩
  have hp : 0 < l.length := List.length_pos_iff.2 h0
  have hb0 : ((l.length : Int) == 0) = false := beq_eq_false_iff_ne.2 (by omega)
  obtain ⟨b, o, rfl⟩ := ha (by omega)
  have HW : Hid (listW l = joinBy 44 (l.map Lib.itoa)) := Lib.hid (by unfold listW; rw [if_neg h0])
  have hwl : Hid ((listW l).length ≤ 2816) := Lib.hid (listW_le l HX.out hlen)
  generalize listW l = LW at *
  clear h0 ha
  go_enter Tryz.func190, Tryz.ntmps190
  go_wp2_with fail
  go_loopw [3, 11] (fun v i wx => ∃ j : Nat, j ≤ l.length ∧ i = .int .i64 j ∧ ListRel w l j v wx) (fun _ i _ => l.length - (intOf i).toNat)
  case atStart => exact ⟨0, by omega, rfl, World.ownsRow_nil _ _ _ _, Below.refl _ _⟩
  case round =>
    obtain ⟨j, hj, rfl, hown, hbel⟩ := hrel
    by_cases hlt : j < l.length
    · have hcell : wr.cell? ⟨b, o + j, none⟩ = some (.int .u32 l[j]) := by
        have h1 := HL.out.at j hlt
        rw [hbel.cell (block_lt_of_cell h1)]; exact h1
      have hxj := HX.out l[j] (List.getElem_mem hlt)
      have HS : Hid ((l.take (j + 1)).map (fun x => strVT (Lib.itoa x)) = (l.take j).map (fun x => strVT (Lib.itoa x)) ++ [strVT (Lib.itoa l[j])]) := Lib.hid (by
        rw [List.take_succ_eq_append_getElem hlt, List.map_append]; rfl)
      generalize l[j] = x at *
      have HIT := Lib.hid (fun W (h : EnvT W) => itoa_any x W (by omega) (by omega) h)
      have HB := Lib.hid hbel
      have HO := Lib.hid hown
      clear hbel hown
      go_wp2_with fail
      refine (HIT.out _ (HE.out.below HB.out)).mono ?_
      rintro e w1 ⟨rfl, hb1⟩
      have hown1 := own_below HO.out hb1
      have hbel1 : Below w.heap.size w w1 := belSeq HB.out hb1
      clear hb1 HB HO
      have hjl : (List.take j l).length = j := by rw [List.length_take]; omega
      go_wp2_with (at_builtin; refine wpList_append_own _ rfl _ _ 60 rfl w.heap.size 9 i0 (.string ⟨#[]⟩) 1 16 Tryz.underlying60 hi hz0 hz1 hz2 rfl (by decide) _ _ _ rfl (hown1.alloc _) ⟨w1.heap.size, 0, none⟩ 1 1 [strVT (Lib.itoa x)] rfl rfl ?c1 ?c2 ?c3 ?c4 ?c5 ?_)
      case c1 => exact (cell_one_new _ _ _)
      case c2 => simp [Value.oneCell', strVT]
      case c3 => unfold maxLen; omega
      case c4 => omega
      case c5 => have := hbel1.size; simp; omega
      intro v' w2 hown2 hgrow hnil
      have HO2 : Hid (w2.ownsRow w.heap.size 9 1 v' (j + 1) ((l.take (j + 1)).map fun x => strVT (Lib.itoa x))) := Lib.hid (by rw [HS.out, List.map_take]; exact hown2)
      have HB2 : Hid (Below w.heap.size w w2) := Lib.hid ((hbel1.alloc hbel1.size _).grown hgrow (by simp; have := hbel1.size; omega) (fun q hq => (hown1.lt q hq).1))
      clear hown1 hown2 hbel1 hgrow hnil
      go_wp2_with fail
      go_roundw
      case rel => exact ⟨j + 1, by omega, by go_num, HO2.out, HB2.out⟩
      case measure => simp [intOf]; omega
    · obtain rfl : j = l.length := by omega
      have hcl := @World.ownsRow.cells _ _ _ _ _ _ _ hown
      have hlt2 := hown.lt
      obtain ⟨hl1, ⟨rfl, h1⟩ | ⟨g, cap, cur, rfl, hg, hcur, hn, hcap, hs, ht⟩⟩ := hown
      · omega
      have HJ : Hid (Calls Tryz.prog 29 #[.slice (some ⟨g, 0, none⟩) l.length cap, .string ⟨#[44]⟩] wr fun e w' => e = .returned (.string ⟨LW.toArray⟩) ∧ Below wr.heap.size wr w') := Lib.hid (by
        have hmm : ((l.map fun x => (⟨(Lib.itoa x).toArray⟩ : ByteArray)).map (·.data.toList)) = l.map Lib.itoa := by simp
        have := Tryz.strings_Join g 0 cap (l.map fun x => ⟨(Lib.itoa x).toArray⟩) ⟨#[44]⟩ wr (fun j x hx => by
          have h2 := hcl (g := g) rfl j (.string x) (by
            rw [List.take_of_length_le (Nat.le_refl _)]
            simp only [List.getElem?_map, Option.map_eq_some_iff] at hx ⊢
            obtain ⟨y, hy, rfl⟩ := hx
            exact ⟨y, hy, rfl⟩)
          by_cases hj0 : j = 0
          · subst hj0; simpa [Addr.add] using h2
          · simpa [Addr.add, hj0] using h2) (hlt2 g rfl).2 (by simp; omega) (by simpa using hn) (by
          rw [hmm]
          show (Lib.join _ [44]).length ≤ _
          rw [join_lib, ← HW.out]; have := hwl.out; omega)
        rw [hmm] at this
        rw [show (⟨#[44]⟩ : ByteArray).data.toList = [44] from rfl, join_lib, ← HW.out] at this
        simpa using this)
      clear hcl hlt2 hl1 hcur hs ht
      have HB := Lib.hid hbel
      clear hbel
      go_wp2_with fail
      refine HJ.out.mono ?_
      rintro e w2 ⟨rfl, hb2⟩
      have HB2 := Lib.hid (belSeq HB.out hb2)
      clear hb2
      go_wp2_with fail
      go_ret
      exact ⟨rfl, HB2.out⟩
end Go.Proofs.YtlkceignfhnpoaaGreatDoor
end
section
namespace Go.Proofs.YtlkceignfhnpoaaGreatDoor
open Go.RowKit

/-- A kind's word. -/
def kindWord (k : Int) : ByteArray :=
  if k = 1 then ⟨#[98, 103, 110]⟩ else if k = 2 then ⟨#[98, 103, 97, 107]⟩ else if k = 3 then ⟨#[101, 110, 100]⟩ else if k = 4 then ⟨#[101, 110, 100, 97, 107]⟩ else if k = 5 then ⟨#[114, 115]⟩
  else if k = 6 then ⟨#[114, 115, 97, 107]⟩ else if k = 7 then ⟨#[98, 103, 114, 101, 106]⟩ else if k = 8 then ⟨#[115, 100]⟩ else if k = 9 then ⟨#[101, 114]⟩ else if k = 10 then ⟨#[112, 111, 108, 108]⟩
  else if k = 11 then ⟨#[115, 116, 97, 116]⟩ else if k = 12 then ⟨#[117, 115, 116, 97, 116]⟩ else if k = 13 then ⟨#[117, 100]⟩ else if k = 14 then ⟨#[109, 100]⟩ else if k = 15 then ⟨#[101, 114, 97, 107]⟩ else ⟨#[]⟩

theorem field_is (a b c d e f g : Value) (x : Value) (w : World) : (Instr.field 313 (.agg #[a, b, c, d, e, f, g, x]) 7).run Tryz.prog w = .ok x w := by kernel_rfl
set_option maxHeartbeats 2000000 in
theorem Name_none (k sq n ps mr : Int) (lv : Value) (self : Bool) (d : ByteArray) (w : World) (hk : k < 1 ∨ 15 < k) :
    Calls Tryz.prog 188 #[.agg #[.int .i64 k, .int .i64 sq, .int .u32 n, .int .u32 ps, .int .u32 mr, lv, .bool self, .string d]] w fun e w' => e = .returned (.string (kindWord k)) ∧ Below w.heap.size w w' := by
  have HW : Hid (kindWord k = ⟨#[]⟩) := Lib.hid (by
    unfold kindWord
    repeat rw [if_neg (by omega)])
  have HX := Lib.hid (shapeOf_any k)
  have hs : sIs k = false := by unfold sIs; exact decide_eq_false (by omega)
  unfold shapeV at HX
  rw [hs] at HX
  clear hs hk
  rw [HW.out]
  have hf := field_is
  go_enter Tryz.func188, Tryz.ntmps188
  go_wp2_with fail
  refine (HX.out _).mono ?_
  rintro e w1 ⟨rfl, hb⟩
  go_wp2_with fail
  go_ret
  exact ⟨rfl, belAlloc hb (by simp)⟩


theorem name_index (k : Int) (h1 : 1 ≤ k) (h2 : k ≤ 15) (w : World) : (Instr.index 350 (.agg #[.string ⟨#[]⟩, .string ⟨#[98, 103, 110]⟩, .string ⟨#[98, 103, 97, 107]⟩, .string ⟨#[101, 110, 100]⟩, .string ⟨#[101, 110, 100, 97, 107]⟩, .string ⟨#[114, 115]⟩, .string ⟨#[114, 115, 97, 107]⟩, .string ⟨#[98, 103, 114, 101, 106]⟩, .string ⟨#[115, 100]⟩, .string ⟨#[101, 114]⟩, .string ⟨#[112, 111, 108, 108]⟩, .string ⟨#[115, 116, 97, 116]⟩, .string ⟨#[117, 115, 116, 97, 116]⟩, .string ⟨#[117, 100]⟩, .string ⟨#[109, 100]⟩, .string ⟨#[101, 114, 97, 107]⟩]) (.int .i64 k)).run Tryz.prog w = .ok (.string (kindWord k)) w := by
  have h : k = 1 ∨ k = 2 ∨ k = 3 ∨ k = 4 ∨ k = 5 ∨ k = 6 ∨ k = 7 ∨ k = 8 ∨ k = 9 ∨ k = 10 ∨ k = 11 ∨ k = 12 ∨ k = 13 ∨ k = 14 ∨ k = 15 := by omega
  rcases h with rfl | rfl | rfl | rfl | rfl | rfl | rfl | rfl | rfl | rfl | rfl | rfl | rfl | rfl | rfl
  all_goals (show _ = _; kernel_rfl)
set_option maxHeartbeats 2000000 in
theorem Name_some (k sq n ps mr : Int) (lv : Value) (self : Bool) (d : ByteArray) (w : World) (hk1 : 1 ≤ k) (hk2 : k ≤ 15) :
    Calls Tryz.prog 188 #[.agg #[.int .i64 k, .int .i64 sq, .int .u32 n, .int .u32 ps, .int .u32 mr, lv, .bool self, .string d]] w fun e w' => e = .returned (.string (kindWord k)) ∧ Below w.heap.size w w' := by
  have HX := Lib.hid (shapeOf_any k)
  have hs : sIs k = true := by unfold sIs; exact decide_eq_true ⟨hk1, hk2⟩
  unfold shapeV at HX
  rw [hs] at HX
  clear hs
  have hf := field_is
  have hi := name_index k hk1 hk2
  generalize kindWord k = kw at *
  clear hk1 hk2
  go_enter Tryz.func188, Tryz.ntmps188
  go_wp2_with fail
  refine (HX.out _).mono ?_
  rintro e w1 ⟨rfl, hb⟩
  have hz : w.heap.size < w1.heap.size := by have := hb.size; simp at this; omega
  have hc : w1.cell? ⟨w.heap.size, 0, none⟩ = some (.int .i64 k) := (bcell hb w.heap.size 0 (by simp)).trans (by first | (go_simp; done) | (simp; done))
  go_wp2_with fail
  go_ret
  exact ⟨rfl, belAlloc hb (by simp)⟩
theorem Name_any (k sq n ps mr : Int) (lv : Value) (self : Bool) (d : ByteArray) (w : World) :
    Calls Tryz.prog 188 #[.agg #[.int .i64 k, .int .i64 sq, .int .u32 n, .int .u32 ps, .int .u32 mr, lv, .bool self, .string d]] w fun e w' => e = .returned (.string (kindWord k)) ∧ Below w.heap.size w w' := by
  by_cases hk : k < 1 ∨ 15 < k
  · exact Name_none k sq n ps mr lv self d w hk
  · exact Name_some k sq n ps mr lv self d w (by omega) (by omega)
end Go.Proofs.YtlkceignfhnpoaaGreatDoor
end
section
namespace Go.Proofs.YtlkceignfhnpoaaGreatDoor
open Go.RowKit

theorem of_any (x : Int) (w : World) : Calls Tryz.prog 167 #[.int .i64 x] w fun e w' => e = .returned (.int .u32 (x % 16777216)) ∧ w = w' := by
  obtain ⟨u, hu, hul⟩ : ∃ u : Nat, x % 4294967296 = (u : Int) ∧ u < 4294967296 := ⟨(x % 4294967296).toNat, by omega, by omega⟩
  have hx : x % 16777216 = ((u % 16777216 : Nat) : Int) := by omega
  rw [hx]
  have k1 : bits .and .u32 (u : Int) 16777215 = ((u % 16777216 : Nat) : Int) := by
    rw [show (16777215 : Int) = ((16777215 : Nat) : Int) from rfl, u32_and_nat u 16777215 hul (by omega), show 16777215 = 2 ^ 24 - 1 from rfl, Nat.and_two_pow_sub_one_eq_mod]
  clear hx
  go_enter Tryz.func167, Tryz.ntmps167
  go_wp2_with fail
  go_ret
  exact ⟨rfl, rfl⟩
theorem kindWord_name (k : Int) : kindWord k = ⟨(nameOf k).toArray⟩ := by
  by_cases hk : 1 ≤ k ∧ k ≤ 15
  · have h : k = 1 ∨ k = 2 ∨ k = 3 ∨ k = 4 ∨ k = 5 ∨ k = 6 ∨ k = 7 ∨ k = 8 ∨ k = 9 ∨ k = 10 ∨ k = 11 ∨ k = 12 ∨ k = 13 ∨ k = 14 ∨ k = 15 := by omega
    rcases h with rfl | rfl | rfl | rfl | rfl | rfl | rfl | rfl | rfl | rfl | rfl | rfl | rfl | rfl | rfl <;> rfl
  · unfold kindWord nameOf
    repeat rw [if_neg (by omega)]
theorem kindOf_hit (w : List UInt8) (j : Nat) (hj : j < 15) (hn : ∀ i : Nat, i < j → nameOf ((i : Int) + 1) ≠ w) (h : nameOf ((j : Int) + 1) = w) : kindOf w = (j : Int) + 1 := by
  have hf : (List.range 15).find? (fun (i : Nat) => decide (nameOf ((i : Int) + 1) = w)) = some j := by
    rw [List.find?_eq_some_iff_getElem]
    refine ⟨by simpa using h, j, by simpa using hj, by simp, fun i hi => ?_⟩
    simpa using hn i hi
  unfold kindOf; rw [hf]
theorem kindOf_miss (w : List UInt8) (hn : ∀ i : Nat, i < 15 → nameOf ((i : Int) + 1) ≠ w) : kindOf w = 0 := by
  have hf : (List.range 15).find? (fun (i : Nat) => decide (nameOf ((i : Int) + 1) = w)) = none := by
    rw [List.find?_eq_none]
    intro i hi
    simpa using hn i (by simpa using hi)
  unfold kindOf; rw [hf]
end Go.Proofs.YtlkceignfhnpoaaGreatDoor
end
section
namespace Go.Proofs.YtlkceignfhnpoaaGreatDoor
open Go.RowKit

def fieldF (p : Pd) (c : UInt8) : List UInt8 := (fieldWs p c).flatMap (fun v => 32 :: v)
def accOf (p : Pd) (j : Nat) : List UInt8 := nameOf p.k ++ ((hasL p.k).take j).flatMap (fieldF p)
theorem accOf_all (p : Pd) (j : Nat) (h : (hasL p.k).length ≤ j) : accOf p j = unitText p := by
  unfold accOf; rw [List.take_of_length_le h, unit_flat]; rfl
theorem accOf_step (p : Pd) (j : Nat) (h : j < (hasL p.k).length) : accOf p (j + 1) = accOf p j ++ fieldF p (hasL p.k)[j] := by
  unfold accOf; rw [List.take_succ_eq_append_getElem h, List.flatMap_append]; simp
theorem flat_le {α : Type} (f : α → List UInt8) (l : List α) (j : Nat) : ((l.take j).flatMap f).length ≤ (l.flatMap f).length := by
  conv => rhs; rw [← List.take_append_drop j l, List.flatMap_append, List.length_append]
  omega
theorem accOf_le (p : Pd) (j : Nat) : (accOf p j).length ≤ (unitText p).length := by
  rw [unit_flat]
  unfold accOf
  rw [List.length_append, List.length_append]
  have := flat_le (fieldF p) (hasL p.k) j
  show _ + _ ≤ _ + ((hasL p.k).flatMap (fieldF p)).length
  omega
def UnitRel (w : World) (p : Pd) (b g : Nat) (cs : List Value) (j : Nat) (v : Value) (wx : World) : Prop :=
  (∃ S : ByteArray, v = .string S ∧ S.data.toList = accOf p j) ∧ wx.heap[g]? = some (.stringIter ⟨(hasL p.k).toArray⟩ j) ∧ Below w.heap.size w wx ∧ BoxAt wx b 150 cs ∧ b ≠ g ∧ w.heap.size ≤ g
/-- Behind 'next'. -/
def UnitMid (w : World) (p : Pd) (b g : Nat) (cs : List Value) (j : Nat) (wx : World) : Prop :=
  wx.heap[g]? = some (.stringIter ⟨(hasL p.k).toArray⟩ (j + 1)) ∧ Below w.heap.size w wx ∧ BoxAt wx b 150 cs ∧ b ≠ g ∧ w.heap.size ≤ g
theorem UnitRel.mid {w wx : World} {p : Pd} {b g : Nat} {cs : List Value} {j : Nat} {v : Value} (h : UnitRel w p b g cs j v wx) : UnitMid w p b g cs j (wx.iterAt g ⟨(hasL p.k).toArray⟩ (j + 1)) := by
  obtain ⟨_, h1, h2, h3, h4, h5⟩ := h
  exact ⟨Lib.iterAt_heap _ _ _ _ _ h1, Lib.below_iterAt h2 h5 _ _, (Lib.iterAt_other _ _ _ _ _ h4).trans h3, h4, h5⟩
theorem UnitMid.keep {w wx wy : World} {p : Pd} {b g : Nat} {cs : List Value} {j : Nat} (h : UnitMid w p b g cs j wx) (hb : Below wx.heap.size wx wy) : UnitMid w p b g cs j wy := by
  obtain ⟨h1, h2, h3, h4, h5⟩ := h
  exact ⟨(hb.block g (Array.getElem?_eq_some_iff.1 h1).1).trans h1, belSeq h2 hb, h3.below hb h3.lt, h4, h5⟩
theorem UnitMid.next {w wx : World} {p : Pd} {b g : Nat} {cs : List Value} {j : Nat} (h : UnitMid w p b g cs j wx) (S : ByteArray) (hS : S.data.toList = accOf p (j + 1)) : UnitRel w p b g cs (j + 1) (.string S) wx :=
  ⟨⟨S, rfl, hS⟩, h.1, h.2.1, h.2.2.1, h.2.2.2.1, h.2.2.2.2⟩
theorem UnitMid.meas {w wx wr : World} {p : Pd} {b g : Nat} {cs : List Value} {j : Nat} {v : Value} (h : UnitMid w p b g cs j wx) (h0 : UnitRel w p b g cs j v wr) (hlt : j < (hasL p.k).length) : (hasL p.k).length - wx.iterPos g < (hasL p.k).length - wr.iterPos g := by
  rw [iterPos_of h.1, iterPos_of h0.2.1]; omega
theorem has_letters (k : Int) : ∀ c ∈ hasL k, c ∈ letters := by
  unfold hasL
  repeat' split
  all_goals decide
theorem ite4 {c : Prop} [Decidable c] {a b : List UInt8} (ha : a.length ≤ 4) (hb : b.length ≤ 4) : (if c then a else b).length ≤ 4 := by split <;> assumption
theorem has_le (k : Int) : (hasL k).length ≤ 4 := by
  unfold hasL
  repeat' (refine ite4 ?_ ?_)
  all_goals decide
set_option maxRecDepth 100000 in
set_option maxHeartbeats 1000000 in
theorem unit_bad (k sq n ps mr : Int) (lv : Value) (l : List Int) (self : Bool) (d : ByteArray) (w : World)
    (hn : 0 ≤ n ∧ n < 4294967296) (hps : 0 ≤ ps ∧ ps < 4294967296) (hmr : 0 ≤ mr ∧ mr < 4294967296) (hl : IntsR .u32 w lv l) (hll : ∀ x ∈ l, 0 ≤ x ∧ x < 4294967296)
    (hd : d.size ≤ 1000000) (hlen : l.length ≤ 1000000) (hck : checkOf k sq n ps mr l self d.size ≠ 0) :
    Calls Tryz.prog 124 #[pduV k sq n ps mr lv self d] w fun e w' => e = .returned (.string ⟨#[]⟩) ∧ Below w.heap.size w w' := by
  have HLL := Lib.hid hll
  have hck2 : (checkOf k sq n ps mr l self d.size != 0) = true := by simpa using hck
  have HCK := Lib.hid (check_any k sq n ps mr lv l self d (w.alloc (.cells #[.int .i64 k, .int .i64 sq, .int .u32 n, .int .u32 ps, .int .u32 mr, lv, .bool self, .string d] 150)) hn hps hmr hl.alloc HLL.out hd hlen)
  unfold pduV at *
  generalize checkOf k sq n ps mr l self d.size = R at *
  clear hll hck
  go_enter Tryz.func124, Tryz.ntmps124
  go_wp2_with fail
  refine HCK.out.mono ?_
  rintro e w1 ⟨rfl, hb⟩
  go_wp2_with fail
  go_ret
  exact ⟨rfl, belAlloc hb (by simp)⟩
set_option maxRecDepth 100000 in
set_option maxHeartbeats 4000000 in
theorem unit_ok (k sq n ps mr : Int) (lv : Value) (l : List Int) (self : Bool) (d : ByteArray) (w : World) (hn : 0 ≤ n) (hps : 0 ≤ ps) (hmr : 0 ≤ mr) (hl : IntsR .u32 w lv l) (hll : ∀ x ∈ l, 0 ≤ x)
    (hck : checkOf k sq n ps mr l self d.size = 0) (he : EnvT w) :
    Calls Tryz.prog 124 #[pduV k sq n ps mr lv self d] w fun e w' => e = .returned (.string ⟨(unitText ⟨k, sq, n, ps, mr, l, self, d.data.toList⟩).toArray⟩) ∧ Below w.heap.size w w' := by
  have hck' : ckOf ⟨k, sq, n, ps, mr, l, self, d.data.toList⟩ = 0 := by unfold ckOf; rw [size_len]; exact hck
  have hfit := fit_of ⟨k, sq, n, ps, mr, l, self, d.data.toList⟩ hn hps hmr hll hck'
  obtain ⟨⟨hk1, hk2⟩, hlen, hdl, _, ⟨hn1, hps1, hmr1, hll1⟩, _, hsq0, hsq1, _⟩ := ck_parts hck
  have htl := text_le _ hfit hlen (by rw [size_len]; exact hdl)
  have HLL : Hid (∀ x ∈ l, 0 ≤ x ∧ x < 4294967296) := Lib.hid (fun x hx => ⟨hll x hx, by have := hll1 x hx; omega⟩)
  have HLS : Hid (∀ x ∈ l, 0 ≤ x ∧ x < 16777216) := Lib.hid (fun x hx => ⟨hll x hx, hll1 x hx⟩)
  have HL := Lib.hid hl
  have HE := Lib.hid he
  obtain ⟨al, cl', rfl, _, _, _⟩ := hl.len
  have HCK := Lib.hid (check_any k sq n ps mr (.slice al l.length cl') l self d (w.alloc (.cells #[.int .i64 k, .int .i64 sq, .int .u32 n, .int .u32 ps, .int .u32 mr, .slice al l.length cl', .bool self, .string d] 150)) (by omega) (by omega) (by omega) hl.alloc HLL.out (by omega) (by omega))
  rw [hck] at HCK
  have HNM := Lib.hid (fun w => Name_any k sq n ps mr (.slice al l.length cl') self d w)
  have hnl := name_le k
  rw [kindWord_name] at HNM
  have HHA := Lib.hid (has_any k)
  have HLE := Lib.hid (fun j => accOf_le ⟨k, sq, n, ps, mr, l, self, d.data.toList⟩ j)
  have HAL := Lib.hid (fun j h => accOf_all ⟨k, sq, n, ps, mr, l, self, d.data.toList⟩ j h)
  have HTL := Lib.hid htl
  have hhl := has_le k
  unfold pduV at *
  clear hck' hfit hll hll1 hck he hl htl
  go_enter Tryz.func124, Tryz.ntmps124
  have HBX0 := Lib.hid (BoxAt.new w 150 [.int .i64 k, .int .i64 sq, .int .u32 n, .int .u32 ps, .int .u32 mr, .slice al l.length cl', .bool self, .string d])
  go_wp2_with fail
  refine HCK.out.mono ?_
  rintro e w1 ⟨rfl, hb⟩
  have HBX1 := Lib.hid (HBX0.out.below hb (by simp))
  have HB1 := Lib.hid (belAlloc hb (by simp))
  clear hb HBX0 HCK
  obtain ⟨q0, q1, q2, q3, q4, q5, q6, q7⟩ := HBX1.out.cells8
  go_wp2_with fail
  refine (HNM.out _).mono ?_
  rintro e w2 ⟨rfl, hb⟩
  have HBX2 := Lib.hid (HBX1.out.below hb HBX1.out.lt)
  have HB2 := Lib.hid (belSeq HB1.out hb)
  clear hb HBX1 HB1 HNM q0 q1 q2 q3 q4 q5 q6 q7
  obtain ⟨q0, q1, q2, q3, q4, q5, q6, q7⟩ := HBX2.out.cells8
  clear q1 q2 q3 q4 q5 q6 q7
  go_wp2_with fail
  refine (HHA.out _).mono ?_
  rintro e w2' ⟨rfl, rfl⟩
  have HRS := Lib.hid (show UnitRel w ⟨k, sq, n, ps, mr, l, self, d.data.toList⟩ w.heap.size w2.heap.size [.int .i64 k, .int .i64 sq, .int .u32 n, .int .u32 ps, .int .u32 mr, .slice al l.length cl', .bool self, .string d] 0 (.string ⟨(nameOf k).toArray⟩) (w2.iter ⟨(hasL k).toArray⟩ 0) from
    ⟨⟨_, rfl, by simp [accOf]⟩, World.iter_heap _ _ _, HB2.out.alloc HB2.out.size _, HBX2.out.alloc, Nat.ne_of_lt HBX2.out.lt, HB2.out.size⟩)
  clear HBX2 HB2 q0
  go_wp2_with fail
  generalize w2.iter ⟨(hasL k).toArray⟩ 0 = W0 at *
  generalize w2.heap.size = g at *
  go_loopw [3] (fun v wx => ∃ j : Nat, j ≤ (hasL k).length ∧ UnitRel w ⟨k, sq, n, ps, mr, l, self, d.data.toList⟩ w.heap.size g [.int .i64 k, .int .i64 sq, .int .u32 n, .int .u32 ps, .int .u32 mr, .slice al l.length cl', .bool self, .string d] j v wx) (fun _ wx => (hasL k).length - wx.iterPos g)
  case atStart => exact ⟨0, by omega, HRS.out⟩
  case round =>
    clear HRS
    obtain ⟨j, hj, hrl⟩ := hrel
    have HR := Lib.hid hrl
    obtain ⟨⟨S, rfl, hS⟩, hit, hbel, hbx, hne, hge⟩ := hrl
    have HS := Lib.hid hS
    have hSz : S.size ≤ 4000 := by
      have h1 := HLE.out j
      have h2 := HTL.out
      rw [← size_len, hS]; omega
    have HB := Lib.hid hbel
    clear hS hbx hbel
    by_cases hlt : j < (hasL k).length
    · have hlt' : j < (⟨(hasL k).toArray⟩ : ByteArray).size := by rw [size_arr]; exact hlt
      have hgb : (⟨(hasL k).toArray⟩ : ByteArray)[j] = (hasL k)[j] := rfl
      have hmem := has_letters k _ (List.getElem_mem hlt)
      have HSS := Lib.hid (accOf_step ⟨k, sq, n, ps, mr, l, self, d.data.toList⟩ j hlt)
      have hc7 : ((hasL k)[j]'hlt).toNat < 128 := by
        simp only [letters, List.mem_cons, List.not_mem_nil, or_false] at hmem
        rcases hmem with h | h | h | h | h | h <;> rw [h] <;> decide
      have hnx : ∀ ty, (Instr.next (.pointer (some ⟨g, 0, none⟩)) true ty).run Tryz.prog wr = .ok (.tuple #[.bool true, .int .i64 (j : Int), .int .i32 ((((hasL k)[j]'hlt).toNat : Nat) : Int)]) (wr.iterAt g ⟨(hasL k).toArray⟩ (j + 1)) := fun ty => Lib.run_next_ascii_at (P := Tryz.prog) wr g ⟨(hasL k).toArray⟩ j ty hit hlt' (by rw [hgb]; exact hc7)
      have HR1 := Lib.hid HR.out.mid
      simp only at HR1
      have HE1 := Lib.hid (HE.out.below HR1.out.2.1)
      have HL1 := Lib.hid (HL.out.below HR1.out.2.1 (Nat.le_refl _))
      clear hc7 hgb hlt' hit HB
      generalize hcc : (hasL k)[j]'hlt = c at *
      obtain ⟨q0, q1, q2, q3, q4, q5, q6, q7⟩ := HR1.out.2.2.1.cells8
      generalize wr.iterAt g ⟨(hasL k).toArray⟩ (j + 1) = W1 at *
      simp only [letters, List.mem_cons, List.not_mem_nil, or_false] at hmem
      clear hcc
      rcases hmem with hc | hc | hc | hc | hc | hc
      · subst hc
        have HF : Hid (fieldF ⟨k, sq, n, ps, mr, l, self, d.data.toList⟩ 115 = [32, 115, 113] ++ Lib.itoa sq) := Lib.hid (by simp [fieldF, fieldWs, fieldW])
        have HIT := Lib.hid (fun W (h : EnvT W) => itoa_any sq W (by omega) (by omega) h)
        have hil := Lib.itoa_length_le sq (by omega) (by omega)
        generalize fieldF ⟨k, sq, n, ps, mr, l, self, d.data.toList⟩ 115 = FF at *
        go_wp2_with fail
        refine (HIT.out _ HE1.out).mono ?_
        rintro e w2 ⟨rfl, hb2⟩
        have HR2 := Lib.hid (HR1.out.keep hb2)
        clear hb2
        go_wp2_with fail
        go_roundw
        case rel => exact ⟨j + 1, by omega, HR2.out.next _ (by simp only [dapp]; rw [HS.out, HSS.out, HF.out])⟩
        case measure => exact HR2.out.meas HR.out hlt
      · subst hc
        have HF : Hid (fieldF ⟨k, sq, n, ps, mr, l, self, d.data.toList⟩ 110 = [32, 110] ++ Lib.itoa n) := Lib.hid (by simp [fieldF, fieldWs, fieldW])
        have HIT := Lib.hid (fun W (h : EnvT W) => itoa_any n W (by omega) (by omega) h)
        have hil := Lib.itoa_length_le n (by omega) (by omega)
        generalize fieldF ⟨k, sq, n, ps, mr, l, self, d.data.toList⟩ 110 = FF at *
        go_wp2_with fail
        refine (HIT.out _ HE1.out).mono ?_
        rintro e w2 ⟨rfl, hb2⟩
        have HR2 := Lib.hid (HR1.out.keep hb2)
        clear hb2
        go_wp2_with fail
        go_roundw
        case rel => exact ⟨j + 1, by omega, HR2.out.next _ (by simp only [dapp]; rw [HS.out, HSS.out, HF.out])⟩
        case measure => exact HR2.out.meas HR.out hlt
      · subst hc
        have HF : Hid (fieldF ⟨k, sq, n, ps, mr, l, self, d.data.toList⟩ 112 = [32, 112, 115] ++ Lib.itoa ps) := Lib.hid (by simp [fieldF, fieldWs, fieldW])
        have HIT := Lib.hid (fun W (h : EnvT W) => itoa_any ps W (by omega) (by omega) h)
        have hil := Lib.itoa_length_le ps (by omega) (by omega)
        generalize fieldF ⟨k, sq, n, ps, mr, l, self, d.data.toList⟩ 112 = FF at *
        go_wp2_with fail
        refine (HIT.out _ HE1.out).mono ?_
        rintro e w2 ⟨rfl, hb2⟩
        have HR2 := Lib.hid (HR1.out.keep hb2)
        clear hb2
        go_wp2_with fail
        go_roundw
        case rel => exact ⟨j + 1, by omega, HR2.out.next _ (by simp only [dapp]; rw [HS.out, HSS.out, HF.out])⟩
        case measure => exact HR2.out.meas HR.out hlt
      · subst hc
        have HF : Hid (fieldF ⟨k, sq, n, ps, mr, l, self, d.data.toList⟩ 109 = [32, 109, 114] ++ Lib.itoa mr) := Lib.hid (by simp [fieldF, fieldWs, fieldW])
        have HIT := Lib.hid (fun W (h : EnvT W) => itoa_any mr W (by omega) (by omega) h)
        have hil := Lib.itoa_length_le mr (by omega) (by omega)
        generalize fieldF ⟨k, sq, n, ps, mr, l, self, d.data.toList⟩ 109 = FF at *
        go_wp2_with fail
        refine (HIT.out _ HE1.out).mono ?_
        rintro e w2 ⟨rfl, hb2⟩
        have HR2 := Lib.hid (HR1.out.keep hb2)
        clear hb2
        go_wp2_with fail
        go_roundw
        case rel => exact ⟨j + 1, by omega, HR2.out.next _ (by simp only [dapp]; rw [HS.out, HSS.out, HF.out])⟩
        case measure => exact HR2.out.meas HR.out hlt
      · subst hc
        have HF : Hid (fieldF ⟨k, sq, n, ps, mr, l, self, d.data.toList⟩ 108 = [32, 108] ++ listW l) := Lib.hid (by simp [fieldF, fieldWs, fieldW])
        have HLI := Lib.hid (list_any (.slice al l.length cl') l W1 HL1.out HLS.out hlen HE1.out)
        have hil := listW_le l HLS.out hlen
        generalize fieldF ⟨k, sq, n, ps, mr, l, self, d.data.toList⟩ 108 = FF at *
        generalize listW l = LW at *
        go_wp2_with fail
        refine HLI.out.mono ?_
        rintro e w2 ⟨rfl, hb2⟩
        have HR2 := Lib.hid (HR1.out.keep hb2)
        clear hb2
        go_wp2_with fail
        go_roundw
        case rel => exact ⟨j + 1, by omega, HR2.out.next _ (by simp only [dapp]; rw [HS.out, HSS.out, HF.out])⟩
        case measure => exact HR2.out.meas HR.out hlt
      · subst hc
        have HF : Hid (fieldF ⟨k, sq, n, ps, mr, l, self, d.data.toList⟩ 100 = (if self then [32, 115, 101, 108, 102] else []) ++ [32, 100] ++ hexOf d.data.toList) := Lib.hid (by cases self <;> simp [fieldF, fieldWs, fieldW, selfW])
        have HHX := Lib.hid (fun W => hex_any d W (by omega))
        have hil := hexOf_length d.data.toList
        rw [size_len] at hil
        generalize fieldF ⟨k, sq, n, ps, mr, l, self, d.data.toList⟩ 100 = FF at *
        generalize hexOf d.data.toList = LW at *
        cases self
        all_goals
          go_wp2_with fail
          refine (HHX.out _).mono ?_
          rintro e w2 ⟨rfl, hb2⟩
          have HR2 := Lib.hid (HR1.out.keep hb2)
          clear hb2
          go_wp2_with fail
          go_roundw
          case rel => exact ⟨j + 1, by omega, HR2.out.next _ (by simp only [dapp]; rw [HS.out, HSS.out, HF.out]; simp)⟩
          case measure => exact HR2.out.meas HR.out hlt
    · have hnx := fun ty => Lib.run_next_end_at (P := Tryz.prog) wr g ⟨(hasL k).toArray⟩ j ty hit (by rw [size_arr]; exact hlt)
      have HA := Lib.hid (HAL.out j (by show (hasL k).length ≤ j; omega))
      clear hit
      go_wp2_with fail
      go_ret
      exact ⟨ret_str (by rw [HS.out, HA.out]), HB.out⟩
end Go.Proofs.YtlkceignfhnpoaaGreatDoor
end
section
namespace Go.Proofs.YtlkceignfhnpoaaGreatDoor
open Go.RowKit

theorem setCells_new (w : World) (t : TypeId) : ∀ (vs pre post : List Value), post.length = vs.length →
    (w.alloc (.cells (pre ++ post).toArray t)).setCells w.heap.size pre.length vs = w.alloc (.cells (pre ++ vs).toArray t)
  | [], pre, post, h => by
    have : post = [] := List.eq_nil_of_length_eq_zero (by simpa using h)
    subst this; rfl
  | v :: vs, pre, [], h => by simp at h
  | v :: vs, pre, p :: post, h => by
    have h1 : (w.alloc (.cells (pre ++ p :: post).toArray t)).setCell ⟨w.heap.size, pre.length, none⟩ v = w.alloc (.cells ((pre ++ [v]) ++ post).toArray t) := by
      rw [World.setCell_alloc_at _ _ _ _ _ rfl]
      congr 2
      apply Array.toList_inj.1
      simp
    have h2 := setCells_new w t vs (pre ++ [v]) post (by simpa using h)
    show ((w.alloc (.cells (pre ++ p :: post).toArray t)).setCell ⟨w.heap.size, pre.length, none⟩ v).setCells w.heap.size (pre.length + 1) vs = _
    rw [h1]
    have e : pre.length + 1 = (pre ++ [v]).length := by simp
    rw [e, h2]
    simp

theorem wpList_store_new {P : Program} {ops : Array Oper} {rest : List Oper} {op : Oper} {a : Act} {w : World} {Q : Exit → Act → World → Prop} (hgd : op.guard = none) (ty : TypeId) (x y : Operand) (ho : op.op = .store ty x y)
    (b : Nat) (t : TypeId) (zs cells : Array Value) (hb : w.heap.size = b) (hx : a.eval x = .pointer (some ⟨b, 0, none⟩)) (hy : a.eval y = .agg cells) (hz : zs.size = cells.size)
    (hi : (P.info? ty).map (·.size) = some cells.size) (h1 : cells.all (·.oneCell') = true)
    (h : wpList P ops Q rest (a.put op.dst undef) (w.alloc (.cells cells t))) : wpList P ops Q (op :: rest) a (w.alloc (.cells zs t)) := by
  subst hb
  refine wpList_store_mid hgd ty x y ho w.heap.size 0 cells hx hy ?_ hi h1 ?_
  · intro j hj
    have hh : (w.alloc (.cells zs t)).heap[w.heap.size]? = some (.cells zs t) := heap_alloc_new w _
    simp only [World.cell?, World.frozen?, hh, Nat.zero_add]
    simp
    first | omega | exact ⟨by omega, by omega⟩
  · have := setCells_new w t cells.toList [] zs.toList (by simpa using hz)
    simp only [List.nil_append, Array.toArray_toList, List.length_nil] at this
    rw [this]
    exact h
end Go.Proofs.YtlkceignfhnpoaaGreatDoor
end
section
namespace Go.Proofs.YtlkceignfhnpoaaGreatDoor
open Go.RowKit

/-- A record's line: ut its unit's text, st its signal's. -/
def recText (en kind : Int) (ut st : List UInt8) (rk : Int) (rd : List UInt8) (rn : Int) : List UInt8 :=
  if kind = 1 then Lib.itoa en ++ [32, 62, 32] ++ ut else if kind = 2 then Lib.itoa en ++ [32, 60, 32] ++ ut else if kind = 3 then Lib.itoa en ++ [32, 35] else if kind = 4 then Lib.itoa en ++ [32, 120]
  else if kind = 5 then Lib.itoa en ++ [32, 58, 32] ++ st else if kind = 6 then Lib.itoa en ++ [32, 63, 32] ++ Lib.itoa rk ++ [32] ++ (if rk = 10 then Lib.itoa rn else hexOf rd) else []
theorem sigText_len (k : Int) (data : List UInt8) (self : Bool) (code : Nat) (n : Int) (h0 : -9223372036854775808 ≤ n) (h1 : n ≤ 9223372036854775807) : (sigText k data self code n).length ≤ 2 * data.length + 60 := by
  have hw := sigWord_length
  have hh := hexOf_length data
  have hi := Lib.itoa_length_le n h0 h1
  have w3 := hw 3
  have wk := hw k
  have w12 := hw 12
  unfold sigText
  split
  · simp
  · split
    · split <;> simp <;> omega
    · split
      · simp; omega
      · split
        · split <;> simp <;> omega
        · omega
structure Rng64 (x : Int) : Prop where
  lo : -9223372036854775808 ≤ x
  hi : x ≤ 9223372036854775807

set_option maxRecDepth 100000 in
set_option maxHeartbeats 4000000 in
theorem record_txt (en kind k sq n ps mr : Int) (la : Option Addr) (ll lc : Nat) (self : Bool) (d : ByteArray) (sk : Int) (sd : ByteArray) (ss : Bool) (sc sn rk : Int) (rd : ByteArray) (rn : Int) (ut : List UInt8) (w : World) (he : EnvT w) (hen : Rng64 en) (hrk : Rng64 rk) (hrn : Rng64 rn) (hsn : Rng64 sn) (hsc0 : 0 ≤ sc) (hsc1 : sc ≤ 255) (hsd : sd.size ≤ 4000) (hrd : rd.size ≤ 4000) (hut : ut.length ≤ 100000)
    (hU : ∀ W, Below w.heap.size w W → Calls Tryz.prog 124 #[.agg #[.int .i64 k, .int .i64 sq, .int .u32 n, .int .u32 ps, .int .u32 mr, .slice la ll lc, .bool self, .string d]] W fun e w' => e = .returned (.string ⟨ut.toArray⟩) ∧ Below W.heap.size W w') :
    Calls Tryz.prog 65 #[.agg #[.int .i64 en, .int .i64 kind, .int .i64 k, .int .i64 sq, .int .u32 n, .int .u32 ps, .int .u32 mr, .slice la ll lc, .bool self, .string d, .int .i64 sk, .string sd, .bool ss, .int .u8 sc, .int .i64 sn, .int .i64 rk, .string rd, .int .i64 rn]] w fun e w' => e = .returned (.string ⟨(recText en kind ut (sigText sk sd.data.toList ss sc.toNat sn) rk rd.data.toList rn).toArray⟩) ∧ Below w.heap.size w w' := by
  have HE := Lib.hid he
  have HUN := Lib.hid hU
  have HIT : Hid (∀ x W, Rng64 x → EnvT W → Calls Tryz.prog 23 #[.int .i64 x] W fun e w' => e = .returned (.string ⟨(Lib.itoa x).toArray⟩) ∧ Below W.heap.size W w') := Lib.hid (fun x W h1 h => itoa_any x W h1.lo h1.hi h)
  have HSG : Hid (∀ W, EnvT W → Calls Tryz.prog 125 #[.agg #[.int .i64 sk, .string sd, .bool ss, .int .u8 sc, .int .i64 sn]] W fun e w' => e = .returned (.string ⟨(sigText sk sd.data.toList ss sc.toNat sn).toArray⟩) ∧ Below W.heap.size W w') := Lib.hid (fun W h => sigtext_any sk sd ss sc sn W (by omega) hsc0 hsc1 hsn.lo hsn.hi h.words h.wordsLt h.pow h.powLt)
  have HHX : Hid (∀ W, Calls Tryz.prog 28 #[.string rd] W fun e w' => e = .returned (.string ⟨(hexOf rd.data.toList).toArray⟩) ∧ Below W.heap.size W w') := Lib.hid (fun W => hex_any rd W (by omega))
  have hl0 := Lib.itoa_length_le en hen.lo hen.hi
  have hl1 := Lib.itoa_length_le rk hrk.lo hrk.hi
  have hl2 := Lib.itoa_length_le rn hrn.lo hrn.hi
  have HRT : Hid (recText en kind ut (sigText sk sd.data.toList ss sc.toNat sn) rk rd.data.toList rn = recText en kind ut (sigText sk sd.data.toList ss sc.toNat sn) rk rd.data.toList rn) := Lib.hid rfl
  have hst := HSG
  clear he hU
  have hsl := sigText_len sk sd.data.toList ss sc.toNat sn hsn.lo hsn.hi
  have hhl := hexOf_length rd.data.toList
  rw [size_len] at hsl hhl
  generalize hsigt : sigText sk sd.data.toList ss sc.toNat sn = st at *
  clear hsigt
  generalize hhex : hexOf rd.data.toList = hx at *
  have HHEX := Lib.hid hhex
  clear hhex
  go_enter Tryz.func65, Tryz.ntmps65
  go_wp2_with fail
  refine (HIT.out en _ hen HE.out.alloc).mono ?_
  rintro e w1 ⟨rfl, hb1⟩
  have HB1 := Lib.hid (belAlloc hb1 (by simp))
  have HX1 := Lib.hid ((BoxAt.new w 154 [.int .i64 en, .int .i64 kind, .int .i64 k, .int .i64 sq, .int .u32 n, .int .u32 ps, .int .u32 mr, .slice la ll lc, .bool self, .string d, .int .i64 sk, .string sd, .bool ss, .int .u8 sc, .int .i64 sn, .int .i64 rk, .string rd, .int .i64 rn]).below hb1 (by simp))
  have HE1 := Lib.hid (HE.out.below HB1.out)
  have q1 := HX1.out.cell 1
  simp only [List.getElem?_cons_succ, List.getElem?_cons_zero] at q1
  clear hb1
  by_cases h1 : kind = 1
  · subst h1
    have HR : Hid (recText en 1 ut st rk rd.data.toList rn = _) := Lib.hid (by unfold recText; simp only [Int.reduceEq, if_true, if_false]; rfl)
    have q2 := HX1.out.cell 2
    have q3 := HX1.out.cell 3
    have q4 := HX1.out.cell 4
    have q5 := HX1.out.cell 5
    have q6 := HX1.out.cell 6
    have q7 := HX1.out.cell 7
    have q8 := HX1.out.cell 8
    have q9 := HX1.out.cell 9
    simp only [List.getElem?_cons_succ, List.getElem?_cons_zero] at q2 q3 q4 q5 q6 q7 q8 q9
    go_wp2_with fail
    refine (HUN.out w1 HB1.out).mono ?_
    rintro e w2 ⟨rfl, hb2⟩
    go_wp2_with fail
    go_ret
    exact ⟨ret_str (by rw [HR.out]; simp [dapp]), belSeq HB1.out hb2⟩
  have b1 : (kind == 1) = false := beq_eq_false_iff_ne.2 h1
  by_cases h2 : kind = 2
  · subst h2
    have HR : Hid (recText en 2 ut st rk rd.data.toList rn = _) := Lib.hid (by unfold recText; simp only [Int.reduceEq, if_true, if_false]; rfl)
    have q2 := HX1.out.cell 2
    have q3 := HX1.out.cell 3
    have q4 := HX1.out.cell 4
    have q5 := HX1.out.cell 5
    have q6 := HX1.out.cell 6
    have q7 := HX1.out.cell 7
    have q8 := HX1.out.cell 8
    have q9 := HX1.out.cell 9
    simp only [List.getElem?_cons_succ, List.getElem?_cons_zero] at q2 q3 q4 q5 q6 q7 q8 q9
    go_wp2_with fail
    refine (HUN.out w1 HB1.out).mono ?_
    rintro e w2 ⟨rfl, hb2⟩
    go_wp2_with fail
    go_ret
    exact ⟨ret_str (by rw [HR.out]; simp [dapp]), belSeq HB1.out hb2⟩
  have b2 : (kind == 2) = false := beq_eq_false_iff_ne.2 h2
  by_cases h3 : kind = 3
  · subst h3
    have HR : Hid (recText en 3 ut st rk rd.data.toList rn = _) := Lib.hid (by unfold recText; simp only [Int.reduceEq, if_true, if_false]; rfl)
    go_wp2_with fail
    go_ret
    exact ⟨ret_str (by rw [HR.out]; simp [dapp]), HB1.out⟩
  have b3 : (kind == 3) = false := beq_eq_false_iff_ne.2 h3
  by_cases h4 : kind = 4
  · subst h4
    have HR : Hid (recText en 4 ut st rk rd.data.toList rn = _) := Lib.hid (by unfold recText; simp only [Int.reduceEq, if_true, if_false]; rfl)
    go_wp2_with fail
    go_ret
    exact ⟨ret_str (by rw [HR.out]; simp [dapp]), HB1.out⟩
  have b4 : (kind == 4) = false := beq_eq_false_iff_ne.2 h4
  by_cases h5 : kind = 5
  · subst h5
    have HR : Hid (recText en 5 ut st rk rd.data.toList rn = _) := Lib.hid (by unfold recText; simp only [Int.reduceEq, if_true, if_false]; rfl)
    have q10 := HX1.out.cell 10
    have q11 := HX1.out.cell 11
    have q12 := HX1.out.cell 12
    have q13 := HX1.out.cell 13
    have q14 := HX1.out.cell 14
    simp only [List.getElem?_cons_succ, List.getElem?_cons_zero] at q10 q11 q12 q13 q14
    go_wp2_with fail
    refine (HSG.out w1 HE1.out).mono ?_
    rintro e w2 ⟨rfl, hb2⟩
    go_wp2_with fail
    go_ret
    exact ⟨ret_str (by rw [HR.out]; simp [dapp]), belSeq HB1.out hb2⟩
  have b5 : (kind == 5) = false := beq_eq_false_iff_ne.2 h5
  by_cases h6 : kind = 6
  · subst h6
    have q15 := HX1.out.cell 15
    have q16 := HX1.out.cell 16
    have q17 := HX1.out.cell 17
    simp only [List.getElem?_cons_succ, List.getElem?_cons_zero] at q15 q16 q17
    go_wp2_with fail
    refine (HHX.out w1).mono ?_
    rintro e w2 ⟨rfl, hb2⟩
    have HB2 := Lib.hid (belSeq HB1.out hb2)
    have HE2 := Lib.hid (HE1.out.below hb2)
    have HX2 := Lib.hid (HX1.out.below hb2 HX1.out.lt)
    have p15 := HX2.out.cell 15
    have p17 := HX2.out.cell 17
    simp only [List.getElem?_cons_succ, List.getElem?_cons_zero] at p15 p17
    clear hb2 q15 q16 q17
    by_cases h10 : rk = 10
    · subst h10
      have HR : Hid (recText en 6 ut st 10 rd.data.toList rn = Lib.itoa en ++ [32, 63, 32] ++ Lib.itoa 10 ++ [32] ++ Lib.itoa rn) := Lib.hid (by unfold recText; simp)
      go_wp2_with fail
      refine (HIT.out rn w2 hrn HE2.out).mono ?_
      rintro e w3 ⟨rfl, hb3⟩
      have HB3 := Lib.hid (belSeq HB2.out hb3)
      have HE3 := Lib.hid (HE2.out.below hb3)
      have r15 := (HX2.out.below hb3 HX2.out.lt).cell 15
      simp only [List.getElem?_cons_succ, List.getElem?_cons_zero] at r15
      clear hb3
      go_wp2_with fail
      refine (HIT.out 10 w3 hrk HE3.out).mono ?_
      rintro e w4 ⟨rfl, hb4⟩
      go_wp2_with fail
      go_ret
      exact ⟨ret_str (by rw [HR.out]; simp [dapp]), belSeq HB3.out hb4⟩
    · have h10b : (rk == 10) = false := beq_eq_false_iff_ne.2 h10
      have HR : Hid (recText en 6 ut st rk rd.data.toList rn = Lib.itoa en ++ [32, 63, 32] ++ Lib.itoa rk ++ [32] ++ hx) := Lib.hid (by unfold recText; simp [h10, HHEX.out])
      go_wp2_with fail
      refine (HIT.out rk w2 hrk HE2.out).mono ?_
      rintro e w4 ⟨rfl, hb4⟩
      go_wp2_with fail
      go_ret
      exact ⟨ret_str (by rw [HR.out]; simp [dapp]), belSeq HB2.out hb4⟩
  have b6 : (kind == 6) = false := beq_eq_false_iff_ne.2 h6
  have HR : Hid (recText en kind ut st rk rd.data.toList rn = []) := Lib.hid (by unfold recText; simp [h1, h2, h3, h4, h5, h6])
  go_wp2_with fail
  go_ret
  exact ⟨ret_str (by rw [HR.out]), HB1.out⟩
end Go.Proofs.YtlkceignfhnpoaaGreatDoor
end
