/-
  Contracts of frame.Flip and of the law's Turn: both turn the bits of a mask.
-/
import Derived.Test.YtdggnpecbdnkeaaDoorPlainFlip
import Derived.Test.YtdggnpecbdnkeaaDoorCommon
import Derived.Test.YtdggnpecbdnkeaaDoorBits
import Derived.Test.YtdggnpecbdnkeaaDoorRows
import Derived.Laws.IdiomStrings
import Derived.Laws.BytesArg
import Derived.Laws.BitsAllLaws
import Derived.BigRegion
import Derived.RegionTactic
import Derived.Lib.Hide
import Derived.Outline
import Derived.Deep.Light
set_option linter.unusedVariables false
set_option linter.unusedSimpArgs false
namespace Go.Proofs.YtdggnpecbdnkeaaDoor
open Go.RowKit

/-- A row of bytes that may be written. -/
def ByteRow (w : World) (g : Nat) (l : List UInt8) : Prop := ∀ j (hj : j < l.length), w.cell? ⟨g, j, none⟩ = some (.int .u8 (l[j].toNat : Int)) ∧ w.frozen? ⟨g, j, none⟩ = false
theorem ByteRow.at {w : World} {g : Nat} {l : List UInt8} (h : ByteRow w g l) (j : Nat) (hj : j < l.length) : w.cell? ⟨g, j, none⟩ = some (.int .u8 ((l.getD j 0).toNat : Int)) := by
  rw [(h j hj).1, List.getD_eq_getElem?_getD, List.getElem?_eq_getElem hj]; rfl
theorem ByteRow.set {w : World} {g : Nat} {l : List UInt8} (h : ByteRow w g l) (k : Nat) (hk : k < l.length) (b : UInt8) : ByteRow (w.setCell ⟨g, k, none⟩ (.int .u8 (b.toNat : Int))) g (l.set k b) := by
  intro j hj
  have hj' : j < l.length := by simpa using hj
  refine ⟨?_, by rw [World.frozen?_setCell]; exact (h j hj').2⟩
  by_cases e : k = j
  · subst e
    rw [World.cell?_setCell_same _ _ _ (h k hk).1]; simp
  · rw [World.cell?_setCell_other _ _ _ _ (by simp [e]), (h j hj').1]; simp [e]
theorem ByteRow.drew {w : World} {g : Nat} {l : List UInt8} (h : ByteRow w g l) : ByteRow w.drew g l := h
/-- What '[]byte(s)' lays. -/
theorem ByteRow.new (w : World) (s : ByteArray) (cap : Nat) (e : TypeId) (hc : s.size ≤ cap) : ByteRow (w.drew.alloc (.cells (bytesRow s cap) e ((bytesRow s cap).size, (bytesRow s cap).size + 1))) w.heap.size s.data.toList := by
  intro j hj
  have hj' : j < s.data.size := by simpa using hj
  constructor
  · have := World.cell?_alloc_mark w.drew (bytesRow s cap) e ((bytesRow s cap).size, (bytesRow s cap).size + 1) j
    rw [show w.drew.heap.size = w.heap.size from rfl] at this
    rw [this, bytesRow_at s cap j hj']; simp
  · have := World.frozen?_alloc_mark w.drew (bytesRow s cap) e (bytesRow s cap).size ((bytesRow s cap).size + 1) j
    rw [show w.drew.heap.size = w.heap.size from rfl] at this
    rw [this]
    have : j < (bytesRow s cap).size := by unfold bytesRow; have : s.data.size = s.size := rfl; simp; omega
    rw [decide_eq_false (by omega)]; rfl
theorem ByteRow.back {w : World} {g : Nat} {l : List UInt8} (h : ByteRow w g l) (cap : Nat) : (convert 45 9 (.slice (some ⟨g, 0, none⟩) l.length cap)).run Tryd.prog w = .ok (.string ⟨l.toArray⟩) w :=
  run_convert_bytes_back w 45 9 5 ⟨g, 0, none⟩ cap l Tryd.underlying45 Tryd.underlying5 Tryd.underlying9 (fun j hj => by
    have e : (⟨g, 0, none⟩ : Addr).add j = ⟨g, j, none⟩ := by unfold Addr.add; split <;> simp_all
    rw [e]; exact (h j hj).1)
theorem and7 (k : Nat) : bits .and .i64 (k : Int) 7 = ((k % 8 : Nat) : Int) := by
  have := mask_i64 (k : Int) 3 (by omega)
  rw [show (2 : Int) ^ 3 - 1 = 7 by decide, show (2 : Int) ^ 3 = 8 by decide] at this
  rw [this]; omega
theorem mask_bit (m i : Nat) (hm : m < 4294967296) : bits .and .u32 ((m : Int) / 2 ^ (31 - i)) 1 = (((m.testBit (31 - i)).toNat : Nat) : Int) := by
  have e : (m : Int) / 2 ^ (31 - i) = ((m / 2 ^ (31 - i) : Nat) : Int) := by simp
  have hle : m / 2 ^ (31 - i) ≤ m := Nat.div_le_self _ _
  rw [e, show (1 : Int) = ((1 : Nat) : Int) from rfl, u32_and_nat _ _ (by omega) (by decide), Nat.and_one_is_mod, Nat.testBit_eq_decide_div_mod_eq]
  have := Nat.mod_two_eq_zero_or_one (m / 2 ^ (31 - i))
  rcases this with h | h <;> rw [h] <;> rfl
theorem wrap_7 (r : Nat) (h : r ≤ 7) : wrap64 (7 - (r : Int)) = ((7 - r : Nat) : Int) := by unfold wrap64; omega
theorem xor_turn (B : UInt8) (b : Bool) (r : Nat) (hr : r ≤ 7) : bits .xor .u8 (B.toNat : Int) ((b.toNat : Int) * 2 ^ (7 - r) % 256) = ((B ^^^ (if b then oneBit r else 0)).toNat : Int) := by
  have e : (b.toNat : Int) * 2 ^ (7 - r) % 256 = (((if b then oneBit r else 0) : UInt8).toNat : Int) := by
    cases b
    · simp
    · simp only [if_true, oneBit_nat]
      have : r = 0 ∨ r = 1 ∨ r = 2 ∨ r = 3 ∨ r = 4 ∨ r = 5 ∨ r = 6 ∨ r = 7 := by omega
      rcases this with rfl | rfl | rfl | rfl | rfl | rfl | rfl | rfl <;> rfl
  rw [e, u8_xor_nat _ _ B.toNat_lt (UInt8.toNat_lt _), UInt8.toNat_xor]
theorem flipTo_in (l : List UInt8) (p : Int) (m i k : Nat) (hk : p + i = (k : Int)) (hl : k < 8 * l.length) : flipTo l p m (i + 1) = (flipTo l p m i).set (k / 8) ((flipTo l p m i).getD (k / 8) 0 ^^^ (if m.testBit (31 - i) then oneBit (k % 8) else 0)) := by
  show (if 0 ≤ p + (i : Int) ∧ p + (i : Int) < 8 * (l.length : Int) then turnB (flipTo l p m i) (p + i).toNat (m.testBit (31 - i)) else flipTo l p m i) = _
  rw [if_pos (by omega), hk]; rfl
theorem flipTo_out (l : List UInt8) (p : Int) (m i : Nat) (h : ¬ (-(i : Int) ≤ p ∧ p < 8 * (l.length : Int) - i)) : flipTo l p m (i + 1) = flipTo l p m i := by
  show (if 0 ≤ p + (i : Int) ∧ p + (i : Int) < 8 * (l.length : Int) then turnB (flipTo l p m i) (p + i).toNat (m.testBit (31 - i)) else flipTo l p m i) = _
  rw [if_neg (by omega)]
theorem flipTo_no (l : List UInt8) (p : Int) (m i : Nat) (h : ¬ (m.testBit (31 - i) = true ∧ 0 ≤ p + (i : Int) ∧ p + (i : Int) < 8 * (l.length : Int))) : flipTo l p m (i + 1) = flipTo l p m i := by
  show (if 0 ≤ p + (i : Int) ∧ p + (i : Int) < 8 * (l.length : Int) then turnB (flipTo l p m i) (p + i).toNat (m.testBit (31 - i)) else flipTo l p m i) = _
  by_cases hc : 0 ≤ p + (i : Int) ∧ p + (i : Int) < 8 * (l.length : Int)
  · rw [if_pos hc]
    have hb : m.testBit (31 - i) = false := by
      cases hb : m.testBit (31 - i) with
      | false => rfl
      | true => exact absurd ⟨hb, hc⟩ h
    have hl : (p + (i : Int)).toNat / 8 < (flipTo l p m i).length := by rw [flipTo_length]; omega
    rw [hb]
    unfold turnB
    rw [if_neg (by simp), UInt8.xor_zero, List.getD_eq_getElem?_getD, List.getElem?_eq_getElem hl]
    exact List.set_getElem_self hl
  · rw [if_neg hc]
theorem xor_one (B : UInt8) (r : Nat) (hr : r ≤ 7) : bits .xor .u8 (B.toNat : Int) (128 / 2 ^ r) = ((B ^^^ oneBit r).toNat : Int) := by
  have e : (128 : Int) / 2 ^ r = ((oneBit r).toNat : Int) := by
    rw [oneBit_nat]
    have : r = 0 ∨ r = 1 ∨ r = 2 ∨ r = 3 ∨ r = 4 ∨ r = 5 ∨ r = 6 ∨ r = 7 := by omega
    rcases this with rfl | rfl | rfl | rfl | rfl | rfl | rfl | rfl <;> rfl
  rw [e, u8_xor_nat _ _ B.toNat_lt (UInt8.toNat_lt _), UInt8.toNat_xor]
def FlipRel (w : World) (g : Nat) (l : List UInt8) (wx : World) : Prop := ByteRow wx g l ∧ Below w.heap.size w wx ∧ w.heap.size ≤ g ∧ g < wx.heap.size

theorem FlipRel.step {w wr : World} {g : Nat} {l : List UInt8} (h : FlipRel w g l wr) (k : Nat) (hk : k < l.length) (b : UInt8) (v : Int) (hv : v = (b.toNat : Int)) : FlipRel w g (l.set k b) (wr.setCell ⟨g, k, none⟩ (.int .u8 v)).drew := by
  subst hv
  exact ⟨(h.1.set k hk b).drew, (h.2.1.setCell h.2.2.1 _).drew, h.2.2.1, by simpa using h.2.2.2⟩

set_option maxRecDepth 100000 in
set_option maxHeartbeats 1000000 in
theorem flip_any (s : ByteArray) (p : Int) (m : Nat) (w : World) (hs : s.size ≤ 100000) (hp1 : -1000000 ≤ p) (hp2 : p ≤ 1000000) (hm : m < 4294967296) :
    Calls Tryd.prog 23 #[.string s, .int .i64 p, .int .u32 (m : Int)] w fun e w' => e = .returned (.string ⟨(flipL s.data.toList p m).toArray⟩) ∧ Below w.heap.size w w' := by
  have kc := fun w => run_bytes_of_string (P := Tryd.prog) w 9 45 5 s Tryd.underlying9 Tryd.underlying45 Tryd.underlying5
  have hcg := grownCap_ge w s.size 0 5
  have HR := Lib.hid (show FlipRel w w.heap.size (flipTo s.data.toList p m 0) ((w.alloc (.cells (bytesRow s (grownCap w s.size 0 5)) 5 ((bytesRow s (grownCap w s.size 0 5)).size, (bytesRow s (grownCap w s.size 0 5)).size + 1))).drew) from
    ⟨ByteRow.new w s _ _ hcg, ((Below.refl _ _).alloc (Nat.le_refl _) _).drew, Nat.le_refl _, by simp⟩)
  go_enter Tryd.func23, Tryd.ntmps23
  go_wp2_with fail
  clear kc
  generalize (w.alloc (.cells (bytesRow s (grownCap w s.size 0 5)) 5 ((bytesRow s (grownCap w s.size 0 5)).size, (bytesRow s (grownCap w s.size 0 5)).size + 1))).drew = W1 at *
  generalize grownCap w s.size 0 5 = cap at *
  generalize hg : w.heap.size = g at *
  have HG := Lib.hid hg
  clear hg
  go_loopw [16] (fun a wx => ∃ i : Nat, i ≤ 32 ∧ a = .int .i64 i ∧ FlipRel w g (flipTo s.data.toList p m i) wx) (fun a _ => 32 - (intOf a).toNat)
  case atStart => exact ⟨0, Nat.zero_le _, rfl, HR.out⟩
  case round =>
    clear HR
    obtain ⟨i, hi, rfl, hb⟩ := hrel
    have HB := Lib.hid hb
    clear hb
    by_cases hlt : i < 32
    · by_cases hin : -(i : Int) ≤ p ∧ p < 8 * (s.size : Int) - i
      · obtain ⟨hin1, hin2⟩ := hin
        obtain ⟨k, hk⟩ : ∃ k : Nat, p + i = (k : Int) := ⟨(p + i).toNat, by omega⟩
        have hk8 : k / 8 < s.size := by omega
        have hl8 : k / 8 < (flipTo s.data.toList p m i).length := by rw [flipTo_length, size_len]; exact hk8
        have c0 := HB.out.1.at (k / 8) hl8
        have f0 := (HB.out.1 (k / 8) hl8).2
        generalize hBB : (flipTo s.data.toList p m i).getD (k / 8) 0 = B at *
        have HBB := Lib.hid hBB
        clear hBB
        have k1 := and7 k
        have k2 := mask_bit m i hm
        have hr7 : k % 8 ≤ 7 := by omega
        have k3 := wrap_7 (k % 8) hr7
        have HX := Lib.hid (xor_turn B (m.testBit (31 - i)) (k % 8) hr7)
        have HS := Lib.hid (flipTo_in s.data.toList p m i k hk (by rw [size_len]; omega))
        have hcb : (m.testBit (31 - i)).toNat ≤ 1 := by cases m.testBit (31 - i) <;> decide
        generalize hcc : (m.testBit (31 - i)).toNat = c at *
        generalize hrr : k % 8 = r at *
        have HRR := Lib.hid hrr
        have HCC := Lib.hid hcc
        clear hrr hcc
        have hq1 : (0 : Int) ≤ (k : Int) / 8 := by omega
        have hq2 : (k : Int) / 8 < (s.size : Int) := by omega
        have hq3 : ((k : Int) / 8).toNat = k / 8 := by omega
        go_wp2_with fail
        go_region
        go_wp2_with fail
        go_roundw
        case rel =>
          refine ⟨i + 1, by omega, by go_num, ?_⟩
          rw [HS.out]
          have h1 := HX.out
          have h2 := HBB.out
          rw [h2]
          exact HB.out.step (k / 8) hl8 _ _ h1
        case measure => simp [intOf]; omega
      · have HS := Lib.hid (flipTo_out s.data.toList p m i (by rw [size_len]; exact hin))
        have ht : (decide (8 * (s.size : Int) - i ≤ p) || decide (p < -(i : Int))) = true := by
          simp; omega
        go_wp2_with fail
        all_goals
          refine ⟨⟨i + 1, by omega, by go_num, ?_⟩, ?_⟩
          · rw [HS.out]; exact HB.out
          · simp [intOf]; omega
    · obtain rfl : i = 32 := by omega
      have kb := HB.out.1.back cap
      rw [flipTo_length, size_len] at kb
      go_wp2_with fail
      go_ret
      exact ⟨rfl, HB.out.2.1⟩

set_option maxRecDepth 100000 in
set_option maxHeartbeats 1000000 in
theorem turn_any (s : ByteArray) (p : Int) (m : Nat) (w : World) (hs : s.size ≤ 100000) (hp1 : -1000000 ≤ p) (hp2 : p ≤ 1000000) (hm : m < 4294967296) :
    Calls Tryd.prog 24 #[.string s, .int .i64 p, .int .u32 (m : Int)] w fun e w' => e = .returned (.string ⟨(flipL s.data.toList p m).toArray⟩) ∧ Below w.heap.size w w' := by
  have kc := fun w => run_bytes_of_string (P := Tryd.prog) w 9 45 5 s Tryd.underlying9 Tryd.underlying45 Tryd.underlying5
  have hcg := grownCap_ge w s.size 0 5
  have HR := Lib.hid (show FlipRel w w.heap.size (flipTo s.data.toList p m 0) ((w.alloc (.cells (bytesRow s (grownCap w s.size 0 5)) 5 ((bytesRow s (grownCap w s.size 0 5)).size, (bytesRow s (grownCap w s.size 0 5)).size + 1))).drew) from
    ⟨ByteRow.new w s _ _ hcg, ((Below.refl _ _).alloc (Nat.le_refl _) _).drew, Nat.le_refl _, by simp⟩)
  go_enter Tryd.func24, Tryd.ntmps24
  go_wp2_with fail
  clear kc
  generalize (w.alloc (.cells (bytesRow s (grownCap w s.size 0 5)) 5 ((bytesRow s (grownCap w s.size 0 5)).size, (bytesRow s (grownCap w s.size 0 5)).size + 1))).drew = W1 at *
  generalize grownCap w s.size 0 5 = cap at *
  generalize w.heap.size = g at *
  go_loopw [12] (fun a wx => ∃ i : Nat, i ≤ 32 ∧ a = .int .i64 i ∧ FlipRel w g (flipTo s.data.toList p m i) wx) (fun a _ => 32 - (intOf a).toNat)
  case atStart => exact ⟨0, Nat.zero_le _, rfl, HR.out⟩
  case round =>
    clear HR
    obtain ⟨i, hi, rfl, hb⟩ := hrel
    have HB := Lib.hid hb
    clear hb
    by_cases hlt : i < 32
    · have k2 := mask_bit m i hm
      by_cases hin : m.testBit (31 - i) = true ∧ 0 ≤ p + (i : Int) ∧ p + (i : Int) < 8 * (s.size : Int)
      · obtain ⟨hbt, hin1, hin2⟩ := hin
        obtain ⟨k, hk⟩ : ∃ k : Nat, p + i = (k : Int) := ⟨(p + i).toNat, by omega⟩
        have hk8 : k / 8 < s.size := by omega
        have hl8 : k / 8 < (flipTo s.data.toList p m i).length := by rw [flipTo_length, size_len]; exact hk8
        have c0 := HB.out.1.at (k / 8) hl8
        have f0 := (HB.out.1 (k / 8) hl8).2
        have hr7 : k % 8 ≤ 7 := by omega
        have HS := Lib.hid (flipTo_in s.data.toList p m i k hk (by rw [size_len]; omega))
        rw [hbt, if_pos rfl] at HS
        rw [hbt] at k2
        generalize hBB : (flipTo s.data.toList p m i).getD (k / 8) 0 = B at *
        have HX := Lib.hid (xor_one B (k % 8) hr7)
        clear hBB
        have k5 : Int.tmod (k : Int) 8 = ((k % 8 : Nat) : Int) := by rw [Int.tmod_eq_emod_of_nonneg (by omega)]; omega
        generalize hrr : k % 8 = r at *
        have HRR := Lib.hid hrr
        clear hrr
        have hq1 : (0 : Int) ≤ (k : Int) / 8 := by omega
        have hq2 : (k : Int) / 8 < (s.size : Int) := by omega
        have hq3 : ((k : Int) / 8).toNat = k / 8 := by omega
        go_wp2_with fail
        go_region
        go_wp2_with fail
        go_roundw
        case rel =>
          refine ⟨i + 1, by omega, by go_num, ?_⟩
          rw [HS.out]
          exact HB.out.step (k / 8) hl8 _ _ HX.out
        case measure => simp [intOf]; omega
      · have HS := Lib.hid (flipTo_no s.data.toList p m i (by rw [size_len]; exact hin))
        have HI := Lib.hid hin
        clear hin
        cases hbt : m.testBit (31 - i) with
        | false =>
          rw [hbt] at k2
          clear HI
          go_wp2_with fail
          go_roundw
          case rel =>
            refine ⟨i + 1, by omega, by go_num, ?_⟩
            rw [HS.out]; exact HB.out
          case measure => simp [intOf]; omega
        | true =>
          rw [hbt] at k2
          have hno : ¬ (0 ≤ p + (i : Int) ∧ p + (i : Int) < 8 * (s.size : Int)) := fun h => HI.out ⟨hbt, h⟩
          have HNO := Lib.hid hno
          clear hno HI
          have hq : p + (i : Int) < 0 ∨ 8 * (s.size : Int) ≤ p + (i : Int) := by have := HNO.out; omega
          rcases hq with hq | hq
          · have hq1 : decide (0 ≤ p + (i : Int)) = false := by simpa using hq
            go_wp2_with fail
            go_roundw
            case rel =>
              refine ⟨i + 1, by omega, by go_num, ?_⟩
              rw [HS.out]; exact HB.out
            case measure => simp [intOf]; omega
          · have hq1 : decide (p + (i : Int) < 8 * (s.size : Int)) = false := by simpa using hq
            have hq2 : 0 ≤ p + (i : Int) := by omega
            go_wp2_with fail
            go_roundw
            case rel =>
              refine ⟨i + 1, by omega, by go_num, ?_⟩
              rw [HS.out]; exact HB.out
            case measure => simp [intOf]; omega
    · obtain rfl : i = 32 := by omega
      have kb := HB.out.1.back cap
      rw [flipTo_length, size_len] at kb
      go_wp2_with fail
      go_ret
      exact ⟨rfl, HB.out.2.1⟩
end Go.Proofs.YtdggnpecbdnkeaaDoor
