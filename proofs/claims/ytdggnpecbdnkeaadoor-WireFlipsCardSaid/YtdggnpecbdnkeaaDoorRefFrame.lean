/-
  Contracts of the references of layers 2 and 5: On, Sum, Four, Bytes.
-/
import Derived.Test.YtdggnpecbdnkeaaDoorPlainFrame
set_option linter.unusedVariables false
set_option linter.unusedSimpArgs false
namespace Go.Proofs.YtdggnpecbdnkeaaDoor
open Go.RowKit

theorem rfour_any (n : Nat) (hn : n < 4294967296) (w : World) :
    Calls Tryd.prog 20 #[.int .u32 n] w fun e w' => e = .returned (.string ⟨(be4 n).toArray⟩) ∧ Below w.heap.size w w' := by
  have kc := conv4
  go_enter Tryd.func20, Tryd.ntmps20
  go_wp2
  go_ret
  refine ⟨ret_str ?_, (Below.refl _ _).alloc (Nat.le_refl _) _⟩
  simp [byte_mod', be4]
theorem not_sub (x : BitVec 32) : (ones32 ^^^ x).toNat = 4294967295 - x.toNat := by
  have h : ones32 = BitVec.allOnes 32 := by decide
  rw [h, BitVec.allOnes_xor, BitVec.toNat_not]
/-- One bit on, as the reference reckons. -/
theorem st_hi (x : BitVec 32) (h : 2147483648 ≤ x.toNat) : bits .xor .u32 ((x.toNat : Int) * 2 % 4294967296) 79764919 = ((st x).toNat : Int) := by
  have := st_num x
  rw [show (x.toNat : Int) / 2147483648 = 1 by have := x.isLt; omega] at this
  exact this
theorem st_lo (x : BitVec 32) (h : x.toNat < 2147483648) : (x.toNat : Int) * 2 % 4294967296 = ((st x).toNat : Int) := by
  unfold st
  rw [BitVec.msb_eq_decide, decide_eq_false (by simpa using h), if_neg (by simp), BitVec.xor_zero, BitVec.toNat_shiftLeft, Nat.shiftLeft_eq]
  omega
set_option maxRecDepth 100000 in
set_option maxHeartbeats 1000000 in
theorem ron_any (x : BitVec 32) (b : UInt8) (w : World) :
    Calls Tryd.prog 41 #[.int .u32 (x.toNat : Int), .int .u8 (b.toNat : Int)] w fun e w' => e = .returned (.int .u32 ((on x b).toNat : Int)) ∧ w = w' := by
  have hx := x.isLt
  have hb := b.toNat_lt
  have H0 : Hid (bits .xor .u32 (x.toNat : Int) ((b.toNat : Int) * 16777216) = ((x ^^^ topB b.toNat).toNat : Int)) := Lib.hid (by
    rw [show (b.toNat : Int) * 16777216 = ((b.toNat * 16777216 : Nat) : Int) by omega, u32_xor_nat _ _ (by omega) (by omega), BitVec.toNat_xor]
    unfold topB
    rw [BitVec.toNat_ofNat, Nat.mod_eq_of_lt (by omega)])
  go_enter Tryd.func41, Tryd.ntmps41
  go_wp2_with fail
  rw [H0.out]
  have HO : Hid (on x b = stN 8 (x ^^^ topB b.toNat)) := Lib.hid rfl
  generalize x ^^^ topB b.toNat = y0 at *
  go_loop [5, 0, 6] (fun i r _ => ∃ j : Nat, j ≤ 8 ∧ i = .int .i64 j ∧ r = .int .u32 ((stN j y0).toNat : Int)) (fun i _ _ => 8 - (intOf i).toNat)
  case atStart => exact ⟨0, by omega, rfl, rfl⟩
  case round =>
    obtain ⟨j, hj, rfl, rfl⟩ := hrel
    by_cases hlt : j < 8
    · have hy := (stN j y0).isLt
      have HS : Hid (stN (j + 1) y0 = st (stN j y0)) := Lib.hid (stN_succ j y0)
      by_cases hh : 2147483648 ≤ (stN j y0).toNat
      · have HN := Lib.hid (st_hi (stN j y0) hh)
        have hh2 : (2147483648 : Int) ≤ ((stN j y0).toNat : Int) := by omega
        generalize stN j y0 = y at *
        go_wp2_with fail
        go_round
        case rel => exact ⟨j + 1, by omega, by go_num, by rw [HS.out, ← HN.out]⟩
        case measure => go_light; simp [intOf]; omega
      · have HN : Hid (((stN j y0).toNat : Int) * 2 = ((st (stN j y0)).toNat : Int)) := Lib.hid (by have := st_lo (stN j y0) (by omega); omega)
        have hh2 : ((stN j y0).toNat : Int) < 2147483648 := by omega
        generalize stN j y0 = y at *
        generalize y.toNat = yn at *
        have hd : decide ((2147483648 : Int) ≤ (yn : Int)) = false := decide_eq_false (by omega)
        have hyb : (yn : Int) ≤ 2147483647 := by omega
        clear hh hh2 hy
        go_wp2_with fail
        go_round
        case rel => exact ⟨j + 1, by omega, by go_num, congrArg (Value.int .u32) (by rw [HS.out]; exact HN.out)⟩
        case measure => go_light; simp [intOf]; omega
    · obtain rfl : j = 8 := by omega
      go_wp2_with fail
      go_ret
      exact ⟨ret_int (by rw [HO.out]), rfl⟩
set_option maxRecDepth 100000 in
set_option maxHeartbeats 1000000 in
theorem rsum_any (s : ByteArray) (w : World) (hs : s.size ≤ 100000) :
    Calls Tryd.prog 21 #[.string s] w fun e w' => e = .returned (.int .u32 ((sumOf s.data.toList).toNat : Int)) ∧ Below w.heap.size w w' := by
  go_enter Tryd.func21, Tryd.ntmps21
  have HO := Lib.hid ron_any
  go_wp2_with fail
  go_loop [4, 3] (fun i x => ∃ j : Nat, j ≤ s.size ∧ i = .int .i64 j ∧ x = .int .u32 ((run ones32 (s.data.toList.take j)).toNat : Int)) (fun i _ => s.size - (intOf i).toNat)
  case atStart => exact ⟨0, by omega, rfl, rfl⟩
  case round =>
    obtain ⟨j, hj, rfl, rfl⟩ := hrel
    by_cases hlt : j < s.size
    · have HR : Hid (run ones32 (s.data.toList.take (j + 1)) = on (run ones32 (s.data.toList.take j)) s[j]) := Lib.hid (by
        rw [← run_snoc]; congr 1
        rw [List.take_succ_eq_append_getElem (by simpa using hlt)]; rfl)
      generalize run ones32 (s.data.toList.take j) = y at *
      go_wp2_with fail
      refine (HO.out y s[j] _).mono ?_
      rintro e w1 ⟨rfl, rfl⟩
      go_wp2_with fail
      go_round
      case rel => exact ⟨j + 1, by omega, by go_num, by rw [HR.out]⟩
      case measure => go_light; simp [intOf]; omega
    · have hjl : s.data.toList.take j = s.data.toList := List.take_of_length_le (by rw [size_len]; omega)
      rw [hjl]
      have hX := (run ones32 s.data.toList).isLt
      have HX : Hid ((4294967295 : Int) - ((run ones32 s.data.toList).toNat : Int) = ((sumOf s.data.toList).toNat : Int)) := Lib.hid (by
        have := not_sub (run ones32 s.data.toList)
        unfold sumOf
        omega)
      clear hjl
      generalize run ones32 s.data.toList = y at *
      go_wp2_with fail
      go_ret
      exact ⟨ret_int (by first | exact HX.out | (rw [← HX.out]; omega)), Below.refl _ _⟩
end Go.Proofs.YtdggnpecbdnkeaaDoor
