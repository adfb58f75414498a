/-
  Contracts of crc: Sum of one text, four, Seal, Fits.
-/
import Derived.Test.YtlkceignfhnpoaaGreatDoorCrcMake
import Derived.Test.YtlkceignfhnpoaaGreatDoorPlainBe4
import Derived.Test.YtlkceignfhnpoaaGreatDoorBytes
import Derived.Test.YtlkceignfhnpoaaGreatDoorQTail
import Derived.WalkSpells
import Derived.WalkLawsBesides
import Derived.Deep.QuietTactic
import Derived.Deep.DeepCutAuto
set_option linter.unusedVariables false
set_option linter.unusedSimpArgs false
namespace Go.Proofs.YtlkceignfhnpoaaGreatDoor
open Go.RowKit

/-- The table lies in block b. -/
def TabAt (w : World) (b : Nat) : Prop := ∀ i, i < 256 → w.cell? ⟨b, i, none⟩ = some (.int .u32 ((tabAt i).toNat : Int))
theorem TabAt.of_box {w : World} {b : Nat} {T : TypeId} (h : BoxAt w b T tabCells) : TabAt w b := fun i hi => by
  rw [h.cell]; simp [tabCells, hi]
theorem TabAt.lt {w : World} {b : Nat} (h : TabAt w b) : b < w.heap.size := block_lt_of_cell (h 0 (by omega))
theorem TabAt.below {B : Nat} {w w' : World} {b : Nat} (h : TabAt w b) (hb : Below B w w') (hB : b < B) : TabAt w' b := fun i hi => (bcell hb b i hB).trans (h i hi)
theorem on_num (x : BitVec 32) (b : UInt8) : bits .xor .u32 ((x.toNat : Int) * 256 % 4294967296) ((tabAt (x.toNat / 16777216 ^^^ b.toNat)).toNat : Int) = ((on x b).toNat : Int) := by
  have hx := x.isLt
  rw [show (x.toNat : Int) * 256 % 4294967296 = ((x.toNat * 256 % 4294967296 : Nat) : Int) by omega, u32_xor_nat _ _ (by omega) (tabAt _).isLt, on_tab, BitVec.toNat_xor, BitVec.toNat_shiftLeft, Nat.shiftLeft_eq]
theorem ix_num (x : BitVec 32) (b : UInt8) : bits .xor .u8 ((x.toNat : Int) / 16777216) (b.toNat : Int) = ((x.toNat / 16777216 ^^^ b.toNat : Nat) : Int) := by
  have hx := x.isLt
  rw [show (x.toNat : Int) / 16777216 = ((x.toNat / 16777216 : Nat) : Int) by omega, u8_xor_nat _ _ (by omega) b.toNat_lt]
theorem not_num (x : BitVec 32) : bits .xor .u32 IntKind.u32.max (x.toNat : Int) = ((ones32 ^^^ x).toNat : Int) := by
  rw [show IntKind.u32.max = ((4294967295 : Nat) : Int) from rfl, u32_xor_nat _ _ (by omega) x.isLt, BitVec.toNat_xor]; rfl
theorem run_snoc (x : BitVec 32) (l : List UInt8) (b : UInt8) : run x (l ++ [b]) = on (run x l) b := by simp [run]

set_option maxRecDepth 100000 in
set_option maxHeartbeats 1000000 in
theorem sum_one (tb b : Nat) (s : ByteArray) (w : World) (ht : TabAt w tb) (hc : w.cell? ⟨b, 0, none⟩ = some (.string s)) (hs : s.size ≤ 100000) :
    Calls Tryz.prog 274 #[.pointer (some ⟨tb, 0, none⟩), .slice (some ⟨b, 0, none⟩) 1 1] w fun e w' => e = .returned (.int .u32 ((sumOf s.data.toList).toNat : Int)) ∧ Below w.heap.size w w' := by
  have HT := Lib.hid ht
  have HC := Lib.hid hc
  have hbl := block_lt_of_cell hc
  have htl := ht.lt
  clear ht hc
  go_enter Tryz.func274, Tryz.ntmps274
  go_wp2_with fail
  go_loopw [11, 5, 7, 8, 17] (fun i x _ _ _ wx => ∃ k : Nat, k ≤ 1 ∧ i = .int .i64 k ∧ x = .int .u32 ((run ones32 (if k = 0 then [] else s.data.toList)).toNat : Int) ∧ Below w.heap.size w wx) (fun i _ _ _ _ _ => 1 - (intOf i).toNat)
  case atStart => exact ⟨0, by omega, rfl, rfl, Below.refl _ _⟩
  case round =>
    obtain ⟨k, hk, rfl, rfl, hbel⟩ := hrel
    by_cases hlt : k < 1
    · obtain rfl : k = 0 := by omega
      have hc := (bcell hbel b 0 hbl).trans HC.out
      have HE := Lib.hid hbel
      clear hbel
      obtain ⟨wo, rfl⟩ : ∃ wo : World, wo = wr := ⟨_, rfl⟩
      go_wp2_with fail
      clear hc
      go_loopw [17, 5, 8] (fun i x _ wx => ∃ j : Nat, j ≤ s.size ∧ i = .int .i64 j ∧ x = .int .u32 ((run ones32 (s.data.toList.take j)).toNat : Int) ∧ Below w.heap.size w wx) (fun i _ _ _ => s.size - (intOf i).toNat)
      case atStart => exact ⟨0, by omega, rfl, rfl, HE.out⟩
      case round =>
        obtain ⟨j, hj, rfl, rfl, hbel⟩ := hrel
        by_cases hlt2 : j < s.size
        · have hcell := fun i hi => (bcell hbel tb i htl).trans (HT.out i hi)
          have hX := (run ones32 (s.data.toList.take j)).isLt
          have hq := ix_num (run ones32 (s.data.toList.take j)) s[j]
          have hm : (run ones32 (s.data.toList.take j)).toNat / 16777216 ^^^ s[j].toNat < 256 := Nat.xor_lt_two_pow (n := 8) (by omega) s[j].toNat_lt
          have hct := hcell _ hm
          have HO := Lib.hid (on_num (run ones32 (s.data.toList.take j)) s[j])
          have HE2 := Lib.hid hbel
          have HR : Hid (run ones32 (s.data.toList.take (j + 1)) = on (run ones32 (s.data.toList.take j)) s[j]) := Lib.hid (by
            rw [← run_snoc]; congr 1
            rw [List.take_succ_eq_append_getElem (by simpa using hlt2)]; rfl)
          clear hcell hbel
          generalize hrr : run ones32 (s.data.toList.take j) = rg at *
          clear hrr
          generalize hmm : rg.toNat / 16777216 ^^^ s[j].toNat = m at *
          clear hmm
          have hsb := s[j].toNat_lt
          have q1 : (0 : Int) ≤ (m : Int) := by omega
          have q2 : (m : Int) < 256 := by omega
          have q3 : (j : Int) < (s.size : Int) := by omega
          have q4 : (0 : Int) ≤ (j : Int) := by omega
          go_wp2_with fail
          go_quiet (fail)
          go_wp2_with fail
          go_roundw
          case rel => exact ⟨j + 1, by omega, by go_num, by rw [HR.out, ← HO.out], below_drewN HE2.out _⟩
          case measure => go_light; simp [intOf]; omega
        · have hjl : s.data.toList.take j = s.data.toList := List.take_of_length_le (by rw [size_len]; omega)
          rw [hjl]
          have HE2 := Lib.hid hbel
          clear hbel hjl
          go_wp2_with fail
          go_roundw
          case rel => exact ⟨1, by omega, by go_num, rfl, HE2.out⟩
          case measure => go_light; simp [intOf]
    · obtain rfl : k = 1 := by omega
      have HE2 := Lib.hid hbel
      have hX := (run ones32 s.data.toList).isLt
      have HX := Lib.hid (not_num (run ones32 s.data.toList))
      clear hbel
      rw [if_neg (by omega)]
      have HSM : Hid (sumOf s.data.toList = ones32 ^^^ run ones32 s.data.toList) := Lib.hid rfl
      generalize run ones32 s.data.toList = y at *
      go_wp2_with fail
      go_ret
      exact ⟨ret_int (by rw [HX.out, HSM.out]), HE2.out⟩

theorem byte_mod' (n : Nat) : UInt8.ofNat (n % 256) = UInt8.ofNat n := by
  apply UInt8.toNat_inj.1; simp
theorem crcfour_any (n : Nat) (hn : n < 4294967296) (w : World) :
    Calls Tryz.prog 273 #[.int .u32 n] w fun e w' => e = .returned (.string ⟨(be4 n).toArray⟩) ∧ Below w.heap.size w w' := by
  have kc := conv4
  go_enter Tryz.func273, Tryz.ntmps273
  go_wp2
  go_ret
  refine ⟨ret_str ?_, (Below.refl _ _).alloc (Nat.le_refl _) _⟩
  simp [byte_mod', be4]
def sealOf (l : List UInt8) : List UInt8 := l ++ be4 (sumOf l).toNat
set_option maxHeartbeats 1000000 in
theorem seal_any (tb : Nat) (s : ByteArray) (w : World) (ht : TabAt w tb) (hs : s.size ≤ 100000) :
    Calls Tryz.prog 265 #[.pointer (some ⟨tb, 0, none⟩), .string s] w fun e w' => e = .returned (.string ⟨(sealOf s.data.toList).toArray⟩) ∧ Below w.heap.size w w' := by
  have HT := Lib.hid ht
  have htl := ht.lt
  clear ht
  have HF : Hid (sealOf s.data.toList = s.data.toList ++ be4 (sumOf s.data.toList).toNat) := Lib.hid rfl
  have hsl := (sumOf s.data.toList).isLt
  go_enter Tryz.func265, Tryz.ntmps265
  go_wp2_with fail
  refine (sum_one tb w.heap.size s _ (HT.out.below ((Below.refl _ _).alloc (Nat.le_refl _) _) htl) (by simp) hs).mono ?_
  rintro e w1 ⟨rfl, hb1⟩
  generalize (sumOf s.data.toList).toNat = sm at *
  go_wp2_with fail
  refine (crcfour_any sm hsl _).mono ?_
  rintro e w2 ⟨rfl, hb2⟩
  have hWz : (⟨(be4 sm).toArray⟩ : ByteArray).size ≤ 4 := by rw [size_arr, be4_length]; omega
  generalize hWB : (⟨(be4 sm).toArray⟩ : ByteArray) = WB at *
  have HWB : Hid (WB.data.toList = be4 sm) := Lib.hid (by rw [← hWB])
  clear hWB
  go_wp2_with fail
  go_ret
  exact ⟨ret_str (by rw [dapp, HWB.out, HF.out]), belSeq (belAlloc hb1 (by simp)) hb2⟩
def cellsOf (n : Int) : Int := ((if n < 0 then 0 else n) + 7) / 48 + 1
theorem cells_any (n : Int) (h : n ≤ 4611686018427387904) (w : World) : Calls Tryz.prog 214 #[.int .i64 n] w fun e w' => e = .returned (.int .i64 (cellsOf n)) ∧ w = w' := by
  have HF : Hid (cellsOf n = ((if n < 0 then 0 else n) + 7) / 48 + 1) := Lib.hid rfl
  generalize cellsOf n = r at *
  by_cases h0 : n < 0
  · go_enter Tryz.func214, Tryz.ntmps214
    go_wp2
    all_goals (go_ret; exact ⟨ret_int (by rw [HF.out, if_pos (show n < 0 by omega)]; rfl), rfl⟩)
  · have h1 : 0 ≤ n := by omega
    go_enter Tryz.func214, Tryz.ntmps214
    go_wp2
    all_goals (go_ret; exact ⟨ret_int (by rw [HF.out, if_neg (show ¬ n < 0 by omega)]; omega), rfl⟩)
end Go.Proofs.YtlkceignfhnpoaaGreatDoor
