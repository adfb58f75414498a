/-
  Contract of the reference's Parse (layer 5).
-/
import Derived.Test.YtdggnpecbdnkeaaDoorRefFrBytes
import Derived.Test.YtdggnpecbdnkeaaDoorPlainFrRead
set_option linter.unusedVariables false
set_option linter.unusedSimpArgs false
namespace Go.Proofs.YtdggnpecbdnkeaaDoor
open Go.RowKit

def rfV (r : UInt8 × List UInt8 × Int) : Value := .tuple #[.int .u8 (r.1.toNat : Int), .string ⟨r.2.1.toArray⟩, .int .i64 r.2.2]
set_option maxRecDepth 100000 in
set_option maxHeartbeats 2000000 in
theorem rfParse_len (s : ByteArray) (w : World) (hs : s.size ≤ 100000) (h : s.size = 0 ∨ s.size % 48 ≠ 0) :
    Calls Tryd.prog 22 #[.string s] w fun e w' => e = .returned (rfV (0, [], 5)) ∧ Below w.heap.size w w' := by
  by_cases h0 : s.size = 0
  · have he := empty_bool h0
    have HE := Lib.hid h0
    clear h0 h
    go_enter Tryd.func22, Tryd.ntmps22
    go_wp2_with fail
    go_ret3
    exact ⟨rfl, Below.refl _ _⟩
  · have he := full_bool h0
    have h1 : ((s.size : Int) % 48 != 0) = true := by simp; omega
    clear h
    go_enter Tryd.func22, Tryd.ntmps22
    go_wp2_with fail
    go_ret3
    exact ⟨rfl, Below.refl _ _⟩

set_option maxRecDepth 100000 in
set_option maxHeartbeats 2000000 in
theorem rfParse_any (s : ByteArray) (w : World) (hs : s.size ≤ 100000) :
    Calls Tryd.prog 22 #[.string s] w fun e w' => e = .returned (rfV (rfParse s.data.toList)) ∧ Below w.heap.size w w' := by
  by_cases h : s.size = 0 ∨ s.size % 48 ≠ 0
  · rw [show rfParse s.data.toList = (0, [], 5) from by unfold rfParse; rw [size_len, if_pos h]]
    exact rfParse_len s w hs h
  have h0 : s.size ≠ 0 := by omega
  have h1 : s.size % 48 = 0 := by omega
  have he := full_bool h0
  have hm : ((s.size : Int) % 48 != 0) = false := by simp; omega
  obtain ⟨a, hb8, hb9⟩ : ∃ a, a + 8 ≤ s.size ∧ s.size ≤ a + 8 := ⟨s.size - 8, by omega, by omega⟩
  have HH := Lib.hid h
  clear h h0 h1
  have hda := fun i (h : i < s.size) => (getB' s i h).symm
  have hu := s[a].toNat_lt
  have hx := s[a + 2].toNat_lt
  have hy := s[a + 3].toNat_lt
  have hk : a + 4 ≤ s.size := by omega
  have HF : Hid (rfParse s.data.toList = if fitsB s.data.toList = false then (0, [], 4) else if a < s[a + 2].toNat * 256 + s[a + 3].toNat ∨ 48 ≤ a - (s[a + 2].toNat * 256 + s[a + 3].toNat) then (0, [], 5) else if frameOf s[a] (s.data.toList.take (s[a + 2].toNat * 256 + s[a + 3].toNat)) ≠ s.data.toList then (0, [], 3) else (s[a], s.data.toList.take (s[a + 2].toNat * 256 + s[a + 3].toNat), 0)) := Lib.hid (by
    unfold rfParse
    rw [size_len, if_neg HH.out, show s.size - 8 = a by omega, show s.size - 6 = a + 2 by omega, show s.size - 5 = a + 3 by omega, hda _ (by omega), hda _ (by omega), hda _ (by omega)])
  generalize rfParse s.data.toList = FR at *
  have HPR : Hid ((s.extract 0 (a + 4)).data.toList = s.data.toList.take (a + 4)) := Lib.hid (by simp)
  have HSU : Hid ((s.extract (a + 4) s.size).data.toList = s.data.toList.drop (a + 4)) := Lib.hid (by
    rw [show (s.extract (a + 4) s.size).data.toList = List.take (s.size - (a + 4)) (List.drop (a + 4) s.data.toList) by simp]
    exact List.take_of_length_le (by rw [List.length_drop, size_len]; exact Nat.le_refl _))
  have hpz : (s.extract 0 (a + 4)).size ≤ 100000 := by rw [← size_len, HPR.out, List.length_take]; omega
  have hsl := (sumOf (s.data.toList.take (a + 4))).isLt
  have HSM : Hid (∀ W : World, Calls Tryd.prog 21 #[.string (s.extract 0 (a + 4))] W fun e w' => e = .returned (.int .u32 ((sumOf (s.data.toList.take (a + 4))).toNat : Int)) ∧ Below W.heap.size W w') := Lib.hid (fun W => by
    have := rsum_any (s.extract 0 (a + 4)) W hpz
    rw [HPR.out] at this; exact this)
  have HFT : Hid (fitsB s.data.toList = decide (be4 (sumOf (s.data.toList.take (a + 4))).toNat = s.data.toList.drop (a + 4))) := Lib.hid (by unfold fitsB; rw [size_len, decide_eq_true (by omega), Bool.true_and, show s.size - 4 = a + 4 by omega])
  have HFO := Lib.hid (rfour_any (sumOf (s.data.toList.take (a + 4))).toNat hsl)
  generalize (sumOf (s.data.toList.take (a + 4))).toNat = sm at *
  have ha1 : (s.size : Int) - 4 = ((a + 4 : Nat) : Int) := by omega
  have hnb : s[a + 2].toNat * 256 + s[a + 3].toNat ≤ 65535 := by omega
  clear hda HH
  obtain ⟨k, hk4, hk5⟩ : ∃ k, k = a + 4 ∧ k ≤ s.size := ⟨a + 4, rfl, by omega⟩
  have HK := Lib.hid hk4
  rw [← hk4] at ha1 HPR HSU hpz HSM HFT
  clear hk4
  have q1 : (0 : Int) ≤ (k : Int) := by omega
  have q2 : (k : Int) ≤ (s.size : Int) := by omega
  go_enter Tryd.func22, Tryd.ntmps22
  go_wp2_with fail
  have cS := fun dd os => Calls.regrown_of (HSM.out (Sort.grow (redrawn w dd) os))
  have cF := fun dd os => Calls.regrown_of (HFO.out (Sort.grow (redrawn w dd) os))
  refine wp_region_quiet_below (by kernel_rfl) (by kernel_rfl) ?_
  repeat (quiet_step (first | (with_reducible exact cS _ _) | (with_reducible exact cF _ _)))
  refine wpQuiet_nil ?_
  intro _ hw'
  obtain ⟨⟨dq, osq⟩, hw''⟩ := hw'
  subst hw''
  have hW4 := below_regrown w dq osq
  generalize Sort.grow (redrawn w dq) osq = W4 at *
  have HB4 := Lib.hid hW4
  clear hW4 cS cF
  cases hft : fitsB s.data.toList with
  | false =>
    have hft' := HFT.out
    rw [hft] at hft'
    have hne : ((s.extract k s.size).toList == be4 sm) = false := by
      rw [Lib.toList_data, HSU.out]
      apply beq_eq_false_iff_ne.2
      intro h
      rw [decide_eq_true h.symm] at hft'; cases hft'
    have HFF : Hid (FR = (0, [], 4)) := Lib.hid (by rw [HF.out, if_pos hft])
    rw [hne]
    clear hft hft' HF HFT hne
    go_wp2_with fail
    go_ret3
    exact ⟨by rw [HFF.out]; rfl, HB4.out⟩
  | true =>
    have hft' := HFT.out
    rw [hft] at hft'
    have hne : ((s.extract k s.size).toList == be4 sm) = true := by
      rw [Lib.toList_data, HSU.out, of_decide_eq_true hft'.symm]; simp
    have HF1 : Hid (FR = if a < s[a + 2].toNat * 256 + s[a + 3].toNat ∨ 48 ≤ a - (s[a + 2].toNat * 256 + s[a + 3].toNat) then (0, [], 5) else if frameOf s[a] (s.data.toList.take (s[a + 2].toNat * 256 + s[a + 3].toNat)) ≠ s.data.toList then (0, [], 3) else (s[a], s.data.toList.take (s[a + 2].toNat * 256 + s[a + 3].toNat), 0)) := Lib.hid (by rw [HF.out, if_neg (by rw [hft]; simp)])
    rw [hne]
    clear hne
    have hka : (k : Int) = (a : Int) + 4 := by rw [HK.out]; omega
    have HKA := Lib.hid hka
    have hnn : ∃ n : Nat, s[a + 2].toNat * 256 + s[a + 3].toNat = n ∧ (s[a + 2].toNat : Int) * 256 + (s[a + 3].toNat : Int) = (n : Int) := ⟨_, rfl, by omega⟩
    obtain ⟨n, hn1, hn2⟩ := hnn
    rw [hn1] at HF1 hnb
    have HN1 := Lib.hid hn1
    clear hft hft' HF HFT hn1
    go_wp2_with fail
    have t2 : IntKind.i64.wrap ((k : Int) - 2) = (a : Int) + 2 := by rw [IntWalk.i64_in _ (by omega)]; omega
    have t3 : IntKind.i64.wrap ((k : Int) - 1) = (a : Int) + 3 := by rw [IntWalk.i64_in _ (by omega)]; omega
    have t4 : IntKind.i64.wrap ((k : Int) - 4) = (a : Int) := by rw [IntWalk.i64_in _ (by omega)]; omega
    have n2 : ((a : Int) + 2).toNat = a + 2 := by omega
    have n3 : ((a : Int) + 3).toNat = a + 3 := by omega
    have z2 : (0 : Int) ≤ (a : Int) + 2 := by omega
    have z3 : (0 : Int) ≤ (a : Int) + 3 := by omega
    have l2 : (a : Int) + 2 < (s.size : Int) := by omega
    have l3 : (a : Int) + 3 < (s.size : Int) := by omega
    have t5 : IntKind.i64.wrap ((s[a + 2].toNat : Int) * 256) = (s[a + 2].toNat : Int) * 256 := IntWalk.i64_in _ (by omega)
    have t6 : IntKind.i64.wrap ((n : Int)) = (n : Int) := IntWalk.i64_in _ (by omega)
    clear hka
    go_quiet (fail)
    clear t2 t3 t5 t6 hn2
    have hs8 : (s.size : Int) - 8 = (a : Int) := by omega
    have HB5 := Lib.hid (below_drewN HB4.out nq)
    clear HB4
    generalize W4.drewN nq = W5 at *
    by_cases ha1 : a < n
    · have HFF : Hid (FR = (0, [], 5)) := Lib.hid (by rw [HF1.out, if_pos (Or.inl ha1)])
      clear HF1
      go_wp2_with fail
      go_ret3
      exact ⟨by rw [HFF.out]; rfl, HB5.out⟩
    by_cases ha2 : 48 ≤ a - n
    · have HFF : Hid (FR = (0, [], 5)) := Lib.hid (by rw [HF1.out, if_pos (Or.inr ha2)])
      have ha3 : decide (48 ≤ (a : Int) - n) = true := decide_eq_true (by omega)
      have ha4 : decide (a < n) = false := decide_eq_false (by omega)
      clear HF1 ha2
      go_wp2_with fail
      go_ret3
      exact ⟨by rw [HFF.out]; rfl, HB5.out⟩
    have ha3 : decide (48 ≤ (a : Int) - n) = false := decide_eq_false (by omega)
    have ha4 : decide (a < n) = false := decide_eq_false (by omega)
    have HF2 : Hid (FR = if frameOf s[a] (s.data.toList.take n) ≠ s.data.toList then (0, [], 3) else (s[a], s.data.toList.take n, 0)) := Lib.hid (by rw [HF1.out, if_neg (by omega)])
    have hna : n ≤ a := by omega
    clear HF1 ha1 ha2
    have HEX : Hid ((s.extract 0 n).data.toList = s.data.toList.take n) := Lib.hid (by simp)
    have hez : (s.extract 0 n).size ≤ 65535 := by rw [← size_len, HEX.out, List.length_take]; omega
    have HBY : Hid (∀ W : World, Calls Tryd.prog 18 #[.int .u8 (s[a].toNat : Int), .string (s.extract 0 n)] W fun e w' => e = .returned (.string ⟨(frameOf s[a] (s.data.toList.take n)).toArray⟩) ∧ Below W.heap.size W w') := Lib.hid (fun W => by
      have := rfBytes_any s[a] (s.extract 0 n) W hez
      rw [HEX.out] at this; exact this)
    have za : (0 : Int) ≤ (a : Int) := by omega
    have zb : (a : Int) < (s.size : Int) := by omega
    have zc : (0 : Int) ≤ (n : Int) := by omega
    have zd : (n : Int) ≤ (s.size : Int) := by omega
    go_wp2_with fail
    have cB := fun dd os => Calls.regrown_of (HBY.out (Sort.grow (redrawn W5 dd) os))
    refine wp_region_quiet_below (by kernel_rfl) (by kernel_rfl) ?_
    repeat (quiet_step (with_reducible exact cB _ _))
    refine wpQuiet_nil ?_
    intro _ hw'
    obtain ⟨⟨dq2, osq2⟩, hw''⟩ := hw'
    subst hw''
    have hW6 := below_regrown W5 dq2 osq2
    generalize Sort.grow (redrawn W5 dq2) osq2 = W6 at *
    have HB6 := Lib.hid (belSeq HB5.out hW6)
    clear hW6 cB HBY HB5
    by_cases hfr : frameOf s[a] (s.data.toList.take n) = s.data.toList
    case neg =>
      have HFF : Hid (FR = (0, [], 3)) := Lib.hid (by rw [HF2.out, if_pos hfr])
      have hne : (frameOf s[a] (s.data.toList.take n) == s.toList) = false := by rw [Lib.toList_data]; exact beq_eq_false_iff_ne.2 hfr
      rw [hne]
      clear hne hfr HF2
      go_wp2_with fail
      go_ret3
      exact ⟨by rw [HFF.out]; rfl, HB6.out⟩
    have HFF : Hid (FR = (s[a], s.data.toList.take n, 0)) := Lib.hid (by rw [HF2.out, if_neg (by simpa using hfr)])
    have hne : (frameOf s[a] (s.data.toList.take n) == s.toList) = true := by rw [Lib.toList_data, hfr]; simp
    have HEX2 : Hid (s.extract 0 n = ⟨(s.data.toList.take n).toArray⟩) := Lib.hid (str_eq (by simp))
    rw [hne]
    clear hne hfr HF2
    go_wp2_with fail
    go_quiet (fail)
    go_wp2_with fail
    go_ret3
    exact ⟨by rw [HFF.out, HEX2.out]; rfl, below_drewN HB6.out _⟩
theorem rfParse_is (s : ByteArray) (w : World) (hs : s.size ≤ 100000) :
    Calls Tryd.prog 22 #[.string s] w fun e w' => e = .returned (rfV (frParse s.data.toList)) ∧ Below w.heap.size w w' := by
  rw [← rfParse_eq]; exact rfParse_any s w hs
end Go.Proofs.YtdggnpecbdnkeaaDoor
