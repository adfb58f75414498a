/-
  Contract of the reference's Bytes (layer 5).
-/
import Derived.Test.YtdggnpecbdnkeaaDoorRefFrame
set_option linter.unusedVariables false
set_option linter.unusedSimpArgs false
namespace Go.Proofs.YtdggnpecbdnkeaaDoor
open Go.RowKit

theorem rep_snoc' (j : Nat) : Lib.repeatL ([0] : List UInt8) (j + 1) = Lib.repeatL [0] j ++ [0] := by
  rw [repeat_rep', repeat_rep', List.replicate_succ']
def StrQ (W0 : World) (v : Value) (bs : List UInt8) (wx : World) : Prop := (∃ S : ByteArray, v = .string S ∧ S.data.toList = bs) ∧ Below W0.heap.size W0 wx
def strLen (v : Value) : Nat := match v with
  | .string S => S.size
  | _ => 0

set_option maxRecDepth 100000 in
set_option maxHeartbeats 1000000 in
theorem rfBytes_any (u : UInt8) (d : ByteArray) (w : World) (hd : d.size ≤ 65535) :
    Calls Tryd.prog 18 #[.int .u8 (u.toNat : Int), .string d] w fun e w' => e = .returned (.string ⟨(frameOf u d.data.toList).toArray⟩) ∧ Below w.heap.size w w' := by
  have HF : Hid (frameOf u d.data.toList = sealOf (d.data.toList ++ Lib.repeatL [0] (frPad d.size) ++ [u, 0, (d.size / 256).toUInt8, d.size.toUInt8])) := Lib.hid (by unfold frameOf frBody; rw [size_len])
  have HSE : Hid (∀ l, sealOf l = l ++ be4 (sumOf l).toNat) := Lib.hid (fun _ => rfl)
  have hpl := frPad_le d.size
  have hu := u.toNat_lt
  have kc1 := conv1
  have kc := conv4
  have HSU := Lib.hid rsum_any
  have HFO := Lib.hid rfour_any
  have hpad : ∀ j, j ≤ frPad d.size → ((d.size + j) % 48 = 40 ↔ j = frPad d.size) := by
    intro j hj
    unfold frPad at *
    omega
  have HPD := Lib.hid hpad
  clear hpad
  go_enter Tryd.func18, Tryd.ntmps18
  go_wp2_with fail
  go_loopw [5] (fun v wx => ∃ j : Nat, j ≤ frPad d.size ∧ StrQ w v (d.data.toList ++ Lib.repeatL [0] j) wx) (fun v _ => d.size + frPad d.size - strLen v)
  case atStart => exact ⟨0, Nat.zero_le _, ⟨d, rfl, by simp [Lib.repeatL]⟩, Below.refl _ _⟩
  case round =>
    obtain ⟨j, hj, ⟨S, rfl, hS⟩, hbel⟩ := hrel
    have hSl : S.size = d.size + j := by rw [← size_len, hS, List.length_append, size_len, Lib.repeatL_length]; simp
    have HS := Lib.hid hS
    have HE := Lib.hid hbel
    have hk := HPD.out j hj
    clear hS hbel
    by_cases hlt : j < frPad d.size
    · have ht : ((S.size : Int) % 48 != 40) = true := by simp; omega
      have hS2 : S.size ≤ 70000 := by omega
      have HSL := Lib.hid hSl
      clear hSl hk kc
      go_wp2_with fail
      go_roundw
      case rel => exact ⟨j + 1, by omega, ⟨_, rfl, by rw [dapp, HS.out, List.append_assoc, rep_snoc']⟩, HE.out.alloc HE.out.size _⟩
      case measure =>
        have h1 := HSL.out
        have h2 : (S ++ ⟨#[0]⟩ : ByteArray).size = S.size + 1 := by rw [← size_len, dapp, List.length_append, size_len]; rfl
        go_light
        simp only [strLen]
        omega
    · obtain rfl : j = frPad d.size := by omega
      have ht : ((S.size : Int) % 48 != 40) = false := by simp; omega
      have hS2 : S.size ≤ 70000 := by omega
      clear hSl hk kc1
      go_wp2_with fail
      have hSBz : (S ++ ⟨#[u, 0, UInt8.ofNat (d.size / 256), UInt8.ofNat (d.size % 256)]⟩ : ByteArray).size ≤ 80000 := by rw [← size_len, dapp, List.length_append, size_len]; show S.size + 4 ≤ _; omega
      have HSB : Hid ((S ++ ⟨#[u, 0, UInt8.ofNat (d.size / 256), UInt8.ofNat (d.size % 256)]⟩ : ByteArray).data.toList = d.data.toList ++ Lib.repeatL [0] (frPad d.size) ++ [u, 0, (d.size / 256).toUInt8, d.size.toUInt8]) := Lib.hid (by
        rw [dapp, HS.out]; simp [byte_mod', Nat.toUInt8])
      generalize (S ++ ⟨#[u, 0, UInt8.ofNat (d.size / 256), UInt8.ofNat (d.size % 256)]⟩ : ByteArray) = SB at *
      have hsl := (sumOf SB.data.toList).isLt
      have HFF : Hid (frameOf u d.data.toList = SB.data.toList ++ be4 (sumOf SB.data.toList).toNat) := Lib.hid (by rw [HF.out, HSE.out, HSB.out])
      refine (HSU.out SB _ (by omega)).mono ?_
      rintro e w2 ⟨rfl, hb2⟩
      generalize (sumOf SB.data.toList).toNat = sm at *
      go_wp2_with fail
      refine (HFO.out sm hsl _).mono ?_
      rintro e w3 ⟨rfl, hb3⟩
      have hWz : (⟨(be4 sm).toArray⟩ : ByteArray).size ≤ 4 := by rw [size_arr, be4_length]; omega
      generalize hWB : (⟨(be4 sm).toArray⟩ : ByteArray) = WB at *
      have HWB : Hid (WB.data.toList = be4 sm) := Lib.hid (by rw [← hWB])
      clear hWB
      go_wp2_with fail
      go_ret
      exact ⟨ret_str (by rw [dapp, HWB.out, HFF.out]), belSeq (belSeq HE.out (belAlloc hb2 (by simp))) hb3⟩
end Go.Proofs.YtdggnpecbdnkeaaDoor
