/-
  Contract of frame.Frame.Bytes.
-/
import Derived.Test.YtlkceignfhnpoaaGreatDoorCrcSum
import Derived.Test.YtlkceignfhnpoaaGreatDoorShelf
import Derived.Lib.Repeat
set_option linter.unusedVariables false
set_option linter.unusedSimpArgs false
namespace Go.Proofs.YtlkceignfhnpoaaGreatDoor
open Go.RowKit

/-- How many bytes 0 stand behind the data. -/
def frPad (n : Nat) : Nat := ((n + 7) / 48 + 1) * 48 - 8 - n
def frBody (u : UInt8) (d : List UInt8) : List UInt8 := d ++ Lib.repeatL [0] (frPad d.length) ++ [u, 0, (d.length / 256).toUInt8, d.length.toUInt8]
def frameOf (u : UInt8) (d : List UInt8) : List UInt8 := sealOf (frBody u d)
theorem frPad_le (n : Nat) : frPad n ≤ 47 := by unfold frPad; omega

set_option maxRecDepth 100000 in
set_option maxHeartbeats 1000000 in
theorem frBytes_ok (u : UInt8) (d : ByteArray) (tb : Nat) (w : World) (ht : TabAt w tb) (hd : d.size ≤ 65535) :
    Calls Tryz.prog 186 #[.agg #[.int .u8 (u.toNat : Int), .string d], .pointer (some ⟨tb, 0, none⟩)] w fun e w' => e = .returned (.tuple #[.string ⟨(frameOf u d.data.toList).toArray⟩, .int .i64 0]) ∧ Below w.heap.size w w' := by
  have HT := Lib.hid ht
  have htl := ht.lt
  clear ht
  have hu := u.toNat_lt
  have kc := conv4
  have HF : Hid (frameOf u d.data.toList = sealOf (d.data.toList ++ Lib.repeatL [0] (frPad d.size) ++ [u, 0, (d.size / 256).toUInt8, d.size.toUInt8])) := Lib.hid (by unfold frameOf frBody; rw [size_len])
  have hcell : cellsOf (d.size : Int) * 48 - 8 - (d.size : Int) = ((frPad d.size : Nat) : Int) := by unfold cellsOf frPad; rw [if_neg (by omega)]; omega
  have hcb : cellsOf (d.size : Int) ≤ 2000 := by unfold cellsOf; rw [if_neg (by omega)]; omega
  have hcb0 : 0 ≤ cellsOf (d.size : Int) := by unfold cellsOf; rw [if_neg (by omega)]; omega
  have hpl := frPad_le d.size
  go_enter Tryz.func186, Tryz.ntmps186
  go_wp2_with fail
  refine (cells_any (d.size : Int) (by omega) _).mono ?_
  rintro e w1 ⟨rfl, rfl⟩
  generalize cellsOf (d.size : Int) = cc at *
  go_wp2_with fail
  refine (Tryz.strings_Repeat ⟨#[0]⟩ (frPad d.size) _ (by omega) (by show 1 * frPad d.size ≤ _; omega)).mono ?_
  rintro e w2 ⟨rfl, hb2⟩
  have hbx := (BoxAt.new w 231 [.int .u8 (u.toNat : Int), .string d]).below hb2 (by simp)
  obtain ⟨q0, q1⟩ := hbx.cells2
  have HB2 := Lib.hid (belAlloc hb2 (by simp))
  have HT2 := Lib.hid ((HT.out.below ((Below.refl _ _).alloc (Nat.le_refl _) _) htl).below hb2 (by simp; omega))
  have hrpl : (⟨(Lib.repeatL [0] (frPad d.size)).toArray⟩ : ByteArray).size ≤ 47 := by rw [size_arr, Lib.repeatL_length]; simp; omega
  generalize hRP : (⟨(Lib.repeatL [0] (frPad d.size)).toArray⟩ : ByteArray) = RP at *
  have HRP : Hid (RP.data.toList = Lib.repeatL [0] (frPad d.size)) := Lib.hid (by rw [← hRP])
  have hz2 := hbx.lt
  clear hRP hb2 hbx HT
  generalize hHD : (⟨#[u, 0, UInt8.ofNat (d.size / 256), UInt8.ofNat (d.size % 256)]⟩ : ByteArray) = HD
  have hHDz : HD.size = 4 := by rw [← hHD]; rfl
  have HHD : Hid (HD.data.toList = [u, 0, (d.size / 256).toUInt8, d.size.toUInt8]) := Lib.hid (by rw [← hHD]; simp [byte_mod', Nat.toUInt8])
  have kc2 : ∀ (w : World) (b : Nat), w.heap.size = b → (convert 66 9 (.slice (some ⟨b, 0, none⟩) 4 4)).run Tryz.prog (w.alloc (.cells #[.int .u8 (u.toNat : Int), .int .u8 0, .int .u8 ((d.size : Int) / 256), .int .u8 ((d.size : Int) % 256)] 5)) = .ok (.string HD) (w.alloc (.cells #[.int .u8 (u.toNat : Int), .int .u8 0, .int .u8 ((d.size : Int) / 256), .int .u8 ((d.size : Int) % 256)] 5)) := fun w b hb => by
    rw [kc w b _ _ _ _ hb, ← hHD]
    congr 2
    apply str_eq
    have e1 : ((d.size : Int) / 256).toNat = d.size / 256 := by omega
    have e2 : ((d.size : Int) % 256).toNat = d.size % 256 := by omega
    simp [e1, e2]
  clear kc hHD
  go_wp2_with fail
  have hsz : (d ++ RP ++ HD).size ≤ 70000 := by rw [← size_len, dapp, dapp, List.length_append, List.length_append, size_len, size_len, size_len]; omega
  have HSB : Hid ((d ++ RP ++ HD).data.toList = d.data.toList ++ Lib.repeatL [0] (frPad d.size) ++ [u, 0, (d.size / 256).toUInt8, d.size.toUInt8]) := Lib.hid (by rw [dapp, dapp, HRP.out, HHD.out])
  generalize d ++ RP ++ HD = SB at *
  refine (seal_any tb SB _ (HT2.out.below ((Below.refl _ _).alloc (Nat.le_refl _) _) (by omega)) (by omega)).mono ?_
  rintro e w3 ⟨rfl, hb3⟩
  rw [HSB.out, ← HF.out]
  go_wp2_with fail
  go_ret2
  exact ⟨rfl, belSeq HB2.out (belAlloc hb3 (by simp))⟩

set_option maxRecDepth 100000 in
set_option maxHeartbeats 1000000 in
theorem frBytes_big (u : Int) (d : ByteArray) (tb : Nat) (w : World) (hd : 65535 < d.size) (hd2 : d.size ≤ 1000000) :
    Calls Tryz.prog 186 #[.agg #[.int .u8 u, .string d], .pointer (some ⟨tb, 0, none⟩)] w fun e w' => e = .returned (.tuple #[.string ⟨#[]⟩, .int .i64 6]) ∧ Below w.heap.size w w' := by
  go_enter Tryz.func186, Tryz.ntmps186
  go_wp2_with fail
  go_ret2
  exact ⟨rfl, (Below.refl _ _).alloc (Nat.le_refl _) _⟩
end Go.Proofs.YtlkceignfhnpoaaGreatDoor
