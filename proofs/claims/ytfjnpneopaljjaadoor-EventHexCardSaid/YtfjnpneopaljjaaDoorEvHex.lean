/-
  The walk of the statement EventHex.
-/
import Derived.Test.YtfjnpneopaljjaaDoorAwake10
import Derived.Test.YtfjnpneopaljjaaDoorRefHex
import Derived.Test.YtfjnpneopaljjaaDoorUnhex
import Derived.Test.YtfjnpneopaljjaaDoorWritten
set_option linter.unusedVariables false
set_option linter.unusedSimpArgs false
namespace Go.Proofs.YtfjnpneopaljjaaDoor
open Go.RowKit

set_option maxHeartbeats 2000000 in
theorem eventHex_any (s t : ByteArray) (w : World) (hs : s.size ≤ maxLen) (ht : t.size ≤ maxLen) (hL : Laid w) :
    Calls Tryd.prog 8 #[.string s, .string t] w fun e w' => e = .returned (.bool true) ∧ Below w.heap.size w w' := by
  go_enter Tryd.func8, Tryd.ntmps8
  go_wp2_with fail
  refine (awake_any _ hL).mono ?_
  rintro e w1 ⟨rfl, hb1⟩
  go_wp2_with fail
  refine (cut_any _ 100 _ hs (by omega)).mono ?_
  rintro e w2 ⟨rfl, rfl⟩
  go_wp2_with fail
  refine (cut_any _ 100 _ ht (by omega)).mono ?_
  rintro e w2 ⟨rfl, rfl⟩
  have hs2 : (⟨(s.data.toList.take 100).toArray⟩ : ByteArray).size ≤ 1000 := by
    rw [size_arr]; have := List.length_take_le 100 s.data.toList; omega
  have ht2 : (⟨(t.data.toList.take 100).toArray⟩ : ByteArray).size ≤ 1000 := by
    rw [size_arr]; have := List.length_take_le 100 t.data.toList; omega
  generalize (⟨(s.data.toList.take 100).toArray⟩ : ByteArray) = a at *
  generalize (⟨(t.data.toList.take 100).toArray⟩ : ByteArray) = b at *
  have hl := hexOf_length a.data.toList
  rw [size_len] at hl
  go_wp2_with fail
  refine (hex_any _ _ (by omega)).mono ?_
  rintro e w3 ⟨rfl, hb3⟩
  go_wp2_with fail
  refine (unhex_any _ _ (by rw [size_arr]; omega)).mono ?_
  rintro e w4 ⟨rfl, hb4⟩
  rw [show (⟨(hexOf a.data.toList).toArray⟩ : ByteArray).data.toList = hexOf a.data.toList from rfl, unhex_hex]
  simp only [Option.getD_some, Option.isSome_some]
  go_wp2_with fail
  refine (unhex_any _ _ (by omega)).mono ?_
  rintro e w5 ⟨rfl, hb5⟩
  cases hu : unhexOf b.data.toList with
  | some r =>
    have hr := hex_unhex _ _ hu
    have hrl : r.length ≤ 1000 := by
      have h := congrArg List.length hr
      rw [size_len] at h
      unfold hexOf at h
      split at h
      · rename_i e; subst e; simp
      · rw [hexBody_length] at h; omega
    have HR := Lib.hid hr
    clear hr hu
    simp only [Option.getD_some, Option.isSome_some]
    go_wp2_with fail
    refine (hex_any _ _ (by omega)).mono ?_
    rintro e w6 ⟨rfl, hb6⟩
    go_wp2_with fail
    refine (refHex_any _ _ (by omega)).mono ?_
    rintro e w7 ⟨rfl, hb7⟩
    go_wp2_with fail
    refine (hex_any _ _ (by rw [size_arr]; omega)).mono ?_
    rintro e w8 ⟨rfl, hb8⟩
    rw [show (⟨r.toArray⟩ : ByteArray).data.toList = r from rfl, HR.out]
    go_wp2_with fail
    go_ret
    refine ⟨ret_bool ?_, belSeq hb1 (belSeq hb3 (belSeq hb4 (belSeq hb5 (belSeq hb6 (belSeq hb7 hb8)))))⟩
    simp
  | none =>
    have hwn := written_none _ hu
    have HW := Lib.hid hwn
    clear hwn hu
    simp only [Option.getD_none, Option.isSome_none]
    go_wp2_with fail
    refine (hex_any _ _ (by omega)).mono ?_
    rintro e w6 ⟨rfl, hb6⟩
    go_wp2_with fail
    refine (refHex_any _ _ (by omega)).mono ?_
    rintro e w7 ⟨rfl, hb7⟩
    go_wp2_with fail
    refine (written_any _ _ (by omega)).mono ?_
    rintro e w8 ⟨rfl, hb8⟩
    rw [HW.out]
    go_wp2_with fail
    go_ret
    refine ⟨ret_bool ?_, belSeq hb1 (belSeq hb3 (belSeq hb4 (belSeq hb5 (belSeq hb6 (belSeq hb7 hb8)))))⟩
    simp
end Go.Proofs.YtfjnpneopaljjaaDoor
