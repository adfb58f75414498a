/-
  The walk of the statement FrameUnlike.
-/
import Derived.Test.YtdggnpecbdnkeaaDoorAwake05
import Derived.Test.YtdggnpecbdnkeaaDoorCut
import Derived.Deep.QuietTactic
set_option linter.unusedVariables false
set_option linter.unusedSimpArgs false
namespace Go.Proofs.YtdggnpecbdnkeaaDoor
open Go.RowKit

def cutL (m : Nat) (d : ByteArray) : ByteArray := ⟨(d.data.toList.take m).toArray⟩
theorem cutL_size (m : Nat) (d : ByteArray) : (cutL m d).size ≤ m := by
  unfold cutL; rw [size_arr]; exact List.length_take_le _ _
set_option maxRecDepth 100000 in
set_option maxHeartbeats 1000000 in
theorem frameUnlike_any (u v : UInt8) (a b : ByteArray) (ha : a.size ≤ maxLen) (hb : b.size ≤ maxLen) (w : World) :
    Calls Tryd.prog 6 #[.agg #[.int .u8 (u.toNat : Int), .int .u8 (v.toNat : Int), .string a, .string b]] w fun e w' => e = .returned (.bool true) ∧ Below w.heap.size w w' := by
  have HAW := Lib.hid awake5
  have HMK := Lib.hid make_any
  have HCA : Hid (∀ W : World, Calls Tryd.prog 14 #[.string a, .int .i64 120] W fun e w' => e = .returned (.string (cutL 120 a)) ∧ W = w') := Lib.hid (fun W => cut_any a 120 W ha (by omega))
  have HCB : Hid (∀ W : World, Calls Tryd.prog 14 #[.string b, .int .i64 120] W fun e w' => e = .returned (.string (cutL 120 b)) ∧ W = w') := Lib.hid (fun W => cut_any b 120 W hb (by omega))
  have hsa := cutL_size 120 a
  have hsb := cutL_size 120 b
  have HBY := Lib.hid (fun (u : UInt8) (d : ByteArray) (tb : Nat) (w : World) (ht : TabAt w tb) (hd : d.size ≤ 65535) => frBytes_ok u d tb w ht hd)
  generalize cutL 120 a = A at *
  generalize cutL 120 b = B at *
  go_enter Tryd.func6, Tryd.ntmps6
  have HBX0 := Lib.hid (BoxAt.new w 48 [.int .u8 (u.toNat : Int), .int .u8 (v.toNat : Int), .string a, .string b])
  go_wp2_with fail
  refine (HAW.out _).mono ?_
  rintro e w1 ⟨rfl, hb1⟩
  have HBX1 := Lib.hid (HBX0.out.below hb1 (by simp))
  have HB1 := Lib.hid (belAlloc hb1 (by simp))
  clear hb1 HBX0
  go_wp2_with fail
  refine (HMK.out _).mono ?_
  rintro e w2 ⟨rfl, hb2⟩
  have HBX2 := Lib.hid (HBX1.out.below hb2 HBX1.out.lt)
  have HB2 := Lib.hid (belSeq HB1.out hb2)
  clear hb2 HBX1 HB1
  have HT := Lib.hid (TabAt.of_box (BoxAt.new w2 26 tabCells))
  have HBX3 := Lib.hid (HBX2.out.alloc (o := .cells tabCells.toArray 26))
  have HB3 := Lib.hid (HB2.out.alloc HB2.out.size (.cells tabCells.toArray 26))
  go_wp2_with (refine wpList_store_new rfl 26 _ _ rfl w2.heap.size 26 Tryd.zeroCells26 tabCells.toArray rfl rfl rfl zero_size tab_size2 tabCells_one ?_)
  generalize w2.alloc (.cells tabCells.toArray 26) = W3 at *
  generalize w2.heap.size = tb at *
  obtain ⟨q0, q1, q2, q3⟩ := HBX3.out.cells4
  have k0 := cell_regrown q0
  have k1 := cell_regrown q1
  have k2 := cell_regrown q2
  have k3 := cell_regrown q3
  have cA := fun dd os => Calls.regrown_of (Calls.same_below (HCA.out (Sort.grow (redrawn W3 dd) os)))
  have cB := fun dd os => Calls.regrown_of (Calls.same_below (HCB.out (Sort.grow (redrawn W3 dd) os)))
  clear q0 q1 q2 q3 HCA HCB
  refine wp_region_quiet_below (by kernel_rfl) (by kernel_rfl) ?_
  repeat (quiet_step (first | (with_reducible exact cA _ _) | (with_reducible exact cB _ _)))
  refine wpQuiet_nil ?_
  intro _ hw'
  obtain ⟨⟨dq, osq⟩, hw''⟩ := hw'
  subst hw''
  have hW4 := below_regrown W3 dq osq
  generalize Sort.grow (redrawn W3 dq) osq = W4 at *
  have HT4 := Lib.hid (HT.out.below hW4 HT.out.lt)
  have HB4 := Lib.hid (belSeq HB3.out hW4)
  clear k0 k1 k2 k3 cA cB hW4 HT HB3 HBX3 HBX2 HB2
  go_wp2_with fail
  refine (HBY.out u A tb _ HT4.out (by omega)).mono ?_
  rintro e w5 ⟨rfl, hb5⟩
  have HT5 := Lib.hid (HT4.out.below hb5 HT4.out.lt)
  have HB5 := Lib.hid (belSeq HB4.out hb5)
  clear hb5 HT4 HB4
  go_wp2_with fail
  refine (HBY.out v B tb _ HT5.out (by omega)).mono ?_
  rintro e w6 ⟨rfl, hb6⟩
  have HB6 := Lib.hid (belSeq HB5.out hb6)
  clear hb6 HT5 HB5 HBY
  by_cases huv : u = v
  · subst huv
    go_wp2_with fail
    go_ret
    refine ⟨ret_bool ?_, HB6.out⟩
    rw [Lib.toList_data, Lib.toList_data]
    by_cases h : A.data.toList = B.data.toList
    · rw [h]; simp
    · have h2 : ¬ frameOf u A.data.toList = frameOf u B.data.toList := fun he => h (frameOf_inj (by rw [size_len]; omega) (by rw [size_len]; omega) he).2
      rw [beq_eq_false_iff_ne.2 h2, beq_eq_false_iff_ne.2 h]; rfl
  · have huv2 : ((u.toNat : Int) == (v.toNat : Int)) = false := by
      simp only [beq_eq_false_iff_ne, ne_eq]
      intro h
      exact huv (UInt8.toNat_inj.1 (by omega))
    go_wp2_with fail
    go_ret
    refine ⟨ret_bool ?_, HB6.out⟩
    have h2 : ¬ frameOf u A.data.toList = frameOf v B.data.toList := fun he => huv (frameOf_inj (by rw [size_len]; omega) (by rw [size_len]; omega) he).1
    simp [h2]
end Go.Proofs.YtdggnpecbdnkeaaDoor
