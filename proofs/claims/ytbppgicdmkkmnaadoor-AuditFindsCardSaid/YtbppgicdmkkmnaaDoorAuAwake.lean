/-
  The fixed fact of layer 21 holds.
-/
import Derived.Test.YtbppgicdmkkmnaaDoorAuUse
set_option linter.unusedVariables false
set_option linter.unusedSimpArgs false
namespace Go.Proofs.YtbppgicdmkkmnaaDoor
open Go.RowKit

theorem prob_lit (i : Nat) (hi : i < 10) (x : List UInt8) : probL i x = UInt8.ofNat (48 + i) :: 32 :: x := by
  unfold probL; rw [Lib.decDigits_one hi]; rfl
theorem awk_step0 (w : World) : StepR w (newP 5 5) 0 ⟨0, 2, 1, 9, 0, none, 0, 0, 0, 0, 0⟩ false ((newP 5 5).put 0 { zeroE with credit := 4 }) := .grant 1 9 0 0 0 0 false (.inl rfl)
theorem awk_step1 (w : World) : StepR w ((newP 5 5).put 0 { zeroE with credit := 4 }) 0 ⟨0, 6, 0, 0, 0, none, 0, 0, 0, 0, 2⟩ false ((newP 5 5).put 0 (freshE 5 4 none)) := .ask 0 0 0 0 0 2 false (.inl rfl)
theorem awk_step2 (w : World) : StepR w ((newP 5 5).put 0 (freshE 5 4 none)) 0 ⟨0, 1, 8, 6, 0, none, 0, 0, 0, 0, 0⟩ false (((newP 5 5).put 0 (freshE 5 4 none)).tell 0 numberW) := .sd 6 0 0 0 false rfl (by decide) (by decide)
theorem small_new (x y : Int) : small (newP x y) 900 := ⟨Nat.zero_le _, fun i => by unfold AudS.e; split <;> exact Nat.zero_le _⟩
theorem recs_three (w : World) : RecsAt (w.alloc (.cells #[.int .i64 0, .int .i64 2, .int .i64 1, .int .i64 0, .int .u32 9, .int .u32 0, .int .u32 0, .slice none 0 0, .bool false, .string ⟨#[]⟩, .int .i64 0, .string ⟨#[]⟩, .bool false, .int .u8 0, .int .i64 0, .int .i64 0, .string ⟨#[]⟩, .int .i64 0, .int .i64 0, .int .i64 6, .int .i64 0, .int .i64 0, .int .u32 0, .int .u32 0, .int .u32 0, .slice none 0 0, .bool false, .string ⟨#[]⟩, .int .i64 0, .string ⟨#[]⟩, .bool false, .int .u8 0, .int .i64 0, .int .i64 2, .string ⟨#[]⟩, .int .i64 0, .int .i64 0, .int .i64 1, .int .i64 8, .int .i64 0, .int .u32 6, .int .u32 0, .int .u32 0, .slice none 0 0, .bool false, .string ⟨#[]⟩, .int .i64 0, .string ⟨#[]⟩, .bool false, .int .u8 0, .int .i64 0, .int .i64 0, .string ⟨#[]⟩, .int .i64 0] 36)) w.heap.size [⟨0, 2, 1, 9, 0, none, 0, 0, 0, 0, 0⟩, ⟨0, 6, 0, 0, 0, none, 0, 0, 0, 0, 2⟩, ⟨0, 1, 8, 6, 0, none, 0, 0, 0, 0, 0⟩] :=
  by unfold RecsAt; exact BoxAt.new w 36 [.int .i64 0, .int .i64 2, .int .i64 1, .int .i64 0, .int .u32 9, .int .u32 0, .int .u32 0, .slice none 0 0, .bool false, .string ⟨#[]⟩, .int .i64 0, .string ⟨#[]⟩, .bool false, .int .u8 0, .int .i64 0, .int .i64 0, .string ⟨#[]⟩, .int .i64 0, .int .i64 0, .int .i64 6, .int .i64 0, .int .i64 0, .int .u32 0, .int .u32 0, .int .u32 0, .slice none 0 0, .bool false, .string ⟨#[]⟩, .int .i64 0, .string ⟨#[]⟩, .bool false, .int .u8 0, .int .i64 0, .int .i64 2, .string ⟨#[]⟩, .int .i64 0, .int .i64 0, .int .i64 1, .int .i64 8, .int .i64 0, .int .u32 6, .int .u32 0, .int .u32 0, .slice none 0 0, .bool false, .string ⟨#[]⟩, .int .i64 0, .string ⟨#[]⟩, .bool false, .int .u8 0, .int .i64 0, .int .i64 0, .string ⟨#[]⟩, .int .i64 0]
set_option maxRecDepth 100000 in
set_option maxHeartbeats 2000000 in
theorem awake21 (w : World) : Calls Tryd.prog 5 #[] w fun e w' => e = .returned (.bool true) ∧ Below w.heap.size w w' := by
  go_enter Tryd.func5, Tryd.ntmps5
  go_wp2_with fail
  refine (new_any 5 5 w ⟨by decide, by decide⟩ ⟨by decide, by decide⟩).mono ?_
  rintro e w1 ⟨b, rfl, ha1, hb1⟩
  have HA1 := Lib.hid ha1
  have HB1 := Lib.hid hb1
  have HZ1 := Lib.hid hb1.size
  clear ha1 hb1
  go_wp2_with fail
  refine (probs_none _ b _ w1 HA1.out rfl).mono ?_
  rintro e w2 ⟨⟨a2, c2, rfl⟩, hb2⟩
  have HA2 := Lib.hid (HA1.out.below hb2)
  have HB2 := Lib.hid (HB1.out.trans (hb2.mono HZ1.out))
  have HZ2 := Lib.hid HB2.out.size
  clear hb2 HA1 HB1 HZ1
  go_wp2_with fail
  have HR := Lib.hid (recs_three w2)
  have hb3 := (Below.refl w2.heap.size w2).alloc (Nat.le_refl _) (.cells #[.int .i64 0, .int .i64 2, .int .i64 1, .int .i64 0, .int .u32 9, .int .u32 0, .int .u32 0, .slice none 0 0, .bool false, .string ⟨#[]⟩, .int .i64 0, .string ⟨#[]⟩, .bool false, .int .u8 0, .int .i64 0, .int .i64 0, .string ⟨#[]⟩, .int .i64 0, .int .i64 0, .int .i64 6, .int .i64 0, .int .i64 0, .int .u32 0, .int .u32 0, .int .u32 0, .slice none 0 0, .bool false, .string ⟨#[]⟩, .int .i64 0, .string ⟨#[]⟩, .bool false, .int .u8 0, .int .i64 0, .int .i64 2, .string ⟨#[]⟩, .int .i64 0, .int .i64 0, .int .i64 1, .int .i64 8, .int .i64 0, .int .u32 6, .int .u32 0, .int .u32 0, .slice none 0 0, .bool false, .string ⟨#[]⟩, .int .i64 0, .string ⟨#[]⟩, .bool false, .int .u8 0, .int .i64 0, .int .i64 0, .string ⟨#[]⟩, .int .i64 0] 36)
  have HA3 := Lib.hid (HA2.out.below hb3)
  have HB3 := Lib.hid (HB2.out.trans (hb3.mono HZ2.out))
  have HZ3 := Lib.hid HB3.out.size
  clear hb3 HA2 HB2
  generalize w2.alloc _ = w3 at *
  generalize w2.heap.size = g at *
  refine (add_three _ b g _ 0 0 0 _ _ _ _ _ _ _ w3 HA3.out HR.out (by decide) (by decide) (by decide) (awk_step0 w3) (awk_step1 w3) (awk_step2 w3) (small_new 5 5) HZ3.out).mono ?_
  rintro e w4 ⟨rfl, hr4⟩
  have HA4 := Lib.hid hr4.aud
  have HB4 := Lib.hid (HB3.out.trans (hr4.keep.to_below HZ3.out))
  have HZ4 := Lib.hid HB4.out.size
  clear hr4
  go_wp2_with fail
  refine (probs_one _ b _ _ w4 HA4.out rfl).mono ?_
  rintro e w5 ⟨g5, c5, rfl, hc5, hb5⟩
  have HB5 := Lib.hid (HB4.out.trans (hb5.mono HZ4.out))
  rw [prob_lit 0 (by decide), show strV (UInt8.ofNat (48 + 0) :: 32 :: numberW) = .string ⟨#[48, 32, 110, 117, 109, 98, 101, 114]⟩ from rfl] at hc5
  clear hb5
  go_wp2_with fail
  go_ret
  exact ⟨rfl, HB5.out⟩
end Go.Proofs.YtbppgicdmkkmnaaDoor
