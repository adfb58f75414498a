/-
  Contract of PDU.Name.
-/
import Derived.Test.YtohenohgceaibaaGreatDoorPduShape
set_option linter.unusedVariables false
set_option linter.unusedSimpArgs false
namespace Go.Proofs.YtohenohgceaibaaGreatDoor
open Go.RowKit

/-- A kind's word. -/
def kindWord (k : Int) : ByteArray :=
  if k = 1 then ⟨#[98, 103, 110]⟩ else if k = 2 then ⟨#[98, 103, 97, 107]⟩ else if k = 3 then ⟨#[101, 110, 100]⟩ else if k = 4 then ⟨#[101, 110, 100, 97, 107]⟩ else if k = 5 then ⟨#[114, 115]⟩
  else if k = 6 then ⟨#[114, 115, 97, 107]⟩ else if k = 7 then ⟨#[98, 103, 114, 101, 106]⟩ else if k = 8 then ⟨#[115, 100]⟩ else if k = 9 then ⟨#[101, 114]⟩ else if k = 10 then ⟨#[112, 111, 108, 108]⟩
  else if k = 11 then ⟨#[115, 116, 97, 116]⟩ else if k = 12 then ⟨#[117, 115, 116, 97, 116]⟩ else if k = 13 then ⟨#[117, 100]⟩ else if k = 14 then ⟨#[109, 100]⟩ else if k = 15 then ⟨#[101, 114, 97, 107]⟩ else ⟨#[]⟩

theorem field_is (a b c d e f g : Value) (x : Value) (w : World) : (Instr.field 76 (.agg #[a, b, c, d, e, f, g, x]) 7).run Tryz.prog w = .ok x w := by kernel_rfl
set_option maxHeartbeats 2000000 in
theorem Name_none (k sq n ps mr : Int) (lv : Value) (self : Bool) (d : ByteArray) (w : World) (hk : k < 1 ∨ 15 < k) :
    Calls Tryz.prog 22 #[.agg #[.int .i64 k, .int .i64 sq, .int .u32 n, .int .u32 ps, .int .u32 mr, lv, .bool self, .string d]] w fun e w' => e = .returned (.string (kindWord k)) ∧ Below w.heap.size w w' := by
  have HW : Hid (kindWord k = ⟨#[]⟩) := Lib.hid (by
    unfold kindWord
    repeat rw [if_neg (by omega)])
  have HX := Lib.hid (shapeOf_any k)
  have hs : sIs k = false := by unfold sIs; exact decide_eq_false (by omega)
  unfold shapeV at HX
  rw [hs] at HX
  clear hs hk
  rw [HW.out]
  have hf := field_is
  go_enter Tryz.func22, Tryz.ntmps22
  go_wp2_with fail
  refine (HX.out _).mono ?_
  rintro e w1 ⟨rfl, hb⟩
  go_wp2_with fail
  go_ret
  exact ⟨rfl, belAlloc hb (by simp)⟩


theorem name_index (k : Int) (h1 : 1 ≤ k) (h2 : k ≤ 15) (w : World) : (Instr.index 80 (.agg #[.string ⟨#[]⟩, .string ⟨#[98, 103, 110]⟩, .string ⟨#[98, 103, 97, 107]⟩, .string ⟨#[101, 110, 100]⟩, .string ⟨#[101, 110, 100, 97, 107]⟩, .string ⟨#[114, 115]⟩, .string ⟨#[114, 115, 97, 107]⟩, .string ⟨#[98, 103, 114, 101, 106]⟩, .string ⟨#[115, 100]⟩, .string ⟨#[101, 114]⟩, .string ⟨#[112, 111, 108, 108]⟩, .string ⟨#[115, 116, 97, 116]⟩, .string ⟨#[117, 115, 116, 97, 116]⟩, .string ⟨#[117, 100]⟩, .string ⟨#[109, 100]⟩, .string ⟨#[101, 114, 97, 107]⟩]) (.int .i64 k)).run Tryz.prog w = .ok (.string (kindWord k)) w := by
  have h : k = 1 ∨ k = 2 ∨ k = 3 ∨ k = 4 ∨ k = 5 ∨ k = 6 ∨ k = 7 ∨ k = 8 ∨ k = 9 ∨ k = 10 ∨ k = 11 ∨ k = 12 ∨ k = 13 ∨ k = 14 ∨ k = 15 := by omega
  rcases h with rfl | rfl | rfl | rfl | rfl | rfl | rfl | rfl | rfl | rfl | rfl | rfl | rfl | rfl | rfl
  all_goals (show _ = _; kernel_rfl)
set_option maxHeartbeats 2000000 in
theorem Name_some (k sq n ps mr : Int) (lv : Value) (self : Bool) (d : ByteArray) (w : World) (hk1 : 1 ≤ k) (hk2 : k ≤ 15) :
    Calls Tryz.prog 22 #[.agg #[.int .i64 k, .int .i64 sq, .int .u32 n, .int .u32 ps, .int .u32 mr, lv, .bool self, .string d]] w fun e w' => e = .returned (.string (kindWord k)) ∧ Below w.heap.size w w' := by
  have HX := Lib.hid (shapeOf_any k)
  have hs : sIs k = true := by unfold sIs; exact decide_eq_true ⟨hk1, hk2⟩
  unfold shapeV at HX
  rw [hs] at HX
  clear hs
  have hf := field_is
  have hi := name_index k hk1 hk2
  generalize kindWord k = kw at *
  clear hk1 hk2
  go_enter Tryz.func22, Tryz.ntmps22
  go_wp2_with fail
  refine (HX.out _).mono ?_
  rintro e w1 ⟨rfl, hb⟩
  have hz : w.heap.size < w1.heap.size := by have := hb.size; simp at this; omega
  have hc : w1.cell? ⟨w.heap.size, 0, none⟩ = some (.int .i64 k) := (bcell hb w.heap.size 0 (by simp)).trans (by first | (go_simp; done) | (simp; done))
  go_wp2_with fail
  go_ret
  exact ⟨rfl, belAlloc hb (by simp)⟩
theorem Name_any (k sq n ps mr : Int) (lv : Value) (self : Bool) (d : ByteArray) (w : World) :
    Calls Tryz.prog 22 #[.agg #[.int .i64 k, .int .i64 sq, .int .u32 n, .int .u32 ps, .int .u32 mr, lv, .bool self, .string d]] w fun e w' => e = .returned (.string (kindWord k)) ∧ Below w.heap.size w w' := by
  by_cases hk : k < 1 ∨ 15 < k
  · exact Name_none k sq n ps mr lv self d w hk
  · exact Name_some k sq n ps mr lv self d w (by omega) (by omega)
end Go.Proofs.YtohenohgceaibaaGreatDoor
