/-
  Contract of PDU.Name; the statement PduNames, walked.
-/
import Derived.Test.YtijneajaplebnaaPduName
set_option linter.unusedVariables false
set_option linter.unusedSimpArgs false
namespace Go.Proofs.Ytijneajaplebnaa
open Go.RowKit


set_option maxHeartbeats 2000000 in
theorem pduNames_none (k : Int) (w : World) (hk : k < 1 ∨ 15 < k) (HA : Hid (∀ w : World, Calls Try.prog 7 #[] w fun e w' => e = .returned (.bool true) ∧ Below w.heap.size w w')) :
    Calls Try.prog 6 #[.int .i64 k] w fun e w' => e = .returned (.bool true) ∧ Below w.heap.size w w' := by
  have HN := Lib.hid (Name_any k)
  have HW : Hid (kindWord k = ⟨#[]⟩) := Lib.hid (by
    unfold kindWord
    repeat rw [if_neg (by omega)])
  rw [HW.out] at HN
  clear HW
  rcases hk with hk | hk
  · go_enter Try.func6, Try.ntmps6
    go_wp2_with fail
    refine (HA.out _).mono ?_
    rintro e w1 ⟨rfl, hb⟩
    go_wp2_with fail
    refine (HN.out _ _ _ _ _ _ _ _).mono ?_
    rintro e w2 ⟨rfl, hb2⟩
    go_wp2_with fail
    go_ret
    exact ⟨rfl, hb.trans (((Below.refl _ w1).alloc (Nat.le_refl _) _ |>.trans (hb2.mono (by simp))).mono hb.size)⟩
  · have hk1 : 1 ≤ k := by omega
    go_enter Try.func6, Try.ntmps6
    go_wp2_with fail
    refine (HA.out _).mono ?_
    rintro e w1 ⟨rfl, hb⟩
    go_wp2_with fail
    refine (HN.out _ _ _ _ _ _ _ _).mono ?_
    rintro e w2 ⟨rfl, hb2⟩
    go_wp2_with fail
    go_ret
    exact ⟨rfl, hb.trans (((Below.refl _ w1).alloc (Nat.le_refl _) _ |>.trans (hb2.mono (by simp))).mono hb.size)⟩

theorem names_at (m : Nat) (hk : m < 15) : [Value.string ⟨#[98, 103, 110]⟩, Value.string ⟨#[98, 103, 97, 107]⟩, Value.string ⟨#[101, 110, 100]⟩, Value.string ⟨#[101, 110, 100, 97, 107]⟩, Value.string ⟨#[114, 115]⟩, Value.string ⟨#[114, 115, 97, 107]⟩, Value.string ⟨#[98, 103, 114, 101, 106]⟩, Value.string ⟨#[115, 100]⟩, Value.string ⟨#[101, 114]⟩, Value.string ⟨#[112, 111, 108, 108]⟩, Value.string ⟨#[115, 116, 97, 116]⟩, Value.string ⟨#[117, 115, 116, 97, 116]⟩, Value.string ⟨#[117, 100]⟩, Value.string ⟨#[109, 100]⟩, Value.string ⟨#[101, 114, 97, 107]⟩][m] = .string (kindWord ((m : Int) + 1)) := by
  have h : m = 0 ∨ m = 1 ∨ m = 2 ∨ m = 3 ∨ m = 4 ∨ m = 5 ∨ m = 6 ∨ m = 7 ∨ m = 8 ∨ m = 9 ∨ m = 10 ∨ m = 11 ∨ m = 12 ∨ m = 13 ∨ m = 14 := by omega
  rcases h with rfl | rfl | rfl | rfl | rfl | rfl | rfl | rfl | rfl | rfl | rfl | rfl | rfl | rfl | rfl <;> rfl
set_option maxHeartbeats 2000000 in
theorem pduNames_some (m : Nat) (w : World) (hk : m < 15) (HA : Hid (∀ w : World, Calls Try.prog 7 #[] w fun e w' => e = .returned (.bool true) ∧ Below w.heap.size w w')) :
    Calls Try.prog 6 #[.int .i64 ((m : Int) + 1)] w fun e w' => e = .returned (.bool true) ∧ Below w.heap.size w w' := by
  have HN := Lib.hid (Name_any ((m : Int) + 1))
  have HE := Lib.hid (names_at m hk)
  generalize kindWord ((m : Int) + 1) = kw at *
  have h0 : (1 : Int) ≤ (m : Int) + 1 := by omega
  have h1 : (m : Int) + 1 ≤ 15 := by omega
  have h2 : (m : Int) + 1 - 1 = (m : Int) := by omega
  go_enter Try.func6, Try.ntmps6
  go_wp2_with fail
  refine (HA.out _).mono ?_
  rintro e w1 ⟨rfl, hb⟩
  go_wp2_with fail
  simp only [HE.out]
  refine (HN.out _ _ _ _ _ _ _ _).mono ?_
  rintro e w2 ⟨rfl, hb2⟩
  go_wp2_with fail
  go_ret
  exact ⟨ret_bool (by simp), hb.trans (((Below.refl _ w1).alloc (Nat.le_refl _) _ |>.trans (hb2.mono (by simp))).mono hb.size)⟩
theorem pduNames_any (k : Int) (w : World) (HA : ∀ w : World, Calls Try.prog 7 #[] w fun e w' => e = .returned (.bool true) ∧ Below w.heap.size w w') :
    Calls Try.prog 6 #[.int .i64 k] w fun e w' => e = .returned (.bool true) ∧ Below w.heap.size w w' := by
  by_cases hk : k < 1 ∨ 15 < k
  · exact pduNames_none k w hk (Lib.hid HA)
  · obtain ⟨m, hm⟩ := Int.eq_ofNat_of_zero_le (show 0 ≤ k - 1 by omega)
    obtain rfl : k = (m : Int) + 1 := by omega
    exact pduNames_some m w (by omega) (Lib.hid HA)
end Go.Proofs.Ytijneajaplebnaa
