/-
  Contract of the document's Digits.
-/
import Derived.Test.YtgilbdhoddmpbaaDoorPlainText
import Derived.Test.YtgilbdhoddmpbaaDoorCommon
import Derived.Test.YtgilbdhoddmpbaaDoorBytes
import Derived.WalkSpells
import Derived.WalkLawsBesides
import Derived.Lib.Hide
import Derived.Lib.ItoaLen
set_option linter.unusedVariables false
set_option linter.unusedSimpArgs false
namespace Go.Proofs.YtgilbdhoddmpbaaDoor
open Go.RowKit

def decPre (u : Nat) : List UInt8 := if u = 0 then [] else Lib.decDigits u
theorem decPre_step (u : Nat) (h : 0 < u) : decPre u = decPre (u / 10) ++ [48 + UInt8.ofNat (u % 10)] := by
  unfold decPre
  rw [if_neg (by omega), Lib.decDigits]
  by_cases h1 : u < 10
  · rw [dif_pos h1, if_pos (by omega)]; simp [Nat.mod_eq_of_lt h1]
  · rw [dif_neg h1, if_neg (by omega)]; simp
theorem decDigits_zero : Lib.decDigits 0 = [48] := by rw [Lib.decDigits, dif_pos (by omega)]; rfl
theorem decDigits_step (u : Nat) : Lib.decDigits u = decPre (u / 10) ++ [48 + UInt8.ofNat (u % 10)] := by
  by_cases h : u = 0
  · subst h; rw [decDigits_zero]; rfl
  · rw [← decPre_step u (by omega), decPre, if_neg h]
theorem itoa_neg' (u : Nat) (h : 0 < u) : Lib.itoa (-(u : Int)) = 45 :: decPre u := by
  unfold Lib.itoa decPre; rw [if_pos (by omega), if_neg (by omega)]; simp
theorem itoa_nat (u : Nat) : Lib.itoa (u : Int) = Lib.decDigits u := by unfold Lib.itoa; rw [if_neg (by omega)]; simp

set_option maxHeartbeats 1000000 in
theorem digits_neg (u0 : Nat) (w : World) (hu0 : 0 < u0) (hu : u0 ≤ 9223372036854775808) :
    Calls Tryd.prog 32 #[.int .i64 (-(u0 : Int))] w fun e w' => e = .returned (.string ⟨(45 :: decPre u0).toArray⟩) ∧ Below w.heap.size w w' := by
  have kc := conv1
  have hlen := Lib.itoa_length_le (-(u0 : Int)) (by omega) (by omega)
  rw [itoa_neg' u0 hu0] at hlen
  simp only [List.length_cons] at hlen
  go_enter Tryd.func32, Tryd.ntmps32
  go_wp2_with fail
  go_loopw [0, 3] (fun m o wr => ∃ (u : Nat) (acc : List UInt8), u ≤ u0 ∧ m = .int .i64 (-(u : Int)) ∧ o = .string ⟨acc.toArray⟩ ∧ Hid (decPre u0 = decPre u ++ acc) ∧ Below w.heap.size w wr) (fun m _ _ => (intOf m).natAbs)
  case atStart => exact ⟨u0, [], Nat.le_refl _, rfl, rfl, Lib.hid (by simp), Below.refl _ _⟩
  case round =>
    obtain ⟨u, acc, hu1, rfl, rfl, hacc, hbel⟩ := hrel
    have hal : acc.length ≤ 21 := by
      have := congrArg List.length hacc.out; rw [List.length_append] at this; omega
    have hsz := hbel.size
    by_cases hlt : 0 < u
    · go_wp2_with fail
      refine ⟨⟨u / 10, (48 + UInt8.ofNat (u % 10)) :: acc, by omega, by simp, congrArg Value.string (str_eq (by simp)), Lib.hid (by rw [hacc.out, decPre_step u hlt]; simp), hbel.alloc hsz _⟩, by simp [intOf]; omega⟩
    · obtain rfl : u = 0 := by omega
      have hacc2 : decPre u0 = acc := by rw [hacc.out]; rfl
      have HA := Lib.hid hacc2; clear hacc2
      go_wp2_with fail
      go_ret
      exact ⟨ret_str (by rw [HA.out]; simp), hbel⟩

set_option maxHeartbeats 1000000 in
theorem digits_nat (u0 : Nat) (w : World) (hu : u0 ≤ 9223372036854775807) :
    Calls Tryd.prog 32 #[.int .i64 (u0 : Int)] w fun e w' => e = .returned (.string ⟨(Lib.decDigits u0).toArray⟩) ∧ Below w.heap.size w w' := by
  have kc := conv1
  have hlen := Lib.itoa_length_le (u0 : Int) (by omega) (by omega)
  rw [itoa_nat u0] at hlen
  go_enter Tryd.func32, Tryd.ntmps32
  go_wp2_with fail
  go_loopw [0, 4, 5] (fun m o i wr => ∃ (u j : Nat) (acc : List UInt8), u ≤ u0 ∧ m = .int .i64 u ∧ o = .string ⟨acc.toArray⟩ ∧ i = .int .i64 j ∧ Hid (j = acc.length) ∧ Hid ((j = 0 ∧ u = u0 ∧ acc = []) ∨ (0 < j ∧ Lib.decDigits u0 = decPre u ++ acc)) ∧ Below w.heap.size w wr) (fun m _ i _ => (intOf m).toNat + if (intOf i) = 0 then 1 else 0)
  case atStart => exact ⟨u0, 0, [], Nat.le_refl _, rfl, rfl, rfl, Lib.hid rfl, Lib.hid (Or.inl ⟨rfl, rfl, rfl⟩), Below.refl _ _⟩
  case round =>
    obtain ⟨u, j, acc, hu1, rfl, rfl, rfl, hj, hacc, hbel⟩ := hrel
    have hal : acc.length ≤ 21 := by
      rcases hacc.out with ⟨_, _, rfl⟩ | ⟨_, h⟩
      · simp
      · have := congrArg List.length h; rw [List.length_append] at this; omega
    have hjl : j ≤ 21 := by have := hj.out; omega
    have hsz := hbel.size
    by_cases hj0 : j = 0
    · subst hj0
      have hst : u = u0 ∧ acc = [] := by
        rcases hacc.out with ⟨_, h1, h2⟩ | ⟨h, _⟩
        · exact ⟨h1, h2⟩
        · omega
      obtain ⟨rfl, rfl⟩ := hst
      clear hacc hj
      go_wp2_with fail
      refine ⟨⟨u / 10, 1, [48 + UInt8.ofNat (u % 10)], by omega, by simp, congrArg Value.string (str_eq (by simp)), by simp, Lib.hid rfl, Lib.hid (Or.inr ⟨by omega, decDigits_step u⟩), hbel.alloc hsz _⟩, by simp [intOf]; omega⟩
    · have hd : Lib.decDigits u0 = decPre u ++ acc := by
        rcases hacc.out with ⟨h, _, _⟩ | ⟨_, h⟩
        · exact absurd h hj0
        · exact h
      have HD := Lib.hid hd
      clear hd hacc
      have hjb : ((j : Int) == 0) = false := by simpa using hj0
      by_cases hlt : 0 < u
      · go_wp2_with fail
        refine ⟨⟨u / 10, j + 1, (48 + UInt8.ofNat (u % 10)) :: acc, by omega, by simp, congrArg Value.string (str_eq (by simp)), by simp, Lib.hid (by rw [hj.out]; simp), Lib.hid (Or.inr ⟨by omega, by rw [HD.out, decPre_step u hlt]; simp⟩), hbel.alloc hsz _⟩, ?_⟩
        have e1 : ¬ ((j : Int) + 1 = 0) := by omega
        simp [intOf, e1, hj0]; omega
      · obtain rfl : u = 0 := by omega
        have hacc2 : Lib.decDigits u0 = acc := by rw [HD.out]; rfl
        have HA := Lib.hid hacc2; clear hacc2
        go_wp2_with fail
        go_ret
        exact ⟨ret_str (by rw [HA.out]), hbel⟩

theorem digits_any (n : Int) (w : World) (h0 : -9223372036854775808 ≤ n) (h1 : n ≤ 9223372036854775807) :
    Calls Tryd.prog 32 #[.int .i64 n] w fun e w' => e = .returned (.string ⟨(Lib.itoa n).toArray⟩) ∧ Below w.heap.size w w' := by
  by_cases h : n < 0
  · obtain ⟨u, rfl⟩ : ∃ u : Nat, n = -(u : Int) := ⟨n.natAbs, by omega⟩
    rw [itoa_neg' u (by omega)]
    exact digits_neg u w (by omega) (by omega)
  · obtain ⟨u, rfl⟩ := Int.eq_ofNat_of_zero_le (show 0 ≤ n by omega)
    rw [itoa_nat]
    exact digits_nat u w (by omega)
end Go.Proofs.YtgilbdhoddmpbaaDoor
