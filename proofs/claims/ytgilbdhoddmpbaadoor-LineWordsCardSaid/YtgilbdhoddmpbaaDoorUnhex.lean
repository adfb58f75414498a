/-
  Contracts of event.Unhex.
-/
import Derived.Test.YtgilbdhoddmpbaaDoorPlainUnhex
import Derived.Test.YtgilbdhoddmpbaaDoorHex
import Derived.Test.YtgilbdhoddmpbaaDoorCommon
import Derived.Test.YtgilbdhoddmpbaaDoorBits
import Derived.WalkSpells
import Derived.WalkLawsBesides
import Derived.IntWalk
set_option linter.unusedVariables false
set_option linter.unusedSimpArgs false
namespace Go.Proofs.YtgilbdhoddmpbaaDoor
open Go.RowKit

theorem index_dig (c : UInt8) (w : World) : Calls Tryd.prog 51 #[.string ⟨#[48, 49, 50, 51, 52, 53, 54, 55, 56, 57, 97, 98, 99, 100, 101, 102]⟩, .int .u8 (c.toNat : Int)] w fun e w' => e = .returned (.int .i64 (digVal c)) ∧ w' = w := by
  have h := Tryd.strings_IndexByte ⟨#[48, 49, 50, 51, 52, 53, 54, 55, 56, 57, 97, 98, 99, 100, 101, 102]⟩ (c.toNat : Int) w
  have e : (c.toNat : Int).toNat.toUInt8 = c := by simp
  rw [e] at h
  rw [← indexByte_dig c]
  exact h

def UnhexPost (l : List UInt8) (w : World) (e : Ending) (w' : World) : Prop :=
  e = .returned (.tuple #[.string ⟨((unhexOf l).getD []).toArray⟩, .bool (unhexOf l).isSome]) ∧ Below w.heap.size w w'

set_option maxHeartbeats 1000000 in
theorem unhex_any (s : ByteArray) (w : World) (hs : s.size ≤ 1000000) :
    Calls Tryd.prog 42 #[.string s] w (UnhexPost s.data.toList w) := by
  by_cases hd : s.data.toList = [45]
  · have hs1 : s = ⟨#[45]⟩ := str_eq (by rw [hd])
    subst hs1
    go_enter Tryd.func42, Tryd.ntmps42
    go_wp2
    go_ret2
    exact ⟨rfl, Below.refl _ _⟩
  · have hd2 : (s.toList == [45]) = false := by rw [Lib.toList_data]; simpa using hd
    have hun : unhexOf s.data.toList = if s.data.toList = [] ∨ s.data.toList.length % 2 ≠ 0 then none else unBody s.data.toList := by
      unfold unhexOf; rw [if_neg hd]
    rw [size_len] at hun
    clear hd
    by_cases h0 : s.size = 0
    · have he := empty_bool h0
      have hnil : unhexOf s.data.toList = none := by
        rw [hun, if_pos]; exact Or.inl (List.eq_nil_of_length_eq_zero (by rw [size_len]; exact h0))
      have HN := Lib.hid hnil
      clear hnil hun h0
      go_enter Tryd.func42, Tryd.ntmps42
      go_wp2
      go_ret2
      exact ⟨by rw [HN.out]; rfl, Below.refl _ _⟩
    · have he := full_bool h0
      by_cases hodd : s.size % 2 = 0
      · have hev : unhexOf s.data.toList = unBody s.data.toList := by
          rw [hun, if_neg]; rintro (h | h)
          · exact h0 (by rw [← size_len, h]; rfl)
          · exact h hodd
        have HE := Lib.hid hev
        have HO := Lib.hid hodd
        have hoddb : ((s.size : Int) % 2 != 0) = false := by simp; omega
        clear hev hun hodd h0
        go_enter Tryd.func42, Tryd.ntmps42
        go_wp2_with fail
        go_loopw [5] (fun i wr => ∃ (j : Nat) (acc : List UInt8), j ≤ s.size ∧ i = .int .i64 j ∧ Hid (j % 2 = 0) ∧ Hid (unBody s.data.toList = (unBody (s.data.toList.drop j)).map (acc ++ ·)) ∧ acc.length ≤ j ∧ Lib.IsBuilder 62 5 w.heap.size w.heap.size (Lib.byteCells acc) wr ∧ Below w.heap.size w wr) (fun i _ => s.size - (intOf i).toNat)
        case atStart => exact ⟨0, [], Nat.zero_le _, rfl, Lib.hid rfl, Lib.hid (by rw [List.drop_zero]; cases unBody s.data.toList <;> rfl), by simp, Lib.fresh_isBuilder _ _ w, (Below.refl _ _).alloc (Nat.le_refl _) _⟩
        case round =>
          obtain ⟨j, acc, hj, rfl, hev, hun, hal, hbu, hbel⟩ := hrel
          by_cases hlt : j < s.size
          · have hlt2 : j + 1 < s.size := by have := hev.out; have := HO.out; omega
            have hdrop : s.data.toList.drop j = s[j] :: s[j + 1] :: s.data.toList.drop (j + 2) := by
              rw [List.drop_eq_getElem_cons (by simpa using hlt), List.drop_eq_getElem_cons (by simpa using hlt2)]; rfl
            have HD := Lib.hid hdrop
            clear hdrop
            have hsz := hbel.size
            have hx0 := digVal_ge s[j]
            have hx1 := digVal_lt s[j]
            have hy0 := digVal_ge s[j + 1]
            have hy1 := digVal_lt s[j + 1]
            by_cases hneg : digVal s[j] < 0 ∨ digVal s[j + 1] < 0
            · have hfin : unhexOf s.data.toList = none := by
                rw [HE.out, hun.out, HD.out, unBody, if_pos hneg]; rfl
              have HFI := Lib.hid hfin
              clear hfin hun
              go_wp2_with fail
              have q1 : IntKind.i64.wrap ((j : Int) + 1) = (j : Int) + 1 := IntWalk.i64_in _ (by omega)
              have q2 : 0 ≤ (j : Int) + 1 := by omega
              have q3 : ((j : Int) + 1).toNat = j + 1 := by omega
              have q4 : (j : Int) + 1 < (s.size : Int) := by omega
              go_quiet ((go_at_call 51; exact Calls.quiet_of_same (index_dig _ _)))
              clear q1
              try clear q3
              generalize digVal s[j] = x at *
              generalize digVal s[j + 1] = y at *
              by_cases hxn : x < 0
              · clear hneg
                go_wp2_with fail
                go_ret2
                exact ⟨by rw [HFI.out]; rfl, below_drewN hbel nq⟩
              · have hyn : y < 0 := by omega
                clear hneg
                go_wp2_with fail
                go_ret2
                exact ⟨by rw [HFI.out]; rfl, below_drewN hbel nq⟩
            · have hx : 0 ≤ digVal s[j] := by omega
              have hy : 0 ≤ digVal s[j + 1] := by omega
              have HU : Hid (unBody s.data.toList = (unBody (s.data.toList.drop (j + 2))).map ((acc ++ [UInt8.ofNat ((digVal s[j]).toNat * 16 + (digVal s[j + 1]).toNat)]) ++ ·)) := by
                refine Lib.hid ?_
                rw [hun.out, HD.out, unBody, if_neg hneg, Option.map_map]
                cases unBody (s.data.toList.drop (j + 2)) <;> simp
              clear hun
              go_wp2_with fail
              have q1 : IntKind.i64.wrap ((j : Int) + 1) = (j : Int) + 1 := IntWalk.i64_in _ (by omega)
              have q2 : 0 ≤ (j : Int) + 1 := by omega
              have q3 : ((j : Int) + 1).toNat = j + 1 := by omega
              have q4 : (j : Int) + 1 < (s.size : Int) := by omega
              go_quiet ((go_at_call 51; exact Calls.quiet_of_same (index_dig _ _)))
              clear q1
              try clear q3
              generalize digVal s[j] = x at *
              generalize digVal s[j + 1] = y at *
              go_wp2_with fail
              rw [or16_i64 x y hx hx1 hy hy1]
              refine (Tryd.Builder_WriteByte w.heap.size w.heap.size (Lib.byteCells acc) _ (wr.drewN nq) hbu (by rw [Lib.byteCells_length]; omega) hsz).mono ?_
              rintro e w1 ⟨rfl, hb1, hbel1⟩
              have hB : Lib.IsBuilder 62 5 w.heap.size w.heap.size (Lib.byteCells (acc ++ [UInt8.ofNat (x.toNat * 16 + y.toNat)])) w1 := by
                rw [Lib.byteCells_append]
                have e : (UInt8.ofNat (x.toNat * 16 + y.toNat)).toNat = x.toNat * 16 + y.toNat := by
                  rw [UInt8.toNat_ofNat']; exact Nat.mod_eq_of_lt (by omega)
                have e2 : ((x.toNat * 16 + y.toNat : Nat) : Int) = (x * 16 + y) % 256 := by omega
                have e3 : Lib.byteCells [UInt8.ofNat (x.toNat * 16 + y.toNat)] = [.int .u8 ((x * 16 + y) % 256)] := by
                  rw [← e2]; show [Value.int .u8 ((UInt8.ofNat (x.toNat * 16 + y.toNat)).toNat : Int)] = _; rw [e]
                rw [e3]
                exact Or.inr hb1
              have hbel3 : Below w.heap.size w w1 := (below_drewN hbel nq).trans hbel1
              clear hb1 hbel1 hbu hbel
              go_wp2_with fail
              go_roundw
              case rel => exact ⟨j + 2, acc ++ [UInt8.ofNat (x.toNat * 16 + y.toNat)], by omega, by go_num, Lib.hid (by have := hev.out; omega), HU, by simp; omega, hB, hbel3⟩
              case measure => simp [intOf]; omega
          · have hdrop : s.data.toList.drop j = [] := List.drop_eq_nil_of_le (by rw [size_len]; omega)
            have hfin : unhexOf s.data.toList = some acc := by rw [HE.out, hun.out, hdrop]; simp [unBody]
            have HFI := Lib.hid hfin
            clear hfin hdrop hun
            go_wp2_with fail
            refine (Tryd.Builder_String_any _ _ _ _ hbu hbel.size).mono ?_
            rintro e w1 ⟨rfl, hbel1⟩
            go_wp2_with fail
            go_ret2
            exact ⟨by rw [HFI.out]; rfl, hbel.trans hbel1⟩
      · have hnil : unhexOf s.data.toList = none := by
          rw [hun, if_pos]; exact Or.inr hodd
        have HN := Lib.hid hnil
        have hoddb : ((s.size : Int) % 2 != 0) = true := by simp; omega
        clear hnil hun hodd
        go_enter Tryd.func42, Tryd.ntmps42
        go_wp2
        go_ret2
        exact ⟨by rw [HN.out]; rfl, Below.refl _ _⟩
end Go.Proofs.YtgilbdhoddmpbaaDoor
