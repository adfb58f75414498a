/-
  Contract of event.Hex.
  Contracts of event.Unhex.
  Contracts of line.Kind and line.needs.
  Contract of line.number, of any text.
  Contract of (*line.Step).take.
  The package-level variables that line.Parse reads: bytealg.MaxLen is a number. strings.Split at one byte.
  Contract of line.step, of any text.
  A law for a range over a function whose iterator keeps its state in a cell of its own.
  strings.SplitSeq at a line's end: what its closure hands on, and where it keeps what is left.
  Contract of line.Parse, of any text.
-/
import Derived.Test.YtlkceignfhnpoaaGreatDoorRows
import Derived.Test.YtlkceignfhnpoaaGreatDoorShelf
import Derived.Test.YtlkceignfhnpoaaGreatDoorCQP
import Derived.WalkKit
import Derived.WalkSpells
import Derived.WalkLawsBesides
import Derived.Lib.Hide
import Derived.Test.YtlkceignfhnpoaaGreatDoorCommon
import Derived.Test.YtlkceignfhnpoaaGreatDoorBits
import Derived.IntWalk
import Derived.Test.YtlkceignfhnpoaaGreatDoorBytes
import Derived.Lib.OthersKept
import Derived.Laws.RangeAny
import Derived.Test.YtlkceignfhnpoaaGreatDoorBox
import Derived.RangeFuncBox
import Derived.Maps.AppendAt
import Derived.Test.YtlkceignfhnpoaaGreatDoorIntsR
import Derived.Deep.DeepCutAuto
import Derived.RangeFuncNested
import Derived.RangeFuncBound
import Derived.RangeFuncCalls
import Derived.RangeFuncLeaves
import Derived.Shelf.Abstract
import Derived.Shelf.RegionOpen
import Derived.OwnWalkIn
import Derived.TacticsInMore
import Derived.LoopNIn
import Derived.LoopIn
import Derived.Lib.IndexLaws
import Derived.Outline
import Derived.Deep.AppendLies
set_option linter.unusedVariables false
set_option linter.unusedSimpArgs false
section
namespace Go.Proofs.YtlkceignfhnpoaaGreatDoor
open Go.RowKit

set_option maxHeartbeats 400000 in
theorem hex_any (s : ByteArray) (w : World) (hs : s.size ≤ 1000000) :
    Calls Tryz.prog 28 #[.string s] w fun e w' => e = .returned (.string ⟨(hexOf s.data.toList).toArray⟩) ∧ Below w.heap.size w w' := by
  by_cases h0 : s.toList.isEmpty
  · have h1 : s.data.toList = [] := by rw [List.isEmpty_iff] at h0; rw [Lib.toList_data] at h0; exact h0
    have H1 := Lib.hid h1; clear h1
    go_enter Tryz.func28, Tryz.ntmps28
    go_wp2
    go_ret
    exact ⟨by rw [H1.out]; simp [hexOf], Below.refl _ _⟩
  · go_enter Tryz.func28, Tryz.ntmps28
    go_wp2
    go_loopw [9] (fun i wr => ∃ k : Nat, k ≤ s.size ∧ i = .int .i64 k ∧ Lib.IsBuilder 68 5 w.heap.size w.heap.size (Lib.byteCells (hexBody (s.data.toList.take k))) wr ∧ Below w.heap.size w wr) (fun i _ => s.size - (intOf i).toNat)
    case atStart => 
      exact ⟨0, Nat.zero_le _, rfl, Lib.fresh_isBuilder _ _ w, (Below.refl _ _).alloc (Nat.le_refl _) _⟩
    case round =>
      obtain ⟨k, hk, rfl, hbu, hbel⟩ := hrel
      by_cases hlt : k < s.size
      · have hc : (s[k].toNat : Int) ≤ 255 := by have := s[k].toNat_lt; omega
        have hln : (hexBody (s.data.toList.take k)).length ≤ 2000000 := by
          rw [hexBody_length]; have := List.length_take_le k s.data.toList; omega
        have hsz := hbel.size
        go_wp2_with fail
        refine (Tryz.Builder_WriteByte _ _ _ _ _ hbu (by rw [Lib.byteCells_length]; omega) hsz).mono ?_
        rintro e w1 ⟨rfl, hb1, hbel1⟩
        go_wp2_with fail
        have hsz1 := Nat.le_trans hsz hbel1.size
        refine (Tryz.Builder_WriteByte _ _ _ _ _ (Or.inr hb1) (by rw [List.length_append, Lib.byteCells_length]; simp; omega) hsz1).mono ?_
        rintro e w2 ⟨rfl, hb2, hbel2⟩
        have hB : Lib.IsBuilder 68 5 w.heap.size w.heap.size (Lib.byteCells (hexBody (s.data.toList.take (k + 1)))) w2 := by
          rw [hexBody_take s k hlt, Lib.byteCells_append, Lib.byteCells_append]
          rw [digits_lt _ (by omega), digits_lt _ (by omega)] at hb2
          exact Or.inr hb2
        have hbel3 := (hbel.trans hbel1).trans hbel2
        clear hb1 hb2 hbu hbel hbel1 hbel2 hc hln
        go_wp2_with fail
        go_roundw
        case rel => exact ⟨k + 1, by omega, by go_num, hB, hbel3⟩
        case measure => simp [intOf]; omega
      · have hk' : k = s.size := by omega
        have hfull : s.data.toList.take k = s.data.toList := by rw [hk']; exact List.take_of_length_le (by simp)
        rw [hfull] at hbu
        clear hfull hk'
        go_wp2_with fail
        refine (Tryz.Builder_String_any _ _ _ _ hbu hbel.size).mono ?_
        rintro e w1 ⟨rfl, hbel1⟩
        go_wp2_with fail
        go_ret
        refine ⟨?_, hbel.trans hbel1⟩
        rw [hexOf, if_neg]
        · rfl
        · intro h; exact h0 (by rw [List.isEmpty_iff, Lib.toList_data]; exact h)
end Go.Proofs.YtlkceignfhnpoaaGreatDoor
end
section
namespace Go.Proofs.YtlkceignfhnpoaaGreatDoor
open Go.RowKit

theorem index_dig (c : UInt8) (w : World) : Calls Tryz.prog 235 #[.string ⟨#[48, 49, 50, 51, 52, 53, 54, 55, 56, 57, 97, 98, 99, 100, 101, 102]⟩, .int .u8 (c.toNat : Int)] w fun e w' => e = .returned (.int .i64 (digVal c)) ∧ w' = w := by
  have h := Tryz.strings_IndexByte ⟨#[48, 49, 50, 51, 52, 53, 54, 55, 56, 57, 97, 98, 99, 100, 101, 102]⟩ (c.toNat : Int) w
  have e : (c.toNat : Int).toNat.toUInt8 = c := by simp
  rw [e] at h
  rw [← indexByte_dig c]
  exact h

def UnhexPost (l : List UInt8) (w : World) (e : Ending) (w' : World) : Prop :=
  e = .returned (.tuple #[.string ⟨((unhexOf l).getD []).toArray⟩, .bool (unhexOf l).isSome]) ∧ Below w.heap.size w w'

set_option maxHeartbeats 1000000 in
theorem unhex_any (s : ByteArray) (w : World) (hs : s.size ≤ 1000000) :
    Calls Tryz.prog 151 #[.string s] w (UnhexPost s.data.toList w) := by
  by_cases hd : s.data.toList = [45]
  · have hs1 : s = ⟨#[45]⟩ := str_eq (by rw [hd])
    subst hs1
    go_enter Tryz.func151, Tryz.ntmps151
    go_wp2
    go_ret2
    exact ⟨rfl, Below.refl _ _⟩
  · have hd2 : (s.toList == [45]) = false := by rw [Lib.toList_data]; simpa using hd
    have hun : unhexOf s.data.toList = if s.data.toList = [] ∨ s.data.toList.length % 2 ≠ 0 then none else unBody s.data.toList := by
      unfold unhexOf; rw [if_neg hd]
    rw [size_len] at hun
    clear hd
    by_cases h0 : s.size = 0
    · have he := empty_bool h0
      have hnil : unhexOf s.data.toList = none := by
        rw [hun, if_pos]; exact Or.inl (List.eq_nil_of_length_eq_zero (by rw [size_len]; exact h0))
      have HN := Lib.hid hnil
      clear hnil hun h0
      go_enter Tryz.func151, Tryz.ntmps151
      go_wp2
      go_ret2
      exact ⟨by rw [HN.out]; rfl, Below.refl _ _⟩
    · have he := full_bool h0
      by_cases hodd : s.size % 2 = 0
      · have hev : unhexOf s.data.toList = unBody s.data.toList := by
          rw [hun, if_neg]; rintro (h | h)
          · exact h0 (by rw [← size_len, h]; rfl)
          · exact h hodd
        have HE := Lib.hid hev
        have HO := Lib.hid hodd
        have hoddb : ((s.size : Int) % 2 != 0) = false := by simp; omega
        clear hev hun hodd h0
        go_enter Tryz.func151, Tryz.ntmps151
        go_wp2_with fail
        go_loopw [5] (fun i wr => ∃ (j : Nat) (acc : List UInt8), j ≤ s.size ∧ i = .int .i64 j ∧ Hid (j % 2 = 0) ∧ Hid (unBody s.data.toList = (unBody (s.data.toList.drop j)).map (acc ++ ·)) ∧ acc.length ≤ j ∧ Lib.IsBuilder 68 5 w.heap.size w.heap.size (Lib.byteCells acc) wr ∧ Below w.heap.size w wr) (fun i _ => s.size - (intOf i).toNat)
        case atStart => exact ⟨0, [], Nat.zero_le _, rfl, Lib.hid rfl, Lib.hid (by rw [List.drop_zero]; cases unBody s.data.toList <;> rfl), by simp, Lib.fresh_isBuilder _ _ w, (Below.refl _ _).alloc (Nat.le_refl _) _⟩
        case round =>
          obtain ⟨j, acc, hj, rfl, hev, hun, hal, hbu, hbel⟩ := hrel
          by_cases hlt : j < s.size
          · have hlt2 : j + 1 < s.size := by have := hev.out; have := HO.out; omega
            have hdrop : s.data.toList.drop j = s[j] :: s[j + 1] :: s.data.toList.drop (j + 2) := by
              rw [List.drop_eq_getElem_cons (by simpa using hlt), List.drop_eq_getElem_cons (by simpa using hlt2)]; rfl
            have HD := Lib.hid hdrop
            clear hdrop
            have hsz := hbel.size
            have hx0 := digVal_ge s[j]
            have hx1 := digVal_lt s[j]
            have hy0 := digVal_ge s[j + 1]
            have hy1 := digVal_lt s[j + 1]
            by_cases hneg : digVal s[j] < 0 ∨ digVal s[j + 1] < 0
            · have hfin : unhexOf s.data.toList = none := by
                rw [HE.out, hun.out, HD.out, unBody, if_pos hneg]; rfl
              have HFI := Lib.hid hfin
              clear hfin hun
              go_wp2_with fail
              have q1 : IntKind.i64.wrap ((j : Int) + 1) = (j : Int) + 1 := IntWalk.i64_in _ (by omega)
              have q2 : 0 ≤ (j : Int) + 1 := by omega
              have q3 : ((j : Int) + 1).toNat = j + 1 := by omega
              have q4 : (j : Int) + 1 < (s.size : Int) := by omega
              go_quiet ((go_at_call 235; exact Calls.quiet_of_same (index_dig _ _)))
              clear q1
              try clear q3
              generalize digVal s[j] = x at *
              generalize digVal s[j + 1] = y at *
              by_cases hxn : x < 0
              · clear hneg
                go_wp2_with fail
                go_ret2
                exact ⟨by rw [HFI.out]; rfl, below_drewN hbel nq⟩
              · have hyn : y < 0 := by omega
                clear hneg
                go_wp2_with fail
                go_ret2
                exact ⟨by rw [HFI.out]; rfl, below_drewN hbel nq⟩
            · have hx : 0 ≤ digVal s[j] := by omega
              have hy : 0 ≤ digVal s[j + 1] := by omega
              have HU : Hid (unBody s.data.toList = (unBody (s.data.toList.drop (j + 2))).map ((acc ++ [UInt8.ofNat ((digVal s[j]).toNat * 16 + (digVal s[j + 1]).toNat)]) ++ ·)) := by
                refine Lib.hid ?_
                rw [hun.out, HD.out, unBody, if_neg hneg, Option.map_map]
                cases unBody (s.data.toList.drop (j + 2)) <;> simp
              clear hun
              go_wp2_with fail
              have q1 : IntKind.i64.wrap ((j : Int) + 1) = (j : Int) + 1 := IntWalk.i64_in _ (by omega)
              have q2 : 0 ≤ (j : Int) + 1 := by omega
              have q3 : ((j : Int) + 1).toNat = j + 1 := by omega
              have q4 : (j : Int) + 1 < (s.size : Int) := by omega
              go_quiet ((go_at_call 235; exact Calls.quiet_of_same (index_dig _ _)))
              clear q1
              try clear q3
              generalize digVal s[j] = x at *
              generalize digVal s[j + 1] = y at *
              go_wp2_with fail
              rw [or16_i64 x y hx hx1 hy hy1]
              refine (Tryz.Builder_WriteByte w.heap.size w.heap.size (Lib.byteCells acc) _ (wr.drewN nq) hbu (by rw [Lib.byteCells_length]; omega) hsz).mono ?_
              rintro e w1 ⟨rfl, hb1, hbel1⟩
              have hB : Lib.IsBuilder 68 5 w.heap.size w.heap.size (Lib.byteCells (acc ++ [UInt8.ofNat (x.toNat * 16 + y.toNat)])) w1 := by
                rw [Lib.byteCells_append]
                have e : (UInt8.ofNat (x.toNat * 16 + y.toNat)).toNat = x.toNat * 16 + y.toNat := by
                  rw [UInt8.toNat_ofNat']; exact Nat.mod_eq_of_lt (by omega)
                have e2 : ((x.toNat * 16 + y.toNat : Nat) : Int) = (x * 16 + y) % 256 := by omega
                have e3 : Lib.byteCells [UInt8.ofNat (x.toNat * 16 + y.toNat)] = [.int .u8 ((x * 16 + y) % 256)] := by
                  rw [← e2]; show [Value.int .u8 ((UInt8.ofNat (x.toNat * 16 + y.toNat)).toNat : Int)] = _; rw [e]
                rw [e3]
                exact Or.inr hb1
              have hbel3 : Below w.heap.size w w1 := (below_drewN hbel nq).trans hbel1
              clear hb1 hbel1 hbu hbel
              go_wp2_with fail
              go_roundw
              case rel => exact ⟨j + 2, acc ++ [UInt8.ofNat (x.toNat * 16 + y.toNat)], by omega, by go_num, Lib.hid (by have := hev.out; omega), HU, by simp; omega, hB, hbel3⟩
              case measure => simp [intOf]; omega
          · have hdrop : s.data.toList.drop j = [] := List.drop_eq_nil_of_le (by rw [size_len]; omega)
            have hfin : unhexOf s.data.toList = some acc := by rw [HE.out, hun.out, hdrop]; simp [unBody]
            have HFI := Lib.hid hfin
            clear hfin hdrop hun
            go_wp2_with fail
            refine (Tryz.Builder_String_any _ _ _ _ hbu hbel.size).mono ?_
            rintro e w1 ⟨rfl, hbel1⟩
            go_wp2_with fail
            go_ret2
            exact ⟨by rw [HFI.out]; rfl, hbel.trans hbel1⟩
      · have hnil : unhexOf s.data.toList = none := by
          rw [hun, if_pos]; exact Or.inr hodd
        have HN := Lib.hid hnil
        have hoddb : ((s.size : Int) % 2 != 0) = true := by simp; omega
        clear hnil hun hodd
        go_enter Tryz.func151, Tryz.ntmps151
        go_wp2
        go_ret2
        exact ⟨by rw [HN.out]; rfl, Below.refl _ _⟩
end Go.Proofs.YtlkceignfhnpoaaGreatDoor
end
section
namespace Go.Proofs.YtlkceignfhnpoaaGreatDoor
open Go.RowKit

theorem lit_of {s : ByteArray} {l : List UInt8} (h : s.data.toList = l) : s = ⟨l.toArray⟩ := by
  obtain ⟨⟨d⟩⟩ := s
  simp at h; subst h; rfl
theorem ne_lit {s : ByteArray} {l : List UInt8} (h : l ≠ s.data.toList) : (s.toList == l) = false := by
  rw [Lib.toList_data]; exact beq_eq_false_iff_ne.2 (fun e => h e.symm)

set_option maxRecDepth 100000 in
set_option maxHeartbeats 2000000 in
theorem lkind_any (s : ByteArray) (w : World) : Calls Tryz.prog 88 #[.string s] w fun e w' => e = .returned (.int .i64 (askOf s.data.toList)) ∧ w = w' := by
  by_cases hh : ∃ j : Fin 10, (askTab[j.val]'(j.isLt)).1 = s.data.toList
  · obtain ⟨j, hj⟩ := hh
    have hk := ask_at j
    rw [hj] at hk
    rw [hk]
    obtain rfl := lit_of hj.symm
    clear hj hk
    match j with
    | 0 | 1 | 2 | 3 | 4 | 5 | 6 | 7 | 8 | 9 =>
      go_enter Tryz.func88, Tryz.ntmps88
      go_wp2_with fail
      go_ret
      exact ⟨rfl, rfl⟩
  · have hno : ∀ j : Fin 10, (askTab[j.val]'(j.isLt)).1 ≠ s.data.toList := fun j e => hh ⟨j, e⟩
    have hK := Lib.hid (ask_miss (w := s.data.toList) (fun p hp => by
      obtain ⟨i, hi, rfl⟩ := List.mem_iff_getElem.1 hp
      exact hno ⟨i, hi⟩))
    have t0 : (s.toList == [101, 115, 116, 97, 98, 108, 105, 115, 104]) = false := ne_lit (hno 0)
    have t1 : (s.toList == [97, 99, 99, 101, 112, 116]) = false := ne_lit (hno 1)
    have t2 : (s.toList == [114, 101, 108, 101, 97, 115, 101]) = false := ne_lit (hno 2)
    have t3 : (s.toList == [114, 101, 115, 121, 110, 99]) = false := ne_lit (hno 3)
    have t4 : (s.toList == [114, 101, 115, 121, 110, 99, 101, 100]) = false := ne_lit (hno 4)
    have t5 : (s.toList == [114, 101, 99, 111, 118, 101, 114, 101, 100]) = false := ne_lit (hno 5)
    have t6 : (s.toList == [100, 97, 116, 97]) = false := ne_lit (hno 6)
    have t7 : (s.toList == [117, 110, 105, 116]) = false := ne_lit (hno 7)
    have t8 : (s.toList == [109, 97, 110, 97, 103, 101]) = false := ne_lit (hno 8)
    have t9 : (s.toList == [114, 101, 116, 114, 105, 101, 118, 101]) = false := ne_lit (hno 9)
    clear hno hh
    go_enter Tryz.func88, Tryz.ntmps88
    go_wp2_with fail
    go_ret
    exact ⟨by rw [hK.out]; rfl, rfl⟩

set_option maxRecDepth 100000 in
set_option maxHeartbeats 2000000 in
theorem lneeds_any (s : ByteArray) (w : World) : Calls Tryz.prog 27 #[.string s] w fun e w' => e = .returned (.tuple #[.string ⟨((needOf s.data.toList).getD []).toArray⟩, .bool (needOf s.data.toList).isSome]) ∧ w = w' := by
  by_cases hh : ∃ j : Fin 12, (needTab[j.val]'(j.isLt)).1 = s.data.toList
  · obtain ⟨j, hj⟩ := hh
    have hk := need_at j
    rw [hj] at hk
    rw [hk]
    obtain rfl := lit_of hj.symm
    clear hj hk
    match j with
    | 0 | 1 | 2 | 3 | 4 | 5 | 6 | 7 | 8 | 9 | 10 | 11 =>
      go_enter Tryz.func27, Tryz.ntmps27
      go_wp2_with fail
      go_ret2
      exact ⟨rfl, rfl⟩
  · have hno : ∀ j : Fin 12, (needTab[j.val]'(j.isLt)).1 ≠ s.data.toList := fun j e => hh ⟨j, e⟩
    have hK := Lib.hid (need_miss (w := s.data.toList) (fun p hp => by
      obtain ⟨i, hi, rfl⟩ := List.mem_iff_getElem.1 hp
      exact hno ⟨i, hi⟩))
    have t0 : (s.toList == [98, 111, 111, 107]) = false := ne_lit (hno 0)
    have t1 : (s.toList == [116, 105, 99, 107]) = false := ne_lit (hno 1)
    have t2 : (s.toList == [115, 101, 116, 116, 108, 101]) = false := ne_lit (hno 2)
    have t3 : (s.toList == [108, 111, 111, 107]) = false := ne_lit (hno 3)
    have t4 : (s.toList == [99, 97, 114, 114, 121]) = false := ne_lit (hno 4)
    have t5 : (s.toList == [108, 111, 115, 101]) = false := ne_lit (hno 5)
    have t6 : (s.toList == [116, 97, 107, 101]) = false := ne_lit (hno 6)
    have t7 : (s.toList == [98, 114, 105, 110, 103]) = false := ne_lit (hno 7)
    have t8 : (s.toList == [97, 115, 107]) = false := ne_lit (hno 8)
    have t9 : (s.toList == [115, 112, 111, 105, 108]) = false := ne_lit (hno 9)
    have t10 : (s.toList == [116, 105, 99, 107, 115]) = false := ne_lit (hno 10)
    have t11 : (s.toList == [108, 105, 110, 107]) = false := ne_lit (hno 11)
    clear hno hh
    go_enter Tryz.func27, Tryz.ntmps27
    go_wp2_with fail
    go_ret2
    exact ⟨by rw [hK.out]; rfl, rfl⟩
end Go.Proofs.YtlkceignfhnpoaaGreatDoor
end
section
namespace Go.Proofs.YtlkceignfhnpoaaGreatDoor
open Go.RowKit

def LnumEnd (R : Option Nat) (w : World) (e : Ending) (w' : World) : Prop :=
  Below w.heap.size w w' ∧ match R with
    | some n => e = .returned (.tuple #[.int .i64 (n : Int), .bool true]) ∧ n ≤ 1099511627776
    | none => ∃ x, e = .returned (.tuple #[.int .i64 x, .bool false])
theorem lnum_ok {R : Option Nat} {w w' : World} {e : Ending} {n : Nat} (h : R = some n) (hn : n ≤ 1099511627776) (hb : Below w.heap.size w w') (he : e = .returned (.tuple #[.int .i64 (n : Int), .bool true])) : LnumEnd R w e w' := by
  subst h; exact ⟨hb, he, hn⟩
theorem lnum_no {R : Option Nat} {w w' : World} {e : Ending} {x : Int} (h : R = none) (hb : Below w.heap.size w w') (he : e = .returned (.tuple #[.int .i64 x, .bool false])) : LnumEnd R w e w' := by
  subst h; exact ⟨hb, x, he⟩
theorem iter_pos {w : World} {k : Nat} {s : ByteArray} {p : Nat} (h : w.heap[k]? = some (.stringIter s p)) : w.iterPos k = p := by unfold World.iterPos; rw [h]

set_option maxRecDepth 100000 in
set_option maxHeartbeats 2000000 in
theorem lnum_any (s : ByteArray) (w : World) (hs : s.size ≤ 1000000) :
    Calls Tryz.prog 152 #[.string s] w (LnumEnd (numL s.data.toList) w) := by
  have hsl := size_len s
  go_enter Tryz.func152, Tryz.ntmps152
  go_wp2_with fail
  go_loopw [4] (fun v wr => ∃ (j x : Nat), v = .int .i64 (x : Int) ∧ j ≤ s.size ∧ x ≤ 10995116277769 ∧ wr.heap[w.heap.size]? = some (.stringIter s j) ∧ Below w.heap.size w wr ∧ Hid (NumAt s.data.toList j x)) (fun _ wr => s.size - wr.iterPos w.heap.size)
  case atStart => exact ⟨0, 0, rfl, by omega, by omega, World.iter_heap w s 0, (Below.refl _ _).alloc (Nat.le_refl _) _, Lib.hid (NumAt.zero _)⟩
  case round =>
    obtain ⟨j, x, rfl, hj, hx, hit, hbel, HN⟩ := hrel
    have hpos := iter_pos hit
    by_cases hlt : j < s.size
    · have hjl : j < s.data.toList.length := by omega
      have hcj : (s.data.toList[j]'hjl) = s[j]'hlt := rfl
      obtain ⟨R, wd, hnx, hR, hR2⟩ : ∃ R wd : Nat, (∀ ty, (Instr.next (.pointer (some ⟨w.heap.size, 0, none⟩)) true ty).run Tryz.prog wr = .ok (.tuple #[.bool true, .int .i64 (j : Int), .int .i32 (R : Int)]) (wr.iterAt w.heap.size s (j + wd))) ∧
          ((48 ≤ R ∧ R ≤ 57) → R = (s.data.toList[j]'hjl).toNat ∧ wd = 1) ∧ (¬ (48 ≤ R ∧ R ≤ 57) → (s.data.toList[j]'hjl).toNat < 48 ∨ 57 < (s.data.toList[j]'hjl).toNat) := by
        refine ⟨(Utf8.decode s j).1, (Utf8.decode s j).2, fun ty => Lib.run_next_any_at wr w.heap.size s j ty hit hlt, ?_, ?_⟩
        · intro h
          by_cases ha : (s[j]'hlt).toNat < 128
          · rw [decode_ascii s j hlt ha, hcj]; exact ⟨rfl, rfl⟩
          · have := (decode_high s j hlt (by omega)).1; omega
        · intro h
          rw [hcj]
          by_cases ha : (s[j]'hlt).toNat < 128
          · rw [decode_ascii s j hlt ha] at h; simp only at h; omega
          · omega
      have hit2 := Lib.iterAt_heap wr w.heap.size s j (j + wd) hit
      have HB2 := Lib.hid (Lib.below_iterAt hbel (k := w.heap.size) (Nat.le_refl _) s (j + wd))
      generalize wr.iterAt w.heap.size s (j + wd) = W1 at *
      clear hbel hit
      by_cases hc : 48 ≤ R ∧ R ≤ 57
      · obtain ⟨hRc, rfl⟩ := hR hc
        have hc' := hc
        rw [hRc] at hc'
        have h48 : ¬ ((R : Int) < 48) := by omega
        have h57 : ¬ ((57 : Int) < (R : Int)) := by omega
        by_cases hbig : 1099511627776 < x
        · have HK := Lib.hid (HN.out.big hbig)
          have hb1 : (1099511627776 : Int) < (x : Int) := by omega
          clear hR hR2 hRc hc' hcj HN hbig
          go_wp2_with fail
          go_ret2
          exact lnum_no HK.out HB2.out rfl
        · have hb1 : ¬ ((1099511627776 : Int) < (x : Int)) := by omega
          by_cases hz : 0 < j ∧ x = 0
          · obtain ⟨hz1, rfl⟩ := hz
            have HK := Lib.hid (HN.out.lead hz1 hjl)
            have hz2 : (0 : Int) < (j : Int) := by omega
            clear hR hR2 hRc hc' hcj HN hbig
            go_wp2_with fail
            go_ret2
            exact lnum_no HK.out HB2.out rfl
          · have HN2 := Lib.hid (HN.out.next hjl hc' (by omega))
            rw [← hRc] at HN2
            have hz2 : ¬ ((0 : Int) < (j : Int)) ∨ ((0 : Int) < (j : Int) ∧ ((x : Int) == 0) = false) := by
              by_cases h0 : 0 < j
              · exact .inr ⟨by omega, beq_eq_false_iff_ne.2 (by omega)⟩
              · exact .inl (by omega)
            clear hR hR2 hRc hc' hcj HN hz
            have hw1 : (10 * (x : Int) + ((R : Int) - 48)) = ((10 * x + (R - 48) : Nat) : Int) := by omega
            rcases hz2 with hz2 | ⟨hz2, hz3⟩
            all_goals
              go_wp2_with fail
              go_roundw
              case rel => exact ⟨j + 1, 10 * x + (R - 48), by go_num, by omega, by omega, hit2, HB2.out, HN2⟩
              case measure => rw [iter_pos hit2, hpos]; omega
      · have HK := Lib.hid (HN.out.other hjl (hR2 hc))
        have hor : (R : Int) < 48 ∨ (57 : Int) < (R : Int) := by omega
        clear hR hR2 hcj HN
        by_cases h48 : (R : Int) < 48
        · go_wp2_with fail
          go_ret2
          exact lnum_no HK.out HB2.out rfl
        · have h57 : (57 : Int) < (R : Int) := by omega
          go_wp2_with fail
          go_ret2
          exact lnum_no HK.out HB2.out rfl
    · obtain rfl : j = s.size := by omega
      have hnx := fun ty => Lib.run_next_end_at (P := Tryz.prog) wr w.heap.size s s.size ty hit (by omega)
      have hD := HN.out
      rw [← hsl] at hD
      have HK := Lib.hid hD.done
      clear hD HN
      by_cases h0 : s.data.toList = []
      · have e0 : s = ⟨#[]⟩ := str_eq (by rw [h0])
        subst e0
        go_wp2_with fail
        go_ret2
        exact lnum_no (by rw [HK.out]; simp) hbel rfl
      · have hq : (s.toList == []) = false := by rw [Lib.toList_data]; exact beq_eq_false_iff_ne.2 h0
        by_cases hb : x ≤ 1099511627776
        · have hb1 : (x : Int) ≤ 1099511627776 := by omega
          go_wp2_with fail
          go_ret2
          exact lnum_ok (by rw [HK.out, if_pos ⟨h0, hb⟩]) hb hbel rfl
        · have hb1 : ¬ ((x : Int) ≤ 1099511627776) := by omega
          go_wp2_with fail
          go_ret2
          exact lnum_no (by rw [HK.out, if_neg (fun k => hb k.2)]) hbel rfl
end Go.Proofs.YtlkceignfhnpoaaGreatDoor
end
section
namespace Go.Proofs.YtlkceignfhnpoaaGreatDoor
open Go.RowKit

/-- What lies below B, but for the block b, lies as it lay. -/
structure But (B b : Nat) (w w' : World) : Prop where
  os : w'.os = w.os
  tape : w'.tape = w.tape
  output : w'.output = w.output
  size : w.heap.size ≤ w'.heap.size
  block : ∀ k, k < B → k ≠ b → w'.heap[k]? = w.heap[k]?
theorem But.refl (B b : Nat) (w : World) : But B b w w := ⟨rfl, rfl, rfl, Nat.le_refl _, fun _ _ _ => rfl⟩
theorem But.trans {B b : Nat} {x y z : World} (h : But B b x y) (k : But B b y z) : But B b x z :=
  ⟨k.os.trans h.os, k.tape.trans h.tape, k.output.trans h.output, Nat.le_trans h.size k.size, fun i h1 h2 => (k.block i h1 h2).trans (h.block i h1 h2)⟩
theorem But.of_below {B b : Nat} {w w' : World} (hb : Below w.heap.size w w') (hB : B ≤ w.heap.size) : But B b w w' := ⟨hb.os, hb.tape, hb.output, hb.size, fun k h1 _ => hb.block k (by omega)⟩
theorem But.of_grown {B b : Nat} {w w' : World} {row : Option Nat} (hg : w.grownBy w' row) (hB : B ≤ w.heap.size) (hr : ∀ j, row = some j → B ≤ j) : But B b w w' :=
  ⟨hg.os, hg.tape, hg.output, hg.size, fun k h1 _ => hg.block k (by omega) (fun e => by have := hr k e.symm; omega)⟩
theorem But.set {B b : Nat} (w : World) (o : Nat) (v : Value) : But B b w (w.setCell ⟨b, o, none⟩ v) :=
  ⟨rfl, rfl, rfl, by simp, fun k _ h2 => Below.heap_setCell _ _ _ _ h2⟩
def numV (l : List Int) : List Value := l.map (Value.int .i64)
/-- A step in its block. -/
structure StpAt (w : World) (B b : Nat) (x : Stp) (nv : Value) : Prop where
  box : BoxAt w b 31 [.string ⟨x.word.toArray⟩, nv, .string ⟨x.ask.toArray⟩, .string ⟨x.data.toArray⟩]
  own : w.ownsRow B 3 1 nv x.nums.length (numV x.nums)
  lt : b < B
  le : B ≤ w.heap.size
  nil : x.nums = [] → nv = .slice none 0 0
theorem own_set {w : World} {B b o : Nat} {nv v : Value} {n : Nat} {xs : List Value} (h : w.ownsRow B 3 1 nv n xs) (hb : b < B) : (w.setCell ⟨b, o, none⟩ v).ownsRow B 3 1 nv n xs :=
  h.kept (row := some b) ⟨rfl, rfl, rfl, by simp, fun k _ hk => Below.heap_setCell _ _ _ _ (fun e => hk (by rw [e]))⟩ (Or.inr (fun e => by have := (h.lt b e).1; omega))
theorem StpAt.below {w w' : World} {B b : Nat} {x : Stp} {nv : Value} (h : StpAt w B b x nv) (hb : Below w.heap.size w w') : StpAt w' B b x nv :=
  ⟨h.box.below hb h.box.lt, h.own.kept (row := none) ⟨hb.os, hb.tape, hb.output, hb.size, fun k hk _ => hb.block k hk⟩ (by cases hv : nv.ownBlock <;> simp), h.lt, Nat.le_trans h.le hb.size, h.nil⟩
theorem StpAt.setAsk {w : World} {B b : Nat} {x : Stp} {nv : Value} (h : StpAt w B b x nv) (a : ByteArray) : StpAt (w.setCell ⟨b, 2, none⟩ (.string a)) B b { x with ask := a.data.toList } nv :=
  ⟨h.box.set 2 _, own_set h.own h.lt, h.lt, by simpa using h.le, h.nil⟩
theorem StpAt.setData {w : World} {B b : Nat} {x : Stp} {nv : Value} (h : StpAt w B b x nv) (a : ByteArray) : StpAt (w.setCell ⟨b, 3, none⟩ (.string a)) B b { x with data := a.data.toList } nv :=
  ⟨h.box.set 3 _, own_set h.own h.lt, h.lt, by simpa using h.le, h.nil⟩
def LtakeEnd (R : Option Stp) (w : World) (B b : Nat) (e : Ending) (w' : World) : Prop :=
  But B b w w' ∧ match R with
    | some y => e = .returned (.bool true) ∧ ∃ nv, StpAt w' B b y nv
    | none => e = .returned (.bool false)
theorem ltake_ok {R : Option Stp} {w w' : World} {B b : Nat} {e : Ending} {y : Stp} {nv : Value} (h : R = some y) (hg : But B b w w') (hs : StpAt w' B b y nv) (he : e = .returned (.bool true)) : LtakeEnd R w B b e w' := by
  subst h; exact ⟨hg, he, nv, hs⟩
theorem ltake_no {R : Option Stp} {w w' : World} {B b : Nat} {e : Ending} (h : R = none) (hg : But B b w w') (he : e = .returned (.bool false)) : LtakeEnd R w B b e w' := by
  subst h; exact ⟨hg, he⟩
set_option maxRecDepth 100000 in
set_option maxHeartbeats 1000000 in
theorem ltake_87 (x : Stp) (nv : Value) (b B : Nat) (s : ByteArray) (w : World) (hst : StpAt w B b x nv) :
    Calls Tryz.prog 85 #[.pointer (some ⟨b, 0, none⟩), .int .i32 87, .string s] w (LtakeEnd (takeL 87 s.data.toList x) w B b) := by
  have HT : Hid (takeL 87 s.data.toList x = if askOf s.data.toList = 0 then none else some { x with ask := s.data.toList }) := Lib.hid rfl
  generalize takeL 87 s.data.toList x = RT at *
  have HKD := Lib.hid (fun W => lkind_any s W)
  have HST := Lib.hid hst
  have c2 := hst.box.cell 2
  have f2 := hst.box.froz 2
  simp only [List.getElem?_cons_succ, List.getElem?_cons_zero] at c2 f2
  clear hst
  have HS2 := Lib.hid (HST.out.setAsk s)
  by_cases hk : askOf s.data.toList = 0
  · have HR : Hid (RT = none) := Lib.hid (by rw [HT.out, if_pos hk])
    rw [hk] at HKD
    clear hk HT
    go_enter Tryz.func85, Tryz.ntmps85
    go_wp2_with fail
    refine (HKD.out _).mono ?_
    rintro e w2 ⟨rfl, rfl⟩
    go_wp2_with fail
    go_ret
    exact ltake_no HR.out (But.set _ _ _) rfl
  · have HR : Hid (RT = some { x with ask := s.data.toList }) := Lib.hid (by rw [HT.out, if_neg hk])
    have hb : (askOf s.data.toList != 0) = true := by simpa using hk
    clear hk HT
    generalize askOf s.data.toList = K at *
    go_enter Tryz.func85, Tryz.ntmps85
    go_wp2_with fail
    refine (HKD.out _).mono ?_
    rintro e w2 ⟨rfl, rfl⟩
    go_wp2_with fail
    go_ret
    exact ltake_ok HR.out (But.set _ _ _) HS2.out (by simp [hb])
set_option maxRecDepth 100000 in
set_option maxHeartbeats 1000000 in
theorem ltake_72 (x : Stp) (nv : Value) (b B : Nat) (s : ByteArray) (w : World) (hs : s.size ≤ 1000000) (hst : StpAt w B b x nv) :
    Calls Tryz.prog 85 #[.pointer (some ⟨b, 0, none⟩), .int .i32 72, .string s] w (LtakeEnd (takeL 72 s.data.toList x) w B b) := by
  have HT : Hid (takeL 72 s.data.toList x = (unhexOf s.data.toList).map fun d => { x with data := d }) := Lib.hid rfl
  generalize takeL 72 s.data.toList x = RT at *
  have HUN := Lib.hid (unhex_any s w hs)
  have HST := Lib.hid hst
  clear hst
  unfold UnhexPost at HUN
  go_enter Tryz.func85, Tryz.ntmps85
  go_wp2_with fail
  refine HUN.out.mono ?_
  rintro e w2 ⟨rfl, hb2⟩
  have HS2 := Lib.hid (HST.out.below hb2)
  have HB2 : Hid (But B b w w2) := Lib.hid (But.of_below hb2 HST.out.le)
  have c3 := HS2.out.box.cell 3
  have f3 := HS2.out.box.froz 3
  simp only [List.getElem?_cons_succ, List.getElem?_cons_zero] at c3 f3
  clear hb2 HUN HST
  cases hu : unhexOf s.data.toList with
  | none =>
    rw [hu] at HT
    have HR : Hid (RT = none) := Lib.hid HT.out
    simp only [Option.getD_none, Option.isSome_none]
    clear hu HT
    go_wp2_with fail
    go_ret
    exact ltake_no HR.out (HB2.out.trans (But.set _ _ _)) rfl
  | some d =>
    rw [hu] at HT
    have HR : Hid (RT = some { x with data := d }) := Lib.hid HT.out
    have HS3 := Lib.hid (HS2.out.setData ⟨d.toArray⟩)
    simp only [Option.getD_some, Option.isSome_some]
    clear hu HT
    go_wp2_with fail
    go_ret
    exact ltake_ok HR.out (HB2.out.trans (But.set _ _ _)) HS3.out rfl
theorem info_int : (Tryz.prog.info? 3).map (fun i => (i.zero, i.size, i.bytes)) = some (some (.int .i64 0), 1, 8) := by kernel_rfl
theorem numV_snoc (l : List Int) (n : Int) : numV l ++ [Value.int .i64 n] = numV (l ++ [n]) := by simp [numV]
set_option maxRecDepth 100000 in
set_option maxHeartbeats 2000000 in
theorem ltake_num (c : Nat) (hc : c = 69 ∨ c = 78) (x : Stp) (nv : Value) (b B : Nat) (s : ByteArray) (w : World) (hs : s.size ≤ 1000000) (hn : x.nums.length ≤ 1000) (hst : StpAt w B b x nv) :
    Calls Tryz.prog 85 #[.pointer (some ⟨b, 0, none⟩), .int .i32 (c : Int), .string s] w (LtakeEnd (takeL (UInt8.ofNat c) s.data.toList x) w B b) := by
  obtain ⟨i0, hi, hz0, hz1, hz2⟩ := info_parts info_int
  have HT : Hid (takeL (UInt8.ofNat c) s.data.toList x = match numL s.data.toList with
    | some n => if c = 69 ∧ 1 < n then none else some { x with nums := x.nums ++ [(n : Int)] }
    | none => none) := Lib.hid (by unfold takeL; rcases hc with rfl | rfl <;> cases numL s.data.toList <;> simp)
  have hc1 : ((c : Int) == 87) = false := beq_eq_false_iff_ne.2 (by omega)
  have hc2 : ((c : Int) == 72) = false := beq_eq_false_iff_ne.2 (by omega)
  generalize takeL (UInt8.ofNat c) s.data.toList x = RT at *
  have HNM := Lib.hid (lnum_any s w hs)
  have HST := Lib.hid hst
  have hbB := hst.lt
  clear hst
  go_enter Tryz.func85, Tryz.ntmps85
  go_wp2_with fail
  refine HNM.out.mono ?_
  rintro e w2 ⟨hb2, hpost⟩
  have HS2 := Lib.hid (HST.out.below hb2)
  have HB2 : Hid (But B b w w2) := Lib.hid (But.of_below hb2 HST.out.le)
  have hown2 := HS2.out.own
  have hle2 := HS2.out.le
  have hw2 := HS2.out.box.lt
  have c1 := HS2.out.box.cell 1
  have f1 := HS2.out.box.froz 1
  simp only [List.getElem?_cons_succ, List.getElem?_cons_zero] at c1 f1
  obtain ⟨n, is, hpost', hN⟩ : ∃ (n : Int) (is : Bool), e = .returned (.tuple #[.int .i64 n, .bool is]) ∧ ((is = true ∧ numL s.data.toList = some n.toNat ∧ 0 ≤ n) ∨ (is = false ∧ numL s.data.toList = none)) := by
    cases hq : numL s.data.toList with
    | none => rw [hq] at hpost; obtain ⟨y, he⟩ := hpost; exact ⟨y, false, he, .inr ⟨rfl, rfl⟩⟩
    | some m => rw [hq] at hpost; exact ⟨m, true, hpost.1, .inl ⟨rfl, by simp, by omega⟩⟩
  subst hpost'
  clear hb2 hpost HNM HST
  go_wp2_with (at_builtin; refine wpList_append_own _ rfl _ _ 22 rfl B 3 i0 (.int .i64 0) 1 8 Tryz.underlying22 hi hz0 hz1 hz2 rfl (by decide) _ _ _ rfl (hown2.alloc _) ⟨w2.heap.size, 0, none⟩ 1 1 [.int .i64 n] rfl rfl ?c1 ?c2 ?c3 ?c4 ?c5 ?_)
  case c1 => exact (cell_one_new _ _ _)
  case c2 => simp [Value.oneCell']
  case c3 => unfold maxLen; omega
  case c4 => omega
  case c5 => simp; omega
  intro v3 w3 hown3 hgrow hnil
  obtain ⟨g', cap', rfl⟩ := ownsRow_succ hown3
  have hbx3 : BoxAt w3 b 31 _ := (HS2.out.box.alloc).grown hgrow (fun e => by have := (hown2.lt b e.symm).1; omega)
  have HB3 : Hid (But B b w w3) := Lib.hid ((HB2.out.trans (But.of_below ((Below.refl _ w2).alloc (Nat.le_refl _) _) hle2)).trans (But.of_grown hgrow (by simp; omega) (fun j hj => (hown2.lt j hj).1)))
  have hle3 : B ≤ w3.heap.size := by have := HB3.out.size; have := HB2.out.size; have := hgrow.size; simp at this; omega
  have HS3 : Hid (StpAt (w3.setCell ⟨b, 1, none⟩ (.slice (some ⟨g', 0, none⟩) (x.nums.length + 1) cap')) B b { x with nums := x.nums ++ [n] } (.slice (some ⟨g', 0, none⟩) (x.nums.length + 1) cap')) := Lib.hid
    ⟨hbx3.set 1 _, by rw [List.length_append, List.length_singleton]; rw [numV_snoc] at hown3; exact own_set hown3 hbB, hbB, by simpa using hle3, fun h => (by simp at h)⟩
  have HB4 : Hid (But B b w (w3.setCell ⟨b, 1, none⟩ (.slice (some ⟨g', 0, none⟩) (x.nums.length + 1) cap'))) := Lib.hid (HB3.out.trans (But.set _ _ _))
  have k1 := hbx3.cell 1
  have g1 := hbx3.froz 1
  simp only [List.getElem?_cons_succ, List.getElem?_cons_zero] at k1 g1
  clear hbx3 HB3 HB2 HS2 hown2 hown3 hgrow hnil c1 f1
  rcases hN with ⟨rfl, hNn, hn0⟩ | ⟨rfl, hNn⟩
  · rw [hNn] at HT
    by_cases h69 : c = 69
    · have hc3 : ((c : Int) != 69) = false := by simp; omega
      by_cases h1 : 1 < n.toNat
      · have HR : Hid (RT = none) := Lib.hid (by rw [HT.out]; simp only; rw [if_pos ⟨h69, h1⟩])
        have hn1 : ¬ (n ≤ 1) := by omega
        clear HT hNn h69
        go_wp2_with fail
        go_ret
        exact ltake_no HR.out HB4.out (by simp [hc3, hn1])
      · have HR : Hid (RT = some { x with nums := x.nums ++ [n] }) := Lib.hid (by rw [HT.out]; simp only; rw [if_neg (fun k => h1 k.2)]; rw [Int.toNat_of_nonneg hn0])
        have hn1 : n ≤ 1 := by omega
        clear HT hNn h69
        go_wp2_with fail
        go_ret
        exact ltake_ok HR.out HB4.out HS3.out (by simp [hc3, hn1])
    · have hc3 : ((c : Int) != 69) = true := by simp; omega
      have HR : Hid (RT = some { x with nums := x.nums ++ [n] }) := Lib.hid (by rw [HT.out]; simp only; rw [if_neg (fun k => h69 k.1)]; rw [Int.toNat_of_nonneg hn0])
      clear HT hNn h69
      go_wp2_with fail
      go_ret
      exact ltake_ok HR.out HB4.out HS3.out (by simp [hc3])
  · rw [hNn] at HT
    have HR : Hid (RT = none) := Lib.hid HT.out
    clear HT hNn
    go_wp2_with fail
    go_ret
    exact ltake_no HR.out HB4.out rfl
theorem ltake_any (c : UInt8) (hc : c = 87 ∨ c = 72 ∨ c = 69 ∨ c = 78) (x : Stp) (nv : Value) (b B : Nat) (s : ByteArray) (w : World) (hs : s.size ≤ 1000000) (hn : x.nums.length ≤ 1000) (hst : StpAt w B b x nv) :
    Calls Tryz.prog 85 #[.pointer (some ⟨b, 0, none⟩), .int .i32 ((c.toNat : Nat) : Int), .string s] w (LtakeEnd (takeL c s.data.toList x) w B b) := by
  rcases hc with rfl | rfl | rfl | rfl
  · exact ltake_87 x nv b B s w hst
  · exact ltake_72 x nv b B s w hs hst
  · exact ltake_num 69 (.inl rfl) x nv b B s w hs hn hst
  · exact ltake_num 78 (.inr rfl) x nv b B s w hs hn hst
theorem take_len {c : UInt8} {w : List UInt8} {x y : Stp} (h : takeL c w x = some y) : y.nums.length ≤ x.nums.length + 1 := by
  unfold takeL at h
  split at h
  · split at h <;> cases h; exact Nat.le_succ _
  · split at h
    · cases hu : unhexOf w with
      | none => rw [hu] at h; cases h
      | some d => rw [hu] at h; cases h; exact Nat.le_succ _
    · split at h
      · split at h
        · cases h
        · cases h; simp
      · cases h
end Go.Proofs.YtlkceignfhnpoaaGreatDoor
end
section
namespace Go.Proofs.YtlkceignfhnpoaaGreatDoor
open Go.RowKit

structure EnvM (w : World) : Prop where
  most : ∃ m, w.cell? ⟨2, 0, none⟩ = some (.int .i64 m)
theorem EnvM.below {w w' : World} (h : EnvM w) (hb : Below w.heap.size w w') : EnvM w' := by
  obtain ⟨m, hm⟩ := h.most
  exact ⟨m, (hb.cell (block_lt_of_cell hm)).trans hm⟩
theorem EnvM.alloc {w : World} {o : Obj} (h : EnvM w) : EnvM (w.alloc o) := h.below ((Below.refl _ _).alloc (Nat.le_refl _) o)
def strV (l : List UInt8) : Value := .string ⟨l.toArray⟩
theorem split_anyM (s : ByteArray) (c : UInt8) (w : World) (hs : s.size ≤ 1000000) (he : EnvM w) :
    Calls Tryz.prog 84 #[.string s, .string ⟨#[c]⟩] w fun e w' => e = .returned (.slice (some ⟨w.heap.size, 0, none⟩) (splitBy c s.data.toList).length (splitBy c s.data.toList).length) ∧ w' = w.alloc (.cells ((splitBy c s.data.toList).map strV).toArray 9) := by
  obtain ⟨m, hm⟩ := he.most
  refine (Tryz.strings_Split s ⟨#[c]⟩ m w (by omega) hm (by show 1 ≤ 1; omega)).mono ?_
  rintro e w' ⟨h1, h2⟩
  have hb := splitB_by c s
  have hl : (splitBy c s.data.toList).length = Lib.countB s ⟨#[c]⟩ + 1 := by
    rw [← hb, List.length_map]
    exact Lib.splitB_all ⟨#[c]⟩ (by show 1 ≤ 1; omega) 0 _ s rfl
  have hm2 : (Lib.splitB ⟨#[c]⟩ 0 (Lib.countB s ⟨#[c]⟩) s).map Value.string = (splitBy c s.data.toList).map strV := by
    rw [← hb, List.map_map]
    apply List.map_congr_left
    intro x hx
    show Value.string x = Value.string ⟨x.data.toList.toArray⟩
    rfl
  rw [hl, h1, h2, hm2]
  exact ⟨rfl, rfl⟩
end Go.Proofs.YtlkceignfhnpoaaGreatDoor
end
section
namespace Go.Proofs.YtlkceignfhnpoaaGreatDoor
open Go.RowKit

def stpV (x : Stp) (nv : Value) : Value := .agg #[.string ⟨x.word.toArray⟩, nv, .string ⟨x.ask.toArray⟩, .string ⟨x.data.toArray⟩]
def StepEnd (R : Option Stp) (w : World) (e : Ending) (w' : World) : Prop :=
  Below w.heap.size w w' ∧ match R with
    | some x => ∃ nv, e = .returned (.tuple #[stpV x nv, .bool true]) ∧ w'.ownsRow w.heap.size 3 1 nv x.nums.length (numV x.nums) ∧ (x.nums = [] → nv = .slice none 0 0)
    | none => e = .returned (.tuple #[stpV ⟨[], [], [], []⟩ (.slice none 0 0), .bool false])
theorem step_ok {R : Option Stp} {w w' : World} {e : Ending} {x : Stp} {nv : Value} (h : R = some x) (hb : Below w.heap.size w w') (ho : w'.ownsRow w.heap.size 3 1 nv x.nums.length (numV x.nums)) (hz : x.nums = [] → nv = .slice none 0 0) (he : e = .returned (.tuple #[stpV x nv, .bool true])) : StepEnd R w e w' := by
  subst h; exact ⟨hb, nv, he, ho, hz⟩
theorem step_no {R : Option Stp} {w w' : World} {e : Ending} (h : R = none) (hb : Below w.heap.size w w') (he : e = .returned (.tuple #[stpV ⟨[], [], [], []⟩ (.slice none 0 0), .bool false])) : StepEnd R w e w' := by
  subst h; exact ⟨hb, he⟩
theorem bel_set4 {B : Nat} {w wx : World} (h : Below B w wx) (v0 v1 v2 v3 : Value) :
    Below B w ((((wx.setCell ⟨B, 0, none⟩ v0).setCell ⟨B, 1, none⟩ v1).setCell ⟨B, 2, none⟩ v2).setCell ⟨B, 3, none⟩ v3) :=
  (((h.setCell (p := ⟨B, 0, none⟩) (Nat.le_refl _) v0).setCell (p := ⟨B, 1, none⟩) (Nat.le_refl _) v1).setCell (p := ⟨B, 2, none⟩) (Nat.le_refl _) v2).setCell (p := ⟨B, 3, none⟩) (Nat.le_refl _) v3
/-- What holds behind j letters. -/
structure LnP (w wx : World) (need : List UInt8) (ws : List (List UInt8)) (FR : Option Stp) (j : Nat) : Prop where
  it : wx.heap[w.heap.size + 3]? = some (.stringIter ⟨need.toArray⟩ j)
  words : BoxAt wx (w.heap.size + 1) 9 (ws.map strV)
  res : BoxAt wx w.heap.size 31 [.string ⟨#[]⟩, .slice none 0 0, .string ⟨#[]⟩, .string ⟨#[]⟩]
  bel : Below w.heap.size w wx
  st : ∃ x nv, StpAt wx (w.heap.size + 4) (w.heap.size + 2) x nv ∧ fieldsL (need.drop j) (ws.tail.drop j) x = FR ∧ x.nums.length ≤ j
/-- Behind 'next': the iterator at j + 1, the step as it was. -/
structure LnM (w wx : World) (need : List UInt8) (ws : List (List UInt8)) (j : Nat) (x : Stp) (nv : Value) : Prop where
  it : wx.heap[w.heap.size + 3]? = some (.stringIter ⟨need.toArray⟩ (j + 1))
  words : BoxAt wx (w.heap.size + 1) 9 (ws.map strV)
  res : BoxAt wx w.heap.size 31 [.string ⟨#[]⟩, .slice none 0 0, .string ⟨#[]⟩, .string ⟨#[]⟩]
  bel : Below w.heap.size w wx
  st : StpAt wx (w.heap.size + 4) (w.heap.size + 2) x nv
theorem LnP.mid {w wx : World} {need : List UInt8} {ws : List (List UInt8)} {FR : Option Stp} {j : Nat} (h : LnP w wx need ws FR j) :
    ∃ x nv, LnM w (wx.iterAt (w.heap.size + 3) ⟨need.toArray⟩ (j + 1)) need ws j x nv ∧ fieldsL (need.drop j) (ws.tail.drop j) x = FR ∧ x.nums.length ≤ j := by
  obtain ⟨x, nv, hs, hf, hn⟩ := h.st
  have hsz : wx.heap.size ≤ (wx.iterAt (w.heap.size + 3) ⟨need.toArray⟩ (j + 1)).heap.size := by
    have h1 := Lib.iterAt_heap wx (w.heap.size + 3) ⟨need.toArray⟩ j (j + 1) h.it
    unfold World.iterAt; simp
  refine ⟨x, nv, ⟨Lib.iterAt_heap _ _ _ _ _ h.it, (Lib.iterAt_other _ _ _ _ _ (by omega)).trans h.words, (Lib.iterAt_other _ _ _ _ _ (by omega)).trans h.res, Lib.below_iterAt h.bel (by omega) _ _,
    ⟨(Lib.iterAt_other _ _ _ _ _ (by omega)).trans hs.box, ?_, hs.lt, Nat.le_trans hs.le hsz, hs.nil⟩⟩, hf, hn⟩
  obtain ⟨h1, h2 | ⟨q, cap, cur, hv, hB, hq, rest⟩⟩ := hs.own
  · exact ⟨h1, .inl h2⟩
  · refine ⟨h1, .inr ⟨q, cap, cur, hv, hB, ?_, rest⟩⟩
    rw [Lib.iterAt_other _ _ _ _ _ (by omega)]
    exact hq
theorem LnM.next {w wx w2 : World} {need : List UInt8} {ws : List (List UInt8)} {FR : Option Stp} {j : Nat} {x y : Stp} {nv nv' : Value} (h : LnM w wx need ws j x nv) (hg : But (w.heap.size + 4) (w.heap.size + 2) wx w2)
    (hs : StpAt w2 (w.heap.size + 4) (w.heap.size + 2) y nv') (hf : fieldsL (need.drop (j + 1)) (ws.tail.drop (j + 1)) y = FR) (hn : y.nums.length ≤ j + 1) : LnP w w2 need ws FR (j + 1) :=
  ⟨(hg.block _ (by omega) (by omega)).trans h.it, (hg.block _ (by omega) (by omega)).trans h.words, (hg.block _ (by omega) (by omega)).trans h.res,
    ⟨hg.os.trans h.bel.os, hg.tape.trans h.bel.tape, hg.output.trans h.bel.output, Nat.le_trans h.bel.size hg.size, fun k hk => (hg.block k (by omega) (by omega)).trans (h.bel.block k hk)⟩, y, nv', hs, hf, hn⟩
theorem But.bel {w wx w2 : World} {B b : Nat} (hg : But B b wx w2) (hb : Below w.heap.size w wx) (h1 : w.heap.size ≤ B) (h2 : w.heap.size ≤ b) : Below w.heap.size w w2 :=
  ⟨hg.os.trans hb.os, hg.tape.trans hb.tape, hg.output.trans hb.output, Nat.le_trans hb.size hg.size, fun k hk => (hg.block k (by omega) (by omega)).trans (hb.block k hk)⟩
theorem own_low {w : World} {B C : Nat} {nv : Value} {n : Nat} {xs : List Value} (h : w.ownsRow B 3 1 nv n xs) (hb : C ≤ B) : w.ownsRow C 3 1 nv n xs := by
  obtain ⟨h1, h2 | ⟨q, cap, cur, hv, hB, hq, rest⟩⟩ := h
  · exact ⟨h1, .inl h2⟩
  · exact ⟨h1, .inr ⟨q, cap, cur, hv, by omega, hq, rest⟩⟩
theorem own_set4 {w : World} {B b : Nat} {nv : Value} {n : Nat} {xs : List Value} (h : w.ownsRow B 3 1 nv n xs) (hb : b < B) (v0 v1 v2 v3 : Value) :
    ((((w.setCell ⟨b, 0, none⟩ v0).setCell ⟨b, 1, none⟩ v1).setCell ⟨b, 2, none⟩ v2).setCell ⟨b, 3, none⟩ v3).ownsRow b 3 1 nv n xs :=
  own_low (own_set (own_set (own_set (own_set h hb) hb) hb) hb) (Nat.le_of_lt hb)
set_option maxRecDepth 100000 in
set_option maxHeartbeats 4000000 in
theorem step_txt (s : ByteArray) (w : World) (hs : s.size ≤ 100000) (he : EnvM w) :
    Calls Tryz.prog 45 #[.string s] w (StepEnd (stepL s.data.toList) w) := by
  have HRES : Hid (stepL s.data.toList = stepW (splitBy 32 s.data.toList)) := Lib.hid rfl
  have HE := Lib.hid he
  have HSP := Lib.hid (fun W h => split_anyM s 32 W (by omega) h)
  have hwp : 1 ≤ (splitBy 32 s.data.toList).length := by rw [splitBy_length]; omega
  have hwl : (splitBy 32 s.data.toList).length ≤ 100001 := by
    rw [splitBy_length]
    have := List.count_le_length (a := (32 : UInt8)) (l := s.data.toList)
    rw [size_len] at this; omega
  have HPL : Hid (∀ x ∈ splitBy 32 s.data.toList, x.length ≤ 100000) := Lib.hid (fun x hx => by
    have := splitBy_le 32 s.data.toList x hx
    rw [size_len] at this; omega)
  generalize stepL s.data.toList = RN at *
  generalize splitBy 32 s.data.toList = ws at *
  clear he
  go_enter Tryz.func45, Tryz.ntmps45
  have HBR0 := Lib.hid (BoxAt.new w 31 [.string ⟨#[]⟩, .slice none 0 0, .string ⟨#[]⟩, .string ⟨#[]⟩])
  go_wp2_with fail
  refine (HSP.out _ HE.out.alloc).mono ?_
  rintro e w1 ⟨rfl, hw1⟩
  have hw1s : w1.heap.size = w.heap.size + 1 + 1 := by rw [hw1]; simp
  have HBR1 := Lib.hid (show BoxAt w1 w.heap.size 31 [.string ⟨#[]⟩, .slice none 0 0, .string ⟨#[]⟩, .string ⟨#[]⟩] from by rw [hw1]; exact HBR0.out.alloc)
  have HWB1 := Lib.hid (show BoxAt w1 (w.heap.size + 1) 9 (ws.map strV) from by
    rw [hw1]
    exact BoxAt.newAt (by simp) 9 (ws.map strV))
  have HB1 := Lib.hid (show Below w.heap.size w w1 from by rw [hw1]; exact ((Below.refl _ _).alloc (Nat.le_refl _) _).alloc (by simp) _)
  have hc0 : w1.cell? ⟨w.heap.size + 1, 0, none⟩ = some (.string ⟨(ws.getD 0 []).toArray⟩) := by
    rw [HWB1.out.cell]
    cases ws with
    | nil => simp at hwp
    | cons a t => rfl
  have HND := Lib.hid (fun W => lneeds_any ⟨(ws.getD 0 []).toArray⟩ W)
  rw [show (⟨(ws.getD 0 []).toArray⟩ : ByteArray).data.toList = ws.getD 0 [] from rfl] at HND
  clear hw1 HSP HBR0
  go_wp2_with fail
  refine (HND.out _).mono ?_
  rintro e w2 ⟨rfl, rfl⟩
  obtain ⟨g0, g1, g2, g3⟩ := HBR1.out.frozs4
  obtain ⟨r0, r1, r2, r3⟩ := HBR1.out.cells4
  cases hne : needOf (ws.getD 0 []) with
  | none =>
    have HR : Hid (RN = none) := Lib.hid (by rw [HRES.out]; unfold stepW; rw [hne])
    simp only [Option.getD_none, Option.isSome_none]
    clear hne HRES HND
    go_wp2_with fail
    refine bodyPost_ret (v := .tuple #[stpV ⟨[], [], [], []⟩ (.slice none 0 0), .bool false]) (by unfold stpV; simp [results, Tryz.results45, go_sem, r0, r1, r2, r3]) rfl (step_no HR.out ?_ rfl)
    exact bel_set4 HB1.out _ _ _ _
  | some need =>
    have hgd := need_good _ (need_mem hne)
    have hnl6 : need.length ≤ 6 := hgd.2.2.1
    have HLT := Lib.hid hgd.2.2.2
    simp only [Option.getD_some, Option.isSome_some]
    clear hgd HND
    by_cases hl : ws.length = 1 + need.length
    · have e1 : ((ws.length : Int) != 1 + (need.length : Int)) = false := by simp; omega
      have HR : Hid (RN = fieldsL need ws.tail ⟨ws.getD 0 [], [], [], []⟩) := Lib.hid (by rw [HRES.out]; unfold stepW; rw [hne]; exact if_pos hl)
      clear hne HRES
      have HNL := Lib.hid hl
      clear hl
      have hp0 : ∀ FR, FR = fieldsL need ws.tail ⟨ws.getD 0 [], [], [], []⟩ → LnP w ((w1.alloc (.cells #[.string ⟨(ws.getD 0 []).toArray⟩, .slice none 0 0, .string ⟨#[]⟩, .string ⟨#[]⟩] 31)).iter ⟨need.toArray⟩ 0) need ws FR 0 := fun FR hF => by
        have h1 := World.iter_heap (w1.alloc (.cells #[.string ⟨(ws.getD 0 []).toArray⟩, .slice none 0 0, .string ⟨#[]⟩, .string ⟨#[]⟩] 31)) ⟨need.toArray⟩ 0
        have h2 : Below w1.heap.size w1 ((w1.alloc (.cells #[.string ⟨(ws.getD 0 []).toArray⟩, .slice none 0 0, .string ⟨#[]⟩, .string ⟨#[]⟩] 31)).iter ⟨need.toArray⟩ 0) := ((Below.refl _ _).alloc (Nat.le_refl _) _).alloc (by simp) _
        have h3 := BoxAt.newAt hw1s 31 [.string ⟨(ws.getD 0 []).toArray⟩, .slice none 0 0, .string ⟨#[]⟩, .string ⟨#[]⟩]
        have hz : (w1.alloc (.cells #[.string ⟨(ws.getD 0 []).toArray⟩, .slice none 0 0, .string ⟨#[]⟩, .string ⟨#[]⟩] 31)).heap.size = w.heap.size + 3 := by simp [hw1s]
        rw [hz] at h1
        exact ⟨h1, HWB1.out.below h2 HWB1.out.lt, HBR1.out.below h2 HBR1.out.lt, belSeq HB1.out h2, ⟨ws.getD 0 [], [], [], []⟩, .slice none 0 0, ⟨h3.alloc, World.ownsRow_nil _ _ _ _, by omega, by have := World.iter_heap (w1.alloc (.cells #[.string ⟨(ws.getD 0 []).toArray⟩, .slice none 0 0, .string ⟨#[]⟩, .string ⟨#[]⟩] 31)) ⟨need.toArray⟩ 0; have := (Array.getElem?_eq_some_iff.1 this).1; omega, fun _ => rfl⟩, hF.symm, by simp⟩
      have HP0 := Lib.hid (hp0 _ rfl)
      generalize fieldsL need ws.tail ⟨ws.getD 0 [], [], [], []⟩ = FR at *
      clear hp0 HBR1 HWB1 HB1 g0 g1 g2 g3 r0 r1 r2 r3
      generalize ws.getD 0 [] = wd at *
      go_wp2_with fail
      generalize (w1.alloc (.cells #[.string ⟨wd.toArray⟩, .slice none 0 0, .string ⟨#[]⟩, .string ⟨#[]⟩] 31)).iter ⟨need.toArray⟩ 0 = W0 at *
      go_loopw [] (fun wx => ∃ j : Nat, j ≤ need.length ∧ LnP w wx need ws FR j) (fun wx => need.length - wx.iterPos (w.heap.size + 3))
      case atStart => exact ⟨0, by omega, HP0.out⟩
      case round =>
        obtain ⟨j, hj, hpl⟩ := hrel
        have HP := Lib.hid hpl
        clear hpl
        by_cases hlt : j < need.length
        · have hlt' : j < (⟨need.toArray⟩ : ByteArray).size := by rw [size_arr]; exact hlt
          have hgb : (⟨need.toArray⟩ : ByteArray)[j] = need[j] := rfl
          have hmem := HLT.out _ (List.getElem_mem hlt)
          have hc7 : (need[j]'hlt).toNat < 128 := by
            rcases hmem with h | h | h | h <;> rw [h] <;> decide
          have hnx : ∀ ty, (Instr.next (.pointer (some ⟨w.heap.size + 3, 0, none⟩)) true ty).run Tryz.prog wr = .ok (.tuple #[.bool true, .int .i64 (j : Int), .int .i32 (((need[j]'hlt).toNat : Nat) : Int)]) (wr.iterAt (w.heap.size + 3) ⟨need.toArray⟩ (j + 1)) := fun ty => Lib.run_next_ascii_at (P := Tryz.prog) wr (w.heap.size + 3) ⟨need.toArray⟩ j ty HP.out.it hlt' (by rw [hgb]; exact hc7)
          obtain ⟨x, nv, hM, hR, hnl⟩ := HP.out.mid
          have hl1 : 1 + j < ws.length := by have := HNL.out; omega
          have hcell : (wr.iterAt (w.heap.size + 3) ⟨need.toArray⟩ (j + 1)).cell? ⟨w.heap.size + 1, 1 + j, none⟩ = some (.string ⟨(ws[1 + j]).toArray⟩) := by
            rw [hM.words.cell]; simp [hl1, strV]
          have hxl := HPL.out _ (List.getElem_mem hl1)
          have hdn : need.drop j = need[j] :: need.drop (j + 1) := List.drop_eq_getElem_cons hlt
          have hdr : ws.tail.drop j = ws[1 + j] :: ws.tail.drop (j + 1) := by
            rw [List.drop_eq_getElem_cons (by rw [List.length_tail]; omega)]
            congr 1
            rw [List.getElem_tail]
            congr 1; omega
          rw [hdn, hdr] at hR
          simp only [fieldsL] at hR
          have HR2 := Lib.hid hR
          have HTK := Lib.hid (ltake_any need[j] hmem x nv (w.heap.size + 2) (w.heap.size + 4) ⟨(ws[1 + j]).toArray⟩ _ (by rw [size_arr]; omega) (by omega) hM.st)
          have HM := Lib.hid hM
          rw [show (⟨(ws[1 + j]).toArray⟩ : ByteArray).data.toList = ws[1 + j] from rfl] at HTK
          clear hgb hc7 hM hR hdn hdr hmem
          generalize need[j] = c at *
          generalize ws[1 + j] = y at *
          generalize wr.iterAt (w.heap.size + 3) ⟨need.toArray⟩ (j + 1) = W1 at *
          have hl1' : (1 : Int) + (j : Int) < (ws.length : Int) := by omega
          unfold LtakeEnd at HTK
          go_wp2_with fail
          refine HTK.out.mono ?_
          rintro e w2 ⟨hg2, hpost⟩
          have HG2 := Lib.hid hg2
          clear hg2 hcell HTK
          cases htf : takeL c y x with
          | none =>
            rw [htf] at hpost HR2
            simp only at hpost
            subst hpost
            have HRN2 : Hid (RN = none) := Lib.hid (by rw [HR.out, ← HR2.out])
            have HX2 : Hid (BoxAt w2 w.heap.size 31 [.string ⟨#[]⟩, .slice none 0 0, .string ⟨#[]⟩, .string ⟨#[]⟩]) := Lib.hid ((HG2.out.block _ (by omega) (by omega)).trans HM.out.res)
            have HB2 : Hid (Below w.heap.size w w2) := Lib.hid (HG2.out.bel HM.out.bel (by omega) (by omega))
            obtain ⟨r0, r1, r2, r3⟩ := HX2.out.cells4
            obtain ⟨g0, g1, g2, g3⟩ := HX2.out.frozs4
            clear htf HR2 HR HG2 HM HP
            go_wp2_with fail
            refine bodyPost_ret (v := .tuple #[stpV ⟨[], [], [], []⟩ (.slice none 0 0), .bool false]) (by unfold stpV; simp [results, Tryz.results45, go_sem, r0, r1, r2, r3]) rfl (step_no HRN2.out ?_ rfl)
            exact bel_set4 HB2.out _ _ _ _
          | some q =>
            rw [htf] at hpost HR2
            obtain ⟨rfl, lv2, hst2⟩ := hpost
            have hql := take_len htf
            have HN2 := Lib.hid (HM.out.next HG2.out hst2 HR2.out (by omega))
            have HIT := Lib.hid HP.out.it
            clear htf hst2 HR2 HG2 HM HP
            go_wp2_with fail
            go_roundw
            case rel => exact ⟨j + 1, by omega, HN2.out⟩
            case measure => rw [iter_pos HN2.out.it, iter_pos HIT.out]; omega
        · have hnx := fun ty => Lib.run_next_end_at (P := Tryz.prog) wr (w.heap.size + 3) ⟨need.toArray⟩ j ty HP.out.it (by rw [size_arr]; exact hlt)
          obtain ⟨x, nv, hst, hR, hnl⟩ := HP.out.st
          rw [List.drop_of_length_le (by omega)] at hR
          have HRN2 : Hid (RN = some x) := Lib.hid (by rw [HR.out, ← hR]; simp [fieldsL])
          obtain ⟨al, cl, rfl, -, -, -⟩ := (IntsR.of_owns hst.own (by omega)).len
          have HST := Lib.hid hst
          have HX := Lib.hid HP.out.res
          have HB := Lib.hid HP.out.bel
          clear hR hst HR HP
          obtain ⟨p0, p1, p2, p3⟩ := HST.out.box.cells4
          obtain ⟨r0, r1, r2, r3⟩ := HX.out.cells4
          obtain ⟨g0, g1, g2, g3⟩ := HX.out.frozs4
          go_wp2_with fail
          refine bodyPost_ret (v := .tuple #[stpV x (.slice al x.nums.length cl), .bool true]) (by unfold stpV; simp [results, Tryz.results45, go_sem, r0, r1, r2, r3]) rfl (step_ok HRN2.out (bel_set4 HB.out _ _ _ _) ?_ HST.out.nil rfl)
          exact own_set4 HST.out.own (by omega) _ _ _ _
    · have e1 : ((ws.length : Int) != 1 + (need.length : Int)) = true := by simp; omega
      have HR : Hid (RN = none) := Lib.hid (by rw [HRES.out]; unfold stepW; rw [hne]; exact if_neg hl)
      clear hne HRES hl
      go_wp2_with fail
      refine bodyPost_ret (v := .tuple #[stpV ⟨[], [], [], []⟩ (.slice none 0 0), .bool false]) (by unfold stpV; simp [results, Tryz.results45, go_sem, r0, r1, r2, r3]) rfl (step_no HR.out ?_ rfl)
      exact bel_set4 HB1.out _ _ _ _
end Go.Proofs.YtlkceignfhnpoaaGreatDoor
end
section
namespace Go.Proofs.YtlkceignfhnpoaaGreatDoor
open Go Go.RowKit

/-- What a round leaves alone: the blocks from lo to hi. -/
structure KeepB (lo hi : Nat) (W W' : World) : Prop where
  size : W.heap.size ≤ W'.heap.size
  same : ∀ k, lo ≤ k → k < hi → W'.heap[k]? = W.heap[k]?
theorem KeepB.refl (lo hi : Nat) (W : World) : KeepB lo hi W W := ⟨Nat.le_refl _, fun _ _ _ => rfl⟩
theorem KeepB.trans {lo hi : Nat} {A B C : World} (h : KeepB lo hi A B) (k : KeepB lo hi B C) : KeepB lo hi A C :=
  ⟨Nat.le_trans h.size k.size, fun i h1 h2 => (k.same i h1 h2).trans (h.same i h1 h2)⟩
theorem KeepB.putObj {lo hi : Nat} {W : World} {l : Nat} {o : Obj} (h : hi ≤ l) : KeepB lo hi W (W.putObj l o) :=
  ⟨by simp, fun k _ h2 => World.putObj_heap_other (by omega)⟩

/-- The iterator's word: it may store into its own cell at any time. -/
def Turns {β : Type} (B : Nat) (J : β → World → Prop) : Prop := ∀ s W v, J s W → J s (W.setCell ⟨B, 0, none⟩ v)

def SeqCell {α : Type} (F : Fence) (n : Nat) (P : Program) (g : Nat) (lb : Array Value) (enc : α → Value) (B hi : Nat) (S Sp : List α → Prop) (w : World) : Prop :=
  ∀ (l : Nat) (J Jx : List α → World → Prop) (W : World), Below w.heap.size w W → Turns B J → Turns B Jx →
    (∀ pre x W1, J pre W1 → Sp (pre ++ [x]) → YieldAt F (n - 1) P l #[enc x] W1 fun e W' =>
      (e = .returned (.bool true) ∧ J (pre ++ [x]) W' ∧ KeepB B hi W1 W') ∨ (e = .returned (.bool false) ∧ Jx (pre ++ [x]) W')) →
    J [] W →
    CallsIn F n P g (#[.func (.yield l) #[] #[]] ++ lb) W fun e W' => (∃ v, e = .returned v) ∧ ((∃ xs, S xs ∧ J xs W') ∨ (∃ pre, Sp pre ∧ Jx pre W'))

variable {F : Fence} {n : Nat} {P : Program}

theorem range_cell {α : Type} {g : Operand} {p : Tmp} {assign body : Code} {Q : Exit → Act → World → Prop} {a : Act} {w : World}
    (hro : F.round = none) (h1 : 1 ≤ n) {gf : Nat} {lb : Array Value} (hg : a.eval g = .func (.func gf) #[] lb) (hFg : F.fn gf) (eg : ∀ args w, (callFunc gf args).run P w = .ok (.enter gf args) w)
    {enc : α → Value} {B hi : Nat} {S Sp : List α → Prop} (hB : B < w.heap.size) (hhi : hi ≤ w.heap.size) (hseq : SeqCell F (n - 1) P gf lb enc B hi S Sp w)
    (I : List α → World → Prop) (Ix : Code → List α → World → Prop) (hI : OwnFrom w.heap.size I) (hIx : ∀ c, OwnFrom w.heap.size (Ix c)) (hT : Turns B I) (hTx : ∀ c, Turns B (Ix c)) (h0 : I [] w) (a₁ : α → Act)
    (hassign : ∀ (l : Nat) (x : α) (W : World) (K : Act → World → Prop), K (a₁ x) W →
      assign.wpIn (F.inRound l) (n - 1 - 1) P (Exit.then K (fun _ _ _ => False)) { tmps := (#[p].zip #[enc x]).foldl (fun t (p, v) => t.setIfInBounds p v) a.tmps, defers := [] } W)
    (hbody : ∀ (l : Nat) (pre : List α) (x : α) (W : World), I pre W → Sp (pre ++ [x]) → body.wpIn (F.inRound l) (n - 1 - 1) P (ownPostG w.heap.size (KeepB B hi) I Ix (pre ++ [x]) W) (a₁ x) W)
    (hdone : ∀ (D : Nat) (xs : List α) (W : World), w.heap.size ≤ D → S xs → I xs W → W.heap[D]? = some (.deferred (some [])) → Q .normal { a with defers := { target := .collected D, args := #[] } :: a.defers } W)
    (hstop : ∀ (D : Nat) (c : Code) (pre : List α) (W : World), w.heap.size ≤ D → Sp pre → Ix c pre W → W.heap[D]? = some (.deferred (some [])) → c.wpIn F n P Q { a with defers := { target := .collected D, args := #[] } :: a.defers } W) :
    (Code.rangeFunc g #[p] assign body).wpIn F n P Q a w := by
  refine wpIn_rangeFunc fun fn hfn => ?_
  rw [hro]
  -- the two blocks that the statement lays: D for the rounds' deferred calls, D + 1 for the loop's record
  generalize hD : w.heap.size = D at *
  let R : LoopState → Option Code → Loop := fun st pe => { state := st, pending := pe, fn, tmps := a.tmps, params := #[p], assign, body, defers := D }
  let W1 : World := (w.alloc (.deferred (some []))).alloc (.loop (R .ready none))
  have hz1 : W1.heap.size = D + 2 := by simp [W1, hD]
  have hl1 : W1.heap[D + 1]? = some (.loop (R .ready none)) := by
    have := World.alloc_heap_new (w.alloc (.deferred (some []))) (.loop (R .ready none))
    rwa [World.size_alloc, hD] at this
  have hd1 : W1.heap[D]? = some (.deferred (some [])) := by
    refine (Below.heap_alloc (w.alloc (.deferred (some []))) _ D (by simp [hD])).trans ?_
    have := World.alloc_heap_new w (.deferred (some []))
    rwa [hD] at this
  have hi1 : I [] W1 := hI.alloc _ (hI.alloc _ h0)
  have hb1 : Below D w W1 := ((Below.refl D w).alloc (by omega) _).alloc (by simp [hD]) _
  -- what holds between two rounds, and behind a round that left
  let Mark : LoopState → Option Code → World → Prop := fun st pe X => X.heap[D + 1]? = some (.loop (R st pe)) ∧ X.heap[D]? = some (.deferred (some []))
  have mset : ∀ {st pe X} (v : Value), Mark st pe X → Mark st pe (X.setCell ⟨B, 0, none⟩ v) := fun v h =>
    ⟨(Below.heap_setCell _ _ _ _ (by simp; omega)).trans h.1, (Below.heap_setCell _ _ _ _ (by simp; omega)).trans h.2⟩
  have mput : ∀ {st pe X} (st' : LoopState) (pe' : Option Code), Mark st pe X → Mark st' pe' (X.putObj (D + 1) (.loop (R st' pe'))) := fun st' pe' h =>
    ⟨World.putObj_heap_same (Array.getElem?_eq_some_iff.1 h.1).1, (World.putObj_heap_other (by omega)).trans h.2⟩
  have mkeep : ∀ {st pe X Y}, Mark st pe X → KeepsFrom D X Y → Mark st pe Y := fun h k => ⟨k.same _ _ (by omega) h.1 rfl, k.same _ _ (Nat.le_refl _) h.2 rfl⟩
  refine ⟨D + 1, [{ target := .collected D, args := #[] }], W1, { target := .fn (.func gf) lb, args := #[.func (.yield (D + 1)) #[] #[]] }, W1, gf, #[.func (.yield (D + 1)) #[] #[]] ++ lb, W1, ?_, ?_, ?_, ?_, fun _ => h1, ?_⟩
  · subst hD
    exact run_enterLoop_outer _ _ _ _ _
  · simp only [resolve, hg]; simp [go_sem]
  · intro f' hf'; simp [Target.leads] at hf'; subst hf'; exact hFg
  · simp [invoke, go_sem, eg]
  refine (hseq (D + 1) (fun pre X => I pre X ∧ Mark .ready none X) (fun pre X => ∃ c, Ix c pre X ∧ Mark .done (some c) X) W1 (by rw [hD]; exact hb1)
    (fun s X v h => ⟨hT s X v h.1, mset v h.2⟩) (fun s X v h => by obtain ⟨c, h1, h2⟩ := h; exact ⟨c, hTx c s X v h1, mset v h2⟩) ?_ ⟨hi1, hl1, hd1⟩).mono ?_
  · rintro pre x X ⟨hi, hm⟩ hsp
    have hy := run_yield (P := P) (args := #[enc x]) hm.1 rfl
    refine ⟨fn, _, assign, body, hy, roundIn_of_wpIn hfn (hassign _ x X _ ⟨_, run_beginRound hm.1 rfl, ?_⟩)⟩
    have hm2 : Mark .busy none (X.putObj (D + 1) (.loop (R .busy none))) := mput .busy none hm
    refine wpIn_mono (hbody _ pre x _ (hI.putObj _ hi (by omega) hm.1 rfl) hsp) ?_
    have leave : ∀ (j : Option Code) (Y : World), KeepsFrom D (X.putObj (D + 1) (.loop (R .busy none))) Y →
        (Instr.endRound (D + 1) j).run P Y = .ok (.bool j.isNone) (Y.putObj (D + 1) (.loop (R (if j.isNone then .ready else .done) j))) ∧ Mark .busy none Y := fun j Y hk => ⟨run_endRound (P := P) j (mkeep hm2 hk).1, mkeep hm2 hk⟩
    rintro e a3 Y hp
    match e, hp with
    | .normal, ⟨hk, hkp, hi3⟩ =>
      obtain ⟨hr, hm3⟩ := leave none Y hk
      exact ⟨_, _, hr, .inl ⟨rfl, ⟨hI.putObj _ hi3 (by omega) hm3.1 rfl, mput .ready none hm3⟩, ((KeepB.putObj (by omega)).trans hkp).trans (KeepB.putObj (by omega))⟩⟩
    | .ret, ⟨hk, hi3⟩ =>
      obtain ⟨hr, hm3⟩ := leave (some .ret) Y hk
      exact ⟨_, _, hr, .inr ⟨rfl, .ret, (hIx _).putObj _ hi3 (by omega) hm3.1 rfl, mput .done (some .ret) hm3⟩⟩
    | .exit id, ⟨hk, hi3⟩ =>
      obtain ⟨hr, hm3⟩ := leave (some (.exit id)) Y hk
      exact ⟨_, _, hr, .inr ⟨rfl, .exit id, (hIx _).putObj _ hi3 (by omega) hm3.1 rfl, mput .done (some (.exit id)) hm3⟩⟩
    | .goto t, ⟨hk, hi3⟩ =>
      obtain ⟨hr, hm3⟩ := leave (some (.goto t)) Y hk
      exact ⟨_, _, hr, .inr ⟨rfl, .goto t, (hIx _).putObj _ hi3 (by omega) hm3.1 rfl, mput .done (some (.goto t)) hm3⟩⟩
  · rintro e X ⟨⟨v, rfl⟩, (⟨xs, hS, hi, hm⟩ | ⟨pre, hSp, c, hi, hm⟩)⟩
    · exact ⟨none, _, run_endLoop (P := P) hm.1 (by simp [R]), hdone _ xs _ (Nat.le_refl _) hS (hI.putObj _ hi (by omega) hm.1 rfl) ((World.putObj_heap_other (by omega)).trans hm.2)⟩
    · exact ⟨some c, _, run_endLoop (P := P) hm.1 (by simp [R]), hstop _ c pre _ (Nat.le_refl _) hSp ((hIx c).putObj _ hi (by omega) hm.1 rfl) ((World.putObj_heap_other (by omega)).trans hm.2)⟩
end Go.Proofs.YtlkceignfhnpoaaGreatDoor
end
section
namespace Go.Proofs.YtlkceignfhnpoaaGreatDoor
open Go.RowKit Go.Shelf
attribute [local go_sem] Oper.semAt_some

/-- The closure's own cells: what is left, the separator, how much of it is kept. -/
structure SeqAt (W : World) (B : Nat) (rest : List UInt8) : Prop where
  s : BoxAt W B 9 [strV rest]
  sep : BoxAt W (B + 1) 9 [.string ⟨#[10]⟩]
  save : BoxAt W (B + 2) 3 [.int .i64 0]
theorem SeqAt.keep {W W' : World} {B : Nat} {rest : List UInt8} (h : SeqAt W B rest) (hk : KeepB B (B + 3) W W') : SeqAt W' B rest :=
  ⟨(hk.same _ (by omega) (by omega)).trans h.s, (hk.same _ (by omega) (by omega)).trans h.sep, (hk.same _ (by omega) (by omega)).trans h.save⟩
theorem SeqAt.set {W : World} {B : Nat} {rest : List UInt8} (h : SeqAt W B rest) (r : List UInt8) : SeqAt (W.setCell ⟨B, 0, none⟩ (strV r)) B r :=
  ⟨h.s.set 0 _, (Below.heap_setCell _ _ _ _ (by simp)).trans h.sep, (Below.heap_setCell _ _ _ _ (by simp)).trans h.save⟩
theorem SeqAt.below {W W' : World} {B : Nat} {rest : List UInt8} (h : SeqAt W B rest) (hb : Below W.heap.size W W') : SeqAt W' B rest :=
  ⟨h.s.below hb h.s.lt, h.sep.below hb h.sep.lt, h.save.below hb h.save.lt⟩
def leftAt (B : Nat) (W : World) : Nat := match W.cell? ⟨B, 0, none⟩ with | some (.string s) => s.size | _ => 0
theorem left_at {W : World} {B : Nat} {rest : List UInt8} (h : SeqAt W B rest) : leftAt B W = rest.length := by
  unfold leftAt
  have h1 := h.s.cell 0
  simp only [List.getElem?_cons_zero] at h1
  rw [h1]; unfold strV; simp only; rw [size_arr]
theorem index_no {r : List UInt8} (h : Lib.indexByte r 10 = -1) : splitBy 10 r = [r] :=
  splitBy_self 10 r (fun hm => by
    obtain ⟨k, hk⟩ := List.getElem?_of_mem hm
    exact Lib.indexByte_none h k hk)
theorem index_yes {r : List UInt8} {o : Nat} (h : Lib.indexByte r 10 = o) : o < r.length ∧ splitBy 10 r = r.take o :: splitBy 10 (r.drop (o + 1)) := by
  obtain ⟨h1, h2⟩ := Lib.indexByte_some h
  obtain ⟨hlt, hq⟩ := List.getElem?_eq_some_iff.1 h1
  refine ⟨hlt, ?_⟩
  have e : r = r.take o ++ 10 :: r.drop (o + 1) := by
    rw [← hq, ← List.drop_eq_getElem_cons hlt, List.take_append_drop]
  have hn : (10 : UInt8) ∉ r.take o := fun hm => by
    obtain ⟨k, hk⟩ := List.getElem?_of_mem hm
    rw [List.getElem?_take] at hk
    split at hk
    · exact h2 k (by omega) hk
    · cases hk
  have := splitBy_app 10 (r.take o) (r.drop (o + 1)) hn
  rw [← e] at this
  exact this
theorem part_of {l pre : List (List UInt8)} {x : List UInt8} {t : List (List UInt8)} (h : l = pre ++ x :: t) : pre ++ [x] <+: l := ⟨t, by rw [h]; simp⟩

set_option maxRecDepth 100000 in
set_option maxHeartbeats 2000000 in
theorem seq_any (s : List UInt8) (hs : s.length ≤ 1000000) (l B : Nat) (J Jx : List (List UInt8) → World → Prop) (hT : Turns B J)
    (hY : ∀ pre x W1, J pre W1 → pre ++ [x] <+: splitBy 10 s → YieldAt Fence.wide (3 - 1) Tryz.prog l #[strV x] W1 fun e W' =>
      (e = .returned (.bool true) ∧ J (pre ++ [x]) W' ∧ KeepB B (B + 3) W1 W') ∨ (e = .returned (.bool false) ∧ Jx (pre ++ [x]) W'))
    (W : World) (hq : SeqAt W B s) (h0 : J [] W) :
    CallsIn Fence.wide 3 Tryz.prog 147 #[.func (.yield l) #[] #[], .pointer (some ⟨B + 1, 0, none⟩), .pointer (some ⟨B, 0, none⟩), .pointer (some ⟨B + 2, 0, none⟩)] W fun e W' => (∃ v, e = .returned v) ∧
      ((∃ xs, xs = splitBy 10 s ∧ J xs W') ∨ (∃ pre, pre <+: splitBy 10 s ∧ Jx pre W')) := by
  have HQ := Lib.hid hq
  have HTT := Lib.hid hT
  have HYY := Lib.hid hY
  clear hT hY hq
  have c0 := HQ.out.s.cell 0
  have c1 := HQ.out.sep.cell 0
  have c2 := HQ.out.save.cell 0
  simp only [List.getElem?_cons_zero] at c0 c1 c2
  refine callsIn_of_wp Tryz.func147 rfl trivial ?_ rfl
  simp only [Tryz.ntmps147, List.size_toArray, List.length_cons, List.length_nil, Nat.reduceAdd, Nat.reduceSub, Array.replicate_succ, Array.replicate_zero, List.push_toArray, List.append_toArray, List.nil_append, List.cons_append]
  gi_wp2
  gi_loopw [] (fun wr => ∃ (pre : List (List UInt8)) (rest : List UInt8), splitBy 10 s = pre ++ splitBy 10 rest ∧ rest.length ≤ s.length ∧ SeqAt wr B rest ∧ J pre wr)
    (fun wr => leftAt B wr)
  case atStart => exact ⟨[], s, by simp, Nat.le_refl _, HQ.out, h0⟩
  case round =>
    obtain ⟨pre, rest, hsp, hrl, hqs, hJ⟩ := hrel
    have HQ2 := Lib.hid hqs
    have HL2 := Lib.hid (left_at hqs)
    clear hqs HQ c0 c1 c2
    have c0 := HQ2.out.s.cell 0
    have c1 := HQ2.out.sep.cell 0
    have c2 := HQ2.out.save.cell 0
    have f0 := HQ2.out.s.froz 0
    simp only [List.getElem?_cons_zero] at c0 c1 c2
    unfold strV at c0
    have HIX := Lib.hid (fun W => Tryz.strings_Index_one ⟨rest.toArray⟩ 10 W)
    rw [show (⟨rest.toArray⟩ : ByteArray).data.toList = rest from rfl] at HIX
    by_cases hi : Lib.indexByte rest 10 = -1
    · rw [index_no hi] at hsp
      obtain ⟨fn, tmps, assign, body, hy, hR⟩ := HYY.out pre rest wr hJ (part_of hsp)
      have HSP := Lib.hid hsp
      rw [hi] at HIX
      unfold strV at hy
      clear hsp hi HYY HTT hJ
      gi_wp2
      refine ⟨trivial, ?_⟩
      refine (callsIn_wide.2 (HIX.out _)).mono ?_
      rintro e w' ⟨rfl, rfl⟩
      gi_wp2
      refine hR.mono ?_
      rintro e W3 (⟨rfl, hJ3, hk3⟩ | ⟨rfl, hJx3⟩)
      · gi_wp2
        go_end0
        exact ⟨⟨_, rfl⟩, .inl ⟨_, HSP.out.symm, hJ3⟩⟩
      · gi_wp2
        go_end0
        exact ⟨⟨_, rfl⟩, .inr ⟨_, ⟨[], by rw [List.append_nil]; exact HSP.out.symm⟩, hJx3⟩⟩
    · obtain ⟨o, ho⟩ : ∃ o : Nat, Lib.indexByte rest 10 = o := ⟨(Lib.indexByte rest 10).toNat, by have := Lib.indexByte_ge rest 10; omega⟩
      obtain ⟨hol, hsr⟩ := index_yes ho
      rw [hsr] at hsp
      obtain ⟨fn, tmps, assign, body, hy, hR⟩ := HYY.out pre (rest.take o) wr hJ (part_of hsp)
      have HSP := Lib.hid hsp
      rw [ho] at HIX
      have hno : ¬ ((o : Int) < 0) := by omega
      have hsz : (⟨rest.toArray⟩ : ByteArray).size = rest.length := size_arr rest
      have hfr : (⟨rest.toArray⟩ : ByteArray).extract 0 o = ⟨(rest.take o).toArray⟩ := by
        apply str_eq; rw [Lib.extract_data]; simp
      have hbk : (⟨rest.toArray⟩ : ByteArray).extract (o + 1) rest.length = ⟨(rest.drop (o + 1)).toArray⟩ := by
        apply str_eq; rw [Lib.extract_data]; simp; rw [List.take_of_length_le (by simp)]
      unfold strV at hy
      clear hsp hi ho hsr HYY hJ
      gi_wp2
      refine ⟨trivial, ?_⟩
      refine (callsIn_wide.2 (HIX.out _)).mono ?_
      rintro e w' ⟨rfl, rfl⟩
      gi_wp2
      refine hR.mono ?_
      rintro e W3 (⟨rfl, hJ3, hk3⟩ | ⟨rfl, hJx3⟩)
      · have HQ3 := Lib.hid (HQ2.out.keep hk3)
        have HS3 := Lib.hid (HQ3.out.set (rest.drop (o + 1)))
        have HJ3 := Lib.hid (HTT.out _ _ (strV (rest.drop (o + 1))) hJ3)
        unfold strV at HS3 HJ3
        clear c0 c1 c2 f0 hJ3 hk3 HQ2
        have c0 := HQ3.out.s.cell 0
        have c1 := HQ3.out.sep.cell 0
        have f0 := HQ3.out.s.froz 0
        simp only [List.getElem?_cons_zero] at c0 c1
        unfold strV at c0
        gi_wp2
        go_roundw
        case rel => exact ⟨pre ++ [rest.take o], rest.drop (o + 1), by rw [HSP.out]; simp, by simp; omega, HS3.out, HJ3.out⟩
        case measure => rw [left_at HS3.out, HL2.out]; simp; omega
      · gi_wp2
        refine bodyPost_ret (results_none rfl _ _ _) rfl ?_
        exact ⟨⟨_, rfl⟩, .inr ⟨pre ++ [rest.take o], part_of HSP.out, hJx3⟩⟩
/-- What strings.SplitSeq hands back, as a range over it wants it. -/
theorem seq_cell (s : List UInt8) (hs : s.length ≤ 1000000) (B : Nat) (w : World) (hq : SeqAt w B s) :
    SeqCell Fence.wide 3 Tryz.prog 147 #[.pointer (some ⟨B + 1, 0, none⟩), .pointer (some ⟨B, 0, none⟩), .pointer (some ⟨B + 2, 0, none⟩)] strV B (B + 3) (fun xs => xs = splitBy 10 s) (fun pre => pre <+: splitBy 10 s) w :=
  fun l J Jx W hW hT _ hY h0 => seq_any s hs l B J Jx hT (fun pre x W1 h hp => hY pre x W1 h hp) W (hq.below hW) h0
end Go.Proofs.YtlkceignfhnpoaaGreatDoor
end
section
namespace Go.Proofs.YtlkceignfhnpoaaGreatDoor
open Go.RowKit Go.Shelf
attribute [local go_sem] Oper.semAt_some

def stpC (x : Stp) (nv : Value) : List Value := [.string ⟨x.word.toArray⟩, nv, .string ⟨x.ask.toArray⟩, .string ⟨x.data.toArray⟩]
def stpCs (xs : List Stp) (nvs : List Value) : List Value := (List.zipWith stpC xs nvs).flatten
theorem stpCs_snoc (xs : List Stp) (nvs : List Value) (x : Stp) (nv : Value) (h : nvs.length = xs.length) : stpCs (xs ++ [x]) (nvs ++ [nv]) = stpCs xs nvs ++ stpC x nv := by
  unfold stpCs
  rw [List.zipWith_append h.symm]; simp
/-- What owns its row still owns it, where none of its cells was touched. -/
theorem row_kept {w w' : World} {base E sz n : Nat} {v : Value} {xs : List Value} {row : Option Nat} (h : w.ownsRow base E sz v n xs) (hg : w.grownBy w' row) (hr : ∀ r, row = some r → r < base ∨ ∀ cur, w.heap[r]? ≠ some (.cells cur E (0, 0))) : w'.ownsRow base E sz v n xs := by
  refine h.kept hg ?_
  rcases h.2 with ⟨rfl, _⟩ | ⟨g, cap, cur, rfl, hb, hgb, _⟩
  · exact .inl rfl
  · refine .inr fun e => ?_
    rcases hr g (by simpa [Value.ownBlock] using e.symm) with h1 | h1
    · omega
    · exact h1 cur hgb
/-- A row of steps, of a call's own. -/
structure StpsAt (w : World) (B : Nat) (v : Value) (xs : List Stp) (nvs : List Value) : Prop where
  len : nvs.length = xs.length
  row : w.ownsRow B 31 4 v xs.length (stpCs xs nvs)
  nums : ∀ j (h : j < xs.length), ∃ nv, nvs[j]? = some nv ∧ w.ownsRow B 3 1 nv xs[j].nums.length (numV xs[j].nums)
  nilN : ∀ j (h : j < xs.length), xs[j].nums = [] → nvs[j]? = some (.slice none 0 0)
  nilV : xs = [] → v = .slice none 0 0
theorem StpsAt.nil (w : World) (B : Nat) : StpsAt w B (.slice none 0 0) [] [] := ⟨rfl, World.ownsRow_nil _ _ _ _, fun j h => by simp at h, fun j h => by simp at h, fun _ => rfl⟩
theorem StpsAt.kept {w w' : World} {B : Nat} {v : Value} {xs : List Stp} {nvs : List Value} {row : Option Nat} (h : StpsAt w B v xs nvs) (hg : w.grownBy w' row) (hr : ∀ r, row = some r → r < B ∨ ∀ cur T, w.heap[r]? ≠ some (.cells cur T (0, 0))) : StpsAt w' B v xs nvs :=
  ⟨h.len, row_kept h.row hg (fun r e => (hr r e).imp id (fun k cur => k cur _)), fun j hj => by
    obtain ⟨nv, h1, h2⟩ := h.nums j hj
    exact ⟨nv, h1, row_kept h2 hg (fun r e => (hr r e).imp id (fun k cur => k cur _))⟩, h.nilN, h.nilV⟩
theorem grown_of_below {w w' : World} (hb : Below w.heap.size w w') : w.grownBy w' none := ⟨hb.os, hb.tape, hb.output, hb.size, fun k hk _ => hb.block k hk⟩
theorem StpsAt.below {w w' : World} {B : Nat} {v : Value} {xs : List Stp} {nvs : List Value} (h : StpsAt w B v xs nvs) (hb : Below w.heap.size w w') : StpsAt w' B v xs nvs :=
  h.kept (grown_of_below hb) (fun r e => by cases e)
theorem StpsAt.low {w : World} {B C : Nat} {v : Value} {xs : List Stp} {nvs : List Value} (h : StpsAt w B v xs nvs) (hc : C ≤ B) : StpsAt w C v xs nvs :=
  ⟨h.len, by
    obtain ⟨h1, h2 | ⟨q, cap, cur, hv, hB, hq, rest⟩⟩ := h.row
    · exact ⟨h1, .inl h2⟩
    · exact ⟨h1, .inr ⟨q, cap, cur, hv, by omega, hq, rest⟩⟩, fun j hj => by
    obtain ⟨nv, h1, h2⟩ := h.nums j hj
    exact ⟨nv, h1, own_low h2 hc⟩, h.nilN, h.nilV⟩
/-- One more step: the row has grown. -/
theorem StpsAt.snoc {w w' : World} {B : Nat} {v v' nv : Value} {xs : List Stp} {nvs : List Value} {x : Stp} (h : StpsAt w B v xs nvs) (hx : w.ownsRow B 3 1 nv x.nums.length (numV x.nums)) (hz : x.nums = [] → nv = .slice none 0 0) (hg : w.grownBy w' v.ownBlock)
    (hr : w'.ownsRow B 31 4 v' (xs.length + 1) (stpCs xs nvs ++ stpC x nv)) : StpsAt w' B v' (xs ++ [x]) (nvs ++ [nv]) := by
  have hty : ∀ r, v.ownBlock = some r → r < B ∨ ∀ cur, w.heap[r]? ≠ some (.cells cur 3 (0, 0)) := fun r e => .inr fun cur hc => by
    rcases h.row.2 with ⟨rfl, _⟩ | ⟨g, cap, cur', rfl, hb, hgb, _⟩
    · simp [Value.ownBlock] at e
    · simp [Value.ownBlock] at e; subst e
      rw [hgb] at hc; simp at hc
  refine ⟨by simp [h.len], by rw [stpCs_snoc _ _ _ _ h.len, List.length_append]; exact hr, fun j hj => ?_, fun j hj => ?_, fun h => by simp at h⟩
  · by_cases hj1 : j < xs.length
    · obtain ⟨u, h1, h2⟩ := h.nums j hj1
      exact ⟨u, by rw [List.getElem?_append_left (by rw [h.len]; exact hj1)]; exact h1, by rw [List.getElem_append_left hj1]; exact row_kept h2 hg hty⟩
    · have hj2 : j = xs.length := by simp at hj; omega
      subst hj2
      exact ⟨nv, by rw [← h.len]; simp, by simp; exact row_kept hx hg hty⟩
  · by_cases hj1 : j < xs.length
    · intro he
      rw [List.getElem?_append_left (by rw [h.len]; exact hj1)]
      exact h.nilN j hj1 (by rw [List.getElem_append_left hj1] at he; exact he)
    · have hj2 : j = xs.length := by simp at hj; omega
      subst hj2
      intro he
      rw [← h.len]
      simp at he ⊢
      exact hz he
def LparseEnd (R : List Stp × Nat × Bool) (w : World) (e : Ending) (w' : World) : Prop :=
  Below w.heap.size w w' ∧ ∃ v nvs, e = .returned (.tuple #[v, .int .i64 (R.2.1 : Int), .bool R.2.2]) ∧ StpsAt w' w.heap.size v R.1 nvs
theorem splitSeq_any (s : ByteArray) (w : World) : Calls Tryz.prog 82 #[.string s, .string ⟨#[10]⟩, .int .i64 0] w fun e w' => e = .returned (.func (.func 147) #[] #[.pointer (some ⟨w.heap.size + 1, 0, none⟩), .pointer (some ⟨w.heap.size, 0, none⟩), .pointer (some ⟨w.heap.size + 2, 0, none⟩)]) ∧
    w' = ((w.alloc (.cells #[.string s] 9)).alloc (.cells #[.string ⟨#[10]⟩] 9)).alloc (.cells #[.int .i64 0] 3) := by
  go_enter Tryz.func82, Tryz.ntmps82
  go_wp2_with fail
  go_ret
  exact ⟨rfl, rfl⟩
theorem SplitSeq_any (s : ByteArray) (w : World) : Calls Tryz.prog 43 #[.string s, .string ⟨#[10]⟩] w fun e w' => e = .returned (.func (.func 147) #[] #[.pointer (some ⟨w.heap.size + 1, 0, none⟩), .pointer (some ⟨w.heap.size, 0, none⟩), .pointer (some ⟨w.heap.size + 2, 0, none⟩)]) ∧
    w' = ((w.alloc (.cells #[.string s] 9)).alloc (.cells #[.string ⟨#[10]⟩] 9)).alloc (.cells #[.int .i64 0] 3) := by
  go_enter Tryz.func43, Tryz.ntmps43
  go_wp2_with fail
  refine (splitSeq_any s w).mono ?_
  rintro e w' ⟨rfl, rfl⟩
  go_wp2_with fail
  go_ret
  exact ⟨rfl, rfl⟩
/-- Between two rounds. -/
structure ParC (w : World) (b0 b1 b2 b3 b4 : Nat) (k : Int) (W : World) (out : List Stp) (v : Value) (nvs : List Value) : Prop where
  le : out.length ≤ 400
  r0 : BoxAt W b0 25 [.slice none 0 0]
  r1 : BoxAt W b1 3 [.int .i64 0]
  r2 : BoxAt W b2 4 [.bool false]
  o : BoxAt W b3 25 [v]
  n : BoxAt W b4 3 [.int .i64 k]
  steps : StpsAt W (b0 + 8) v out nvs
  bel : Below b0 w W
  ge : b0 + 8 ≤ W.heap.size
/-- Where a round has left. -/
structure ParX (w : World) (b0 b1 b2 : Nat) (pre : List (List UInt8)) (W : World) : Prop where
  bad : Bad pre
  r0 : BoxAt W b0 25 [.slice none 0 0]
  r1 : BoxAt W b1 3 [.int .i64 (pre.length : Int)]
  r2 : BoxAt W b2 4 [.bool false]
  bel : Below b0 w W
theorem box_own {W W' : World} {b T : Nat} {cs : List Value} {row : Option Nat} (h : BoxAt W b T cs) (hg : W.grownBy W' row) (hr : ∀ r, row = some r → ∃ o : Obj, W.heap[r]? = some o ∧ o.isCells = false) : BoxAt W' b T cs :=
  h.grown hg (fun e => by
    obtain ⟨o, ho, hc⟩ := hr b e.symm
    unfold BoxAt at h
    rw [h] at ho; cases ho; cases hc)
theorem ParC.own {w W W' : World} {b0 b1 b2 b3 b4 : Nat} {k : Int} {out : List Stp} {v : Value} {nvs : List Value} {row : Option Nat} (h : ParC w b0 b1 b2 b3 b4 k W out v nvs) (hg : W.grownBy W' row) (hr : ∀ r, row = some r → b0 ≤ r ∧ ∃ o : Obj, W.heap[r]? = some o ∧ o.isCells = false) : ParC w b0 b1 b2 b3 b4 k W' out v nvs :=
  have h2 := fun r e => (hr r e).2
  ⟨h.le, box_own h.r0 hg h2, box_own h.r1 hg h2, box_own h.r2 hg h2, box_own h.o hg h2, box_own h.n hg h2, h.steps.kept hg (fun r e => .inr fun cur T hc => by
    obtain ⟨o, ho, hq⟩ := h2 r e
    rw [hc] at ho; cases ho; cases hq), h.bel.grown hg (Nat.le_of_lt h.r0.lt) (fun r e => (hr r e).1), Nat.le_trans h.ge hg.size⟩
theorem ParC.below {w W W' : World} {b0 b1 b2 b3 b4 : Nat} {k : Int} {out : List Stp} {v : Value} {nvs : List Value} (h : ParC w b0 b1 b2 b3 b4 k W out v nvs) (hb : Below W.heap.size W W') : ParC w b0 b1 b2 b3 b4 k W' out v nvs :=
  h.own (grown_of_below hb) (fun r e => by cases e)
theorem ParX.own {w W W' : World} {b0 b1 b2 : Nat} {pre : List (List UInt8)} {row : Option Nat} (h : ParX w b0 b1 b2 pre W) (hg : W.grownBy W' row) (hr : ∀ r, row = some r → b0 ≤ r ∧ ∃ o : Obj, W.heap[r]? = some o ∧ o.isCells = false) : ParX w b0 b1 b2 pre W' :=
  have h2 := fun r e => (hr r e).2
  ⟨h.bad, box_own h.r0 hg h2, box_own h.r1 hg h2, box_own h.r2 hg h2, h.bel.grown hg (Nat.le_of_lt h.r0.lt) (fun r e => (hr r e).1)⟩
theorem grown_set1 (W : World) (b : Nat) (v : Value) : W.grownBy (W.setCell ⟨b, 0, none⟩ v) (some b) := ⟨rfl, rfl, rfl, by simp, fun k hk h => Below.heap_setCell _ _ _ _ (fun e => h (by rw [e]))⟩
theorem ParC.turn {w W : World} {b0 b1 b2 b3 b4 B : Nat} {k : Int} {out : List Stp} {x : Value} {nvs : List Value} (h : ParC w b0 b1 b2 b3 b4 k W out x nvs) (h0 : b0 < B) (h1 : b1 < B) (h2 : b2 < B) (h3 : b3 < B) (h4 : b4 < B) (hB : B < b0 + 8) (v : Value) : ParC w b0 b1 b2 b3 b4 k (W.setCell ⟨B, 0, none⟩ v) out x nvs :=
  ⟨h.le, h.r0.other (by simp; omega) v, h.r1.other (by simp; omega) v, h.r2.other (by simp; omega) v, h.o.other (by simp; omega) v, h.n.other (by simp; omega) v, h.steps.kept (grown_set1 W B v) (fun r e => by cases e; exact .inl hB), h.bel.setCell (p := ⟨B, 0, none⟩) (by simp; omega) v, by simpa using h.ge⟩
theorem ParC.tick {w W : World} {b0 b1 b2 b3 b4 : Nat} {k : Int} {out : List Stp} {x : Value} {nvs : List Value} (h : ParC w b0 b1 b2 b3 b4 k W out x nvs) (h01 : b0 + 1 = b1) (h12 : b1 + 1 = b2) (h23 : b2 + 1 = b3) (h34 : b3 + 1 = b4) (k' : Int) : ParC w b0 b1 b2 b3 b4 k' (W.setCell ⟨b4, 0, none⟩ (.int .i64 k')) out x nvs :=
  ⟨h.le, h.r0.other (by simp; omega) _, h.r1.other (by simp; omega) _, h.r2.other (by simp; omega) _, h.o.other (by simp; omega) _, h.n.set 0 _, h.steps.kept (grown_set1 W b4 _) (fun r e => by cases e; exact .inl (by omega)), h.bel.setCell (p := ⟨b4, 0, none⟩) (by simp; omega) _, by simpa using h.ge⟩
theorem ParC.left {w W : World} {b0 b1 b2 b3 b4 : Nat} {k : Int} {out : List Stp} {x : Value} {nvs : List Value} {pre : List (List UInt8)} (h : ParC w b0 b1 b2 b3 b4 k W out x nvs) (hb : Bad pre) (hk : k = (pre.length : Int)) (h01 : b0 + 1 = b1) (h12 : b1 + 1 = b2) :
    ParX w b0 b1 b2 pre (((W.setCell ⟨b0, 0, none⟩ (.slice none 0 0)).setCell ⟨b1, 0, none⟩ (.int .i64 k)).setCell ⟨b2, 0, none⟩ (.bool false)) := by
  subst hk
  exact ⟨hb, ((h.r0.set 0 _).other (by simp; omega) _).other (by simp; omega) _, (((h.r1.other (by simp; omega) _).set 0 _)).other (by simp; omega) _, ((h.r2.other (by simp; omega) _).other (by simp; omega) _).set 0 _,
    ((h.bel.setCell (p := ⟨b0, 0, none⟩) (Nat.le_refl _) _).setCell (p := ⟨b1, 0, none⟩) (by simp; omega) _).setCell (p := ⟨b2, 0, none⟩) (by simp; omega) _⟩
theorem keepB_set {W : World} {lo hi b : Nat} {v : Value} (h : b < lo) : KeepB lo hi W (W.setCell ⟨b, 0, none⟩ v) := ⟨by simp, fun k h1 _ => Below.heap_setCell _ _ _ _ (by simp; omega)⟩
theorem keepB_grown {W W' : World} {lo hi : Nat} {row : Option Nat} (hg : W.grownBy W' row) (hh : hi ≤ W.heap.size) (hr : ∀ r, row = some r → hi ≤ r) : KeepB lo hi W W' := ⟨hg.size, fun k _ h2 => hg.block k (by omega) (fun e => by have := hr k e.symm; omega)⟩
theorem keepF_below {W W' : World} {D : Nat} (hb : Below W.heap.size W W') : KeepsFrom D W W' := ⟨hb.size, fun k o _ hk _ => (hb.block k (lt_of_block hk)).trans hk⟩
theorem keepF_grown {W W' : World} {D : Nat} {row : Option Nat} (hg : W.grownBy W' row) (hr : ∀ r, row = some r → ∃ cur T fr, W.heap[r]? = some (.cells cur T fr)) : KeepsFrom D W W' :=
  ⟨hg.size, fun k o _ hk ho => (hg.block k (lt_of_block hk) (fun e => by
    obtain ⟨cur, T, fr, hc⟩ := hr k e.symm
    rw [hk] at hc; cases hc; cases ho)).trans hk⟩
theorem own_row_block {w : World} {base E sz n : Nat} {v : Value} {xs : List Value} (h : w.ownsRow base E sz v n xs) : ∀ r, v.ownBlock = some r → ∃ cur T fr, w.heap[r]? = some (.cells cur T fr) := fun r e => by
  rcases h.2 with ⟨rfl, _⟩ | ⟨g, cap, cur, rfl, _, hgb, _⟩
  · simp [Value.ownBlock] at e
  · simp [Value.ownBlock] at e; subst e; exact ⟨_, _, _, hgb⟩
theorem part_mem {l pre : List (List UInt8)} {x : List UInt8} (h : pre ++ [x] <+: l) : x ∈ l ∧ pre.length + 1 ≤ l.length := by
  obtain ⟨t, rfl⟩ := h
  exact ⟨by simp, by simp⟩
theorem info_stp : (Tryz.prog.info? 31).map (fun i => (i.zero, i.size, i.bytes)) = some (some (.agg #[.string .empty, .slice none 0 0, .string .empty, .string .empty]), 4, 72) := by kernel_rfl
theorem ParX.turn {w W : World} {b0 b1 b2 B : Nat} {pre : List (List UInt8)} (h : ParX w b0 b1 b2 pre W) (h0 : b0 < B) (h1 : b1 < B) (h2 : b2 < B) (v : Value) : ParX w b0 b1 b2 pre (W.setCell ⟨B, 0, none⟩ v) :=
  ⟨h.bad, h.r0.other (by simp; omega) v, h.r1.other (by simp; omega) v, h.r2.other (by simp; omega) v, h.bel.setCell (p := ⟨B, 0, none⟩) (by simp; omega) v⟩
theorem seqCell3 (s : List UInt8) (hs : s.length ≤ 1000000) (B : Nat) (w : World) (hq : SeqAt w B s) :
    SeqCell Fence.wide (4 - 1) Tryz.prog 147 #[.pointer (some ⟨B + 1, 0, none⟩), .pointer (some ⟨B, 0, none⟩), .pointer (some ⟨B + 2, 0, none⟩)] strV B (B + 3) (fun xs => xs = splitBy 10 s) (fun pre => pre <+: splitBy 10 s) w :=
  seq_cell s hs B w hq
theorem own_form {w : World} {base E sz n : Nat} {v : Value} {xs : List Value} (h : w.ownsRow base E sz v n xs) : ∃ a c, v = .slice a n c := by
  rcases h.2 with ⟨rfl, rfl⟩ | ⟨g, cap, cur, rfl, _⟩
  · exact ⟨none, 0, rfl⟩
  · exact ⟨_, cap, rfl⟩
theorem leave_keep (W : World) (D : Nat) (a b c : Addr) {u v x : Value} : KeepsFrom D W (((W.setCell a u).setCell b v).setCell c x).drew :=
  ((((KeepsOthers.setCell W a u).trans (KeepsOthers.setCell _ b v)).trans (KeepsOthers.setCell _ c x)).trans (KeepsOthers.drew _)).from D
theorem ParX.drew {w W : World} {b0 b1 b2 : Nat} {pre : List (List UInt8)} (h : ParX w b0 b1 b2 pre W) : ParX w b0 b1 b2 pre W.drew := ⟨h.bad, h.r0, h.r1, h.r2, h.bel.drew⟩
theorem ParC.more {w W W' : World} {b0 b1 b2 b3 b4 : Nat} {k : Int} {out : List Stp} {y : Stp} {v nv : Value} {nvs : List Value} {o : Obj} {g cap : Nat} (h : ParC w b0 b1 b2 b3 b4 k W out v nvs) (hg : (W.alloc o).grownBy W' v.ownBlock)
    (hr : W'.ownsRow (b0 + 8) 31 4 (.slice (some ⟨g, 0, none⟩) (out.length + 1) cap) (out.length + 1) (stpCs out nvs ++ stpC y nv)) (hy : W.ownsRow (b0 + 8) 3 1 nv y.nums.length (numV y.nums)) (hz : y.nums = [] → nv = .slice none 0 0) (h1 : out.length ≤ 400) (h2 : out.length ≠ 400) (h01 : b0 + 1 = b1) (h12 : b1 + 1 = b2) (h23 : b2 + 1 = b3) (h34 : b3 + 1 = b4) :
    ParC w b0 b1 b2 b3 b4 k (W'.setCell ⟨b3, 0, none⟩ (.slice (some ⟨g, 0, none⟩) (out.length + 1) cap)) (out ++ [y]) (.slice (some ⟨g, 0, none⟩) (out.length + 1) cap) (nvs ++ [nv]) := by
  have hlt := h.steps.row.lt
  have hne : ∀ b, b < b0 + 8 → some b ≠ v.ownBlock := fun b hb e => by have := (hlt b e.symm).1; omega
  have ha := h.below ((Below.refl _ W).alloc (Nat.le_refl _) o)
  have hs : StpsAt W' (b0 + 8) (.slice (some ⟨g, 0, none⟩) (out.length + 1) cap) (out ++ [y]) (nvs ++ [nv]) := ha.steps.snoc (hy.alloc o) hz hg hr
  exact ⟨by simp; omega, (ha.r0.grown hg (hne _ (by omega))).other (by simp; omega) _, (ha.r1.grown hg (hne _ (by omega))).other (by simp; omega) _, (ha.r2.grown hg (hne _ (by omega))).other (by simp; omega) _, (ha.o.grown hg (hne _ (by omega))).set 0 _, (ha.n.grown hg (hne _ (by omega))).other (by simp; omega) _,
    hs.kept (grown_set1 W' b3 _) (fun r e => by cases e; exact .inl (by omega)), (ha.bel.grown hg (Nat.le_of_lt ha.r0.lt) (fun r e => by have := (hlt r e).1; omega)).setCell (p := ⟨b3, 0, none⟩) (by simp; omega) _, by have := hg.size; have := ha.ge; simp; omega⟩
theorem keepB_alloc_grown {W W' : World} {o : Obj} {lo hi : Nat} {row : Option Nat} (hg : (W.alloc o).grownBy W' row) (hh : hi ≤ W.heap.size) (hr : ∀ r, row = some r → hi ≤ r) : KeepB lo hi W W' :=
  (keepB_grown (World.grownBy_alloc W o none) hh (fun r e => by cases e)).trans (keepB_grown hg (by simp; omega) hr)
set_option maxRecDepth 100000 in
set_option maxHeartbeats 4000000 in
theorem lparse_any (s : ByteArray) (w : World) (hs : s.size ≤ 100000) (he : EnvM w) :
    Calls Tryz.prog 18 #[.string s] w (LparseEnd (parseL s.data.toList) w) := by
  refine (callsIn_wide (n := 4)).1 ?_
  refine callsIn_of_wp_marks Tryz.func18 rfl trivial ?_ rfl
  simp only [Tryz.ntmps18, List.size_toArray, List.length_cons, List.length_nil, Nat.reduceAdd, Nat.reduceSub, Array.replicate_succ, Array.replicate_zero, List.push_toArray, List.append_toArray, List.nil_append, List.cons_append]
  gi_wp2
  refine ⟨trivial, ?_⟩
  refine (callsIn_wide.2 (SplitSeq_any s _)).mono ?_
  rintro e w1 ⟨rfl, hw1⟩
  have hz : w1.heap.size = w.heap.size + 1 + 1 + 1 + 1 + 1 + 3 := by rw [hw1]; simp
  have HSQ : Hid (SeqAt w1 (w.heap.size + 1 + 1 + 1 + 1 + 1) s.data.toList) := Lib.hid (by
    rw [hw1]
    refine ⟨?_, ?_, ?_⟩
    · exact ((BoxAt.newAt (by simp) _ _).alloc).alloc
    · exact (BoxAt.newAt (by simp) _ _).alloc
    · exact BoxAt.newAt (by simp) _ _)
  have HI0 : Hid (ParC w w.heap.size (w.heap.size + 1) (w.heap.size + 1 + 1) (w.heap.size + 1 + 1 + 1) (w.heap.size + 1 + 1 + 1 + 1) 0 w1 [] (.slice none 0 0) []) := Lib.hid (by
    rw [hw1]
    refine ⟨by simp, ?_, ?_, ?_, ?_, ?_, StpsAt.nil _ _, ?_, by simp⟩
    · exact ((((((BoxAt.newAt (by simp) _ _).alloc).alloc).alloc).alloc).alloc).alloc.alloc
    · exact (((((BoxAt.newAt (by simp) _ _).alloc).alloc).alloc).alloc).alloc.alloc
    · exact ((((BoxAt.newAt (by simp) _ _).alloc).alloc).alloc).alloc.alloc
    · exact (((BoxAt.newAt (by simp) _ _).alloc).alloc).alloc.alloc
    · exact ((BoxAt.newAt (by simp) _ _).alloc).alloc.alloc
    · exact ((((((((Below.refl _ _).alloc (Nat.le_refl _) _).alloc (by simp) _).alloc (by simp; omega) _).alloc (by simp; omega) _).alloc (by simp; omega) _).alloc (by simp; omega) _).alloc (by simp; omega) _).alloc (by simp; omega) _)
  clear hw1
  have hwz : w.heap.size = w.heap.size := rfl
  generalize e5 : w.heap.size + 1 + 1 + 1 + 1 + 1 = B at *
  generalize e4 : w.heap.size + 1 + 1 + 1 + 1 = b4 at *
  generalize e3 : w.heap.size + 1 + 1 + 1 = b3 at *
  generalize e2 : w.heap.size + 1 + 1 = b2 at *
  generalize e1 : w.heap.size + 1 = b1 at *
  generalize e0 : w.heap.size = b0 at *
  gi_wp2
  have h01 : b0 + 1 = b1 := e1
  have h12 : b1 + 1 = b2 := by omega
  have h23 : b2 + 1 = b3 := by omega
  have h34 : b3 + 1 = b4 := by omega
  have h45 : b4 + 1 = B := by omega
  have HSL := Lib.hid (size_len s)
  have HPL : Hid (∀ x ∈ splitBy 10 s.data.toList, x.length ≤ 100000) := Lib.hid (fun x hx => by
    have := splitBy_le 10 s.data.toList x hx
    rw [size_len] at this; omega)
  have hwl : (splitBy 10 s.data.toList).length ≤ 100001 := by
    rw [splitBy_length]
    have := List.count_le_length (a := (10 : UInt8)) (l := s.data.toList)
    rw [size_len] at this; omega
  have HB0 := Lib.hid e0
  clear e0 e1 e2 e3 e4 e5
  refine range_cell (n := 4) rfl (by omega) (gf := 147) (lb := #[.pointer (some ⟨B + 1, 0, none⟩), .pointer (some ⟨B, 0, none⟩), .pointer (some ⟨B + 2, 0, none⟩)]) ?fv trivial (enters_of Tryz.func147 (by kernel_rfl) rfl)
    (enc := strV) (B := B) (hi := B + 3) (S := fun xs => xs = splitBy 10 s.data.toList) (Sp := fun pre => pre <+: splitBy 10 s.data.toList) (by omega) (by omega) (seqCell3 _ (by rw [HSL.out]; omega) B w1 HSQ.out)
    (fun pre W => ∃ out v nvs, Scd pre out ∧ ParC w b0 b1 b2 b3 b4 (pre.length : Int) W out v nvs) (fun c pre W => c = .ret ∧ ParX w b0 b1 b2 pre W)
    (fun s A A' row hs hg hr => by obtain ⟨out, v, nvs, hd, h⟩ := hs; exact ⟨out, v, nvs, hd, h.own hg (fun r e => by have := hr r e; exact ⟨by omega, this.2⟩)⟩)
    (fun c s A A' row hs hg hr => ⟨hs.1, hs.2.own hg (fun r e => by have := hr r e; exact ⟨by omega, this.2⟩)⟩)
    (fun s A v hs => by obtain ⟨out, x, nvs, hd, h⟩ := hs; exact ⟨out, x, nvs, hd, h.turn (by omega) (by omega) (by omega) (by omega) (by omega) (by omega) v⟩)
    (fun c s A v hs => ⟨hs.1, hs.2.turn (by omega) (by omega) (by omega) v⟩)
    ⟨[], _, [], Scd.nil, HI0.out⟩
    (fun x => { tmps := #[.string s, undef, .pointer (some ⟨b0, 0, none⟩), .pointer (some ⟨b1, 0, none⟩), .pointer (some ⟨b2, 0, none⟩), .pointer (some ⟨b3, 0, none⟩), .pointer (some ⟨b4, 0, none⟩), .string ⟨x.toArray⟩, undef, undef, .string s, .func (.func 147) #[] #[.pointer (some ⟨B + 1, 0, none⟩), .pointer (some ⟨B, 0, none⟩), .pointer (some ⟨B + 2, 0, none⟩)], .string ⟨x.toArray⟩, undef, undef, undef, undef, undef, undef, undef, undef, undef, undef, undef, undef, undef, undef, undef, undef, undef, undef, undef, undef, undef, undef, undef, undef, undef, undef], defers := [] }) ?assign ?body ?done ?stop
  case fv => rfl
  case assign =>
    intro l x W K hK
    gi_wp2
    exact hK
  case body =>
    rintro l pre x W ⟨out, v, nvs, hd, hP⟩ hpre
    have HD := Lib.hid hd
    obtain ⟨hxm, hpl⟩ := part_mem hpre
    have hxl := HPL.out x hxm
    have HP1 := Lib.hid (hP.tick h01 h12 h23 h34 ((pre.length : Int) + 1))
    have HP := Lib.hid hP
    have c4 := hP.n.cell 0
    have f4 := hP.n.froz 0
    simp only [List.getElem?_cons_zero] at c4
    have HX : Hid ((⟨x.toArray⟩ : ByteArray).data.toList = x) := Lib.hid rfl
    have HXS : Hid ((⟨x.toArray⟩ : ByteArray).size = x.length) := Lib.hid (size_arr x)
    have HPX := Lib.hid (fun W => Tryz.strings_HasPrefix ⟨x.toArray⟩ ⟨#[35]⟩ W)
    have HEW : Hid (EnvM (W.setCell ⟨b4, 0, none⟩ (.int .i64 ((pre.length : Int) + 1)))) := Lib.hid (he.below (HP1.out.bel.mono (by have := HB0.out; omega)))
    clear hd hpre hxm hP
    unfold strV at *
    by_cases hk : skipL x = true
    · have HN := Lib.hid (HD.out.skip hk)
      by_cases hx0 : x = []
      · have hq : (⟨x.toArray⟩ : ByteArray).toList.isEmpty = true := by rw [Lib.toList_data, HX.out, hx0]; rfl
        clear hk HPX hx0
        generalize (⟨x.toArray⟩ : ByteArray) = X at *
        gi_wp2
        refine ⟨trivial, ?_⟩
        gi_wp2
        exact ⟨(KeepsOthers.setCell _ _ _).from _, keepB_set (by omega), _, _, _, HN.out, by rw [List.length_append]; exact HP1.out⟩
      · have hq : (⟨x.toArray⟩ : ByteArray).toList.isEmpty = false := by rw [Lib.toList_data, HX.out]; simp [hx0]
        have hpf : Lib.hasPrefix (⟨x.toArray⟩ : ByteArray).data.toList (⟨#[35]⟩ : ByteArray).data.toList = true := by
          rw [HX.out]
          cases x with
          | nil => exact absurd rfl hx0
          | cons a t => simp [skipL] at hk; subst hk; simp [Lib.hasPrefix]
        rw [hpf] at HPX
        clear hk hx0 hpf
        generalize (⟨x.toArray⟩ : ByteArray) = X at *
        gi_wp2_with (refine ⟨trivial, ?_⟩; gi_at_call 44; refine (CallsIn.inRound l (callsIn_wide.2 (HPX.out _))).mono ?_; rintro e w' ⟨rfl, rfl⟩)
        exact ⟨(KeepsOthers.setCell _ _ _).from _, keepB_set (by omega), _, _, _, HN.out, by rw [List.length_append]; exact HP1.out⟩
    · have hk2 : skipL x = false := by simpa using hk
      have hx0 : x ≠ [] := fun e => by subst e; simp [skipL] at hk
      have hq : (⟨x.toArray⟩ : ByteArray).toList.isEmpty = false := by rw [Lib.toList_data, HX.out]; simp [hx0]
      have hpf : Lib.hasPrefix (⟨x.toArray⟩ : ByteArray).data.toList (⟨#[35]⟩ : ByteArray).data.toList = false := by
        rw [HX.out]
        cases x with
        | nil => exact absurd rfl hx0
        | cons a t =>
          have ha : a ≠ 35 := fun e => hk (by subst e; simp [skipL])
          have : (35 == a) = false := beq_eq_false_iff_ne.2 (fun e => ha e.symm)
          simp [Lib.hasPrefix, List.isPrefixOf, this]
      rw [hpf] at HPX
      have HST := Lib.hid (step_txt ⟨x.toArray⟩ _ (by rw [HXS.out]; omega) HEW.out)
      rw [HX.out] at HST
      have HSK := Lib.hid hk2
      clear hk hx0 hpf hk2
      generalize (⟨x.toArray⟩ : ByteArray) = X at *
      unfold StepEnd at HST
      gi_wp2_with (refine ⟨trivial, ?_⟩; gi_at_call 44; refine (CallsIn.inRound l (callsIn_wide.2 (HPX.out _))).mono ?_; rintro e w' ⟨rfl, rfl⟩)
      refine ⟨trivial, ?_⟩
      refine (CallsIn.inRound l (callsIn_wide.2 HST.out)).mono ?_
      rintro e w2 ⟨hb2, hpost⟩
      have HP2 := Lib.hid (HP1.out.below hb2)
      have HK2 : Hid (KeepsFrom w1.heap.size W w2) := Lib.hid (((KeepsOthers.setCell W ⟨b4, 0, none⟩ (.int .i64 ((pre.length : Int) + 1))).from _).trans (keepF_below hb2))
      have HG2 : Hid (KeepB B (B + 3) W w2) := Lib.hid ((keepB_set (by omega)).trans (keepB_grown (grown_of_below hb2) (by have := HP1.out.ge; omega) (fun r e => by cases e)))
      have hsz2 := hb2.size
      clear c4 f4
      cases hs : stepL x with
      | none =>
        rw [hs] at hpost
        simp only at hpost
        subst hpost
        have HBD := Lib.hid (HD.out.bad HSK.out (.inl hs))
        have HPA := Lib.hid (HP2.out.below ((Below.refl _ w2).alloc (Nat.le_refl _) (.cells #[.string ⟨#[]⟩, .slice none 0 0, .string ⟨#[]⟩, .string ⟨#[]⟩] 31)))
        have HKA : Hid (KeepsFrom w1.heap.size w2 (w2.alloc (.cells #[.string ⟨#[]⟩, .slice none 0 0, .string ⟨#[]⟩, .string ⟨#[]⟩] 31))) := Lib.hid (keepF_below ((Below.refl _ w2).alloc (Nat.le_refl _) _))
        clear hs hb2 HST HPX
        unfold stpV
        gi_wp2
        generalize w2.alloc (.cells #[.string ⟨#[]⟩, .slice none 0 0, .string ⟨#[]⟩, .string ⟨#[]⟩] 31) = w3 at *
        have c4 := HPA.out.n.cell 0
        have f0 := HPA.out.r0.froz 0
        have f1 := HPA.out.r1.froz 0
        have f2 := HPA.out.r2.froz 0
        have q0 := HPA.out.r0.cell 0
        have q1 := HPA.out.r1.cell 0
        have q2 := HPA.out.r2.cell 0
        simp only [List.getElem?_cons_zero] at c4 q0 q1 q2
        have hmx : Tryz.prog.follows .mixedOrders = true := by kernel_rfl
        gi_region_with_o (fail)
        all_goals gi_wp2
        all_goals exact ⟨(HK2.out.trans (HKA.out)).trans (leave_keep _ _ _ _ _), rfl, (HPA.out.left HBD.out (by simp) h01 h12).drew⟩
      | some y =>
        rw [hs] at hpost
        obtain ⟨nv, rfl, hnv, hnz⟩ := hpost
        have HNZ := Lib.hid hnz
        clear hnz
        have HOW : Hid (w2.ownsRow (b0 + 8) 3 1 nv y.nums.length (numV y.nums)) := Lib.hid (own_low hnv (by have := HP1.out.ge; omega))
        obtain ⟨na, nc, rfl⟩ := own_form hnv
        obtain ⟨va, vc, rfl⟩ := own_form HP2.out.steps.row
        have HPA := Lib.hid (HP2.out.below ((Below.refl _ w2).alloc (Nat.le_refl _) (.cells #[.string ⟨y.word.toArray⟩, .slice na y.nums.length nc, .string ⟨y.ask.toArray⟩, .string ⟨y.data.toArray⟩] 31)))
        have HKA : Hid (KeepsFrom w1.heap.size w2 (w2.alloc (.cells #[.string ⟨y.word.toArray⟩, .slice na y.nums.length nc, .string ⟨y.ask.toArray⟩, .string ⟨y.data.toArray⟩] 31))) := Lib.hid (keepF_below ((Below.refl _ w2).alloc (Nat.le_refl _) _))
        have HSA : Hid (BoxAt (w2.alloc (.cells #[.string ⟨y.word.toArray⟩, .slice na y.nums.length nc, .string ⟨y.ask.toArray⟩, .string ⟨y.data.toArray⟩] 31)) w2.heap.size 31 (stpC y (.slice na y.nums.length nc))) := Lib.hid (BoxAt.new w2 31 (stpC y (.slice na y.nums.length nc)))
        have HOA := Lib.hid (HOW.out.alloc (.cells #[.string ⟨y.word.toArray⟩, .slice na y.nums.length nc, .string ⟨y.ask.toArray⟩, .string ⟨y.data.toArray⟩] 31))
        have c3 := HPA.out.o.cell 0
        simp only [List.getElem?_cons_zero] at c3
        have hol := HPA.out.le
        by_cases h400 : out.length = 400
        · have HBD := Lib.hid (HD.out.bad HSK.out (.inr h400))
          have e400 : ((out.length : Int) == 400) = true := by simp; omega
          clear hs hb2 HST HPX hnv h400
          unfold stpV
          gi_wp2
          generalize w2.alloc (.cells #[.string ⟨y.word.toArray⟩, .slice na y.nums.length nc, .string ⟨y.ask.toArray⟩, .string ⟨y.data.toArray⟩] 31) = w3 at *
          have c4 := HPA.out.n.cell 0
          have f0 := HPA.out.r0.froz 0
          have f1 := HPA.out.r1.froz 0
          have f2 := HPA.out.r2.froz 0
          have q0 := HPA.out.r0.cell 0
          have q1 := HPA.out.r1.cell 0
          have q2 := HPA.out.r2.cell 0
          simp only [List.getElem?_cons_zero] at c4 q0 q1 q2
          have hmx : Tryz.prog.follows .mixedOrders = true := by kernel_rfl
          gi_region_with_o (fail)
          all_goals gi_wp2
          all_goals exact ⟨(HK2.out.trans (HKA.out)).trans (leave_keep _ _ _ _ _), rfl, (HPA.out.left HBD.out (by simp) h01 h12).drew⟩
        · have HN := Lib.hid (HD.out.step HSK.out hs h400)
          have e400 : ((out.length : Int) == 400) = false := beq_eq_false_iff_ne.2 (by omega)
          have hol4 : out.length < 400 := by omega
          obtain ⟨i0, hi, hz0, hz1, hz2⟩ := info_parts info_stp
          have HG3 : Hid (KeepB B (B + 3) W (w2.alloc (.cells #[.string ⟨y.word.toArray⟩, .slice na y.nums.length nc, .string ⟨y.ask.toArray⟩, .string ⟨y.data.toArray⟩] 31))) := Lib.hid (HG2.out.trans (keepB_grown (grown_of_below ((Below.refl _ w2).alloc (Nat.le_refl _) _)) (by have := HP2.out.ge; omega) (fun r e => by cases e)))
          clear hs hb2 HST HPX hnv h400 HP HP1 HP2 HG2 HOW
          unfold stpV
          have HROW := Lib.hid HPA.out.steps.row
          have hge := HPA.out.ge
          have g3 := HPA.out.o.froz 0
          obtain ⟨k0, k1, k2, k3⟩ := HSA.out.cells4
          have hz3 : (w2.alloc (.cells #[.string ⟨y.word.toArray⟩, .slice na y.nums.length nc, .string ⟨y.ask.toArray⟩, .string ⟨y.data.toArray⟩] 31)).heap.size = w2.heap.size + 1 := by simp
          have hwb : w2.heap.size + 1 + 1 = w2.heap.size + 2 := rfl
          gi_wp2_with (gi_at_builtin; refine wpListIn_append_own _ rfl _ _ 25 rfl (b0 + 8) 31 i0 _ 4 72 Tryz.underlying25 hi hz0 hz1 hz2 rfl (by decide) _ _ _ rfl (HROW.out.alloc _) ⟨w2.heap.size + 1, 0, none⟩ 1 1 (stpC y (.slice na y.nums.length nc)) rfl rfl ?c1 ?c2 ?c3 ?c4 ?c5 ?_)
          case c1 => exact World.news_of_block (cs := #[.string ⟨y.word.toArray⟩, .slice na y.nums.length nc, .string ⟨y.ask.toArray⟩, .string ⟨y.data.toArray⟩]) (t := 31) (fr := (0, 0)) (by rw [← hz3]; exact heap_alloc_new _ _)
          case c2 => simp [stpC, Value.oneCell']
          case c3 => unfold maxLen; omega
          case c4 => omega
          case c5 => simp; omega
          intro v' w4 hown4 hgrow _
          obtain ⟨g', cap', rfl⟩ := ownsRow_succ hown4
          have HN4 : Hid (ParC w b0 b1 b2 b3 b4 ((pre.length : Int) + 1) (w4.setCell ⟨b3, 0, none⟩ (.slice (some ⟨g', 0, none⟩) (out.length + 1) cap')) (out ++ [y]) (.slice (some ⟨g', 0, none⟩) (out.length + 1) cap') (nvs ++ [.slice na y.nums.length nc])) := Lib.hid
            (HPA.out.more hgrow hown4 HOA.out HNZ.out hol (by omega) h01 h12 h23 h34)
          have HG4 : Hid (KeepB B (B + 3) W (w4.setCell ⟨b3, 0, none⟩ (.slice (some ⟨g', 0, none⟩) (out.length + 1) cap'))) := Lib.hid ((HG3.out.trans (keepB_alloc_grown hgrow (by omega) (fun r e => by have := (HROW.out.lt r e).1; omega))).trans (keepB_set (by omega)))
          have HK4 : Hid (KeepsFrom w1.heap.size W (w4.setCell ⟨b3, 0, none⟩ (.slice (some ⟨g', 0, none⟩) (out.length + 1) cap'))) := Lib.hid (((HK2.out.trans HKA.out).trans ((keepF_below ((Below.refl _ _).alloc (Nat.le_refl _) _)).trans (keepF_grown hgrow (own_row_block (HROW.out.alloc _))))).trans ((KeepsOthers.setCell _ _ _).from _))
          have d3 := ((HPA.out.o.alloc).grown hgrow (fun e => by have := (HROW.out.lt b3 e.symm).1; omega)).cell 0
          have g4 := ((HPA.out.o.alloc).grown hgrow (fun e => by have := (HROW.out.lt b3 e.symm).1; omega)).froz 0
          simp only [List.getElem?_cons_zero] at d3
          clear k0 k1 k2 k3 c3 g3 hown4 hgrow HSA HOA HROW HPA
          gi_wp2
          exact ⟨HK4.out, HG4.out, _, _, _, HN.out, by rw [List.length_append]; exact HN4.out⟩
  case done =>
    rintro D ys W hD rfl ⟨out, v, nvs, hd, hP⟩ hK
    have HP := Lib.hid hP
    have HR : Hid (parseL s.data.toList = (out, 0, true)) := Lib.hid hd.all
    have c3 := hP.o.cell 0
    have f0 := hP.r0.froz 0
    have f1 := hP.r1.froz 0
    have f2 := hP.r2.froz 0
    have q0 := hP.r0.cell 0
    have q1 := hP.r1.cell 0
    have q2 := hP.r2.cell 0
    simp only [List.getElem?_cons_zero] at c3 q0 q1 q2
    obtain ⟨va, vc, rfl⟩ := own_form hP.steps.row
    clear hP hd
    gi_wp2
    have hb := HP.out
    have HK' := (((KeepsOthers.setCell W ⟨b0, 0, none⟩ (.slice va out.length vc)).trans (KeepsOthers.setCell _ ⟨b1, 0, none⟩ (.int .i64 0))).trans (KeepsOthers.setCell _ ⟨b2, 0, none⟩ (.bool true))).same D _ hK rfl
    refine ⟨by simp, .inl ⟨_, _, rfl, run_takeDeferred HK', ?_⟩⟩
    have x0 := (((hb.r0.set 0 (.slice va out.length vc)).other (a := ⟨b1, 0, none⟩) (by simp; omega) (.int .i64 0)).other (a := ⟨b2, 0, none⟩) (by simp; omega) (.bool true))
    have x1 := (((hb.r1.other (a := ⟨b0, 0, none⟩) (by simp; omega) (.slice va out.length vc)).set 0 (.int .i64 0)).other (a := ⟨b2, 0, none⟩) (by simp; omega) (.bool true))
    have x2 := (((hb.r2.other (a := ⟨b0, 0, none⟩) (by simp; omega) (.slice va out.length vc)).other (a := ⟨b1, 0, none⟩) (by simp; omega) (.int .i64 0)).set 0 (.bool true))
    have hst : StpsAt (((W.setCell ⟨b0, 0, none⟩ (.slice va out.length vc)).setCell ⟨b1, 0, none⟩ (.int .i64 0)).setCell ⟨b2, 0, none⟩ (.bool true)) (b0 + 8) (.slice va out.length vc) out nvs :=
      ((hb.steps.kept (grown_set1 W b0 _) (fun r e => by cases e; exact .inl (by omega))).kept (grown_set1 _ b1 _) (fun r e => by cases e; exact .inl (by omega))).kept (grown_set1 _ b2 _) (fun r e => by cases e; exact .inl (by omega))
    have hbl : Below b0 w (((W.setCell ⟨b0, 0, none⟩ (.slice va out.length vc)).setCell ⟨b1, 0, none⟩ (.int .i64 0)).setCell ⟨b2, 0, none⟩ (.bool true)) :=
      ((hb.bel.setCell (p := ⟨b0, 0, none⟩) (Nat.le_refl _) _).setCell (p := ⟨b1, 0, none⟩) (by simp; omega) _).setCell (p := ⟨b2, 0, none⟩) (by simp; omega) _
    generalize ((W.setCell ⟨b0, 0, none⟩ (.slice va out.length vc)).setCell ⟨b1, 0, none⟩ (.int .i64 0)).setCell ⟨b2, 0, none⟩ (.bool true) = W5 at *
    have hg := grownBy_putObj' W5 D (.deferred none)
    have hno : ∀ r, some D = some r → ∃ o : Obj, W5.heap[r]? = some o ∧ o.isCells = false := fun r e => by cases e; exact ⟨_, HK', rfl⟩
    have y0 := (box_own x0 hg hno).cell 0
    have y1 := (box_own x1 hg hno).cell 0
    have y2 := (box_own x2 hg hno).cell 0
    simp only [List.set_cons_zero, List.getElem?_cons_zero] at y0 y1 y2
    refine ⟨.tuple #[.slice va out.length vc, .int .i64 0, .bool true], by simp [results, Tryz.f18, go_sem, y0, y1, y2], ?_⟩
    unfold LparseEnd
    rw [HR.out, HB0.out]
    refine ⟨hbl.trans (belowK_b (w := w1) (by omega) W5 D _ _ hD HK' rfl rfl), _, nvs, rfl, ?_⟩
    exact (hst.kept hg (fun r e => .inr fun cur T hc => by
      obtain ⟨o, ho, hq⟩ := hno r e
      rw [hc] at ho; cases ho; cases hq)).low (by omega)
  case stop =>
    rintro D c pre W hD hpre ⟨rfl, hX⟩ hK
    have HX := Lib.hid hX
    have HR : Hid (parseL s.data.toList = ([], pre.length, false)) := Lib.hid (hX.bad.all hpre)
    clear hX
    gi_wp2
    refine ⟨by simp, .inl ⟨_, _, rfl, run_takeDeferred hK, ?_⟩⟩
    have c0 := (box_own HX.out.r0 (grownBy_putObj' W D (.deferred none)) (fun r e => by cases e; exact ⟨_, hK, rfl⟩)).cell 0
    have c1 := (box_own HX.out.r1 (grownBy_putObj' W D (.deferred none)) (fun r e => by cases e; exact ⟨_, hK, rfl⟩)).cell 0
    have c2 := (box_own HX.out.r2 (grownBy_putObj' W D (.deferred none)) (fun r e => by cases e; exact ⟨_, hK, rfl⟩)).cell 0
    simp only [List.getElem?_cons_zero] at c0 c1 c2
    refine ⟨.tuple #[.slice none 0 0, .int .i64 (pre.length : Int), .bool false], by simp [results, Tryz.f18, go_sem, c0, c1, c2], ?_⟩
    unfold LparseEnd
    rw [HR.out]
    refine ⟨?_, _, [], rfl, StpsAt.nil _ _⟩
    rw [HB0.out]
    exact HX.out.bel.trans (belowK_b (w := w1) (by omega) W D _ _ hD hK rfl rfl)
end Go.Proofs.YtlkceignfhnpoaaGreatDoor
end
