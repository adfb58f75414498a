/-
  Contracts of line.Kind and line.needs.
-/
import Derived.Test.YtgilbdhoddmpbaaDoorPlainLine
import Derived.Test.YtgilbdhoddmpbaaDoorShelf
import Derived.Test.YtgilbdhoddmpbaaDoorCommon
import Derived.Test.YtgilbdhoddmpbaaDoorBytes
import Derived.WalkSpells
import Derived.WalkLawsBesides
import Derived.Lib.Hide
set_option linter.unusedVariables false
set_option linter.unusedSimpArgs false
namespace Go.Proofs.YtgilbdhoddmpbaaDoor
open Go.RowKit

theorem lit_of {s : ByteArray} {l : List UInt8} (h : s.data.toList = l) : s = ⟨l.toArray⟩ := by
  obtain ⟨⟨d⟩⟩ := s
  simp at h; subst h; rfl
theorem ne_lit {s : ByteArray} {l : List UInt8} (h : l ≠ s.data.toList) : (s.toList == l) = false := by
  rw [Lib.toList_data]; exact beq_eq_false_iff_ne.2 (fun e => h e.symm)

set_option maxRecDepth 100000 in
set_option maxHeartbeats 2000000 in
theorem lkind_any (s : ByteArray) (w : World) : Calls Tryd.prog 16 #[.string s] w fun e w' => e = .returned (.int .i64 (askOf s.data.toList)) ∧ w = w' := by
  by_cases hh : ∃ j : Fin 10, (askTab[j.val]'(j.isLt)).1 = s.data.toList
  · obtain ⟨j, hj⟩ := hh
    have hk := ask_at j
    rw [hj] at hk
    rw [hk]
    obtain rfl := lit_of hj.symm
    clear hj hk
    match j with
    | 0 | 1 | 2 | 3 | 4 | 5 | 6 | 7 | 8 | 9 =>
      go_enter Tryd.func16, Tryd.ntmps16
      go_wp2_with fail
      go_ret
      exact ⟨rfl, rfl⟩
  · have hno : ∀ j : Fin 10, (askTab[j.val]'(j.isLt)).1 ≠ s.data.toList := fun j e => hh ⟨j, e⟩
    have hK := Lib.hid (ask_miss (w := s.data.toList) (fun p hp => by
      obtain ⟨i, hi, rfl⟩ := List.mem_iff_getElem.1 hp
      exact hno ⟨i, hi⟩))
    have t0 : (s.toList == [101, 115, 116, 97, 98, 108, 105, 115, 104]) = false := ne_lit (hno 0)
    have t1 : (s.toList == [97, 99, 99, 101, 112, 116]) = false := ne_lit (hno 1)
    have t2 : (s.toList == [114, 101, 108, 101, 97, 115, 101]) = false := ne_lit (hno 2)
    have t3 : (s.toList == [114, 101, 115, 121, 110, 99]) = false := ne_lit (hno 3)
    have t4 : (s.toList == [114, 101, 115, 121, 110, 99, 101, 100]) = false := ne_lit (hno 4)
    have t5 : (s.toList == [114, 101, 99, 111, 118, 101, 114, 101, 100]) = false := ne_lit (hno 5)
    have t6 : (s.toList == [100, 97, 116, 97]) = false := ne_lit (hno 6)
    have t7 : (s.toList == [117, 110, 105, 116]) = false := ne_lit (hno 7)
    have t8 : (s.toList == [109, 97, 110, 97, 103, 101]) = false := ne_lit (hno 8)
    have t9 : (s.toList == [114, 101, 116, 114, 105, 101, 118, 101]) = false := ne_lit (hno 9)
    clear hno hh
    go_enter Tryd.func16, Tryd.ntmps16
    go_wp2_with fail
    go_ret
    exact ⟨by rw [hK.out]; rfl, rfl⟩

set_option maxRecDepth 100000 in
set_option maxHeartbeats 2000000 in
theorem lneeds_any (s : ByteArray) (w : World) : Calls Tryd.prog 24 #[.string s] w fun e w' => e = .returned (.tuple #[.string ⟨((needOf s.data.toList).getD []).toArray⟩, .bool (needOf s.data.toList).isSome]) ∧ w = w' := by
  by_cases hh : ∃ j : Fin 12, (needTab[j.val]'(j.isLt)).1 = s.data.toList
  · obtain ⟨j, hj⟩ := hh
    have hk := need_at j
    rw [hj] at hk
    rw [hk]
    obtain rfl := lit_of hj.symm
    clear hj hk
    match j with
    | 0 | 1 | 2 | 3 | 4 | 5 | 6 | 7 | 8 | 9 | 10 | 11 =>
      go_enter Tryd.func24, Tryd.ntmps24
      go_wp2_with fail
      go_ret2
      exact ⟨rfl, rfl⟩
  · have hno : ∀ j : Fin 12, (needTab[j.val]'(j.isLt)).1 ≠ s.data.toList := fun j e => hh ⟨j, e⟩
    have hK := Lib.hid (need_miss (w := s.data.toList) (fun p hp => by
      obtain ⟨i, hi, rfl⟩ := List.mem_iff_getElem.1 hp
      exact hno ⟨i, hi⟩))
    have t0 : (s.toList == [98, 111, 111, 107]) = false := ne_lit (hno 0)
    have t1 : (s.toList == [116, 105, 99, 107]) = false := ne_lit (hno 1)
    have t2 : (s.toList == [115, 101, 116, 116, 108, 101]) = false := ne_lit (hno 2)
    have t3 : (s.toList == [108, 111, 111, 107]) = false := ne_lit (hno 3)
    have t4 : (s.toList == [99, 97, 114, 114, 121]) = false := ne_lit (hno 4)
    have t5 : (s.toList == [108, 111, 115, 101]) = false := ne_lit (hno 5)
    have t6 : (s.toList == [116, 97, 107, 101]) = false := ne_lit (hno 6)
    have t7 : (s.toList == [98, 114, 105, 110, 103]) = false := ne_lit (hno 7)
    have t8 : (s.toList == [97, 115, 107]) = false := ne_lit (hno 8)
    have t9 : (s.toList == [115, 112, 111, 105, 108]) = false := ne_lit (hno 9)
    have t10 : (s.toList == [116, 105, 99, 107, 115]) = false := ne_lit (hno 10)
    have t11 : (s.toList == [108, 105, 110, 107]) = false := ne_lit (hno 11)
    clear hno hh
    go_enter Tryd.func24, Tryd.ntmps24
    go_wp2_with fail
    go_ret2
    exact ⟨by rw [hK.out]; rfl, rfl⟩
end Go.Proofs.YtgilbdhoddmpbaaDoor
