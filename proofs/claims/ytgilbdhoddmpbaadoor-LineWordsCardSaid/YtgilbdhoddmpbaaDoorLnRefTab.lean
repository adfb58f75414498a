/-
  The document's Kind and Needs (layer 23): the same tables.
-/
import Derived.Test.YtgilbdhoddmpbaaDoorLnAwake
set_option linter.unusedVariables false
set_option linter.unusedSimpArgs false
namespace Go.Proofs.YtgilbdhoddmpbaaDoor
open Go.RowKit

def kinds11 : List (List UInt8) := [[101, 115, 116, 97, 98, 108, 105, 115, 104], [97, 99, 99, 101, 112, 116], [114, 101, 108, 101, 97, 115, 101], [114, 101, 115, 121, 110, 99], [114, 101, 115, 121, 110, 99, 101, 100], [114, 101, 99, 111, 118, 101, 114, 101, 100], [100, 97, 116, 97], [117, 110, 105, 116], [109, 97, 110, 97, 103, 101], [], [114, 101, 116, 114, 105, 101, 118, 101]]
theorem kinds_at : ∀ j : Fin 11, kinds11[j.val]'(j.isLt) = [] ∨ askOf (kinds11[j.val]'(j.isLt)) = (j.val : Int) + 1 := by decide +kernel
theorem kinds_all : ∀ p ∈ askTab, ∃ j : Fin 11, kinds11[j.val]'(j.isLt) = p.1 ∧ p.1 ≠ [] := by decide +kernel
theorem kinds_miss {a : List UInt8} (h : ∀ j (hj : j < 11), kinds11[j]'hj = a → a = []) : askOf a = 0 := by
  refine ask_miss (fun p hp e => ?_)
  obtain ⟨j, hj, hne⟩ := kinds_all p hp
  exact hne (by rw [e]; exact h j.val j.isLt (by rw [hj, e]))
def needs24 : List (List UInt8) := [[98, 111, 111, 107], [], [116, 105, 99, 107], [78], [115, 101, 116, 116, 108, 101], [78], [108, 111, 111, 107], [69], [99, 97, 114, 114, 121], [69], [108, 111, 115, 101], [69], [116, 97, 107, 101], [69, 78], [98, 114, 105, 110, 103], [69, 72], [97, 115, 107], [69, 87, 72], [115, 112, 111, 105, 108], [69, 78, 78], [116, 105, 99, 107, 115], [78, 78, 78, 78, 78], [108, 105, 110, 107], [78, 78, 78, 78, 78, 78]]
theorem needs_at : ∀ j : Fin 12, needOf (needs24[2 * j.val]'(by have := j.isLt; show _ < 24; omega)) = some (needs24[2 * j.val + 1]'(by have := j.isLt; show _ < 24; omega)) := by decide +kernel
theorem needs_all : ∀ p ∈ needTab, ∃ j : Fin 12, needs24[2 * j.val]'(by have := j.isLt; show _ < 24; omega) = p.1 := by decide +kernel
theorem needs_miss {a : List UInt8} (h : ∀ j (hj : j < 12), needs24[2 * j]'(by show _ < 24; omega) ≠ a) : needOf a = none := by
  refine need_miss (fun p hp e => ?_)
  obtain ⟨j, hj⟩ := needs_all p hp
  exact h j.val j.isLt (by rw [hj, e])
theorem str_beq {a b : ByteArray} (h : a.data.toList = b.data.toList) : (a.toList == b.toList) = true := by rw [Lib.toList_data, Lib.toList_data, h]; simp
theorem str_bne {a b : ByteArray} (h : a.data.toList ≠ b.data.toList) : (a.toList == b.toList) = false := by rw [Lib.toList_data, Lib.toList_data]; exact beq_eq_false_iff_ne.2 h

set_option maxRecDepth 100000 in
set_option maxHeartbeats 2000000 in
theorem rkind_any (s : ByteArray) (w : World) : Calls Tryd.prog 17 #[.string s] w fun e w' => e = .returned (.int .i64 (askOf s.data.toList)) ∧ Below w.heap.size w w' := by
  have HX := Lib.hid (BoxAt.new w 9 (kinds11.map strV))
  have HB := Lib.hid ((Below.refl w.heap.size w).alloc (Nat.le_refl _) (.cells #[.string ⟨#[101, 115, 116, 97, 98, 108, 105, 115, 104]⟩, .string ⟨#[97, 99, 99, 101, 112, 116]⟩, .string ⟨#[114, 101, 108, 101, 97, 115, 101]⟩, .string ⟨#[114, 101, 115, 121, 110, 99]⟩, .string ⟨#[114, 101, 115, 121, 110, 99, 101, 100]⟩, .string ⟨#[114, 101, 99, 111, 118, 101, 114, 101, 100]⟩, .string ⟨#[100, 97, 116, 97]⟩, .string ⟨#[117, 110, 105, 116]⟩, .string ⟨#[109, 97, 110, 97, 103, 101]⟩, .string ⟨#[]⟩, .string ⟨#[114, 101, 116, 114, 105, 101, 118, 101]⟩] 9))
  have HC : Hid (∀ j (hj : j < 11), (w.alloc (.cells #[.string ⟨#[101, 115, 116, 97, 98, 108, 105, 115, 104]⟩, .string ⟨#[97, 99, 99, 101, 112, 116]⟩, .string ⟨#[114, 101, 108, 101, 97, 115, 101]⟩, .string ⟨#[114, 101, 115, 121, 110, 99]⟩, .string ⟨#[114, 101, 115, 121, 110, 99, 101, 100]⟩, .string ⟨#[114, 101, 99, 111, 118, 101, 114, 101, 100]⟩, .string ⟨#[100, 97, 116, 97]⟩, .string ⟨#[117, 110, 105, 116]⟩, .string ⟨#[109, 97, 110, 97, 103, 101]⟩, .string ⟨#[]⟩, .string ⟨#[114, 101, 116, 114, 105, 101, 118, 101]⟩] 9)).cell? ⟨w.heap.size, j, none⟩ = some (strV (kinds11[j]'hj))) := Lib.hid (fun j hj => by
    have := HX.out.cell j
    rw [List.getElem?_map, List.getElem?_eq_getElem (show j < kinds11.length from hj)] at this
    exact this)
  clear HX
  go_enter Tryd.func17, Tryd.ntmps17
  go_wp2_with fail
  generalize w.alloc (.cells #[.string ⟨#[101, 115, 116, 97, 98, 108, 105, 115, 104]⟩, .string ⟨#[97, 99, 99, 101, 112, 116]⟩, .string ⟨#[114, 101, 108, 101, 97, 115, 101]⟩, .string ⟨#[114, 101, 115, 121, 110, 99]⟩, .string ⟨#[114, 101, 115, 121, 110, 99, 101, 100]⟩, .string ⟨#[114, 101, 99, 111, 118, 101, 114, 101, 100]⟩, .string ⟨#[100, 97, 116, 97]⟩, .string ⟨#[117, 110, 105, 116]⟩, .string ⟨#[109, 97, 110, 97, 103, 101]⟩, .string ⟨#[]⟩, .string ⟨#[114, 101, 116, 114, 105, 101, 118, 101]⟩] 9) = W at *
  go_loop [7] (fun i => ∃ j : Nat, j ≤ 11 ∧ i = .int .i64 (j : Int) ∧ Hid (∀ k (hk : k < 11), k < j → kinds11[k]'hk = s.data.toList → s.data.toList = [])) (fun i => 11 - (intOf i).toNat)
  case atStart => exact ⟨0, by omega, rfl, Lib.hid (fun k hk h => by omega)⟩
  case round =>
    obtain ⟨j, hj, rfl, HM⟩ := hrel
    by_cases hlt : j < 11
    · have hc := HC.out j hlt
      unfold strV at hc
      have hj11 : (j : Int) < 11 := by omega
      by_cases he : kinds11[j]'hlt = s.data.toList
      · have h1 : ((⟨(kinds11[j]'hlt).toArray⟩ : ByteArray).toList == s.toList) = true := str_beq he
        by_cases hn : s.data.toList = []
        · have h2 : (⟨(kinds11[j]'hlt).toArray⟩ : ByteArray).toList.isEmpty = true := by rw [Lib.toList_data]; show (kinds11[j]'hlt).isEmpty = true; rw [he, hn]; rfl
          have HM2 : Hid (∀ k (hk : k < 11), k < j + 1 → kinds11[k]'hk = s.data.toList → s.data.toList = []) := Lib.hid (fun _ _ _ _ => hn)
          clear he hn HM
          generalize (⟨(kinds11[j]'hlt).toArray⟩ : ByteArray) = X at *
          go_wp2_with fail
          go_round
          case rel => exact ⟨j + 1, by omega, by go_num, HM2⟩
          case measure => simp [intOf]; omega
        · have h2 : (⟨(kinds11[j]'hlt).toArray⟩ : ByteArray).toList.isEmpty = false := by
            rw [Lib.toList_data]
            show (kinds11[j]'hlt).isEmpty = false
            rw [he]; simpa using hn
          have HK : Hid (askOf s.data.toList = (j : Int) + 1) := Lib.hid (by
            rcases kinds_at ⟨j, hlt⟩ with h | h
            · exact absurd (he.symm.trans h) hn
            · rw [← he]; exact h)
          clear he hn HM
          generalize (⟨(kinds11[j]'hlt).toArray⟩ : ByteArray) = X at *
          go_wp2_with fail
          go_ret
          exact ⟨by rw [HK.out]; rfl, HB.out⟩
      · have h1 : ((⟨(kinds11[j]'hlt).toArray⟩ : ByteArray).toList == s.toList) = false := str_bne he
        have HM2 : Hid (∀ k (hk : k < 11), k < j + 1 → kinds11[k]'hk = s.data.toList → s.data.toList = []) := Lib.hid (fun k hk hl hkk => by
          by_cases e : k = j
          · subst e; exact absurd hkk he
          · exact HM.out k hk (by omega) hkk)
        clear he HM
        generalize (⟨(kinds11[j]'hlt).toArray⟩ : ByteArray) = X at *
        go_wp2_with fail
        go_round
        case rel => exact ⟨j + 1, by omega, by go_num, HM2⟩
        case measure => simp [intOf]; omega
    · have HK : Hid (askOf s.data.toList = 0) := Lib.hid (kinds_miss (fun k hk => HM.out k hk (by omega)))
      have hj11 : ¬ (j : Int) < 11 := by omega
      clear HM
      go_wp2_with fail
      go_ret
      exact ⟨by rw [HK.out]; rfl, HB.out⟩

set_option maxRecDepth 100000 in
set_option maxHeartbeats 2000000 in
theorem rneeds_any (s : ByteArray) (w : World) : Calls Tryd.prog 21 #[.string s] w fun e w' => e = .returned (.tuple #[.string ⟨((needOf s.data.toList).getD []).toArray⟩, .bool (needOf s.data.toList).isSome]) ∧ Below w.heap.size w w' := by
  have HX := Lib.hid (BoxAt.new w 9 (needs24.map strV))
  have HB := Lib.hid ((Below.refl w.heap.size w).alloc (Nat.le_refl _) (.cells #[.string ⟨#[98, 111, 111, 107]⟩, .string ⟨#[]⟩, .string ⟨#[116, 105, 99, 107]⟩, .string ⟨#[78]⟩, .string ⟨#[115, 101, 116, 116, 108, 101]⟩, .string ⟨#[78]⟩, .string ⟨#[108, 111, 111, 107]⟩, .string ⟨#[69]⟩, .string ⟨#[99, 97, 114, 114, 121]⟩, .string ⟨#[69]⟩, .string ⟨#[108, 111, 115, 101]⟩, .string ⟨#[69]⟩, .string ⟨#[116, 97, 107, 101]⟩, .string ⟨#[69, 78]⟩, .string ⟨#[98, 114, 105, 110, 103]⟩, .string ⟨#[69, 72]⟩, .string ⟨#[97, 115, 107]⟩, .string ⟨#[69, 87, 72]⟩, .string ⟨#[115, 112, 111, 105, 108]⟩, .string ⟨#[69, 78, 78]⟩, .string ⟨#[116, 105, 99, 107, 115]⟩, .string ⟨#[78, 78, 78, 78, 78]⟩, .string ⟨#[108, 105, 110, 107]⟩, .string ⟨#[78, 78, 78, 78, 78, 78]⟩] 9))
  have HC : Hid (∀ j (hj : j < 24), (w.alloc (.cells #[.string ⟨#[98, 111, 111, 107]⟩, .string ⟨#[]⟩, .string ⟨#[116, 105, 99, 107]⟩, .string ⟨#[78]⟩, .string ⟨#[115, 101, 116, 116, 108, 101]⟩, .string ⟨#[78]⟩, .string ⟨#[108, 111, 111, 107]⟩, .string ⟨#[69]⟩, .string ⟨#[99, 97, 114, 114, 121]⟩, .string ⟨#[69]⟩, .string ⟨#[108, 111, 115, 101]⟩, .string ⟨#[69]⟩, .string ⟨#[116, 97, 107, 101]⟩, .string ⟨#[69, 78]⟩, .string ⟨#[98, 114, 105, 110, 103]⟩, .string ⟨#[69, 72]⟩, .string ⟨#[97, 115, 107]⟩, .string ⟨#[69, 87, 72]⟩, .string ⟨#[115, 112, 111, 105, 108]⟩, .string ⟨#[69, 78, 78]⟩, .string ⟨#[116, 105, 99, 107, 115]⟩, .string ⟨#[78, 78, 78, 78, 78]⟩, .string ⟨#[108, 105, 110, 107]⟩, .string ⟨#[78, 78, 78, 78, 78, 78]⟩] 9)).cell? ⟨w.heap.size, j, none⟩ = some (strV (needs24[j]'hj))) := Lib.hid (fun j hj => by
    have := HX.out.cell j
    rw [List.getElem?_map, List.getElem?_eq_getElem (show j < needs24.length from hj)] at this
    exact this)
  clear HX
  go_enter Tryd.func21, Tryd.ntmps21
  go_wp2_with fail
  generalize w.alloc (.cells #[.string ⟨#[98, 111, 111, 107]⟩, .string ⟨#[]⟩, .string ⟨#[116, 105, 99, 107]⟩, .string ⟨#[78]⟩, .string ⟨#[115, 101, 116, 116, 108, 101]⟩, .string ⟨#[78]⟩, .string ⟨#[108, 111, 111, 107]⟩, .string ⟨#[69]⟩, .string ⟨#[99, 97, 114, 114, 121]⟩, .string ⟨#[69]⟩, .string ⟨#[108, 111, 115, 101]⟩, .string ⟨#[69]⟩, .string ⟨#[116, 97, 107, 101]⟩, .string ⟨#[69, 78]⟩, .string ⟨#[98, 114, 105, 110, 103]⟩, .string ⟨#[69, 72]⟩, .string ⟨#[97, 115, 107]⟩, .string ⟨#[69, 87, 72]⟩, .string ⟨#[115, 112, 111, 105, 108]⟩, .string ⟨#[69, 78, 78]⟩, .string ⟨#[116, 105, 99, 107, 115]⟩, .string ⟨#[78, 78, 78, 78, 78]⟩, .string ⟨#[108, 105, 110, 107]⟩, .string ⟨#[78, 78, 78, 78, 78, 78]⟩] 9) = W at *
  go_loop [5] (fun i => ∃ j : Nat, j ≤ 12 ∧ i = .int .i64 ((2 * j : Nat) : Int) ∧ Hid (∀ k (hk : k < 12), k < j → needs24[2 * k]'(by show _ < 24; omega) ≠ s.data.toList)) (fun i => 24 - (intOf i).toNat)
  case atStart => exact ⟨0, by omega, rfl, Lib.hid (fun k hk h => by omega)⟩
  case round =>
    obtain ⟨j, hj, rfl, HM⟩ := hrel
    by_cases hlt : j < 12
    · have hc := HC.out (2 * j) (by omega)
      have hd := HC.out (2 * j + 1) (by omega)
      have hat := needs_at ⟨j, hlt⟩
      simp only at hat
      unfold strV at hc hd
      have hj0 : (0 : Int) ≤ ((2 * j : Nat) : Int) := Int.natCast_nonneg _
      have hj24 : ((2 * j : Nat) : Int) < 24 := by omega
      have hj25 : ((2 * j : Nat) : Int) + 1 < 24 := by omega
      have hto : (((2 * j : Nat) : Int) + 1).toNat = 2 * j + 1 := by omega
      by_cases he : needs24[2 * j]'(by show _ < 24; omega) = s.data.toList
      · have h1 : ((⟨(needs24[2 * j]'(by show _ < 24; omega)).toArray⟩ : ByteArray).toList == s.toList) = true := str_beq he
        have HK : Hid (needOf s.data.toList = some (needs24[2 * j + 1]'(by show _ < 24; omega))) := Lib.hid (by rw [← he]; exact hat)
        clear he HM hat
        generalize (⟨(needs24[2 * j]'(by show _ < 24; omega)).toArray⟩ : ByteArray) = X at *
        generalize needs24[2 * j + 1]'(by show _ < 24; omega) = Y at *
        go_wp2_with fail
        go_ret2
        exact ⟨by rw [HK.out]; rfl, HB.out⟩
      · have h1 : ((⟨(needs24[2 * j]'(by show _ < 24; omega)).toArray⟩ : ByteArray).toList == s.toList) = false := str_bne he
        have HM2 : Hid (∀ k (hk : k < 12), k < j + 1 → needs24[2 * k]'(by show _ < 24; omega) ≠ s.data.toList) := Lib.hid (fun k hk hl hkk => by
          by_cases e : k = j
          · subst e; exact absurd hkk he
          · exact HM.out k hk (by omega) hkk)
        clear he HM hat
        generalize (⟨(needs24[2 * j]'(by show _ < 24; omega)).toArray⟩ : ByteArray) = X at *
        go_wp2_with fail
        go_round
        case rel => exact ⟨j + 1, by omega, congrArg (Value.int .i64) (by omega), HM2⟩
        case measure => simp [intOf]; omega
    · have hj12 : j = 12 := by omega
      subst hj12
      have HK : Hid (needOf s.data.toList = none) := Lib.hid (needs_miss (fun k hk => HM.out k hk (by omega)))
      clear HM
      go_wp2_with fail
      go_ret2
      exact ⟨by rw [HK.out]; rfl, HB.out⟩
end Go.Proofs.YtgilbdhoddmpbaaDoor
