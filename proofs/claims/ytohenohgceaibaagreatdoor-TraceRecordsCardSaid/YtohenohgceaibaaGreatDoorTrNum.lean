/-
  Contracts of trace.number, seq.Of, trace.kind.
-/
import Derived.Test.YtohenohgceaibaaGreatDoorTrEnv
import Derived.Test.YtohenohgceaibaaGreatDoorPlainUnit
import Derived.Test.YtohenohgceaibaaGreatDoorPduName
set_option linter.unusedVariables false
set_option linter.unusedSimpArgs false
namespace Go.Proofs.YtohenohgceaibaaGreatDoor
open Go.RowKit

theorem atoi_range (l : List UInt8) (v : Int) (h : Lib.atoiAll l = .ok v) : -9223372036854775808 ≤ v ∧ v ≤ 9223372036854775807 := by
  unfold Lib.atoiAll at h
  split at h
  · cases h
  · simp only at h
    split at h
    · cases h
    · cases h
    · split at h
      · cases h
      · split at h
        · cases h
        · rename_i u _ h1 h2
          cases h
          split <;> omega
def NumEndR (R : Option Int) (w : World) (e : Ending) (w' : World) : Prop :=
  Below w.heap.size w w' ∧ match R with
    | some v => e = .returned (.tuple #[.int .i64 v, .bool true])
    | none => ∃ n : Int, -9223372036854775808 ≤ n ∧ n ≤ 9223372036854775807 ∧ e = .returned (.tuple #[.int .i64 n, .bool false])
theorem num_ok {R : Option Int} {w w' : World} {e : Ending} {v : Int} (h : R = some v) (hb : Below w.heap.size w w') (he : e = .returned (.tuple #[.int .i64 v, .bool true])) : NumEndR R w e w' := by
  subst h; exact ⟨hb, he⟩
theorem num_no {R : Option Int} {w w' : World} {e : Ending} {n : Int} (h : R = none) (hn : -9223372036854775808 ≤ n ∧ n ≤ 9223372036854775807) (hb : Below w.heap.size w w') (he : e = .returned (.tuple #[.int .i64 n, .bool false])) : NumEndR R w e w' := by
  subst h; exact ⟨hb, n, hn.1, hn.2, he⟩
theorem sat_range (l : List UInt8) : -9223372036854775808 ≤ Lib.atoiSat l ∧ Lib.atoiSat l ≤ 9223372036854775807 := by unfold Lib.atoiSat; split <;> omega
/-- strconv.Atoi, its three endings under one. -/
theorem atoi_all (s : ByteArray) (w : World) (hs : s.size ≤ 1000000) (he : Env w) : Calls Tryz.prog 60 #[.string s] w fun e w' => Below w.heap.size w w' ∧ match Lib.atoiAll s.data.toList with
    | .ok v => e = .returned (.tuple #[.int .i64 v, .nilIface])
    | _ => ∃ (n : Int) (t : TypeId) (p : Value), -9223372036854775808 ≤ n ∧ n ≤ 9223372036854775807 ∧ e = .returned (.tuple #[.int .i64 n, .iface t p]) := by
  by_cases hok : ∃ v, Lib.atoiAll s.data.toList = .ok v
  · obtain ⟨v, h⟩ := hok
    rw [h]
    exact (Tryz.strconv_Atoi_ok s (by omega) v h w).mono fun e w' ⟨h1, h2⟩ => ⟨by rcases h2 with rfl | ⟨t, rfl⟩; exact Below.refl _ _; exact Joins.below_bytesWorld _ _ _ _ (Nat.le_refl _), h1⟩
  · have hno : ∀ v, Lib.atoiAll s.data.toList ≠ .ok v := fun v h => hok ⟨v, h⟩
    suffices hs : Calls Tryz.prog 60 #[.string s] w fun e w' => Below w.heap.size w w' ∧ ∃ (n : Int) (t : TypeId) (p : Value), -9223372036854775808 ≤ n ∧ n ≤ 9223372036854775807 ∧ e = .returned (.tuple #[.int .i64 n, .iface t p]) from
      hs.mono fun e w' ⟨h1, h2⟩ => ⟨h1, by cases h : Lib.atoiAll s.data.toList; exact absurd h (hno _); exact h2; exact h2⟩
    by_cases hr : Lib.atoiAll s.data.toList = .range
    · obtain ⟨t, p, hv⟩ := he.eran
      have := sat_range s.data.toList
      exact (Tryz.strconv_Atoi_range s (by omega) hr _ w hv (.inr ⟨t, p, rfl⟩)).mono fun e w' ⟨N, h1, _, _, h2⟩ => ⟨h2, _, _, _, this.1, this.2, h1⟩
    · obtain ⟨t, p, hv⟩ := he.esyn
      exact (Tryz.strconv_Atoi_bad s (by omega) hno hr _ w hv (.inr ⟨t, p, rfl⟩)).mono fun e w' ⟨N, h1, _, _, h2⟩ => ⟨h2, 0, _, _, by omega, by omega, h1⟩

set_option maxRecDepth 100000 in
set_option maxHeartbeats 2000000 in
theorem number_any (s pre : ByteArray) (w : World) (hs : s.size ≤ 1000000) (he : Env w) : Calls Tryz.prog 47 #[.string s, .string pre] w (NumEndR (numOf pre.data.toList s.data.toList) w) := by
  have HCP := Lib.hid (fun w => Tryz.strings_CutPrefix s pre w)
  have HN : Hid (numOf pre.data.toList s.data.toList = if Lib.hasPrefix s.data.toList pre.data.toList = true then (match Lib.atoiAll (Lib.trimPrefix s.data.toList pre.data.toList) with
    | .ok v => if Lib.itoa v = Lib.trimPrefix s.data.toList pre.data.toList ∧ 0 ≤ v ∧ v < 16777216 then some v else none
    | _ => none) else none) := Lib.hid rfl
  have hTz : (⟨(Lib.trimPrefix s.data.toList pre.data.toList).toArray⟩ : ByteArray).size ≤ 1000000 := by
    rw [size_arr]
    unfold Lib.trimPrefix
    split
    · rw [List.length_drop, size_len]; omega
    · rw [size_len]; omega
  have HE := Lib.hid he
  have HAT := Lib.hid (fun w (he : Env w) => atoi_all ⟨(Lib.trimPrefix s.data.toList pre.data.toList).toArray⟩ w hTz he)
  have HTL : Hid ((⟨(Lib.trimPrefix s.data.toList pre.data.toList).toArray⟩ : ByteArray).data.toList = Lib.trimPrefix s.data.toList pre.data.toList) := Lib.hid rfl
  rw [← HTL.out] at HN
  generalize numOf pre.data.toList s.data.toList = RN at *
  generalize Lib.hasPrefix s.data.toList pre.data.toList = HP at *
  generalize (⟨(Lib.trimPrefix s.data.toList pre.data.toList).toArray⟩ : ByteArray) = T at *
  clear HTL he
  go_enter Tryz.func47, Tryz.ntmps47
  go_wp2_with fail
  refine (HCP.out _).mono ?_
  rintro e w1 ⟨rfl, hw⟩
  obtain rfl := hw
  go_wp2_with fail
  refine (HAT.out _ HE.out).mono ?_
  rintro e w2 ⟨hb2, hpost⟩
  have HB2 := Lib.hid hb2
  have HE2 := Lib.hid (HE.out.below hb2)
  clear hb2
  by_cases hok : ∃ v, Lib.atoiAll T.data.toList = .ok v
  · obtain ⟨v, hat⟩ := hok
    rw [hat] at hpost HN
    simp only at hpost
    obtain rfl := hpost
    have hv := atoi_range _ _ hat
    clear hat
    cases HP with
    | false =>
      have HR : Hid (RN = none) := Lib.hid (by rw [HN.out, if_neg (by simp)])
      clear HN
      go_wp2_with fail
      go_ret2
      exact num_no HR.out hv HB2.out rfl
    | true =>
      have HIT := Lib.hid (fun W (h : Env W) => itoa_any v W hv.1 hv.2 h)
      have HN2 : Hid (RN = if Lib.itoa v = T.data.toList ∧ 0 ≤ v ∧ v < 16777216 then some v else none) := Lib.hid (by rw [HN.out, if_pos rfl])
      clear HN
      go_wp2_with fail
      refine (HIT.out _ HE2.out).mono ?_
      rintro e w3 ⟨rfl, hb3⟩
      have HB3 := Lib.hid (belSeq HB2.out hb3)
      clear hb3
      by_cases h1 : Lib.itoa v = T.data.toList
      · have hq : (Lib.itoa v == T.toList) = true := by rw [Lib.toList_data, h1]; simp
        have H1 := Lib.hid h1
        clear h1
        by_cases h2 : 0 ≤ v
        · by_cases h3 : v < 16777216
          · have HR : Hid (RN = some v) := Lib.hid (by rw [HN2.out, if_pos ⟨H1.out, h2, h3⟩])
            have hd3 : decide (v < 16777216) = true := decide_eq_true h3
            clear h3
            go_wp2_with fail
            go_ret2
            exact num_ok HR.out HB3.out rfl
          · have HR : Hid (RN = none) := Lib.hid (by rw [HN2.out, if_neg (fun h => h3 h.2.2)])
            have hd3 : decide (v < 16777216) = false := decide_eq_false h3
            clear h3
            go_wp2_with fail
            go_ret2
            exact num_no HR.out hv HB3.out rfl
        · have HR : Hid (RN = none) := Lib.hid (by rw [HN2.out, if_neg (fun h => h2 h.2.1)])
          go_wp2_with fail
          go_ret2
          exact num_no HR.out hv HB3.out rfl
      · have hq : (Lib.itoa v == T.toList) = false := by rw [Lib.toList_data]; exact beq_eq_false_iff_ne.2 h1
        have HR : Hid (RN = none) := Lib.hid (by rw [HN2.out, if_neg (fun h => h1 h.1)])
        go_wp2_with fail
        go_ret2
        exact num_no HR.out hv HB3.out rfl
  · have hpost3 : ∃ (n : Int) (t : TypeId) (p : Value), -9223372036854775808 ≤ n ∧ n ≤ 9223372036854775807 ∧ e = .returned (.tuple #[.int .i64 n, .iface t p]) := by
      cases h : Lib.atoiAll T.data.toList
      · exact absurd ⟨_, h⟩ hok
      · rw [h] at hpost; exact hpost
      · rw [h] at hpost; exact hpost
    have HR : Hid (RN = none) := Lib.hid (by
      rw [HN.out]
      split
      · cases h : Lib.atoiAll T.data.toList
        · exact absurd ⟨_, h⟩ hok
        · rfl
        · rfl
      · rfl)
    clear hpost hok HN
    obtain ⟨n, t, q, hn1, hn2, rfl⟩ := hpost3
    cases HP
    all_goals
      go_wp2_with fail
      go_ret2
      exact num_no HR.out ⟨hn1, hn2⟩ HB2.out rfl

theorem of_any (x : Int) (w : World) : Calls Tryz.prog 48 #[.int .i64 x] w fun e w' => e = .returned (.int .u32 (x % 16777216)) ∧ w = w' := by
  obtain ⟨u, hu, hul⟩ : ∃ u : Nat, x % 4294967296 = (u : Int) ∧ u < 4294967296 := ⟨(x % 4294967296).toNat, by omega, by omega⟩
  have hx : x % 16777216 = ((u % 16777216 : Nat) : Int) := by omega
  rw [hx]
  have k1 : bits .and .u32 (u : Int) 16777215 = ((u % 16777216 : Nat) : Int) := by
    rw [show (16777215 : Int) = ((16777215 : Nat) : Int) from rfl, u32_and_nat u 16777215 hul (by omega), show 16777215 = 2 ^ 24 - 1 from rfl, Nat.and_two_pow_sub_one_eq_mod]
  clear hx
  go_enter Tryz.func48, Tryz.ntmps48
  go_wp2_with fail
  go_ret
  exact ⟨rfl, rfl⟩
theorem kindWord_name (k : Int) : kindWord k = ⟨(nameOf k).toArray⟩ := by
  by_cases hk : 1 ≤ k ∧ k ≤ 15
  · have h : k = 1 ∨ k = 2 ∨ k = 3 ∨ k = 4 ∨ k = 5 ∨ k = 6 ∨ k = 7 ∨ k = 8 ∨ k = 9 ∨ k = 10 ∨ k = 11 ∨ k = 12 ∨ k = 13 ∨ k = 14 ∨ k = 15 := by omega
    rcases h with rfl | rfl | rfl | rfl | rfl | rfl | rfl | rfl | rfl | rfl | rfl | rfl | rfl | rfl | rfl <;> rfl
  · unfold kindWord nameOf
    repeat rw [if_neg (by omega)]
theorem kindOf_hit (w : List UInt8) (j : Nat) (hj : j < 15) (hn : ∀ i : Nat, i < j → nameOf ((i : Int) + 1) ≠ w) (h : nameOf ((j : Int) + 1) = w) : kindOf w = (j : Int) + 1 := by
  have hf : (List.range 15).find? (fun (i : Nat) => decide (nameOf ((i : Int) + 1) = w)) = some j := by
    rw [List.find?_eq_some_iff_getElem]
    refine ⟨by simpa using h, j, by simpa using hj, by simp, fun i hi => ?_⟩
    simpa using hn i hi
  unfold kindOf; rw [hf]
theorem kindOf_miss (w : List UInt8) (hn : ∀ i : Nat, i < 15 → nameOf ((i : Int) + 1) ≠ w) : kindOf w = 0 := by
  have hf : (List.range 15).find? (fun (i : Nat) => decide (nameOf ((i : Int) + 1) = w)) = none := by
    rw [List.find?_eq_none]
    intro i hi
    simpa using hn i (by simpa using hi)
  unfold kindOf; rw [hf]
set_option maxRecDepth 100000 in
set_option maxHeartbeats 2000000 in
theorem kind_any (s : ByteArray) (w : World) : Calls Tryz.prog 32 #[.string s] w fun e w' => e = .returned (.int .i64 (kindOf s.data.toList)) ∧ Below w.heap.size w w' := by
  have HNA := Lib.hid (fun (k : Int) (w : World) => Name_any k 0 0 0 0 (.slice none 0 0) false ⟨#[]⟩ w)
  go_enter Tryz.func32, Tryz.ntmps32
  go_wp2_with fail
  go_loopw [3] (fun i wx => ∃ j : Nat, j ≤ 15 ∧ i = .int .i64 ((j : Int) + 1) ∧ Hid (∀ q : Nat, q < j → nameOf ((q : Int) + 1) ≠ s.data.toList) ∧ Below w.heap.size w wx) (fun i _ => 16 - (intOf i).toNat)
  case atStart => exact ⟨0, by omega, by simp, Lib.hid (fun q hq => by omega), Below.refl _ _⟩
  case round =>
    obtain ⟨j, hj, rfl, hno, hbel⟩ := hrel
    have HB := Lib.hid hbel
    clear hbel
    by_cases hlt : j < 15
    · go_wp2_with fail
      refine (HNA.out _ _).mono ?_
      rintro e w1 ⟨rfl, hb1⟩
      rw [kindWord_name]
      have HB1 := Lib.hid (belSeq HB.out hb1)
      clear hb1 HB
      by_cases hq : nameOf ((j : Int) + 1) = s.data.toList
      · have hK := Lib.hid (kindOf_hit s.data.toList j hlt hno.out hq)
        have hd : (nameOf ((j : Int) + 1) == s.toList) = true := by rw [Lib.toList_data, hq]; simp
        clear hq
        generalize nameOf ((j : Int) + 1) = NM at *
        go_wp2_with fail
        go_ret
        exact ⟨ret_int (by rw [hK.out]), HB1.out⟩
      · have HN : Hid (∀ q : Nat, q < j + 1 → nameOf ((q : Int) + 1) ≠ s.data.toList) := Lib.hid (fun q hq' => by
          by_cases e : q = j
          · subst e; exact hq
          · exact hno.out q (by omega))
        have hd : (nameOf ((j : Int) + 1) == s.toList) = false := by rw [Lib.toList_data]; exact beq_eq_false_iff_ne.2 hq
        clear hq
        generalize nameOf ((j : Int) + 1) = NM at *
        go_wp2_with fail
        go_roundw
        case rel => exact ⟨j + 1, by omega, by go_num, HN, HB1.out⟩
        case measure => simp [intOf]; omega
    · obtain rfl : j = 15 := by omega
      have hK := Lib.hid (kindOf_miss s.data.toList (fun i hi => hno.out i hi))
      go_wp2_with fail
      go_ret
      exact ⟨ret_int (by rw [hK.out]), HB.out⟩
end Go.Proofs.YtohenohgceaibaaGreatDoor
