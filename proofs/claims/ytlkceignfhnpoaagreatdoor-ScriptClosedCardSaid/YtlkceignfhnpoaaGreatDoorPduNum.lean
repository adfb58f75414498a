/-
  Contracts of pdu.low, of the function inside Check, of slices.IndexFunc and ContainsFunc at it.
-/
import Derived.Test.YtlkceignfhnpoaaGreatDoorPduShape
import Derived.Test.YtlkceignfhnpoaaGreatDoorIntsR
set_option linter.unusedVariables false
set_option linter.unusedSimpArgs false
namespace Go.Proofs.YtlkceignfhnpoaaGreatDoor
open Go.RowKit

theorem low_yes (x : Int) (h0 : 0 ≤ x) (h1 : x < 16777216) (w : World) :
    Calls Tryz.prog 258 #[.int .u32 x] w fun e w' => e = .returned (.bool true) ∧ w = w' := by
  obtain ⟨n, rfl⟩ := Int.eq_ofNat_of_zero_le h0
  have hq : n % 16777216 = n := Nat.mod_eq_of_lt (by omega)
  go_enter Tryz.func258, Tryz.ntmps258
  go_wp2_with fail
  refine (Low_any n (by omega) _).mono ?_
  rintro e w1 ⟨rfl, rfl⟩
  go_wp2_with fail
  go_ret
  exact ⟨by simp [hq], rfl⟩
theorem low_no (x : Int) (h0 : 16777216 ≤ x) (h1 : x < 4294967296) (w : World) :
    Calls Tryz.prog 258 #[.int .u32 x] w fun e w' => e = .returned (.bool false) ∧ w = w' := by
  obtain ⟨n, rfl⟩ := Int.eq_ofNat_of_zero_le (show 0 ≤ x by omega)
  have hq : ((n : Int) == (n : Int) % 16777216) = false := by simp; omega
  go_enter Tryz.func258, Tryz.ntmps258
  go_wp2_with fail
  refine (Low_any n (by omega) _).mono ?_
  rintro e w1 ⟨rfl, rfl⟩
  go_wp2_with fail
  go_ret
  exact ⟨rfl, rfl⟩
theorem low_any (x : Int) (h0 : 0 ≤ x) (h1 : x < 4294967296) (w : World) :
    Calls Tryz.prog 258 #[.int .u32 x] w fun e w' => e = .returned (.bool (lowB x)) ∧ w = w' := by
  unfold lowB
  by_cases h : x < 16777216
  · rw [decide_eq_true h]; exact low_yes x h0 h w
  · rw [decide_eq_false h]; exact low_no x (by omega) h1 w
theorem high_any (x : Int) (h0 : 0 ≤ x) (h1 : x < 4294967296) (w : World) :
    Calls Tryz.prog 260 #[.int .u32 x] w fun e w' => e = .returned (.bool (!lowB x)) ∧ w = w' := by
  go_enter Tryz.func260, Tryz.ntmps260
  go_wp2_with fail
  refine (low_any x h0 h1 _).mono ?_
  rintro e w1 ⟨rfl, rfl⟩
  go_wp2_with fail
  go_ret
  exact ⟨rfl, rfl⟩

/-- Where the first high one lies, or -1. -/
def highAt (ns : List Int) : Int := match ns.findIdx? (fun x => !lowB x) with
  | some i => (i : Int)
  | none => -1
theorem highAt_found {ns : List Int} (k : Nat) (h : k < ns.length) (hn : ∀ j (h : j < ns.length), j < k → lowB ns[j] = true) (hk : lowB ns[k] = false) : highAt ns = k := by
  unfold highAt
  have : ns.findIdx? (fun x => !lowB x) = some k := by
    rw [List.findIdx?_eq_some_iff_getElem]
    exact ⟨h, by simp [hk], fun j hj => by simp [hn j (by omega) hj]⟩
  rw [this]
theorem highAt_none {ns : List Int} (hn : ∀ j (h : j < ns.length), lowB ns[j] = true) : highAt ns = -1 := by
  unfold highAt
  have : ns.findIdx? (fun x => !lowB x) = none := by
    rw [List.findIdx?_eq_none_iff]
    intro x hx
    obtain ⟨j, hj, rfl⟩ := List.mem_iff_getElem.1 hx
    simp [hn j hj]
  rw [this]
theorem highAt_all (ns : List Int) : decide (0 ≤ highAt ns) = !(ns.all lowB) := by
  unfold highAt
  cases h : ns.findIdx? (fun x => !lowB x) with
  | none =>
    rw [List.findIdx?_eq_none_iff] at h
    have : ns.all lowB = true := List.all_eq_true.2 fun x hx => by simpa using h x hx
    rw [this]; rfl
  | some i =>
    rw [List.findIdx?_eq_some_iff_getElem] at h
    obtain ⟨hi, hp, _⟩ := h
    have : ns.all lowB = false := by
      rw [← Bool.not_eq_true, List.all_eq_true]
      intro hall
      have := hall ns[i] (List.getElem_mem hi)
      simp [this] at hp
    rw [this]; simp

set_option maxHeartbeats 1000000 in
theorem highIdx_any (v : Value) (ns : List Int) (w : World) (h : IntsR .u32 w v ns) (hr : ∀ x ∈ ns, 0 ≤ x ∧ x < 4294967296) :
    Calls Tryz.prog 313 #[v, .func (.func 260) #[] #[]] w fun e w' => e = .returned (.int .i64 (highAt ns)) ∧ w = w' := by
  obtain ⟨a, c, rfl, hc1, hm1, ha, hcs⟩ := h
  have HR := Lib.hid hcs
  have HB := Lib.hid hr
  clear hcs hr
  go_enter Tryz.func313, Tryz.ntmps313
  go_wp2_with fail
  go_loop [8] (fun i => ∃ k : Nat, k ≤ ns.length ∧ i = .int .i64 k ∧ Hid (∀ j (h : j < ns.length), j < k → lowB ns[j] = true)) (fun i => ns.length - (intOf i).toNat)
  case atStart => exact ⟨0, Nat.zero_le _, rfl, Lib.hid (fun j h hj => absurd hj (Nat.not_lt_zero _))⟩
  case round =>
    obtain ⟨k, hk, rfl, hno⟩ := hrel
    by_cases hlt : k < ns.length
    · obtain ⟨b, o, rfl⟩ := ha (by omega)
      have q1 := HR.out b o rfl k hlt
      have hb := HB.out ns[k] (List.getElem_mem hlt)
      rw [show ns.getD k 0 = ns[k] by simp [hlt]] at q1
      clear HR HB
      cases hp : lowB ns[k] with
      | false =>
        have hfin := highAt_found k hlt hno.out hp
        have HF := Lib.hid hfin
        have HP := Lib.hid hp
        clear hfin hp
        generalize ns[k] = x at *
        go_wp2_with fail
        refine (high_any _ hb.1 hb.2 _).mono ?_
        rintro e w1 ⟨rfl, rfl⟩
        rw [HP.out]
        go_wp2_with fail
        go_ret
        exact ⟨ret_int (by rw [HF.out]), rfl⟩
      | true =>
        have HN : Hid (∀ j (h : j < ns.length), j < k + 1 → lowB ns[j] = true) := Lib.hid (fun j h hj => by
          by_cases e : j = k
          · subst e; exact hp
          · exact hno.out j h (by omega))
        have HP := Lib.hid hp
        clear hp hno
        generalize ns[k] = x at *
        go_wp2_with fail
        refine (high_any _ hb.1 hb.2 _).mono ?_
        rintro e w1 ⟨rfl, rfl⟩
        rw [HP.out]
        go_wp2_with fail
        go_round
        case rel => exact ⟨k + 1, by omega, by go_num, HN⟩
        case measure => simp [intOf]; omega
    · have hfin := highAt_none (ns := ns) (fun j h => hno.out j h (by omega))
      have HF := Lib.hid hfin
      clear hfin
      go_wp2_with fail
      go_ret
      exact ⟨ret_int (by rw [HF.out]), rfl⟩
theorem highs_any (v : Value) (ns : List Int) (w : World) (h : IntsR .u32 w v ns) (hr : ∀ x ∈ ns, 0 ≤ x ∧ x < 4294967296) :
    Calls Tryz.prog 259 #[v, .func (.func 260) #[] #[]] w fun e w' => e = .returned (.bool (!(ns.all lowB))) ∧ w = w' := by
  have HF := Lib.hid (highAt_all ns)
  have HR := Lib.hid hr
  clear hr
  go_enter Tryz.func259, Tryz.ntmps259
  go_wp2_with fail
  refine (highIdx_any v ns _ h HR.out).mono ?_
  rintro e w1 ⟨rfl, rfl⟩
  go_wp2_with fail
  go_ret
  exact ⟨ret_bool HF.out, rfl⟩
end Go.Proofs.YtlkceignfhnpoaaGreatDoor
