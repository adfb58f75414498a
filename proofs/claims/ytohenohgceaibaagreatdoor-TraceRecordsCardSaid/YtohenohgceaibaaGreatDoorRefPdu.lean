/-
  Small contracts of the reference's units: in, HasSQ, HasN, Most, low, Word.
-/
import Derived.Test.YtohenohgceaibaaGreatDoorPduShape
import Derived.Test.YtohenohgceaibaaGreatDoorIntsR
set_option linter.unusedVariables false
set_option linter.unusedSimpArgs false
namespace Go.Proofs.YtohenohgceaibaaGreatDoor
open Go.RowKit

theorem IntsR.lit (kd : IntKind) (w : World) (b : Nat) (hb : w.heap.size = b) (T : TypeId) (ns : List Int) (hm : ns.length ≤ 9223372036854775807) : IntsR kd (w.alloc (.cells (ns.map (Value.int kd)).toArray T)) (.slice (some ⟨b, 0, none⟩) ns.length ns.length) ns := by
  subst hb
  refine ⟨_, _, rfl, Nat.le_refl _, hm, fun _ => ⟨_, _, rfl⟩, fun b o hbo j hj => ?_⟩
  cases hbo
  rw [World.cell?_alloc_new]
  simp [hj]

set_option maxHeartbeats 1000000 in
theorem in_any (k : Int) (v : Value) (ns : List Int) (w : World) (h : IntsR .i64 w v ns) :
    Calls Tryz.prog 35 #[.int .i64 k, v] w fun e w' => e = .returned (.bool (decide (k ∈ ns))) ∧ w = w' := by
  obtain ⟨a, c, rfl, hc1, hm1, ha, hcs⟩ := h
  have HR := Lib.hid hcs
  have HD := Lib.hid (rfl : decide (k ∈ ns) = decide (k ∈ ns))
  clear hcs
  go_enter Tryz.func35, Tryz.ntmps35
  go_wp2_with fail
  go_loop [9, 6] (fun i _ => ∃ n : Nat, n ≤ ns.length ∧ i = .int .i64 n ∧ Hid (∀ j (h : j < ns.length), j < n → ns[j] ≠ k)) (fun i _ => ns.length - (intOf i).toNat)
  case atStart => exact ⟨0, Nat.zero_le _, rfl, Lib.hid (fun j h hj => absurd hj (Nat.not_lt_zero _))⟩
  case round =>
    obtain ⟨n, hn, rfl, hno⟩ := hrel
    by_cases hlt : n < ns.length
    · obtain ⟨b, o, rfl⟩ := ha (by omega)
      have q1 := HR.out b o rfl n hlt
      rw [show ns.getD n 0 = ns[n] by simp [hlt]] at q1
      have hmem := List.getElem_mem hlt
      by_cases he : ns[n] = k
      · have HF := Lib.hid (decide_eq_true (p := k ∈ ns) (he ▸ hmem))
        have hee : (ns[n] == k) = true := by simpa using he
        clear hmem hno he HR
        generalize ns[n] = x at *
        go_wp2_with fail
        go_ret
        exact ⟨ret_bool HF.out.symm, rfl⟩
      · have HN : Hid (∀ j (h : j < ns.length), j < n + 1 → ns[j] ≠ k) := Lib.hid (fun j h hj => by
          by_cases e : j = n
          · subst e; exact he
          · exact hno.out j h (by omega))
        have hee : (ns[n] == k) = false := by simpa using he
        clear hmem hno he HR
        generalize ns[n] = x at *
        go_wp2_with fail
        go_round
        case rel => exact ⟨n + 1, by omega, by go_num, HN⟩
        case measure => simp [intOf]; omega
    · have HF := Lib.hid (decide_eq_false (p := k ∈ ns) (fun h => by
        obtain ⟨j, hj, he⟩ := List.mem_iff_getElem.1 h
        exact hno.out j hj (by omega) he))
      clear hno HR
      go_wp2_with fail
      go_ret
      exact ⟨ret_bool HF.out.symm, rfl⟩

theorem HasSQ_any (k : Int) (w : World) :
    Calls Tryz.prog 28 #[.int .i64 k] w fun e w' => e = .returned (.bool (sSq k)) ∧ Below w.heap.size w w' := by
  have HF : Hid (decide (k ∈ ([1, 2, 3, 4, 5, 6, 7, 9, 15] : List Int)) = sSq k) := Lib.hid (by unfold sSq; rw [decide_eq_decide]; simp; omega)
  go_enter Tryz.func28, Tryz.ntmps28
  go_wp2_with fail
  refine (in_any k _ [1, 2, 3, 4, 5, 6, 7, 9, 15] _ (by exact IntsR.lit .i64 _ _ (by simp) _ [1, 2, 3, 4, 5, 6, 7, 9, 15] (by decide))).mono ?_
  rintro e w1 ⟨rfl, rfl⟩
  rw [HF.out]
  go_wp2_with fail
  go_ret
  exact ⟨rfl, (Below.refl _ _).alloc (Nat.le_refl _) _⟩
theorem HasN_any (k : Int) (w : World) :
    Calls Tryz.prog 29 #[.int .i64 k] w fun e w' => e = .returned (.bool (sN k)) ∧ Below w.heap.size w w' := by
  have HF : Hid (decide (k ∈ ([1, 2, 5, 6, 8, 9, 10, 11, 12, 15] : List Int)) = sN k) := Lib.hid (by unfold sN; rw [decide_eq_decide]; simp; omega)
  go_enter Tryz.func29, Tryz.ntmps29
  go_wp2_with fail
  refine (in_any k _ [1, 2, 5, 6, 8, 9, 10, 11, 12, 15] _ (by exact IntsR.lit .i64 _ _ (by simp) _ [1, 2, 5, 6, 8, 9, 10, 11, 12, 15] (by decide))).mono ?_
  rintro e w1 ⟨rfl, rfl⟩
  rw [HF.out]
  go_wp2_with fail
  go_ret
  exact ⟨rfl, (Below.refl _ _).alloc (Nat.le_refl _) _⟩
theorem Most_any (k : Int) (w : World) :
    Calls Tryz.prog 30 #[.int .i64 k] w fun e w' => e = .returned (.int .i64 (sData k)) ∧ Below w.heap.size w w' := by
  have HD : Hid (sData k = if k ∈ ([1, 3, 5, 7] : List Int) then 64 else if k ∈ ([8, 13, 14] : List Int) then 200 else 0) := Lib.hid (by
    unfold sData
    have h1 : (k = 1 ∨ k = 5 ∨ k = 7 ∨ k = 3) ↔ k ∈ ([1, 3, 5, 7] : List Int) := by simp; omega
    have h2 : (k = 8 ∨ k = 13 ∨ k = 14) ↔ k ∈ ([8, 13, 14] : List Int) := by simp
    simp only [h1, h2])
  generalize sData k = r at *
  by_cases h1 : k ∈ ([1, 3, 5, 7] : List Int)
  · have HF : Hid (r = 64) := Lib.hid (by rw [HD.out, if_pos h1])
    have H1 := Lib.hid h1
    clear h1 HD
    go_enter Tryz.func30, Tryz.ntmps30
    go_wp2_with fail
    refine (in_any k _ [1, 3, 5, 7] _ (by exact IntsR.lit .i64 _ _ (by simp) _ [1, 3, 5, 7] (by decide))).mono ?_
    rintro e w1 ⟨rfl, rfl⟩
    rw [decide_eq_true H1.out]
    go_wp2_with fail
    go_ret
    exact ⟨ret_int HF.out.symm, (Below.refl _ _).alloc (Nat.le_refl _) _⟩
  · have H1 := Lib.hid h1
    by_cases h2 : k ∈ ([8, 13, 14] : List Int)
    · have HF : Hid (r = 200) := Lib.hid (by rw [HD.out, if_neg h1, if_pos h2])
      have H2 := Lib.hid h2
      clear h1 HD h2
      go_enter Tryz.func30, Tryz.ntmps30
      go_wp2_with fail
      refine (in_any k _ [1, 3, 5, 7] _ (by exact IntsR.lit .i64 _ _ (by simp) _ [1, 3, 5, 7] (by decide))).mono ?_
      rintro e w1 ⟨rfl, rfl⟩
      rw [decide_eq_false H1.out]
      go_wp2_with fail
      refine (in_any k _ [8, 13, 14] _ (by exact IntsR.lit .i64 _ _ (by simp) _ [8, 13, 14] (by decide))).mono ?_
      rintro e w1 ⟨rfl, rfl⟩
      rw [decide_eq_true H2.out]
      go_wp2_with fail
      go_ret
      exact ⟨ret_int HF.out.symm, ((Below.refl _ _).alloc (Nat.le_refl _) _).alloc (by simp) _⟩
    · have HF : Hid (r = 0) := Lib.hid (by rw [HD.out, if_neg h1, if_neg h2])
      have H2 := Lib.hid h2
      clear h1 HD h2
      go_enter Tryz.func30, Tryz.ntmps30
      go_wp2_with fail
      refine (in_any k _ [1, 3, 5, 7] _ (by exact IntsR.lit .i64 _ _ (by simp) _ [1, 3, 5, 7] (by decide))).mono ?_
      rintro e w1 ⟨rfl, rfl⟩
      rw [decide_eq_false H1.out]
      go_wp2_with fail
      refine (in_any k _ [8, 13, 14] _ (by exact IntsR.lit .i64 _ _ (by simp) _ [8, 13, 14] (by decide))).mono ?_
      rintro e w1 ⟨rfl, rfl⟩
      rw [decide_eq_false H2.out]
      go_wp2_with fail
      go_ret
      exact ⟨ret_int HF.out.symm, ((Below.refl _ _).alloc (Nat.le_refl _) _).alloc (by simp) _⟩
def rlowB (x : Int) : Bool := decide (0 ≤ x) && decide (x < 16777216)
theorem rlow_any (x : Int) (w : World) :
    Calls Tryz.prog 34 #[.int .i64 x] w fun e w' => e = .returned (.bool (rlowB x)) ∧ w = w' := by
  unfold rlowB
  go_enter Tryz.func34, Tryz.ntmps34
  go_wp2
  all_goals (go_ret; exact ⟨ret_bool (by rw [Bool.eq_iff_iff]; simp; omega), rfl⟩)
end Go.Proofs.YtohenohgceaibaaGreatDoor
