/-
  The statement LineLimit.
-/
import Derived.Test.YtgilbdhoddmpbaaDoorLnAwake
set_option linter.unusedVariables false
set_option linter.unusedSimpArgs false
namespace Go.Proofs.YtgilbdhoddmpbaaDoor
open Go.RowKit

theorem rep_len (n : Nat) (l : List UInt8) : (rep n l).length = n * l.length := by
  induction n with
  | zero => simp [rep]
  | succ n ih => rw [rep_succ, List.length_append, ih, Nat.succ_mul]
theorem limit_len (n : Nat) (more : Bool) (h : n ≤ 410) : (limitT n more).length ≤ 5000 := by
  unfold limitT
  have h5 : (rep n (bookW ++ [10])).length = n * 5 := by rw [rep_len]; rfl
  have h8 : noteW.length = 8 := rfl
  have hb : booksW.length = 5 := rfl
  cases more <;> simp only [List.length_append, List.length_cons, h5, h8, if_true, List.length_nil, hb] <;> (try simp) <;> omega
/-- The text behind j lines. -/
def noteT (j : Nat) : List UInt8 := noteW ++ 10 :: rep j (bookW ++ [10])
theorem noteT_succ (j : Nat) : noteT (j + 1) = noteT j ++ [98, 111, 111, 107, 10] := by unfold noteT; rw [rep_succ]; simp [bookW]
theorem limit_no (j : Nat) : limitT j false = noteT j := by unfold limitT noteT; simp
theorem limit_more (j : Nat) : limitT j true = noteT j ++ [98, 111, 111, 107, 115] := by unfold limitT noteT; simp [booksW]
theorem noteT_len (j : Nat) (h : j ≤ 410) : (noteT j).length ≤ 3000 := by
  unfold noteT
  have h5 : (rep j (bookW ++ [10])).length = j * 5 := by rw [rep_len]; rfl
  have h8 : noteW.length = 8 := rfl
  simp only [List.length_append, List.length_cons, h5, h8]; omega
theorem tail_add (s : ByteArray) (l : List UInt8) (h : s.data.toList = l) (t : List UInt8) : (s ++ (⟨t.toArray⟩ : ByteArray)) = ⟨(l ++ t).toArray⟩ := by apply str_eq; subst h; simp [ByteArray.data_append]
set_option maxRecDepth 100000 in
set_option maxHeartbeats 2000000 in
theorem limit_any (n : Int) (more : Bool) (w : World) (he : EnvM w) (h0 : -9223372036854775808 ≤ n) (h1 : n ≤ 9223372036854775807) :
    Calls Tryd.prog 4 #[.int .i64 n, .bool more] w fun e w' => e = .returned (.bool true) ∧ Below w.heap.size w w' := by
  obtain ⟨k, hk, hk4⟩ : ∃ k : Nat, max 0 (min n 410) = (k : Int) ∧ k ≤ 410 := ⟨(max 0 (min n 410)).toNat, by omega, by omega⟩
  have HAW := Lib.hid (awake23 w he)
  go_enter Tryd.func4, Tryd.ntmps4
  go_wp2_with fail
  refine HAW.out.mono ?_
  rintro e w1 ⟨rfl, hb1⟩
  have HB1 := Lib.hid hb1
  have HE1 := Lib.hid (he.below hb1)
  clear he HAW hb1
  go_wp2_with fail
  go_loop [5, 15] (fun s i => ∃ j : Nat, j ≤ k ∧ s = .string ⟨(noteT j).toArray⟩ ∧ i = .int .i64 (j : Int)) (fun _ i => k - (intOf i).toNat)
  case atStart => exact ⟨0, by omega, by simp [noteT, noteW, rep], rfl⟩
  case round =>
    obtain ⟨j, hj, rfl, rfl⟩ := hrel
    have hl := noteT_len j (by omega)
    have hs1 : (⟨(noteT j).toArray⟩ : ByteArray).size ≤ 3000 := by rw [size_arr]; exact hl
    by_cases hlt : j < k
    · have HT := Lib.hid (tail_add ⟨(noteT j).toArray⟩ (noteT j) rfl [98, 111, 111, 107, 10])
      have HN := Lib.hid (noteT_succ j)
      clear hk
      go_wp2_with fail
      go_round
      case rel => exact ⟨j + 1, by omega, by rw [HN.out, ← HT.out], by go_num⟩
      case measure => simp [intOf]; omega
    · have hjk : j = k := by omega
      subst hjk
      clear hlt
      by_cases h400 : 400 < j
      · have h4 : (400 : Int) < (j : Int) := by omega
        cases more
        · have HPA := Lib.hid (parse_in ⟨(noteT j).toArray⟩ w1 (by omega) HE1.out [] 402 false (by show parseL (noteT j) = _; rw [← limit_no, limit_parse, if_pos h400]))
          clear hk h400
          go_wp2_with fail
          refine HPA.out.mono ?_
          rintro e w2 ⟨a, c, nvs, rfl, hst, hc, hb⟩
          have HB2 := Lib.hid (belSeq HB1.out hb)
          clear hst hc hb HPA
          simp only [List.length_nil]
          go_wp2_with fail
          go_ret
          exact ⟨rfl, HB2.out⟩
        · have HT := Lib.hid (tail_add ⟨(noteT j).toArray⟩ (noteT j) rfl [98, 111, 111, 107, 115])
          have HPA := Lib.hid (parse_in ⟨(noteT j ++ [98, 111, 111, 107, 115]).toArray⟩ w1 (by rw [size_arr]; simp; omega) HE1.out [] 402 false (by show parseL (noteT j ++ _) = _; rw [← limit_more, limit_parse, if_pos h400]))
          rw [← HT.out] at HPA
          clear hk h400
          go_wp2_with fail
          refine HPA.out.mono ?_
          rintro e w2 ⟨a, c, nvs, rfl, hst, hc, hb⟩
          have HB2 := Lib.hid (belSeq HB1.out hb)
          clear hst hc hb HPA
          simp only [List.length_nil]
          go_wp2_with fail
          go_ret
          exact ⟨rfl, HB2.out⟩
      · have h4 : ¬ (400 : Int) < (j : Int) := by omega
        cases more
        · have HPA := Lib.hid (parse_in ⟨(noteT j).toArray⟩ w1 (by omega) HE1.out (List.replicate j ⟨bookW, [], [], []⟩) 0 true (by show parseL (noteT j) = _; rw [← limit_no, limit_parse, if_neg h400]; rfl))
          rw [List.length_replicate] at HPA
          clear hk h400
          go_wp2_with fail
          refine HPA.out.mono ?_
          rintro e w2 ⟨a, c, nvs, rfl, hst, hc, hb⟩
          have HB2 := Lib.hid (belSeq HB1.out hb)
          clear hst hc hb HPA
          go_wp2_with fail
          go_ret
          exact ⟨rfl, HB2.out⟩
        · have HT := Lib.hid (tail_add ⟨(noteT j).toArray⟩ (noteT j) rfl [98, 111, 111, 107, 115])
          have HPA := Lib.hid (parse_in ⟨(noteT j ++ [98, 111, 111, 107, 115]).toArray⟩ w1 (by rw [size_arr]; simp; omega) HE1.out [] (j + 2) false (by show parseL (noteT j ++ _) = _; rw [← limit_more, limit_parse, if_neg h400]; rfl))
          rw [← HT.out] at HPA
          have hj2 : (((j + 2 : Nat) : Int)) = (j : Int) + 2 := by omega
          rw [hj2] at HPA
          clear hk h400 hj2
          go_wp2_with fail
          refine HPA.out.mono ?_
          rintro e w2 ⟨a, c, nvs, rfl, hst, hc, hb⟩
          have HB2 := Lib.hid (belSeq HB1.out hb)
          clear hst hc hb HPA
          simp only [List.length_nil]
          go_wp2_with fail
          go_ret
          exact ⟨rfl, HB2.out⟩
end Go.Proofs.YtgilbdhoddmpbaaDoor
