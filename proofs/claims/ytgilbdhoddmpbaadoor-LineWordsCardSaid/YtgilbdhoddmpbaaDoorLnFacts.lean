/-
  What a step has that was read from a line; lines one behind the other; plainly.
-/
import Derived.Test.YtgilbdhoddmpbaaDoorLnLine
import Derived.Test.YtgilbdhoddmpbaaDoorPlainScan
set_option linter.unusedVariables false
set_option linter.unusedSimpArgs false
namespace Go.Proofs.YtgilbdhoddmpbaaDoor
open Go

theorem unhex_le {w d : List UInt8} (h : unhexOf w = some d) : d.length ≤ w.length := by
  have hr := hex_unhex _ _ h
  rw [← hr]
  unfold hexOf
  split
  · rename_i e; rw [e]; simp
  · rw [hexBody_length]; omega
def numR0 (n : Int) : Prop := 0 ≤ n ∧ n ≤ 1099511627776
theorem numC_one (c : UInt8) (t : List UInt8) : numC (c :: t) = numC [c] + numC t := by unfold numC; rw [List.countP_cons, List.countP_cons, List.countP_nil]; omega
theorem take_full {c : UInt8} {w : List UInt8} {x y : Stp} {N : Nat} (h : takeL c w x = some y) (hw : w.length ≤ N) (hd : x.data.length ≤ N) (hn : ∀ n ∈ x.nums, numR0 n) :
    y.nums.length = x.nums.length + numC [c] ∧ y.data.length ≤ N ∧ ∀ n ∈ y.nums, numR0 n := by
  unfold takeL at h
  split at h
  · rename_i e; subst e
    split at h
    · cases h
    · cases h; exact ⟨by simp [numC], hd, hn⟩
  · rename_i e87
    split at h
    · rename_i e; subst e
      cases hu : unhexOf w with
      | none => rw [hu] at h; cases h
      | some d =>
        rw [hu] at h; cases h
        exact ⟨by simp [numC], Nat.le_trans (unhex_le hu) hw, hn⟩
    · rename_i e72
      have h1 : numC [c] = 1 := by rw [numC_num c [] e87 e72]; rfl
      split at h
      · rename_i n hu
        split at h
        · cases h
        · cases h
          refine ⟨by rw [h1]; simp, hd, fun k hk => ?_⟩
          rcases List.mem_append.1 hk with h2 | h2
          · exact hn k h2
          · rw [List.mem_singleton.1 h2]
            have := (numL_itoa hu).2
            exact ⟨by omega, by omega⟩
      · cases h
theorem fields_full {N : Nat} : ∀ (need : List UInt8) (ws : List (List UInt8)) (x y : Stp), fieldsL need ws x = some y → (∀ w ∈ ws, w.length ≤ N) → x.data.length ≤ N → (∀ n ∈ x.nums, numR0 n) →
    y.nums.length = x.nums.length + numC need ∧ y.data.length ≤ N ∧ ∀ n ∈ y.nums, numR0 n
  | [], ws, x, y, h, _, hd, hn => by simp [fieldsL] at h; subst h; exact ⟨rfl, hd, hn⟩
  | c :: t, [], x, y, h, _, _, _ => by simp [fieldsL] at h
  | c :: t, w :: ws, x, y, h, hw, hd, hn => by
    unfold fieldsL at h
    split at h
    · cases h
    · rename_i z hz
      obtain ⟨h1, h2, h3⟩ := take_full hz (hw w (by simp)) hd hn
      obtain ⟨k1, k2, k3⟩ := fields_full t ws z y h (fun v hv => hw v (by simp [hv])) h2 h3
      exact ⟨by rw [k1, h1, numC_one c t]; omega, k2, k3⟩
theorem step_full {s : List UInt8} {x : Stp} (h : stepL s = some x) : numC ((needOf x.word).getD []) = x.nums.length ∧ x.data.length ≤ s.length ∧ (∀ n ∈ x.nums, numR0 n) ∧ lineL x = s := by
  have hline := step_line s x h
  unfold stepL stepW at h
  have hle := splitBy_le 32 s
  generalize splitBy 32 s = ws at h hle
  split at h
  · cases h
  · rename_i need hneed
    split at h
    · rename_i hl
      obtain ⟨h1, h2, h3⟩ := fields_full (N := s.length) need ws.tail _ x h (fun w hw => hle w (List.mem_of_mem_tail hw)) (by simp) (fun n hn => by cases hn)
      obtain ⟨k1, -, -⟩ := fields_keep need ws.tail _ x h
      refine ⟨?_, h2, h3, hline⟩
      rw [k1]
      simp only
      rw [hneed, h1]; simp
    · cases h
theorem scan_from : ∀ (ls : List (List UInt8)) (n : Nat) (out xs : List Stp) (k : Nat) (ok : Bool), scanL n out ls = (xs, k, ok) → ∀ x ∈ xs, x ∈ out ∨ ∃ l ∈ ls, stepL l = some x
  | [], n, out, xs, k, ok, h => by simp only [scanL, Prod.mk.injEq] at h; rw [← h.1]; exact fun x hx => .inl hx
  | l :: t, n, out, xs, k, ok, h => by
    rw [scan_cons] at h
    by_cases hs : skipL l = true
    · rw [if_pos hs] at h
      intro x hx
      rcases scan_from t _ _ _ _ _ h x hx with h1 | ⟨m, h1, h2⟩
      · exact .inl h1
      · exact .inr ⟨m, by simp [h1], h2⟩
    · rw [if_neg hs] at h
      cases hx : stepL l with
      | none => rw [hx] at h; simp only [Prod.mk.injEq] at h; rw [← h.1]; intro x hx; cases hx
      | some y =>
        rw [hx] at h
        simp only at h
        by_cases hl : out.length = 400
        · rw [if_pos hl] at h; simp only [Prod.mk.injEq] at h; rw [← h.1]; intro x hx; cases hx
        · rw [if_neg hl] at h
          intro x hm
          rcases scan_from t _ _ _ _ _ h x hm with h1 | ⟨m, h1, h2⟩
          · rcases List.mem_append.1 h1 with h3 | h3
            · exact .inl h3
            · rw [List.mem_singleton.1 h3]; exact .inr ⟨l, by simp, hx⟩
          · exact .inr ⟨m, by simp [h1], h2⟩
theorem parse_from {s : List UInt8} {xs : List Stp} {k : Nat} {ok : Bool} (h : parseL s = (xs, k, ok)) : ∀ x ∈ xs, ∃ l ∈ splitBy 10 s, stepL l = some x := fun x hx => by
  rcases scan_from _ _ _ _ _ _ h x hx with h1 | h1
  · cases h1
  · exact h1
/-- Lines, each with its end. -/
def nlL (ls : List (List UInt8)) : List UInt8 := ls.flatMap (fun l => l ++ [10])
theorem nl_snoc (ls : List (List UInt8)) (l : List UInt8) : nlL (ls ++ [l]) = nlL ls ++ (l ++ [10]) := by unfold nlL; rw [List.flatMap_append]; simp
theorem nl_join : ∀ ls : List (List UInt8), ls ≠ [] → nlL ls = joinBy 10 ls ++ [10]
  | [], h => absurd rfl h
  | [l], _ => by simp [nlL, joinBy]
  | l :: m :: t, _ => by
    have ih := nl_join (m :: t) (by simp)
    rw [join_cons 10 l (by simp)]
    show (l ++ [10]) ++ nlL (m :: t) = _
    rw [ih]; simp
theorem nl_sub {l m : List (List UInt8)} (h : l.Sublist m) : (nlL l).length ≤ (nlL m).length := by
  induction h with
  | slnil => exact Nat.le_refl _
  | cons a _ ih => show _ ≤ ((a ++ [10]) ++ nlL _).length; simp only [List.length_append]; omega
  | cons_cons a _ ih => show ((a ++ [10]) ++ nlL _).length ≤ ((a ++ [10]) ++ nlL _).length; simp only [List.length_append]; omega
theorem nl_split (s : List UInt8) : (nlL (splitBy 10 s)).length = s.length + 1 := by
  rw [nl_join _ (splitBy_ne 10 s), join_split]; simp
/-- The lines that are steps, of the first j. -/
def keepL (ls : List (List UInt8)) : List (List UInt8) := ls.filter (fun l => !skipL l)
theorem keep_le (ls : List (List UInt8)) (s : List UInt8) (h : ls = splitBy 10 s) (j : Nat) : (nlL (keepL (ls.take j))).length ≤ s.length + 1 := by
  rw [← nl_split s, ← h]
  exact nl_sub ((List.filter_sublist).trans (List.take_sublist j ls))
theorem keep_skip (ls : List (List UInt8)) (j : Nat) (h : j < ls.length) (hs : skipL ls[j] = true) : keepL (ls.take (j + 1)) = keepL (ls.take j) := by
  unfold keepL
  rw [List.take_succ_eq_append_getElem h, List.filter_append]; simp [hs]
theorem keep_keep (ls : List (List UInt8)) (j : Nat) (h : j < ls.length) (hs : skipL ls[j] = false) : keepL (ls.take (j + 1)) = keepL (ls.take j) ++ [ls[j]] := by
  unfold keepL
  rw [List.take_succ_eq_append_getElem h, List.filter_append]; simp [hs]
theorem line_snoc (xs : List Stp) (j : Nat) (h : j < xs.length) : (xs.take (j + 1)).map lineL = (xs.take j).map lineL ++ [lineL xs[j]] := by
  rw [List.take_succ_eq_append_getElem h, List.map_append]; rfl
theorem lines_le (xs : List Stp) (s : List UInt8) (h : xs.map lineL = keepL (splitBy 10 s)) (j : Nat) : (nlL ((xs.take j).map lineL)).length ≤ s.length + 1 := by
  rw [← nl_split s, List.map_take, h]
  exact nl_sub ((List.take_sublist _ _).trans List.filter_sublist)
end Go.Proofs.YtgilbdhoddmpbaaDoor
