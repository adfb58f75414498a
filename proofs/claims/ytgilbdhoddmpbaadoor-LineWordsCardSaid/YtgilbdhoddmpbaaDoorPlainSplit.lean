/-
  Texts cut at a byte, and joined; plainly.
-/
import Derived.Lib.SplitLaws
import Derived.Lib.IndexBytes
set_option linter.unusedVariables false
set_option linter.unusedSimpArgs false
namespace Go.Proofs.YtgilbdhoddmpbaaDoor
open Go

def splitBy (c : UInt8) : List UInt8 → List (List UInt8)
  | [] => [[]]
  | b :: t => if b = c then [] :: splitBy c t else match splitBy c t with
    | [] => [[b]]
    | w :: ws => (b :: w) :: ws
def joinBy (c : UInt8) : List (List UInt8) → List UInt8
  | [] => []
  | [w] => w
  | w :: ws => w ++ c :: joinBy c ws
theorem splitBy_ne (c : UInt8) (l : List UInt8) : splitBy c l ≠ [] := by
  cases l with
  | nil => simp [splitBy]
  | cons b t =>
    unfold splitBy
    split
    · simp
    · split <;> simp
theorem splitBy_hit (c : UInt8) (t : List UInt8) : splitBy c (c :: t) = [] :: splitBy c t := by
  show (if c = c then [] :: splitBy c t else _) = _
  rw [if_pos rfl]
theorem splitBy_miss {c b : UInt8} (h : b ≠ c) (t : List UInt8) (w : List UInt8) (ws : List (List UInt8)) (hs : splitBy c t = w :: ws) : splitBy c (b :: t) = (b :: w) :: ws := by
  unfold splitBy; rw [if_neg h, hs]
theorem splitBy_app (c : UInt8) : ∀ (a t : List UInt8), c ∉ a → splitBy c (a ++ c :: t) = a :: splitBy c t
  | [], t, _ => splitBy_hit c t
  | b :: a, t, h => by
    have hb : b ≠ c := fun e => h (by rw [e]; simp)
    exact splitBy_miss hb _ _ _ (splitBy_app c a t (fun x => h (by simp [x])))
theorem splitBy_self (c : UInt8) : ∀ (a : List UInt8), c ∉ a → splitBy c a = [a]
  | [], _ => rfl
  | b :: a, h => by
    have hb : b ≠ c := fun e => h (by rw [e]; simp)
    exact splitBy_miss hb _ _ _ (splitBy_self c a (fun x => h (by simp [x])))
theorem split_join (c : UInt8) : ∀ (ws : List (List UInt8)), ws ≠ [] → (∀ w ∈ ws, c ∉ w) → splitBy c (joinBy c ws) = ws
  | [], h, _ => absurd rfl h
  | [w], _, h => splitBy_self c w (h w (by simp))
  | w :: v :: ws, _, h => by
    show splitBy c (w ++ c :: joinBy c (v :: ws)) = _
    rw [splitBy_app c _ _ (h w (by simp)), split_join c (v :: ws) (by simp) (fun x hx => h x (by simp [hx]))]
theorem join_cons (c : UInt8) (w : List UInt8) {ws : List (List UInt8)} (h : ws ≠ []) : joinBy c (w :: ws) = w ++ c :: joinBy c ws := by
  cases ws with
  | nil => exact absurd rfl h
  | cons v t => rfl
theorem join_split (c : UInt8) : ∀ (l : List UInt8), joinBy c (splitBy c l) = l
  | [] => rfl
  | b :: t => by
    have ih := join_split c t
    by_cases h : b = c
    · subst h
      rw [splitBy_hit, join_cons b [] (splitBy_ne b t), ih]; rfl
    · cases hs : splitBy c t with
      | nil => exact absurd hs (splitBy_ne c t)
      | cons w ws =>
        rw [splitBy_miss h t w ws hs]
        rw [hs] at ih
        cases ws with
        | nil => show b :: w = _; rw [show joinBy c [w] = w from rfl] at ih; rw [ih]
        | cons v vs =>
          rw [join_cons c _ (by simp)] at ih ⊢
          rw [← ih]; rfl
theorem splitBy_free (c : UInt8) : ∀ (l : List UInt8), ∀ w ∈ splitBy c l, c ∉ w
  | [], w, h => by simp [splitBy] at h; subst h; simp
  | b :: t, w, h => by
    have ih := splitBy_free c t
    by_cases hb : b = c
    · subst hb
      rw [splitBy_hit] at h
      rcases List.mem_cons.1 h with e | e
      · subst e; simp
      · exact ih w e
    · cases hs : splitBy c t with
      | nil => exact absurd hs (splitBy_ne c t)
      | cons v vs =>
        rw [splitBy_miss hb t v vs hs] at h
        rw [hs] at ih
        rcases List.mem_cons.1 h with e | e
        · subst e
          intro hx
          rcases List.mem_cons.1 hx with e | e
          · exact hb e.symm
          · exact ih v (by simp) e
        · exact ih w (by simp [e])
theorem splitBy_length (c : UInt8) : ∀ (l : List UInt8), (splitBy c l).length = l.count c + 1
  | [] => rfl
  | b :: t => by
    have ih := splitBy_length c t
    by_cases hb : b = c
    · subst hb; rw [splitBy_hit]; simp [ih]
    · cases hs : splitBy c t with
      | nil => exact absurd hs (splitBy_ne c t)
      | cons v vs =>
        rw [splitBy_miss hb t v vs hs, List.count_cons_of_ne hb]
        rw [hs] at ih; simpa using ih
/-- Each piece is no longer than the text. -/
theorem splitBy_le (c : UInt8) : ∀ (l : List UInt8), ∀ w ∈ splitBy c l, w.length ≤ l.length
  | [], w, h => by simp [splitBy] at h; subst h; simp
  | b :: t, w, h => by
    have ih := splitBy_le c t
    by_cases hb : b = c
    · subst hb
      rw [splitBy_hit] at h
      rcases List.mem_cons.1 h with e | e
      · subst e; simp
      · have := ih w e; simp; omega
    · cases hs : splitBy c t with
      | nil => exact absurd hs (splitBy_ne c t)
      | cons v vs =>
        rw [splitBy_miss hb t v vs hs] at h
        rw [hs] at ih
        rcases List.mem_cons.1 h with e | e
        · subst e; have := ih v (by simp); simp; omega
        · have := ih w (by simp [e]); simp; omega
theorem indexByte_mem (c : UInt8) : ∀ t : List UInt8, c ∈ t → 0 ≤ Lib.indexByte t c
  | [], h => by cases h
  | b :: t, h => by
    unfold Lib.indexByte
    by_cases hb : b = c
    · rw [if_pos (by simpa using hb)]; omega
    · rw [if_neg (by simpa using hb)]
      have ih := indexByte_mem c t (by rcases List.mem_cons.1 h with e | e; exact absurd e.symm hb; exact e)
      rw [if_neg (by simp; omega)]; omega
theorem splitK_by (c : UInt8) : ∀ (n : Nat) (l : List UInt8), l.length ≤ n → Lib.splitK [c] 0 (l.count c) l = splitBy c l
  | n, [], _ => rfl
  | 0, b :: t, h => by simp at h
  | n + 1, b :: t, h => by
    by_cases hb : b = c
    · subst hb
      rw [List.count_cons_self, splitBy_hit]
      unfold Lib.splitK
      have hi : Lib.index (b :: t) [b] = 0 := by rw [Lib.index_one]; simp [Lib.indexByte]
      rw [hi, if_neg (by decide)]
      simp only [Int.toNat_zero, Nat.zero_add, List.take_zero, List.length_singleton, List.drop_succ_cons, List.drop_zero]
      rw [splitK_by b n t (by simp at h; omega)]
    · rw [List.count_cons_of_ne hb]
      have ih := splitK_by c n t (by simp at h; omega)
      cases hc : t.count c with
      | zero =>
        have hn : c ∉ t := List.count_eq_zero.1 hc
        rw [splitBy_self c (b :: t) (by simp [hn]; exact fun e => hb e.symm)]
        rfl
      | succ k =>
        rw [hc] at ih
        have hbi : Lib.index (b :: t) [c] = Lib.index t [c] + 1 ∧ 0 ≤ Lib.index t [c] := by
          rw [Lib.index_one, Lib.index_one]
          have hm : c ∈ t := List.count_pos_iff.1 (by omega)
          have hp := indexByte_mem c t hm
          refine ⟨?_, hp⟩
          show (if b == c then 0 else if Lib.indexByte t c == -1 then -1 else Lib.indexByte t c + 1) = _
          rw [if_neg (by simpa using hb), if_neg (by simp; omega)]
        unfold Lib.splitK at ih ⊢
        rw [hbi.1]
        have hne : ¬ (Lib.index t [c] == -1) = true := by simp; omega
        have hne2 : ¬ (Lib.index t [c] + 1 == -1) = true := by simp; omega
        rw [if_neg hne] at ih
        rw [if_neg hne2]
        have e1 : (Lib.index t [c] + 1).toNat = (Lib.index t [c]).toNat + 1 := by omega
        rw [e1]
        rw [splitBy_miss hb t _ _ ih.symm]
        rfl
/-- What strings.Split leaves, at one byte. -/
theorem splitB_by (c : UInt8) (s : ByteArray) : (Lib.splitB ⟨#[c]⟩ 0 (Lib.countB s ⟨#[c]⟩) s).map (·.data.toList) = splitBy c s.data.toList := by
  rw [Lib.splitB_data]
  show Lib.splitK [c] 0 (Lib.count s.data.toList [c]) s.data.toList = _
  rw [Lib.count_one]
  exact splitK_by c _ _ (Nat.le_refl _)
end Go.Proofs.YtgilbdhoddmpbaaDoor
