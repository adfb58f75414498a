/-
  Plain laws: bytes written in hexadecimal.
  Plain laws: a signal's text; a request's check.
  Texts cut at a byte, and joined; plainly.
  Plain laws: hexadecimal digits read back.
  A script's lines, letter by letter; plainly.
  A number's digits, plainly: what a walk over them knows.
  A script's lines, one behind the other; plainly.
  What each step of a script has; plainly.
-/
import Derived.Lib.UnsafeStr
import Derived.Lib.Strings
import Derived.Lib.ItoaNum
import Derived.Lib.SplitLaws
import Derived.Lib.IndexBytes
import Derived.Lib.Bytealg
import Derived.Lib.ItoaMem
import Derived.KernelRfl
set_option linter.unusedVariables false
set_option linter.unusedSimpArgs false
section
namespace Go.Proofs.YtlkceignfhnpoaaGreatDoor
open Go

def hexDigit (d : Nat) : UInt8 := if d < 10 then UInt8.ofNat (48 + d) else UInt8.ofNat (87 + d)
def hexBody : List UInt8 → List UInt8
  | [] => []
  | c :: t => hexDigit (c.toNat / 16) :: hexDigit (c.toNat % 16) :: hexBody t
def hexOf (l : List UInt8) : List UInt8 := if l = [] then [45] else hexBody l

theorem hexDigit_lo (d : Nat) (h : d < 10) : hexDigit d = 48 + UInt8.ofNat d := by unfold hexDigit; rw [if_pos h]; simp
theorem hexDigit_hi (d : Nat) (h : 10 ≤ d) : hexDigit d = 87 + UInt8.ofNat d := by unfold hexDigit; rw [if_neg (by omega)]; simp
theorem hexBody_append (a b : List UInt8) : hexBody (a ++ b) = hexBody a ++ hexBody b := by
  induction a with
  | nil => rfl
  | cons c t ih => simp [hexBody, ih]
theorem hexBody_length (a : List UInt8) : (hexBody a).length = 2 * a.length := by
  induction a with
  | nil => rfl
  | cons c t ih => simp [hexBody, ih]; omega
theorem take_snoc (s : ByteArray) (k : Nat) (h : k < s.size) : s.data.toList.take (k + 1) = s.data.toList.take k ++ [s[k]] := by
  rw [List.take_succ_eq_append_getElem (by simpa using h)]; rfl
theorem hexOf_length (a : List UInt8) : (hexOf a).length ≤ 2 * a.length + 1 := by
  unfold hexOf; split
  · simp
  · rw [hexBody_length]; omega
theorem hexBody_take (s : ByteArray) (k : Nat) (h : k < s.size) : hexBody (s.data.toList.take (k + 1)) = hexBody (s.data.toList.take k) ++ [hexDigit (s[k].toNat / 16)] ++ [hexDigit (s[k].toNat % 16)] := by
  rw [take_snoc s k h, hexBody_append]; simp [hexBody]
theorem digits_at : ∀ d : Fin 16, ((⟨#[48, 49, 50, 51, 52, 53, 54, 55, 56, 57, 97, 98, 99, 100, 101, 102]⟩ : ByteArray)[d.val]'(d.isLt)) = hexDigit d.val := by decide
theorem digits_lt (d : Nat) (h : d < 16) (h' : d < (⟨#[48, 49, 50, 51, 52, 53, 54, 55, 56, 57, 97, 98, 99, 100, 101, 102]⟩ : ByteArray).size) : ((⟨#[48, 49, 50, 51, 52, 53, 54, 55, 56, 57, 97, 98, 99, 100, 101, 102]⟩ : ByteArray)[d]'h') = hexDigit d := digits_at ⟨d, h⟩
end Go.Proofs.YtlkceignfhnpoaaGreatDoor
end
section
namespace Go.Proofs.YtlkceignfhnpoaaGreatDoor
open Go

def sigWord (k : Int) : List UInt8 :=
  if k = 1 then [101, 115, 116, 97, 98, 108, 105, 115, 104] else
  if k = 2 then [101, 115, 116, 97, 98, 108, 105, 115, 104, 101, 100] else
  if k = 3 then [114, 101, 108, 101, 97, 115, 101] else
  if k = 4 then [114, 101, 108, 101, 97, 115, 101, 100] else
  if k = 5 then [114, 101, 115, 121, 110, 99] else
  if k = 6 then [114, 101, 115, 121, 110, 99, 101, 100] else
  if k = 7 then [114, 101, 99, 111, 118, 101, 114] else
  if k = 8 then [100, 97, 116, 97] else
  if k = 9 then [117, 110, 105, 116] else
  if k = 10 then [109, 97, 110, 97, 103, 101] else
  if k = 11 then [114, 101, 116, 114, 105, 101, 118, 101, 100] else
  if k = 12 then [101, 114, 114, 111, 114] else []
theorem iteLen {c : Prop} [Decidable c] {a b : List UInt8} (ha : a.length ≤ 11) (hb : b.length ≤ 11) : (if c then a else b).length ≤ 11 := by split <;> assumption
theorem sigWord_length (k : Int) : (sigWord k).length ≤ 11 := by
  unfold sigWord; repeat' (refine iteLen ?_ ?_)
  all_goals decide
def sigText (k : Int) (data : List UInt8) (self : Bool) (code : Nat) (n : Int) : List UInt8 :=
  if k < 1 ∨ 12 < k then [] else
  if k = 3 then sigWord 3 ++ (if self then [32, 115, 101, 108, 102, 32] else [32, 117, 115, 101, 114, 32]) ++ hexOf data else
  if k = 1 ∨ k = 5 ∨ (8 ≤ k ∧ k ≤ 11) then sigWord k ++ [32] ++ hexOf data else
  if k = 12 then sigWord 12 ++ [32, code.toUInt8] ++ (if code = 86 then [32] ++ Lib.itoa n else []) else sigWord k

def reqMost (kind : Int) : Nat := if kind = 1 ∨ kind = 3 ∨ kind = 4 then 64 else if 7 ≤ kind ∧ kind ≤ 9 then 200 else 0
def reqCheck (kind : Int) (len : Nat) (n : Int) : Int :=
  if kind < 1 ∨ 11 < kind then 10 else
  if 0 < reqMost kind ∧ reqMost kind < len then 6 else
  if reqMost kind = 0 ∧ len ≠ 0 then 1 else
  if kind ≠ 10 ∧ n ≠ 0 then 1 else
  if kind = 10 ∧ (n < 1 ∨ 64 < n) then 1 else 0
end Go.Proofs.YtlkceignfhnpoaaGreatDoor
end
section
namespace Go.Proofs.YtlkceignfhnpoaaGreatDoor
open Go

def splitBy (c : UInt8) : List UInt8 → List (List UInt8)
  | [] => [[]]
  | b :: t => if b = c then [] :: splitBy c t else match splitBy c t with
    | [] => [[b]]
    | w :: ws => (b :: w) :: ws
def joinBy (c : UInt8) : List (List UInt8) → List UInt8
  | [] => []
  | [w] => w
  | w :: ws => w ++ c :: joinBy c ws
theorem splitBy_ne (c : UInt8) (l : List UInt8) : splitBy c l ≠ [] := by
  cases l with
  | nil => simp [splitBy]
  | cons b t =>
    unfold splitBy
    split
    · simp
    · split <;> simp
theorem splitBy_hit (c : UInt8) (t : List UInt8) : splitBy c (c :: t) = [] :: splitBy c t := by
  show (if c = c then [] :: splitBy c t else _) = _
  rw [if_pos rfl]
theorem splitBy_miss {c b : UInt8} (h : b ≠ c) (t : List UInt8) (w : List UInt8) (ws : List (List UInt8)) (hs : splitBy c t = w :: ws) : splitBy c (b :: t) = (b :: w) :: ws := by
  unfold splitBy; rw [if_neg h, hs]
theorem splitBy_app (c : UInt8) : ∀ (a t : List UInt8), c ∉ a → splitBy c (a ++ c :: t) = a :: splitBy c t
  | [], t, _ => splitBy_hit c t
  | b :: a, t, h => by
    have hb : b ≠ c := fun e => h (by rw [e]; simp)
    exact splitBy_miss hb _ _ _ (splitBy_app c a t (fun x => h (by simp [x])))
theorem splitBy_self (c : UInt8) : ∀ (a : List UInt8), c ∉ a → splitBy c a = [a]
  | [], _ => rfl
  | b :: a, h => by
    have hb : b ≠ c := fun e => h (by rw [e]; simp)
    exact splitBy_miss hb _ _ _ (splitBy_self c a (fun x => h (by simp [x])))
theorem split_join (c : UInt8) : ∀ (ws : List (List UInt8)), ws ≠ [] → (∀ w ∈ ws, c ∉ w) → splitBy c (joinBy c ws) = ws
  | [], h, _ => absurd rfl h
  | [w], _, h => splitBy_self c w (h w (by simp))
  | w :: v :: ws, _, h => by
    show splitBy c (w ++ c :: joinBy c (v :: ws)) = _
    rw [splitBy_app c _ _ (h w (by simp)), split_join c (v :: ws) (by simp) (fun x hx => h x (by simp [hx]))]
theorem join_cons (c : UInt8) (w : List UInt8) {ws : List (List UInt8)} (h : ws ≠ []) : joinBy c (w :: ws) = w ++ c :: joinBy c ws := by
  cases ws with
  | nil => exact absurd rfl h
  | cons v t => rfl
theorem join_split (c : UInt8) : ∀ (l : List UInt8), joinBy c (splitBy c l) = l
  | [] => rfl
  | b :: t => by
    have ih := join_split c t
    by_cases h : b = c
    · subst h
      rw [splitBy_hit, join_cons b [] (splitBy_ne b t), ih]; rfl
    · cases hs : splitBy c t with
      | nil => exact absurd hs (splitBy_ne c t)
      | cons w ws =>
        rw [splitBy_miss h t w ws hs]
        rw [hs] at ih
        cases ws with
        | nil => show b :: w = _; rw [show joinBy c [w] = w from rfl] at ih; rw [ih]
        | cons v vs =>
          rw [join_cons c _ (by simp)] at ih ⊢
          rw [← ih]; rfl
theorem splitBy_free (c : UInt8) : ∀ (l : List UInt8), ∀ w ∈ splitBy c l, c ∉ w
  | [], w, h => by simp [splitBy] at h; subst h; simp
  | b :: t, w, h => by
    have ih := splitBy_free c t
    by_cases hb : b = c
    · subst hb
      rw [splitBy_hit] at h
      rcases List.mem_cons.1 h with e | e
      · subst e; simp
      · exact ih w e
    · cases hs : splitBy c t with
      | nil => exact absurd hs (splitBy_ne c t)
      | cons v vs =>
        rw [splitBy_miss hb t v vs hs] at h
        rw [hs] at ih
        rcases List.mem_cons.1 h with e | e
        · subst e
          intro hx
          rcases List.mem_cons.1 hx with e | e
          · exact hb e.symm
          · exact ih v (by simp) e
        · exact ih w (by simp [e])
theorem splitBy_length (c : UInt8) : ∀ (l : List UInt8), (splitBy c l).length = l.count c + 1
  | [] => rfl
  | b :: t => by
    have ih := splitBy_length c t
    by_cases hb : b = c
    · subst hb; rw [splitBy_hit]; simp [ih]
    · cases hs : splitBy c t with
      | nil => exact absurd hs (splitBy_ne c t)
      | cons v vs =>
        rw [splitBy_miss hb t v vs hs, List.count_cons_of_ne hb]
        rw [hs] at ih; simpa using ih
/-- Each piece is no longer than the text. -/
theorem splitBy_le (c : UInt8) : ∀ (l : List UInt8), ∀ w ∈ splitBy c l, w.length ≤ l.length
  | [], w, h => by simp [splitBy] at h; subst h; simp
  | b :: t, w, h => by
    have ih := splitBy_le c t
    by_cases hb : b = c
    · subst hb
      rw [splitBy_hit] at h
      rcases List.mem_cons.1 h with e | e
      · subst e; simp
      · have := ih w e; simp; omega
    · cases hs : splitBy c t with
      | nil => exact absurd hs (splitBy_ne c t)
      | cons v vs =>
        rw [splitBy_miss hb t v vs hs] at h
        rw [hs] at ih
        rcases List.mem_cons.1 h with e | e
        · subst e; have := ih v (by simp); simp; omega
        · have := ih w (by simp [e]); simp; omega
theorem indexByte_mem (c : UInt8) : ∀ t : List UInt8, c ∈ t → 0 ≤ Lib.indexByte t c
  | [], h => by cases h
  | b :: t, h => by
    unfold Lib.indexByte
    by_cases hb : b = c
    · rw [if_pos (by simpa using hb)]; omega
    · rw [if_neg (by simpa using hb)]
      have ih := indexByte_mem c t (by rcases List.mem_cons.1 h with e | e; exact absurd e.symm hb; exact e)
      rw [if_neg (by simp; omega)]; omega
theorem splitK_by (c : UInt8) : ∀ (n : Nat) (l : List UInt8), l.length ≤ n → Lib.splitK [c] 0 (l.count c) l = splitBy c l
  | n, [], _ => rfl
  | 0, b :: t, h => by simp at h
  | n + 1, b :: t, h => by
    by_cases hb : b = c
    · subst hb
      rw [List.count_cons_self, splitBy_hit]
      unfold Lib.splitK
      have hi : Lib.index (b :: t) [b] = 0 := by rw [Lib.index_one]; simp [Lib.indexByte]
      rw [hi, if_neg (by decide)]
      simp only [Int.toNat_zero, Nat.zero_add, List.take_zero, List.length_singleton, List.drop_succ_cons, List.drop_zero]
      rw [splitK_by b n t (by simp at h; omega)]
    · rw [List.count_cons_of_ne hb]
      have ih := splitK_by c n t (by simp at h; omega)
      cases hc : t.count c with
      | zero =>
        have hn : c ∉ t := List.count_eq_zero.1 hc
        rw [splitBy_self c (b :: t) (by simp [hn]; exact fun e => hb e.symm)]
        rfl
      | succ k =>
        rw [hc] at ih
        have hbi : Lib.index (b :: t) [c] = Lib.index t [c] + 1 ∧ 0 ≤ Lib.index t [c] := by
          rw [Lib.index_one, Lib.index_one]
          have hm : c ∈ t := List.count_pos_iff.1 (by omega)
          have hp := indexByte_mem c t hm
          refine ⟨?_, hp⟩
          show (if b == c then 0 else if Lib.indexByte t c == -1 then -1 else Lib.indexByte t c + 1) = _
          rw [if_neg (by simpa using hb), if_neg (by simp; omega)]
        unfold Lib.splitK at ih ⊢
        rw [hbi.1]
        have hne : ¬ (Lib.index t [c] == -1) = true := by simp; omega
        have hne2 : ¬ (Lib.index t [c] + 1 == -1) = true := by simp; omega
        rw [if_neg hne] at ih
        rw [if_neg hne2]
        have e1 : (Lib.index t [c] + 1).toNat = (Lib.index t [c]).toNat + 1 := by omega
        rw [e1]
        rw [splitBy_miss hb t _ _ ih.symm]
        rfl
/-- What strings.Split leaves, at one byte. -/
theorem splitB_by (c : UInt8) (s : ByteArray) : (Lib.splitB ⟨#[c]⟩ 0 (Lib.countB s ⟨#[c]⟩) s).map (·.data.toList) = splitBy c s.data.toList := by
  rw [Lib.splitB_data]
  show Lib.splitK [c] 0 (Lib.count s.data.toList [c]) s.data.toList = _
  rw [Lib.count_one]
  exact splitK_by c _ _ (Nat.le_refl _)
end Go.Proofs.YtlkceignfhnpoaaGreatDoor
end
section
namespace Go.Proofs.YtlkceignfhnpoaaGreatDoor
open Go

def digVal (c : UInt8) : Int := if 48 ≤ c.toNat ∧ c.toNat ≤ 57 then (c.toNat : Int) - 48 else if 97 ≤ c.toNat ∧ c.toNat ≤ 102 then (c.toNat : Int) - 87 else -1
theorem digVal_lt (c : UInt8) : digVal c < 16 := by unfold digVal; split <;> (try split) <;> omega
theorem digVal_ge (c : UInt8) : -1 ≤ digVal c := by unfold digVal; split <;> (try split) <;> omega
def unBody : List UInt8 → Option (List UInt8)
  | [] => some []
  | [_] => none
  | a :: b :: t => if digVal a < 0 ∨ digVal b < 0 then none else (unBody t).map fun r => UInt8.ofNat ((digVal a).toNat * 16 + (digVal b).toNat) :: r
def unhexOf (l : List UInt8) : Option (List UInt8) := if l = [45] then some [] else if l = [] ∨ l.length % 2 ≠ 0 then none else unBody l

theorem indexByte_all : ∀ c : Fin 256, Lib.indexByte [48, 49, 50, 51, 52, 53, 54, 55, 56, 57, 97, 98, 99, 100, 101, 102] (UInt8.ofNat c.val) = digVal (UInt8.ofNat c.val) := by decide +kernel
theorem indexByte_dig (c : UInt8) : Lib.indexByte [48, 49, 50, 51, 52, 53, 54, 55, 56, 57, 97, 98, 99, 100, 101, 102] c = digVal c := by
  have h := indexByte_all ⟨c.toNat, c.toNat_lt⟩
  simpa using h
theorem digVal_hexDigit : ∀ d : Fin 16, digVal (hexDigit d.val) = d.val := by decide +kernel
theorem digVal_hex (d : Nat) (h : d < 16) : digVal (hexDigit d) = d := digVal_hexDigit ⟨d, h⟩
theorem hexDigit_digVal_all : ∀ c : Fin 256, 0 ≤ digVal (UInt8.ofNat c.val) → hexDigit (digVal (UInt8.ofNat c.val)).toNat = UInt8.ofNat c.val := by decide +kernel
theorem hexDigit_digVal (c : UInt8) (h : 0 ≤ digVal c) : hexDigit (digVal c).toNat = c := by
  have := hexDigit_digVal_all ⟨c.toNat, c.toNat_lt⟩
  simp at this
  exact this h

theorem unBody_hex (l : List UInt8) : unBody (hexBody l) = some l := by
  induction l with
  | nil => rfl
  | cons c t ih =>
    have hc := c.toNat_lt
    simp only [hexBody, unBody]
    rw [digVal_hex _ (by omega), digVal_hex _ (by omega), if_neg (by omega), ih]
    rw [Int.toNat_natCast, Int.toNat_natCast, Option.map_some, Nat.div_add_mod', UInt8.ofNat_toNat]
theorem hexBody_un : ∀ (l r : List UInt8), unBody l = some r → hexBody r = l
  | [], r, h => by simp [unBody] at h; subst h; rfl
  | [_], r, h => by simp [unBody] at h
  | a :: b :: t, r, h => by
    simp only [unBody] at h
    split at h
    · cases h
    · rename_i hn
      obtain ⟨r', hr', rfl⟩ := Option.map_eq_some_iff.1 h
      have ih := hexBody_un t r' hr'
      have h1 := digVal_lt a
      have h2 := digVal_lt b
      have e : (UInt8.ofNat ((digVal a).toNat * 16 + (digVal b).toNat)).toNat = (digVal a).toNat * 16 + (digVal b).toNat := by
        rw [UInt8.toNat_ofNat']; exact Nat.mod_eq_of_lt (by omega)
      simp only [hexBody, e, ih]
      rw [show ((digVal a).toNat * 16 + (digVal b).toNat) / 16 = (digVal a).toNat by omega, show ((digVal a).toNat * 16 + (digVal b).toNat) % 16 = (digVal b).toNat by omega, hexDigit_digVal a (by omega), hexDigit_digVal b (by omega)]
theorem unhex_hex (l : List UInt8) : unhexOf (hexOf l) = some l := by
  unfold hexOf unhexOf
  by_cases h : l = []
  · subst h; rfl
  · rw [if_neg h]
    have hl := hexBody_length l
    have hp : 0 < l.length := List.length_pos_iff.2 h
    rw [if_neg (by intro e; rw [e] at hl; simp at hl; omega), if_neg (by
      rintro (e | e)
      · rw [e] at hl; simp at hl; omega
      · omega)]
    exact unBody_hex l
theorem hex_unhex (l r : List UInt8) (h : unhexOf l = some r) : hexOf r = l := by
  unfold unhexOf at h
  split at h
  · rename_i e; cases h; subst e; rfl
  · split at h
    · cases h
    · rename_i h1 h2
      have := hexBody_un l r h
      unfold hexOf
      rw [if_neg]
      · exact this
      · intro e; subst e; exact h2 (Or.inl this.symm)

/-- Are these bytes, as they are written? -/
def isDig (c : UInt8) : Bool := !((c.toNat < 48 || 57 < c.toNat) && (c.toNat < 97 || 102 < c.toNat))
def writtenOf (l : List UInt8) : Bool := if l = [45] then true else l.all isDig && (l ≠ [] && l.length % 2 == 0)
theorem isDig_iff (c : UInt8) : isDig c = true ↔ 0 ≤ digVal c := by
  unfold isDig digVal
  simp only [Bool.not_eq_true', Bool.and_eq_false_iff, Bool.or_eq_false_iff, decide_eq_false_iff_not]
  split
  · omega
  · split <;> omega
theorem unBody_all : ∀ (l : List UInt8), l.length % 2 = 0 → l.all isDig = true → (unBody l).isSome = true
  | [], _, _ => rfl
  | [_], h, _ => by simp at h
  | a :: b :: t, h, hd => by
    simp only [List.all_cons, Bool.and_eq_true] at hd
    simp only [List.length_cons] at h
    have ih := unBody_all t (by omega) hd.2.2
    have ha := (isDig_iff a).1 hd.1
    have hb := (isDig_iff b).1 hd.2.1
    simp only [unBody]
    rw [if_neg (by omega)]
    simpa using ih
theorem written_none (l : List UInt8) (h : unhexOf l = none) : writtenOf l = false := by
  unfold unhexOf at h
  unfold writtenOf
  split at h
  · cases h
  · rename_i h1
    rw [if_neg h1]
    split at h
    · rename_i h2
      rcases h2 with rfl | h2
      · rfl
      · simp [h2]
    · rename_i h2
      cases hall : l.all isDig with
      | false => rfl
      | true =>
        have := unBody_all l (by simp only [not_or] at h2; omega) hall
        rw [h] at this; cases this
end Go.Proofs.YtlkceignfhnpoaaGreatDoor
end
section
namespace Go.Proofs.YtlkceignfhnpoaaGreatDoor
open Go

/-- The words of requests, with their kinds. -/
def askTab : List (List UInt8 × Int) :=
  [([101, 115, 116, 97, 98, 108, 105, 115, 104], 1), ([97, 99, 99, 101, 112, 116], 2), ([114, 101, 108, 101, 97, 115, 101], 3), ([114, 101, 115, 121, 110, 99], 4), ([114, 101, 115, 121, 110, 99, 101, 100], 5),
   ([114, 101, 99, 111, 118, 101, 114, 101, 100], 6), ([100, 97, 116, 97], 7), ([117, 110, 105, 116], 8), ([109, 97, 110, 97, 103, 101], 9), ([114, 101, 116, 114, 105, 101, 118, 101], 11)]
/-- A request's kind, by its word; 0: there is none such. -/
def askOf (w : List UInt8) : Int := ((askTab.find? (fun p => p.1 == w)).map (·.2)).getD 0
/-- The words of steps, with what each needs, letter by letter. -/
def needTab : List (List UInt8 × List UInt8) :=
  [([98, 111, 111, 107], []), ([116, 105, 99, 107], [78]), ([115, 101, 116, 116, 108, 101], [78]), ([108, 111, 111, 107], [69]), ([99, 97, 114, 114, 121], [69]), ([108, 111, 115, 101], [69]),
   ([116, 97, 107, 101], [69, 78]), ([98, 114, 105, 110, 103], [69, 72]), ([97, 115, 107], [69, 87, 72]), ([115, 112, 111, 105, 108], [69, 78, 78]), ([116, 105, 99, 107, 115], [78, 78, 78, 78, 78]), ([108, 105, 110, 107], [78, 78, 78, 78, 78, 78])]
def needOf (w : List UInt8) : Option (List UInt8) := (needTab.find? (fun p => p.1 == w)).map (·.2)
theorem ask_miss {w : List UInt8} (h : ∀ p ∈ askTab, p.1 ≠ w) : askOf w = 0 := by
  unfold askOf
  rw [List.find?_eq_none.2 (fun p hp => by simpa using h p hp)]; rfl
theorem need_miss {w : List UInt8} (h : ∀ p ∈ needTab, p.1 ≠ w) : needOf w = none := by
  unfold needOf
  rw [List.find?_eq_none.2 (fun p hp => by simpa using h p hp)]; rfl
theorem need_mem {w need : List UInt8} (h : needOf w = some need) : (w, need) ∈ needTab := by
  unfold needOf at h
  cases hf : needTab.find? (fun p => p.1 == w) with
  | none => rw [hf] at h; cases h
  | some p =>
    rw [hf] at h
    have h1 := List.mem_of_find?_eq_some hf
    have h2 : p.1 = w := by simpa using List.find?_some hf
    obtain ⟨a, b⟩ := p
    cases h; cases h2; exact h1
theorem ask_at : ∀ j : Fin 10, askOf (askTab[j.val]'(j.isLt)).1 = (askTab[j.val]'(j.isLt)).2 := by decide +kernel
theorem need_at : ∀ j : Fin 12, needOf (needTab[j.val]'(j.isLt)).1 = some (needTab[j.val]'(j.isLt)).2 := by decide +kernel
theorem need_good : ∀ p ∈ needTab, p.2.count 87 ≤ 1 ∧ p.2.count 72 ≤ 1 ∧ p.2.length ≤ 6 ∧ ∀ c ∈ p.2, c = 87 ∨ c = 72 ∨ c = 69 ∨ c = 78 := by decide +kernel
/-- The number that digits are. -/
def numGo : Nat → List UInt8 → Option Nat
  | acc, [] => some acc
  | acc, c :: t => if 48 ≤ c.toNat ∧ c.toNat ≤ 57 then numGo (10 * acc + (c.toNat - 48)) t else none
def numL (w : List UInt8) : Option Nat := match numGo 0 w with
  | some n => if Lib.decDigits n = w ∧ n ≤ 1099511627776 then some n else none
  | none => none
/-- A step. -/
structure Stp where
  word : List UInt8
  nums : List Int
  ask : List UInt8
  data : List UInt8
def takeL (c : UInt8) (w : List UInt8) (x : Stp) : Option Stp :=
  if c = 87 then (if askOf w = 0 then none else some { x with ask := w })
  else if c = 72 then (unhexOf w).map fun d => { x with data := d }
  else match numL w with
    | some n => if c = 69 ∧ 1 < n then none else some { x with nums := x.nums ++ [(n : Int)] }
    | none => none
def fieldsL : List UInt8 → List (List UInt8) → Stp → Option Stp
  | [], _, x => some x
  | _ :: _, [], _ => none
  | c :: t, w :: ws, x => match takeL c w x with
    | none => none
    | some y => fieldsL t ws y
def stepW (ws : List (List UInt8)) : Option Stp := match needOf (ws.getD 0 []) with
  | none => none
  | some need => if ws.length = 1 + need.length then fieldsL need ws.tail ⟨ws.getD 0 [], [], [], []⟩ else none
def stepL (s : List UInt8) : Option Stp := stepW (splitBy 32 s)
def skipL (l : List UInt8) : Bool := decide (l = []) || decide (l.head? = some 35)
def scanL : Nat → List Stp → List (List UInt8) → List Stp × Nat × Bool
  | _, out, [] => (out, 0, true)
  | n, out, l :: t => if skipL l = true then scanL (n + 1) out t else match stepL l with
    | none => ([], n + 1, false)
    | some x => if out.length = 400 then ([], n + 1, false) else scanL (n + 1) (out ++ [x]) t
def parseL (s : List UInt8) : List Stp × Nat × Bool := scanL 0 [] (splitBy 10 s)
def fieldsT : List UInt8 → List Int → Stp → List (List UInt8)
  | [], _, _ => []
  | c :: t, ns, x => if c = 87 then x.ask :: fieldsT t ns x else if c = 72 then hexOf x.data :: fieldsT t ns x else Lib.itoa (ns.headD 0) :: fieldsT t ns.tail x
def lineL (x : Stp) : List UInt8 := joinBy 32 (x.word :: fieldsT ((needOf x.word).getD []) x.nums x)

theorem numGo_le : ∀ (t : List UInt8) (acc n : Nat), numGo acc t = some n → acc ≤ n
  | [], acc, n, h => by simp [numGo] at h; omega
  | c :: t, acc, n, h => by
    unfold numGo at h
    split at h
    · have := numGo_le t _ _ h; omega
    · cases h
theorem numGo_app : ∀ (a b : List UInt8) (acc x : Nat), numGo acc a = some x → numGo acc (a ++ b) = numGo x b
  | [], b, acc, x, h => by simp [numGo] at h; subst h; rfl
  | c :: t, b, acc, x, h => by
    unfold numGo at h
    split at h
    · rename_i hc
      show (if 48 ≤ c.toNat ∧ c.toNat ≤ 57 then numGo (10 * acc + (c.toNat - 48)) (t ++ b) else none) = _
      rw [if_pos hc, numGo_app t b _ x h]
    · cases h
theorem numGo_snoc (a : List UInt8) (acc x : Nat) (c : UInt8) (h : numGo acc a = some x) : numGo acc (a ++ [c]) = if 48 ≤ c.toNat ∧ c.toNat ≤ 57 then some (10 * x + (c.toNat - 48)) else none := by
  rw [numGo_app a [c] acc x h]; rfl
theorem numL_itoa {w : List UInt8} {n : Nat} (h : numL w = some n) : Lib.itoa (n : Int) = w ∧ n ≤ 1099511627776 := by
  unfold numL at h
  split at h
  · split at h
    · rename_i hc; cases h
      exact ⟨by unfold Lib.itoa; rw [if_neg (by omega)]; simpa using hc.1, hc.2⟩
    · cases h
  · cases h
theorem take_word {c : UInt8} {w : List UInt8} {x y : Stp} (h : takeL c w x = some y) : y.word = x.word := by
  unfold takeL at h
  split at h
  · split at h <;> cases h; rfl
  · split at h
    · cases hu : unhexOf w with
      | none => rw [hu] at h; cases h
      | some d => rw [hu] at h; cases h; rfl
    · split at h
      · split at h <;> cases h; rfl
      · cases h
theorem take_ask {c : UInt8} {w : List UInt8} {x y : Stp} (hc : c ≠ 87) (h : takeL c w x = some y) : y.ask = x.ask := by
  unfold takeL at h
  rw [if_neg hc] at h
  split at h
  · cases hu : unhexOf w with
    | none => rw [hu] at h; cases h
    | some d => rw [hu] at h; cases h; rfl
  · split at h
    · split at h <;> cases h; rfl
    · cases h
theorem take_data {c : UInt8} {w : List UInt8} {x y : Stp} (hc : c ≠ 72) (h : takeL c w x = some y) : y.data = x.data := by
  unfold takeL at h
  split at h
  · split at h <;> cases h; rfl
  · split at h
    · split at h <;> cases h; rfl
    · cases h
theorem fields_keep : ∀ (need : List UInt8) (ws : List (List UInt8)) (x y : Stp), fieldsL need ws x = some y →
    y.word = x.word ∧ (87 ∉ need → y.ask = x.ask) ∧ (72 ∉ need → y.data = x.data)
  | [], ws, x, y, h => by simp [fieldsL] at h; subst h; exact ⟨rfl, fun _ => rfl, fun _ => rfl⟩
  | c :: t, [], x, y, h => by simp [fieldsL] at h
  | c :: t, w :: ws, x, y, h => by
    unfold fieldsL at h
    split at h
    · cases h
    · rename_i z hz
      obtain ⟨h1, h2, h3⟩ := fields_keep t ws z y h
      refine ⟨h1.trans (take_word hz), fun hn => ?_, fun hn => ?_⟩
      · simp at hn
        exact (h2 hn.2).trans (take_ask (fun e => hn.1 e.symm) hz)
      · simp at hn
        exact (h3 hn.2).trans (take_data (fun e => hn.1 e.symm) hz)
theorem fields_back : ∀ (need : List UInt8) (ws : List (List UInt8)) (x y : Stp), fieldsL need ws x = some y → ws.length = need.length → need.count 87 ≤ 1 → need.count 72 ≤ 1 →
    ∃ ns, y.nums = x.nums ++ ns ∧ fieldsT need ns y = ws
  | [], [], x, y, h, _, _, _ => by simp [fieldsL] at h; subst h; exact ⟨[], by simp, rfl⟩
  | [], _ :: _, x, y, h, hl, _, _ => by simp at hl
  | c :: t, [], x, y, h, _, _, _ => by simp [fieldsL] at h
  | c :: t, w :: ws, x, y, h, hl, h87, h72 => by
    unfold fieldsL at h
    split at h
    · cases h
    · rename_i z hz
      have ha : t.count 87 ≤ 1 := by rw [List.count_cons] at h87; omega
      have hb : t.count 72 ≤ 1 := by rw [List.count_cons] at h72; omega
      obtain ⟨ns, h1, h2⟩ := fields_back t ws z y h (by simpa using hl) ha hb
      obtain ⟨k1, k2, k3⟩ := fields_keep t ws z y h
      by_cases e87 : c = 87
      · subst e87
        have hn : (87 : UInt8) ∉ t := by
          intro hm
          have := List.count_pos_iff.2 hm
          rw [List.count_cons_self] at h87; omega
        unfold takeL at hz
        rw [if_pos rfl] at hz
        split at hz
        · cases hz
        · cases hz
          exact ⟨ns, h1, by unfold fieldsT; rw [if_pos rfl, h2, k2 hn]⟩
      · by_cases e72 : c = 72
        · subst e72
          have hn : (72 : UInt8) ∉ t := by
            intro hm
            have := List.count_pos_iff.2 hm
            rw [List.count_cons_self] at h72; omega
          unfold takeL at hz
          rw [if_neg e87, if_pos rfl] at hz
          cases hu : unhexOf w with
          | none => rw [hu] at hz; cases hz
          | some d =>
            rw [hu] at hz; cases hz
            exact ⟨ns, h1, by unfold fieldsT; rw [if_neg e87, if_pos rfl, h2, k3 hn, hex_unhex w d hu]⟩
        · unfold takeL at hz
          rw [if_neg e87, if_neg e72] at hz
          split at hz
          · rename_i n hu
            split at hz
            · cases hz
            · cases hz
              refine ⟨(n : Int) :: ns, by rw [h1]; simp, ?_⟩
              unfold fieldsT
              rw [if_neg e87, if_neg e72]
              show Lib.itoa (n : Int) :: fieldsT t ns y = _
              rw [h2, (numL_itoa hu).1]
          · cases hz
theorem need_once (w need : List UInt8) (h : needOf w = some need) : need.count 87 ≤ 1 ∧ need.count 72 ≤ 1 :=
  ⟨(need_good _ (need_mem h)).1, (need_good _ (need_mem h)).2.1⟩
theorem step_line (s : List UInt8) (x : Stp) (h : stepL s = some x) : lineL x = s := by
  unfold stepL stepW at h
  have hj := join_split 32 s
  have hne := splitBy_ne 32 s
  generalize splitBy 32 s = ws at h hj hne
  cases ws with
  | nil => exact absurd rfl hne
  | cons w ws =>
    split at h
    · cases h
    · rename_i need hneed
      split at h
      · rename_i hl
        obtain ⟨h1, h2⟩ := need_once _ _ hneed
        simp only [List.tail_cons, List.length_cons, List.getD_cons_zero] at h hl hneed
        obtain ⟨ns, e1, e2⟩ := fields_back need ws _ x h (by omega) h1 h2
        obtain ⟨k1, -, -⟩ := fields_keep need ws _ x h
        unfold lineL
        rw [k1, hneed]
        simp only [List.nil_append] at e1
        rw [e1]
        simp only [Option.getD_some]
        rw [e2, hj]
      · cases h
end Go.Proofs.YtlkceignfhnpoaaGreatDoor
end
section
namespace Go.Proofs.YtlkceignfhnpoaaGreatDoor
open Go

theorem dd_small (d : Nat) (h : d < 10) : Lib.decDigits d = [48 + UInt8.ofNat d] := by rw [Lib.decDigits, dif_pos h]; simp
theorem dd_step (x d : Nat) (hx : 0 < x) (hd : d < 10) : Lib.decDigits (10 * x + d) = Lib.decDigits x ++ [48 + UInt8.ofNat d] := by
  rw [Lib.decDigits, dif_neg (by omega), show (10 * x + d) / 10 = x by omega, show (10 * x + d) % 10 = d by omega]; simp
theorem dd_head : ∀ n : Nat, 0 < n → (Lib.decDigits n).head? ≠ some 48 ∧ Lib.decDigits n ≠ [] := by
  intro n
  induction n using Nat.strongRecOn with
  | _ n ih =>
    intro h
    by_cases h1 : n < 10
    · rw [dd_small n h1]
      have : n = 1 ∨ n = 2 ∨ n = 3 ∨ n = 4 ∨ n = 5 ∨ n = 6 ∨ n = 7 ∨ n = 8 ∨ n = 9 := by omega
      rcases this with rfl | rfl | rfl | rfl | rfl | rfl | rfl | rfl | rfl <;> decide
    · have e : n = 10 * (n / 10) + n % 10 := by omega
      rw [e, dd_step (n / 10) (n % 10) (by omega) (by omega)]
      obtain ⟨i1, i2⟩ := ih (n / 10) (by omega) (by omega)
      cases hd : Lib.decDigits (n / 10) with
      | nil => exact absurd hd i2
      | cons a t => rw [hd] at i1; simpa using i1
/-- What is known behind j bytes. -/
structure NumAt (l : List UInt8) (j x : Nat) : Prop where
  go : numGo 0 (l.take j) = some x
  can : (j = 0 ∧ x = 0) ∨ Lib.decDigits x = l.take j
theorem NumAt.zero (l : List UInt8) : NumAt l 0 0 := ⟨by simp [numGo], .inl ⟨rfl, rfl⟩⟩
theorem take_at {l : List UInt8} {j : Nat} (h : j < l.length) : l = l.take j ++ l[j] :: l.drop (j + 1) := by simp
theorem NumAt.rest {l : List UInt8} {j x : Nat} (h : NumAt l j x) : numGo 0 l = numGo x (l.drop j) := by
  have := numGo_app (l.take j) (l.drop j) 0 x h.go
  rwa [List.take_append_drop] at this
theorem NumAt.other {l : List UInt8} {j x : Nat} (h : NumAt l j x) (hj : j < l.length) (hc : l[j].toNat < 48 ∨ 57 < l[j].toNat) : numL l = none := by
  unfold numL
  rw [h.rest, List.drop_eq_getElem_cons hj]
  unfold numGo
  rw [if_neg (by omega)]
theorem NumAt.big {l : List UInt8} {j x : Nat} (h : NumAt l j x) (hx : 1099511627776 < x) : numL l = none := by
  unfold numL
  split
  · rename_i n hn
    rw [h.rest] at hn
    have := numGo_le _ _ _ hn
    rw [if_neg (by omega)]
  · rfl
theorem NumAt.lead {l : List UInt8} {j : Nat} (h : NumAt l j 0) (h0 : 0 < j) (hj : j < l.length) : numL l = none := by
  have ht : l.take j = [48] := by
    rcases h.can with ⟨e, _⟩ | e
    · omega
    · rw [← e]; exact dd_small 0 (by omega)
  unfold numL
  split
  · rename_i n hn
    rw [if_neg]
    rintro ⟨e, _⟩
    have hl : l = 48 :: l.drop j := by
      have := List.take_append_drop j l
      rw [ht] at this; exact this.symm
    by_cases hz : n = 0
    · subst hz
      rw [dd_small 0 (by omega)] at e
      have h1 : l.length = 1 := by rw [← e]; rfl
      omega
    · exact (dd_head n (by omega)).1 (by rw [e, hl]; rfl)
  · rfl
theorem NumAt.next {l : List UInt8} {j x : Nat} (h : NumAt l j x) (hj : j < l.length) (hc : 48 ≤ l[j].toNat ∧ l[j].toNat ≤ 57) (hz : j = 0 ∨ 0 < x) : NumAt l (j + 1) (10 * x + (l[j].toNat - 48)) := by
  have ht : l.take (j + 1) = l.take j ++ [l[j]] := by rw [List.take_succ_eq_append_getElem hj]
  have hb : (48 + UInt8.ofNat (l[j].toNat - 48) : UInt8) = l[j] := by
    apply UInt8.toNat_inj.1
    rw [UInt8.toNat_add]
    simp; omega
  refine ⟨by rw [ht, numGo_snoc _ _ _ _ h.go, if_pos hc], .inr ?_⟩
  rw [ht]
  by_cases hx : 0 < x
  · rcases h.can with ⟨_, e⟩ | e
    · omega
    · rw [dd_step x _ hx (by omega), e, hb]
  · have hx0 : x = 0 := by omega
    have hj0 : j = 0 := by omega
    subst hx0 hj0
    rw [show 10 * 0 + (l[0].toNat - 48) = l[0].toNat - 48 by omega, dd_small _ (by omega), hb]; rfl
theorem NumAt.done {l : List UInt8} {x : Nat} (h : NumAt l l.length x) : numL l = if l ≠ [] ∧ x ≤ 1099511627776 then some x else none := by
  have hg := h.go
  rw [List.take_length] at hg
  unfold numL
  rw [hg]
  simp only
  by_cases hl : l = []
  · subst hl
    rw [if_neg, if_neg (by simp)]
    rintro ⟨e, _⟩
    have hx : x = 0 := by simpa [numGo] using hg.symm
    subst hx
    rw [dd_small 0 (by omega)] at e; simp at e
  · rcases h.can with ⟨e, _⟩ | e
    · exact absurd (List.eq_nil_of_length_eq_zero e) hl
    · rw [List.take_length] at e
      by_cases hx : x ≤ 1099511627776
      · rw [if_pos ⟨e, hx⟩, if_pos ⟨hl, hx⟩]
      · rw [if_neg (fun k => hx k.2), if_neg (fun k => hx k.2)]
end Go.Proofs.YtlkceignfhnpoaaGreatDoor
end
section
namespace Go.Proofs.YtlkceignfhnpoaaGreatDoor
open Go

/-- The lines of pre were steps (or none), and out they are. -/
def Scd (pre : List (List UInt8)) (out : List Stp) : Prop := ∀ rest, scanL 0 [] (pre ++ rest) = scanL pre.length out rest
def Bad (pre : List (List UInt8)) : Prop := ∀ rest, scanL 0 [] (pre ++ rest) = ([], pre.length, false)
theorem scan_cons (n : Nat) (out : List Stp) (l : List UInt8) (t : List (List UInt8)) : scanL n out (l :: t) = if skipL l = true then scanL (n + 1) out t else match stepL l with
    | none => ([], n + 1, false)
    | some x => if out.length = 400 then ([], n + 1, false) else scanL (n + 1) (out ++ [x]) t := rfl
theorem Scd.nil : Scd [] [] := fun rest => rfl
theorem Scd.skip {pre : List (List UInt8)} {out : List Stp} {x : List UInt8} (h : Scd pre out) (hs : skipL x = true) : Scd (pre ++ [x]) out := fun rest => by
  rw [List.append_assoc, h, List.singleton_append, scan_cons, if_pos hs, List.length_append]; rfl
theorem Scd.step {pre : List (List UInt8)} {out : List Stp} {x : List UInt8} {y : Stp} (h : Scd pre out) (hs : skipL x = false) (hx : stepL x = some y) (hl : out.length ≠ 400) : Scd (pre ++ [x]) (out ++ [y]) := fun rest => by
  rw [List.append_assoc, h, List.singleton_append, scan_cons, if_neg (by rw [hs]; simp), hx]
  simp only
  rw [if_neg hl, List.length_append]; rfl
theorem Scd.bad {pre : List (List UInt8)} {out : List Stp} {x : List UInt8} (h : Scd pre out) (hs : skipL x = false) (hx : stepL x = none ∨ out.length = 400) : Bad (pre ++ [x]) := fun rest => by
  rw [List.append_assoc, h, List.singleton_append, scan_cons, if_neg (by rw [hs]; simp), List.length_append]
  rcases hx with hx | hx
  · rw [hx]; rfl
  · cases stepL x with
    | none => rfl
    | some y => simp only; rw [if_pos hx]; rfl
theorem Scd.all {pre : List (List UInt8)} {out : List Stp} (h : Scd pre out) : scanL 0 [] pre = (out, 0, true) := by
  have := h []
  rw [List.append_nil] at this
  rw [this]; rfl
theorem Bad.all {pre l : List (List UInt8)} (h : Bad pre) (hp : pre <+: l) : scanL 0 [] l = ([], pre.length, false) := by
  obtain ⟨t, rfl⟩ := hp
  exact h t
/-- What a scan brings. -/
theorem scan_ok : ∀ (ls : List (List UInt8)) (n : Nat) (out xs : List Stp) (k : Nat), scanL n out ls = (xs, k, true) → k = 0 ∧ ∃ ys, xs = out ++ ys ∧ ys.map lineL = ls.filter (fun l => !skipL l)
  | [], n, out, xs, k, h => by
    simp only [scanL, Prod.mk.injEq] at h
    exact ⟨h.2.1.symm, [], by simp [h.1], rfl⟩
  | l :: t, n, out, xs, k, h => by
    rw [scan_cons] at h
    by_cases hs : skipL l = true
    · rw [if_pos hs] at h
      obtain ⟨h1, ys, h2, h3⟩ := scan_ok t _ _ _ _ h
      exact ⟨h1, ys, h2, by rw [List.filter_cons, hs]; simpa using h3⟩
    · rw [if_neg hs] at h
      cases hx : stepL l with
      | none => rw [hx] at h; simp at h
      | some x =>
        rw [hx] at h
        simp only at h
        by_cases hl : out.length = 400
        · rw [if_pos hl] at h; simp at h
        · rw [if_neg hl] at h
          obtain ⟨h1, ys, h2, h3⟩ := scan_ok t _ _ _ _ h
          refine ⟨h1, x :: ys, by rw [h2]; simp, ?_⟩
          have hf : skipL l = false := by simpa using hs
          rw [List.filter_cons, hf]
          simp [h3, step_line l x hx]
theorem scan_bad : ∀ (ls : List (List UInt8)) (n : Nat) (out xs : List Stp) (k : Nat), scanL n out ls = (xs, k, false) → xs = []
  | [], n, out, xs, k, h => by simp [scanL] at h
  | l :: t, n, out, xs, k, h => by
    rw [scan_cons] at h
    by_cases hs : skipL l = true
    · rw [if_pos hs] at h; exact scan_bad t _ _ _ _ h
    · rw [if_neg hs] at h
      cases hx : stepL l with
      | none => rw [hx] at h; simp at h; exact h.1
      | some x =>
        rw [hx] at h
        simp only at h
        by_cases hl : out.length = 400
        · rw [if_pos hl] at h; simp at h; exact h.1
        · rw [if_neg hl] at h; exact scan_bad t _ _ _ _ h
theorem parse_lines {s : List UInt8} {xs : List Stp} {k : Nat} (h : parseL s = (xs, k, true)) : k = 0 ∧ xs.map lineL = (splitBy 10 s).filter (fun l => !skipL l) := by
  obtain ⟨h1, ys, h2, h3⟩ := scan_ok _ _ _ _ _ h
  simp only [List.nil_append] at h2
  exact ⟨h1, by rw [h2, h3]⟩
/-- A text of one line. -/
theorem parse_one {s : List UInt8} (h : (10 : UInt8) ∉ s) : parseL s = if skipL s = true then ([], 0, true) else match stepL s with
    | none => ([], 1, false)
    | some x => ([x], 0, true) := by
  unfold parseL
  rw [splitBy_self 10 s h, scan_cons]
  split
  · rfl
  · cases stepL s with
    | none => rfl
    | some x => rfl
/-- Many lines 'book', behind a note. -/
def bookW : List UInt8 := [98, 111, 111, 107]
def noteW : List UInt8 := [35, 32, 97, 32, 110, 111, 116, 101]
def booksW : List UInt8 := [98, 111, 111, 107, 115]
theorem step_book : stepL bookW = some ⟨bookW, [], [], []⟩ := by rfl
theorem step_books : stepL booksW = none := by rfl
theorem skip_note : skipL noteW = true := by decide
theorem skip_book : skipL bookW = false := by decide
theorem skip_books : skipL booksW = false := by decide
theorem scan_books : ∀ (k n : Nat) (out : List Stp) (t : List (List UInt8)), out.length ≤ 400 → scanL n out (List.replicate k bookW ++ t) = if out.length + k ≤ 400 then scanL (n + k) (out ++ List.replicate k ⟨bookW, [], [], []⟩) t else ([], n + (400 - out.length) + 1, false)
  | 0, n, out, t, h => by simp [h]
  | k + 1, n, out, t, h => by
    rw [List.replicate_succ, List.cons_append, scan_cons, if_neg (by rw [skip_book]; simp), step_book]
    simp only
    by_cases hl : out.length = 400
    · rw [if_pos hl, if_neg (by omega), hl]
    · rw [if_neg hl, scan_books k (n + 1) _ t (by simp; omega)]
      simp only [List.length_append, List.length_singleton]
      by_cases h2 : out.length + (k + 1) ≤ 400
      · rw [if_pos (by omega), if_pos h2]
        congr 1
        · omega
        · rw [List.append_assoc, List.singleton_append, List.replicate_succ]
      · rw [if_neg (by omega), if_neg h2]
        congr 2; omega
/-- n times a text. -/
def rep (n : Nat) (l : List UInt8) : List UInt8 := (List.replicate n l).flatten
theorem rep_succ (n : Nat) (l : List UInt8) : rep (n + 1) l = rep n l ++ l := by
  unfold rep; rw [List.replicate_succ']; simp
theorem split_books (n : Nat) (t : List UInt8) : splitBy 10 (rep n (bookW ++ [10]) ++ t) = List.replicate n bookW ++ splitBy 10 t := by
  induction n with
  | zero => simp [rep]
  | succ n ih =>
    unfold rep at ih ⊢
    rw [List.replicate_succ, List.flatten_cons, List.append_assoc, List.append_assoc, List.singleton_append, splitBy_app 10 _ _ (by decide), ih]
    rw [List.replicate_succ]; rfl
def limitT (n : Nat) (more : Bool) : List UInt8 := noteW ++ 10 :: (rep n (bookW ++ [10]) ++ (if more = true then booksW else []))
theorem limit_parse (n : Nat) (more : Bool) : parseL (limitT n more) = if 400 < n then ([], 402, false) else if more = true then ([], n + 2, false) else (List.replicate n ⟨bookW, [], [], []⟩, 0, true) := by
  unfold parseL limitT
  rw [splitBy_app 10 _ _ (by decide), split_books, scan_cons, if_pos skip_note, scan_books _ _ _ _ (by simp)]
  by_cases h : 400 < n
  · rw [if_neg (by simp; omega), if_pos h]; rfl
  · rw [if_pos (by simp; omega), if_neg h]
    cases more with
    | true =>
      simp only [if_true]
      rw [splitBy_self 10 booksW (by decide), scan_cons, if_neg (by rw [skip_books]; simp), step_books, Nat.add_comm 1 n]
    | false => simp [splitBy, scanL, skipL]
/-- A word behind another one. -/
def tickW : List UInt8 := [116, 105, 99, 107]
def lookW : List UInt8 := [108, 111, 111, 107]
theorem step_two (w a : List UInt8) (c : UInt8) (hw : (32 : UInt8) ∉ w) (hn : needOf w = some [c]) (hc : c = 78 ∨ c = 69) : stepL (w ++ 32 :: a) = if (32 : UInt8) ∈ a then none else match numL a with
    | some n => if c = 69 ∧ 1 < n then none else some ⟨w, [(n : Int)], [], []⟩
    | none => none := by
  unfold stepL stepW
  rw [splitBy_app 32 w a hw]
  simp only [List.getD_cons_zero, hn, List.tail_cons, List.length_cons, List.length_nil]
  by_cases ha : (32 : UInt8) ∈ a
  · rw [if_pos ha, if_neg]
    rw [splitBy_length]
    have := List.count_pos_iff.2 ha
    omega
  · rw [if_neg ha, splitBy_self 32 a ha, if_pos (by simp)]
    unfold fieldsL takeL
    rw [if_neg (by rcases hc with rfl | rfl <;> decide), if_neg (by rcases hc with rfl | rfl <;> decide)]
    cases numL a with
    | none => rfl
    | some n =>
      simp only
      by_cases h : c = 69 ∧ 1 < n
      · rw [if_pos h, if_pos h]
      · rw [if_neg h, if_neg h]; simp [fieldsL]
theorem numL_dec (m : Nat) : numL (Lib.decDigits m) = if m ≤ 1099511627776 then some m else none := by
  have hgo : ∀ m : Nat, numGo 0 (Lib.decDigits m) = some m := by
    intro m
    induction m using Nat.strongRecOn with
    | _ m ih =>
      have hb : ∀ d : Nat, d < 10 → ((48 + UInt8.ofNat d : UInt8)).toNat = 48 + d := fun d hd => by rw [UInt8.toNat_add]; simp; omega
      by_cases h : m < 10
      · rw [dd_small m h]; unfold numGo; rw [hb m h, if_pos (by omega)]; simp [numGo]
      · have e : m = 10 * (m / 10) + m % 10 := by omega
        have h1 := ih (m / 10) (by omega)
        rw [e, dd_step (m / 10) (m % 10) (by omega) (by omega), numGo_snoc _ _ _ _ h1, hb _ (by omega), if_pos (by omega)]
        congr 1; omega
  unfold numL
  rw [hgo]
  simp
theorem dec_digit (m : Nat) : ∀ c ∈ Lib.decDigits m, 48 ≤ c.toNat ∧ c.toNat ≤ 57 := by
  induction m using Nat.strongRecOn with
  | _ m ih =>
    have hb : ∀ d : Nat, d < 10 → ((48 + UInt8.ofNat d : UInt8)).toNat = 48 + d := fun d hd => by rw [UInt8.toNat_add]; simp; omega
    by_cases h : m < 10
    · rw [dd_small m h]; intro c hc; rw [List.mem_singleton.1 hc, hb m h]; omega
    · have e : m = 10 * (m / 10) + m % 10 := by omega
      rw [e, dd_step (m / 10) (m % 10) (by omega) (by omega)]
      intro c hc
      rcases List.mem_append.1 hc with h1 | h1
      · exact ih (m / 10) (by omega) c h1
      · rw [List.mem_singleton.1 h1, hb _ (by omega)]; omega
theorem dec_free (m : Nat) (c : UInt8) (h : c.toNat < 48 ∨ 57 < c.toNat) : c ∉ Lib.decDigits m := fun hm => by have := dec_digit m c hm; omega
/-- What one step has, if it is 'tick'. -/
theorem need_tick : needOf tickW = some [78] := by decide +kernel
theorem need_look : needOf lookW = some [69] := by decide +kernel
theorem tick_step (a : List UInt8) : stepL (tickW ++ 32 :: a) = if (32 : UInt8) ∈ a then none else match numL a with
    | some n => some ⟨tickW, [(n : Int)], [], []⟩
    | none => none := by
  rw [step_two tickW a 78 (by decide) need_tick (.inl rfl)]
  split
  · rfl
  · cases numL a with
    | none => rfl
    | some n => simp
theorem look_step (a : List UInt8) : stepL (lookW ++ 32 :: a) = if (32 : UInt8) ∈ a then none else match numL a with
    | some n => if 1 < n then none else some ⟨lookW, [(n : Int)], [], []⟩
    | none => none := by
  rw [step_two lookW a 69 (by decide) need_look (.inr rfl)]
  simp
theorem tick_parse (a : List UInt8) (h : (10 : UInt8) ∉ a) : parseL (tickW ++ 32 :: a) = match stepL (tickW ++ 32 :: a) with
    | none => ([], 1, false)
    | some x => ([x], 0, true) := by
  rw [parse_one (by simp [tickW]; exact h), if_neg]
  simp [skipL, tickW]
theorem look_parse (a : List UInt8) (h : (10 : UInt8) ∉ a) : parseL (lookW ++ 32 :: a) = match stepL (lookW ++ 32 :: a) with
    | none => ([], 1, false)
    | some x => ([x], 0, true) := by
  rw [parse_one (by simp [lookW]; exact h), if_neg]
  simp [skipL, lookW]
/-- The fixed fact. -/
def wokeT : List UInt8 := [97, 115, 107, 32, 48, 32, 100, 97, 116, 97, 32, 54, 49, 54, 50]
theorem woke_parse : parseL wokeT = ([⟨[97, 115, 107], [0], [100, 97, 116, 97], [97, 98]⟩], 0, true) := by kernel_rfl
end Go.Proofs.YtlkceignfhnpoaaGreatDoor
end
section
namespace Go.Proofs.YtlkceignfhnpoaaGreatDoor
open Go
/-- How many numbers there are among what is needed. -/
def numsIn : List UInt8 → Nat
  | [] => 0
  | c :: t => if c = 87 ∨ c = 72 then numsIn t else numsIn t + 1
/-- A step that a line may be: its word's numbers, each as great as one may be. -/
structure StpOK (x : Stp) : Prop where
  need : ∃ n, needOf x.word = some n ∧ x.nums.length = numsIn n
  nums : ∀ n ∈ x.nums, 0 ≤ n ∧ n ≤ 1099511627776
theorem take_nums {c : UInt8} {w : List UInt8} {x y : Stp} (h : takeL c w x = some y) (hx : ∀ n ∈ x.nums, 0 ≤ n ∧ n ≤ 1099511627776) : y.nums.length = x.nums.length + (if c = 87 ∨ c = 72 then 0 else 1) ∧ ∀ n ∈ y.nums, 0 ≤ n ∧ n ≤ 1099511627776 := by
  unfold takeL at h
  split at h
  · rename_i hc
    split at h <;> cases h
    exact ⟨by simp [hc], hx⟩
  · rename_i hc
    split at h
    · rename_i hd
      cases hu : unhexOf w with
      | none => rw [hu] at h; cases h
      | some d => rw [hu] at h; cases h; exact ⟨by simp [hd], hx⟩
    · rename_i hd
      cases hn : numL w with
      | none => rw [hn] at h; cases h
      | some n =>
        rw [hn] at h
        dsimp only at h
        split at h
        · cases h
        · cases h
          refine ⟨by simp [hc, hd], fun m hm => ?_⟩
          rcases List.mem_append.1 hm with hm | hm
          · exact hx m hm
          · have := (numL_itoa hn).2
            simp at hm
            omega
theorem fields_nums : ∀ (need : List UInt8) (ws : List (List UInt8)) (x y : Stp), fieldsL need ws x = some y → (∀ n ∈ x.nums, 0 ≤ n ∧ n ≤ 1099511627776) → y.word = x.word ∧ y.nums.length = x.nums.length + numsIn need ∧ ∀ n ∈ y.nums, 0 ≤ n ∧ n ≤ 1099511627776
  | [], ws, x, y, h, hx => by simp only [fieldsL, Option.some.injEq] at h; subst h; exact ⟨rfl, rfl, hx⟩
  | c :: t, [], x, y, h, hx => by simp [fieldsL] at h
  | c :: t, w :: ws, x, y, h, hx => by
    simp only [fieldsL] at h
    cases ht : takeL c w x with
    | none => rw [ht] at h; cases h
    | some z =>
      rw [ht] at h
      obtain ⟨h1, h2⟩ := take_nums ht hx
      obtain ⟨h3, h4, h5⟩ := fields_nums t ws z y h h2
      refine ⟨h3.trans (take_word ht), ?_, h5⟩
      rw [h4, h1]
      by_cases hc : c = 87 ∨ c = 72
      · simp [numsIn, hc]
      · simp [numsIn, hc]; omega
theorem step_nums {s : List UInt8} {x : Stp} (h : stepL s = some x) : StpOK x := by
  unfold stepL stepW at h
  cases hn : needOf ((splitBy 32 s).getD 0 []) with
  | none => rw [hn] at h; cases h
  | some need =>
    rw [hn] at h
    dsimp only at h
    split at h
    · obtain ⟨h1, h2, h3⟩ := fields_nums _ _ _ _ h (fun n hn => by simp at hn)
      exact ⟨⟨need, by rw [h1]; exact hn, by simpa using h2⟩, h3⟩
    · cases h
theorem scan_nums : ∀ (ls : List (List UInt8)) (n : Nat) (out : List Stp), (∀ x ∈ out, StpOK x) → ∀ x ∈ (scanL n out ls).1, StpOK x
  | [], n, out, h, x, hx => h x (by simpa [scanL] using hx)
  | l :: t, n, out, h, x, hx => by
    rw [scan_cons] at hx
    split at hx
    · exact scan_nums t _ _ h x hx
    · cases hs : stepL l with
      | none => rw [hs] at hx; simp at hx
      | some y =>
        rw [hs] at hx
        dsimp only at hx
        split at hx
        · simp at hx
        · refine scan_nums t _ _ (fun z hz => ?_) x hx
          rcases List.mem_append.1 hz with hz | hz
          · exact h z hz
          · simp at hz; subst hz; exact step_nums hs
theorem parse_nums (s : List UInt8) : ∀ x ∈ (parseL s).1, StpOK x := scan_nums _ _ _ (fun x hx => by simp at hx)
theorem scan_few : ∀ (ls : List (List UInt8)) (n : Nat) (out : List Stp), out.length ≤ 400 → (scanL n out ls).1.length ≤ 400
  | [], n, out, h => by simpa [scanL] using h
  | l :: t, n, out, h => by
    rw [scan_cons]
    split
    · exact scan_few t _ _ h
    · cases hs : stepL l with
      | none => simp
      | some y =>
        dsimp only
        split
        · simp
        · exact scan_few t _ _ (by rw [List.length_append]; simp; omega)
theorem parse_few (s : List UInt8) : (parseL s).1.length ≤ 400 := scan_few _ _ _ (by simp)
/-- The steps of a text, few and small. -/
def smallS (x : Stp) : Stp := if x.word = tickW ∨ x.word = [115, 101, 116, 116, 108, 101] then { x with nums := [min (x.nums.headD 0) 60] } else x
def fewS (n : Nat) (xs : List Stp) : List Stp := (xs.take n).map smallS
end Go.Proofs.YtlkceignfhnpoaaGreatDoor
end
