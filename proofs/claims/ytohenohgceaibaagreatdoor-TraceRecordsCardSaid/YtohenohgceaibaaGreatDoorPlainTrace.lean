/-
  A unit's text, and back; plainly.
-/
import Derived.Test.YtohenohgceaibaaGreatDoorPlainSplit
import Derived.Test.YtohenohgceaibaaGreatDoorPlainUnhex
import Derived.Test.YtohenohgceaibaaGreatDoorPlainPduCheck
import Derived.Lib.AtoiAll
import Derived.Lib.AtoiAllCases
import Derived.Lib.ItoaNum
import Derived.Lib.ItoaMem
set_option linter.unusedVariables false
set_option linter.unusedSimpArgs false
namespace Go.Proofs.YtohenohgceaibaaGreatDoor
open Go

def nameOf (k : Int) : List UInt8 :=
  if k = 1 then [98, 103, 110] else if k = 2 then [98, 103, 97, 107] else if k = 3 then [101, 110, 100] else if k = 4 then [101, 110, 100, 97, 107] else if k = 5 then [114, 115]
  else if k = 6 then [114, 115, 97, 107] else if k = 7 then [98, 103, 114, 101, 106] else if k = 8 then [115, 100] else if k = 9 then [101, 114] else if k = 10 then [112, 111, 108, 108]
  else if k = 11 then [115, 116, 97, 116] else if k = 12 then [117, 115, 116, 97, 116] else if k = 13 then [117, 100] else if k = 14 then [109, 100] else if k = 15 then [101, 114, 97, 107] else []
/-- Which words a kind has, by their letters. -/
def hasL (k : Int) : List UInt8 :=
  if k = 1 ∨ k = 5 then [115, 110, 100] else if k = 2 ∨ k = 6 ∨ k = 9 ∨ k = 15 then [115, 110] else if k = 7 ∨ k = 3 then [115, 100] else if k = 4 then [115] else if k = 8 then [110, 100]
  else if k = 10 then [110, 112] else if k = 11 then [110, 112, 109, 108] else if k = 12 then [110, 109, 108] else if k = 13 ∨ k = 14 then [100] else []
/-- A unit. -/
structure Pd where
  k : Int
  sq : Int
  n : Int
  ps : Int
  mr : Int
  l : List Int
  self : Bool
  d : List UInt8
def listW (l : List Int) : List UInt8 := if l = [] then [45] else joinBy 44 (l.map Lib.itoa)
def selfW : List UInt8 := [115, 101, 108, 102]
def fieldW (p : Pd) (c : UInt8) : List UInt8 :=
  if c = 115 then [115, 113] ++ Lib.itoa p.sq else if c = 110 then [110] ++ Lib.itoa p.n else if c = 112 then [112, 115] ++ Lib.itoa p.ps else if c = 109 then [109, 114] ++ Lib.itoa p.mr
  else if c = 108 then [108] ++ listW p.l else [100] ++ hexOf p.d
def fieldWs (p : Pd) (c : UInt8) : List (List UInt8) := if c = 100 ∧ p.self = true then [selfW, fieldW p c] else [fieldW p c]
def wordsP (p : Pd) : List (List UInt8) := nameOf p.k :: (hasL p.k).flatMap (fieldWs p)
def unitText (p : Pd) : List UInt8 := joinBy 32 (wordsP p)

/-- A kind's number, of its name; 0: there is none such. -/
def kindOf (w : List UInt8) : Int := match (List.range 15).find? (fun (i : Nat) => decide (nameOf ((i : Int) + 1) = w)) with
  | some i => (i : Int) + 1
  | none => 0
def numOf (pre w : List UInt8) : Option Int := if Lib.hasPrefix w pre = true then match Lib.atoiAll (Lib.trimPrefix w pre) with
    | .ok v => if Lib.itoa v = Lib.trimPrefix w pre ∧ 0 ≤ v ∧ v < 16777216 then some v else none
    | _ => none
  else none
def numList : List (List UInt8) → Option (List Int)
  | [] => some []
  | w :: ws => match numOf [] w with
    | none => none
    | some v => (numList ws).map (v :: ·)
def numsOf (w : List UInt8) : Option (List Int) := if Lib.hasPrefix w [108] = true then (if Lib.trimPrefix w [108] = [45] then some [] else numList (splitBy 44 (Lib.trimPrefix w [108]))) else none
def dataOf (w : List UInt8) : Option (List UInt8) := if Lib.hasPrefix w [100] = true then unhexOf (Lib.trimPrefix w [100]) else none
def takeF (c : UInt8) (w : List UInt8) (p : Pd) : Option Pd :=
  if c = 115 then (numOf [115, 113] w).map fun v => { p with sq := v } else if c = 110 then (numOf [110] w).map fun v => { p with n := v } else if c = 112 then (numOf [112, 115] w).map fun v => { p with ps := v }
  else if c = 109 then (numOf [109, 114] w).map fun v => { p with mr := v } else if c = 108 then (numsOf w).map fun v => { p with l := v } else (dataOf w).map fun v => { p with d := v }
def fieldsOf : List UInt8 → List (List UInt8) → Pd → Option Pd
  | [], _, p => some p
  | _ :: _, [], _ => none
  | c :: t, w :: ws, p => match takeF c w p with
    | none => none
    | some q => fieldsOf t ws q
def ckOf (p : Pd) : Int := checkOf p.k p.sq p.n p.ps p.mr p.l p.self p.d.length
/-- Is the word for 'by itself' there? -/
def selfAt (k : Int) (ws : List (List UInt8)) : Bool := decide (k = 3) && decide (ws.length = 4) && decide (ws.getD 2 [] = selfW)
def restOf (k : Int) (ws : List (List UInt8)) : List (List UInt8) := if selfAt k ws then [ws.getD 0 [], ws.getD 1 [], ws.getD 3 []] else ws
def parseWs (ws : List (List UInt8)) : Option Pd :=
  if kindOf (ws.getD 0 []) = 0 ∨ (restOf (kindOf (ws.getD 0 [])) ws).length ≠ 1 + (hasL (kindOf (ws.getD 0 []))).length then none else
  match fieldsOf (hasL (kindOf (ws.getD 0 []))) (restOf (kindOf (ws.getD 0 [])) ws).tail ⟨kindOf (ws.getD 0 []), 0, 0, 0, 0, [], selfAt (kindOf (ws.getD 0 [])) ws, []⟩ with
  | none => none
  | some p => if ckOf p = 0 then some p else none
def parseT (s : List UInt8) : Option Pd := parseWs (splitBy 32 s)

theorem hasPrefix_iff (w pre : List UInt8) : Lib.hasPrefix w pre = true ↔ ∃ t, w = pre ++ t := by
  unfold Lib.hasPrefix
  rw [List.isPrefixOf_iff_prefix]
  exact ⟨fun ⟨t, h⟩ => ⟨t, h.symm⟩, fun ⟨t, h⟩ => ⟨t, h.symm⟩⟩
theorem hasPrefix_app (pre t : List UInt8) : Lib.hasPrefix (pre ++ t) pre = true := (hasPrefix_iff _ _).2 ⟨t, rfl⟩
theorem trimPrefix_app (pre t : List UInt8) : Lib.trimPrefix (pre ++ t) pre = t := by
  unfold Lib.trimPrefix; rw [if_pos (hasPrefix_app pre t), List.drop_left]
theorem parse10_app : ∀ (a b : List UInt8) (acc v : Nat), Lib.parseUint10 acc a = .ok v → Lib.parseUint10 acc (a ++ b) = Lib.parseUint10 v b
  | [], b, acc, v, h => by
    simp only [Lib.parseUint10] at h
    cases h; rfl
  | c :: a, b, acc, v, h => by
    simp only [List.cons_append, Lib.parseUint10] at h ⊢
    split at h
    · split at h
      · cases h
      · split at h
        · cases h
        · rename_i h1 h2 h3
          rw [if_pos (by assumption), if_neg h2, if_neg h3]
          exact parse10_app a b _ _ h
    · cases h
theorem parse10_dec (u : Nat) (hu : u < 1000000000000) : Lib.parseUint10 0 (Lib.decDigits u) = .ok u := by
  induction u using Nat.strongRecOn with
  | ind u ih =>
    rw [Lib.decDigits]
    by_cases h : u < 10
    · rw [dif_pos h]
      have e : (UInt8.ofNat (48 + u)).toNat = 48 + u := by rw [UInt8.toNat_ofNat']; omega
      simp only [Lib.parseUint10]
      rw [e, if_pos (by omega), if_neg (by omega), if_neg (by omega)]
      congr 1; omega
    · rw [dif_neg h, parse10_app _ _ _ _ (ih (u / 10) (by omega) (by omega))]
      have e : (UInt8.ofNat (48 + u % 10)).toNat = 48 + u % 10 := by rw [UInt8.toNat_ofNat']; omega
      simp only [Lib.parseUint10]
      rw [e, if_pos (by omega), if_neg (by omega), if_neg (by omega)]
      congr 1; omega
theorem dec_bytes (u : Nat) : ∀ b ∈ Lib.decDigits u, 48 ≤ b.toNat ∧ b.toNat ≤ 57 := by
  induction u using Nat.strongRecOn with
  | ind u ih =>
    rw [Lib.decDigits]
    by_cases h : u < 10
    · rw [dif_pos h]
      intro b hb
      obtain rfl := List.mem_singleton.1 hb
      rw [UInt8.toNat_ofNat']; omega
    · rw [dif_neg h]
      intro b hb
      rcases List.mem_append.1 hb with hb | hb
      · exact ih (u / 10) (by omega) b hb
      · obtain rfl := List.mem_singleton.1 hb
        rw [UInt8.toNat_ofNat']; omega
theorem dec_ne (u : Nat) : Lib.decDigits u ≠ [] := by
  rw [Lib.decDigits]; split <;> simp
theorem itoa_bytes (v : Int) (h : 0 ≤ v) : ∀ b ∈ Lib.itoa v, 48 ≤ b.toNat ∧ b.toNat ≤ 57 := by
  obtain ⟨u, rfl⟩ := Int.eq_ofNat_of_zero_le h
  rw [Lib.itoa_nonneg]; exact dec_bytes u
theorem itoa_ne (v : Int) (h : 0 ≤ v) : Lib.itoa v ≠ [] := by
  obtain ⟨u, rfl⟩ := Int.eq_ofNat_of_zero_le h
  rw [Lib.itoa_nonneg]; exact dec_ne u
theorem atoi_itoa (v : Int) (h0 : 0 ≤ v) (h1 : v < 1000000000000) : Lib.atoiAll (Lib.itoa v) = .ok v := by
  obtain ⟨u, rfl⟩ := Int.eq_ofNat_of_zero_le h0
  rw [Lib.itoa_nonneg]
  cases hd : Lib.decDigits u with
  | nil => exact absurd hd (dec_ne u)
  | cons c r =>
    have hc := dec_bytes u c (by rw [hd]; simp)
    have hp := parse10_dec u (by omega)
    rw [hd] at hp
    have hm : Lib.parseMag (c :: r) = .ok u := by unfold Lib.parseMag; rw [if_neg (by simp)]; exact hp
    unfold Lib.atoiAll
    simp only
    rw [if_neg (by omega), hm]
    simp only
    rw [if_neg (by omega), if_neg (by omega), if_neg (by omega)]
theorem numOf_iff (pre w : List UInt8) (v : Int) : numOf pre w = some v ↔ w = pre ++ Lib.itoa v ∧ 0 ≤ v ∧ v < 16777216 := by
  unfold numOf
  constructor
  · intro h
    split at h
    · rename_i hp
      obtain ⟨t, rfl⟩ := (hasPrefix_iff _ _).1 hp
      rw [trimPrefix_app] at h
      split at h
      · rename_i v' hv
        split at h
        · rename_i hc
          cases h
          exact ⟨by rw [hc.1], hc.2⟩
        · cases h
      · cases h
    · cases h
  · rintro ⟨rfl, h0, h1⟩
    rw [if_pos (hasPrefix_app _ _), trimPrefix_app, atoi_itoa v h0 (by omega)]
    simp only
    rw [if_pos ⟨trivial, h0, h1⟩]
theorem numList_iff : ∀ (ws : List (List UInt8)) (l : List Int), numList ws = some l ↔ ws = l.map Lib.itoa ∧ ∀ x ∈ l, 0 ≤ x ∧ x < 16777216
  | [], l => by
    constructor
    · intro h; cases h; exact ⟨rfl, by simp⟩
    · rintro ⟨h, _⟩
      have : l = [] := by cases l with
        | nil => rfl
        | cons a t => simp at h
      subst this; rfl
  | w :: ws, l => by
    unfold numList
    cases hn : numOf [] w with
    | none =>
      simp only
      constructor
      · intro h; cases h
      · rintro ⟨h, hl⟩
        cases l with
        | nil => simp at h
        | cons a t =>
          simp only [List.map_cons, List.cons.injEq] at h
          have := (numOf_iff [] w a).2 ⟨by rw [h.1]; rfl, hl a (by simp)⟩
          rw [hn] at this; cases this
    | some v =>
      simp only
      have hv := (numOf_iff [] w v).1 hn
      constructor
      · intro h
        obtain ⟨t, ht, rfl⟩ := Option.map_eq_some_iff.1 h
        have := (numList_iff ws t).1 ht
        refine ⟨by rw [List.map_cons, ← this.1]; rw [hv.1]; rfl, fun x hx => ?_⟩
        rcases List.mem_cons.1 hx with e | e
        · subst e; exact hv.2
        · exact this.2 x e
      · rintro ⟨h, hl⟩
        cases l with
        | nil => simp at h
        | cons a t =>
          simp only [List.map_cons, List.cons.injEq] at h
          have e : v = a := by
            have h2 := (numOf_iff [] w a).2 ⟨by rw [h.1]; rfl, hl a (by simp)⟩
            rw [hn] at h2; cases h2; rfl
          subst e
          rw [(numList_iff ws t).2 ⟨h.2, fun x hx => hl x (by simp [hx])⟩]; rfl
theorem itoa_free (v : Int) (h : 0 ≤ v) (c : UInt8) (hc : c.toNat < 48) : c ∉ Lib.itoa v := fun hm => by
  have := itoa_bytes v h c hm; omega
theorem numsOf_iff (w : List UInt8) (l : List Int) : numsOf w = some l ↔ w = [108] ++ listW l ∧ ∀ x ∈ l, 0 ≤ x ∧ x < 16777216 := by
  unfold numsOf listW
  constructor
  · intro h
    split at h
    · rename_i hp
      obtain ⟨t, rfl⟩ := (hasPrefix_iff _ _).1 hp
      rw [trimPrefix_app] at h
      split at h
      · rename_i e
        cases h
        exact ⟨by rw [e, if_pos rfl], by simp⟩
      · have h2 := (numList_iff _ _).1 h
        have hne : l ≠ [] := by
          intro e; subst e
          exact splitBy_ne 44 t h2.1
        refine ⟨?_, h2.2⟩
        rw [if_neg hne, ← h2.1, join_split]
    · cases h
  · rintro ⟨rfl, hl⟩
    rw [if_pos (hasPrefix_app _ _), trimPrefix_app]
    by_cases hne : l = []
    · subst hne; rfl
    · rw [if_neg hne]
      have hfree : ∀ w ∈ l.map Lib.itoa, (44 : UInt8) ∉ w := by
        intro w hw
        obtain ⟨x, hx, rfl⟩ := List.mem_map.1 hw
        exact itoa_free x (hl x hx).1 44 (by decide)
      have hj : joinBy 44 (l.map Lib.itoa) ≠ [45] := by
        cases l with
        | nil => exact absurd rfl hne
        | cons a t =>
          intro e
          have hb := itoa_bytes a (hl a (by simp)).1
          cases hi : Lib.itoa a with
          | nil => exact itoa_ne a (hl a (by simp)).1 hi
          | cons c r =>
            have hc := hb c (by rw [hi]; simp)
            have : joinBy 44 ((a :: t).map Lib.itoa) = c :: (joinBy 44 ((a :: t).map Lib.itoa)).tail := by
              cases t with
              | nil => show Lib.itoa a = c :: (Lib.itoa a).tail; rw [hi]; rfl
              | cons b t => show Lib.itoa a ++ _ = _ :: (Lib.itoa a ++ _).tail; rw [hi]; rfl
            rw [this] at e
            have := (List.cons.inj e).1
            subst this
            simp at hc
      rw [if_neg hj, split_join 44 _ (by simpa using hne) hfree]
      exact (numList_iff _ _).2 ⟨rfl, hl⟩
theorem dataOf_iff (w d : List UInt8) : dataOf w = some d ↔ w = [100] ++ hexOf d := by
  unfold dataOf
  constructor
  · intro h
    split at h
    · rename_i hp
      obtain ⟨t, rfl⟩ := (hasPrefix_iff _ _).1 hp
      rw [trimPrefix_app] at h
      rw [hex_unhex _ _ h]
    · cases h
  · rintro rfl
    rw [if_pos (hasPrefix_app _ _), trimPrefix_app, unhex_hex]

theorem kindOf_name : ∀ i : Fin 15, kindOf (nameOf ((i.val : Int) + 1)) = (i.val : Int) + 1 := by decide +kernel
theorem kindOf_pos (w : List UInt8) (h : kindOf w ≠ 0) : 1 ≤ kindOf w ∧ kindOf w ≤ 15 ∧ nameOf (kindOf w) = w := by
  unfold kindOf at h ⊢
  cases hf : (List.range 15).find? (fun (i : Nat) => decide (nameOf ((i : Int) + 1) = w)) with
  | none => rw [hf] at h; exact absurd rfl h
  | some i =>
    have h1 := List.find?_some hf
    have h2 := List.mem_of_find?_eq_some hf
    rw [List.mem_range] at h2
    exact ⟨by show 1 ≤ (i : Int) + 1; omega, by show (i : Int) + 1 ≤ 15; omega, by simpa using h1⟩
theorem kindOf_is (k : Int) (h1 : 1 ≤ k) (h2 : k ≤ 15) : kindOf (nameOf k) = k := by
  obtain ⟨i, rfl⟩ : ∃ i : Nat, k = (i : Int) + 1 := ⟨(k - 1).toNat, by omega⟩
  exact kindOf_name ⟨i, by omega⟩
/-- What a unit that may be has, and has not. -/
structure Fit (p : Pd) : Prop where
  k1 : 1 ≤ p.k
  k2 : p.k ≤ 15
  sq : 0 ≤ p.sq ∧ p.sq < 16777216
  n : 0 ≤ p.n ∧ p.n < 16777216
  ps : 0 ≤ p.ps ∧ p.ps < 16777216
  mr : 0 ≤ p.mr ∧ p.mr < 16777216
  l : ∀ x ∈ p.l, 0 ≤ x ∧ x < 16777216
  noSq : 115 ∉ hasL p.k → p.sq = 0
  noN : 110 ∉ hasL p.k → p.n = 0
  noPs : 112 ∉ hasL p.k → p.ps = 0
  noMr : 109 ∉ hasL p.k → p.mr = 0
  noL : 108 ∉ hasL p.k → p.l = []
  noD : 100 ∉ hasL p.k → p.d = []
  self : p.self = true → p.k = 3
theorem field_num {pre : List UInt8} {v : Int} (h : 0 ≤ v ∧ v < 16777216) : numOf pre (pre ++ Lib.itoa v) = some v := (numOf_iff _ _ _).2 ⟨rfl, h⟩
theorem hex_free (d : List UInt8) : (32 : UInt8) ∉ hexOf d := by
  unfold hexOf
  split
  · decide
  · have : ∀ l : List UInt8, (32 : UInt8) ∉ hexBody l := by
      intro l
      induction l with
      | nil => simp [hexBody]
      | cons c t ih =>
        have hd : ∀ q : Fin 16, hexDigit q.val ≠ 32 := by decide
        have hc := c.toNat_lt
        simp only [hexBody, List.mem_cons, not_or]
        exact ⟨fun e => hd ⟨c.toNat / 16, by omega⟩ e.symm, fun e => hd ⟨c.toNat % 16, by omega⟩ e.symm, ih⟩
    exact this d
theorem join_free (c b : UInt8) (hcb : b ≠ c) : ∀ (ws : List (List UInt8)), (∀ w ∈ ws, b ∉ w) → b ∉ joinBy c ws
  | [], _ => by simp [joinBy]
  | [w], h => h w (by simp)
  | w :: v :: ws, h => by
    show b ∉ w ++ c :: joinBy c (v :: ws)
    have ih := join_free c b hcb (v :: ws) (fun x hx => h x (by simp [hx]))
    have := h w (by simp)
    simp only [List.mem_append, List.mem_cons, not_or]
    exact ⟨this, hcb, ih⟩
theorem listW_free (l : List Int) (h : ∀ x ∈ l, 0 ≤ x ∧ x < 16777216) : (32 : UInt8) ∉ listW l := by
  unfold listW
  split
  · decide
  · apply join_free 44 32 (by decide)
    intro w hw
    obtain ⟨x, hx, rfl⟩ := List.mem_map.1 hw
    exact itoa_free x (h x hx).1 32 (by decide)
theorem fieldW_free (p : Pd) (hp : Fit p) (c : UInt8) : (32 : UInt8) ∉ fieldW p c := by
  unfold fieldW
  have e : ∀ (a b : List UInt8), (32 : UInt8) ∉ a → (32 : UInt8) ∉ b → (32 : UInt8) ∉ a ++ b := fun a b h1 h2 hm => by
    rcases List.mem_append.1 hm with h | h
    · exact h1 h
    · exact h2 h
  repeat' split
  · exact e _ _ (by decide) (itoa_free _ hp.sq.1 32 (by decide))
  · exact e _ _ (by decide) (itoa_free _ hp.n.1 32 (by decide))
  · exact e _ _ (by decide) (itoa_free _ hp.ps.1 32 (by decide))
  · exact e _ _ (by decide) (itoa_free _ hp.mr.1 32 (by decide))
  · exact e _ _ (by decide) (listW_free _ hp.l)
  · exact e _ _ (by decide) (hex_free _)
theorem name_free : ∀ i : Fin 15, (32 : UInt8) ∉ nameOf ((i.val : Int) + 1) := by decide +kernel
theorem name_free' (k : Int) (h1 : 1 ≤ k) (h2 : k ≤ 15) : (32 : UInt8) ∉ nameOf k := by
  obtain ⟨i, rfl⟩ : ∃ i : Nat, k = (i : Int) + 1 := ⟨(k - 1).toNat, by omega⟩
  exact name_free ⟨i, by omega⟩
theorem words_free (p : Pd) (hp : Fit p) : ∀ w ∈ wordsP p, (32 : UInt8) ∉ w := by
  intro w hw
  unfold wordsP at hw
  rcases List.mem_cons.1 hw with e | e
  · subst e; exact name_free' _ hp.k1 hp.k2
  · obtain ⟨c, _, hc⟩ := List.mem_flatMap.1 e
    unfold fieldWs at hc
    split at hc
    · simp only [List.mem_cons, List.not_mem_nil, or_false] at hc
      rcases hc with e | e
      · subst e; decide
      · subst e; exact fieldW_free p hp c
    · simp only [List.mem_cons, List.not_mem_nil, or_false] at hc
      subst hc; exact fieldW_free p hp c
theorem split_unit (p : Pd) (hp : Fit p) : splitBy 32 (unitText p) = wordsP p := split_join 32 _ (by simp [wordsP]) (words_free p hp)
theorem data_back (d : List UInt8) : dataOf ([100] ++ hexOf d) = some d := (dataOf_iff _ _).2 rfl
theorem nums_back (l : List Int) (h : ∀ x ∈ l, 0 ≤ x ∧ x < 16777216) : numsOf ([108] ++ listW l) = some l := (numsOf_iff _ _).2 ⟨rfl, h⟩
theorem pd_ext {p q : Pd} (h1 : p.k = q.k) (h2 : p.sq = q.sq) (h3 : p.n = q.n) (h4 : p.ps = q.ps) (h5 : p.mr = q.mr) (h6 : p.l = q.l) (h7 : p.self = q.self) (h8 : p.d = q.d) : p = q := by
  cases p; cases q; simp_all
/-- A unit's text comes back. -/
theorem parse_unit (p : Pd) (hp : Fit p) (hc : ckOf p = 0) : parseT (unitText p) = some p := by
  unfold parseT
  rw [split_unit p hp]
  have hk : kindOf ((wordsP p).getD 0 []) = p.k := kindOf_is _ hp.k1 hp.k2
  unfold parseWs
  rw [hk]
  have hk1 := hp.k1
  have hk2 := hp.k2
  have hs : selfAt p.k (wordsP p) = p.self := by
    unfold selfAt
    cases hself : p.self with
    | true =>
      have h3 := hp.self hself
      simp [wordsP, hasL, h3, fieldWs, hself, nameOf]
    | false =>
      by_cases h3 : p.k = 3
      · simp [wordsP, hasL, h3, fieldWs, hself]
      · simp [h3]
  have hr : restOf p.k (wordsP p) = nameOf p.k :: (hasL p.k).map (fieldW p) := by
    unfold restOf
    rw [hs]
    cases hself : p.self with
    | true =>
      have h3 := hp.self hself
      simp [wordsP, hasL, h3, fieldWs, hself]
    | false =>
      rw [if_neg (by simp)]
      unfold wordsP
      congr 1
      have : ∀ t : List UInt8, t.flatMap (fieldWs p) = t.map (fieldW p) := by
        intro t
        induction t with
        | nil => rfl
        | cons c t ih =>
          rw [List.flatMap_cons, List.map_cons, ih]
          unfold fieldWs
          rw [if_neg (by simp [hself])]; rfl
      exact this _
  rw [hs, hr]
  rw [if_neg (by
    simp only [List.length_cons, List.length_map, not_or]
    constructor <;> omega)]
  have hf : fieldsOf (hasL p.k) (List.tail (nameOf p.k :: (hasL p.k).map (fieldW p))) ⟨p.k, 0, 0, 0, 0, [], p.self, []⟩ = some p := by
    have hsq := hp.noSq
    have hn := hp.noN
    have hps := hp.noPs
    have hmr := hp.noMr
    have hl := hp.noL
    have hd := hp.noD
    have f1 := field_num (pre := [115, 113]) hp.sq
    have f2 := field_num (pre := [110]) hp.n
    have f3 := field_num (pre := [112, 115]) hp.ps
    have f4 := field_num (pre := [109, 114]) hp.mr
    have f5 := nums_back p.l hp.l
    have f6 := data_back p.d
    obtain ⟨k, sq, n, ps, mr, l, self, d⟩ := p
    simp only at *
    have h : k = 1 ∨ k = 2 ∨ k = 3 ∨ k = 4 ∨ k = 5 ∨ k = 6 ∨ k = 7 ∨ k = 8 ∨ k = 9 ∨ k = 10 ∨ k = 11 ∨ k = 12 ∨ k = 13 ∨ k = 14 ∨ k = 15 := by omega
    simp only [List.cons_append, List.nil_append] at f1 f2 f3 f4 f5 f6
    rcases h with rfl | rfl | rfl | rfl | rfl | rfl | rfl | rfl | rfl | rfl | rfl | rfl | rfl | rfl | rfl <;>
      simp [hasL] at hsq hn hps hmr hl hd ⊢ <;> simp [fieldsOf, takeF, fieldW, f1, f2, f3, f4, f5, f6, hsq, hn, hps, hmr, hl, hd]
  rw [hf]
  simp only
  rw [if_pos hc]
def letters : List UInt8 := [115, 110, 112, 109, 108, 100]
theorem takeF_other {c c' : UInt8} {w : List UInt8} {p q : Pd} (hc : c ∈ letters) (hc' : c' ∈ letters) (hne : c ≠ c') (h : takeF c' w p = some q) : fieldW q c = fieldW p c ∧ q.k = p.k ∧ q.self = p.self := by
  simp only [letters, List.mem_cons, List.not_mem_nil, or_false] at hc hc'
  rcases hc' with rfl | rfl | rfl | rfl | rfl | rfl <;> simp only [takeF] at h <;> simp at h <;> obtain ⟨v, _, rfl⟩ := h <;>
    rcases hc with rfl | rfl | rfl | rfl | rfl | rfl <;> first | exact absurd rfl hne | exact ⟨rfl, rfl, rfl⟩
theorem takeF_self {c : UInt8} {w : List UInt8} {p q : Pd} (hc : c ∈ letters) (h : takeF c w p = some q) : w = fieldW q c ∧ q.k = p.k ∧ q.self = p.self := by
  simp only [letters, List.mem_cons, List.not_mem_nil, or_false] at hc
  rcases hc with rfl | rfl | rfl | rfl | rfl | rfl <;> simp only [takeF] at h <;> simp at h <;> obtain ⟨v, hv, rfl⟩ := h
  · exact ⟨((numOf_iff _ _ _).1 hv).1, rfl, rfl⟩
  · exact ⟨((numOf_iff _ _ _).1 hv).1, rfl, rfl⟩
  · exact ⟨((numOf_iff _ _ _).1 hv).1, rfl, rfl⟩
  · exact ⟨((numOf_iff _ _ _).1 hv).1, rfl, rfl⟩
  · exact ⟨((numsOf_iff _ _).1 hv).1, rfl, rfl⟩
  · exact ⟨(dataOf_iff _ _).1 hv, rfl, rfl⟩
theorem fields_other : ∀ (t : List UInt8) (ws : List (List UInt8)) (p q : Pd), (∀ x ∈ t, x ∈ letters) → fieldsOf t ws p = some q → q.k = p.k ∧ q.self = p.self ∧ ∀ c ∈ letters, c ∉ t → fieldW q c = fieldW p c
  | [], _, p, q, _, h => by cases h; exact ⟨rfl, rfl, fun _ _ _ => rfl⟩
  | _ :: _, [], _, _, _, h => by simp [fieldsOf] at h
  | b :: t, w :: ws, p, q, hl, h => by
    unfold fieldsOf at h
    cases ht : takeF b w p with
    | none => rw [ht] at h; cases h
    | some r =>
      rw [ht] at h
      have ih := fields_other t ws r q (fun x hx => hl x (by simp [hx])) h
      have hs := takeF_self (hl b (by simp)) ht
      refine ⟨ih.1.trans hs.2.1, ih.2.1.trans hs.2.2, fun c hc hn => ?_⟩
      rw [ih.2.2 c hc (fun x => hn (by simp [x]))]
      exact (takeF_other hc (hl b (by simp)) (fun e => hn (by rw [e]; simp)) ht).1
theorem fields_inv : ∀ (t : List UInt8) (ws : List (List UInt8)) (p q : Pd), (∀ x ∈ t, x ∈ letters) → t.Nodup → ws.length = t.length → fieldsOf t ws p = some q → ws = t.map (fieldW q)
  | [], ws, p, q, _, _, hlen, _ => by simpa using hlen
  | _ :: _, [], _, _, _, _, _, h => by simp [fieldsOf] at h
  | b :: t, w :: ws, p, q, hl, hnd, hlen, h => by
    unfold fieldsOf at h
    cases ht : takeF b w p with
    | none => rw [ht] at h; cases h
    | some r =>
      rw [ht] at h
      have ih := fields_inv t ws r q (fun x hx => hl x (by simp [hx])) (List.nodup_cons.1 hnd).2 (by simpa using hlen) h
      have ho := (fields_other t ws r q (fun x hx => hl x (by simp [hx])) h).2.2 b (hl b (by simp)) (List.nodup_cons.1 hnd).1
      rw [List.map_cons, ho, ← (takeF_self (hl b (by simp)) ht).1, ← ih]
theorem has_good : ∀ i : Fin 15, (∀ x ∈ hasL ((i.val : Int) + 1), x ∈ letters) ∧ (hasL ((i.val : Int) + 1)).Nodup := by decide +kernel
/-- A text that is read is the text of what was read. -/
theorem unit_parse (s : List UInt8) (p : Pd) (h : parseT s = some p) : unitText p = s ∧ ckOf p = 0 := by
  unfold parseT parseWs at h
  have hws : ∀ ws, ws = splitBy 32 s → joinBy 32 ws = s := fun ws e => by rw [e]; exact join_split 32 s
  generalize hW : splitBy 32 s = ws at *
  have hj := hws ws rfl
  split at h
  · cases h
  · rename_i hn
    simp only [not_or, Decidable.not_not] at hn
    obtain ⟨hk0, hlen⟩ := hn
    obtain ⟨hk1, hk2, hname⟩ := kindOf_pos _ hk0
    generalize kindOf (ws.getD 0 []) = k at *
    split at h
    · cases h
    · rename_i q hq
      split at h
      · rename_i hck
        cases h
        refine ⟨?_, hck⟩
        obtain ⟨i, rfl⟩ : ∃ i : Nat, k = (i : Int) + 1 := ⟨(k - 1).toNat, by omega⟩
        obtain ⟨hg1, hg2⟩ := has_good ⟨i, by omega⟩
        simp only at hg1 hg2
        generalize hK : ((i : Int) + 1) = k at *
        have hlen2 : (restOf k ws).tail.length = (hasL k).length := by rw [List.length_tail, hlen]; omega
        have hinv := fields_inv _ _ _ _ hg1 hg2 hlen2 hq
        have hoth := fields_other _ _ _ _ hg1 hq
        have hpk : p.k = k := hoth.1
        have hps : p.self = selfAt k ws := hoth.2.1
        have hrest : restOf k ws = ws.getD 0 [] :: (hasL k).map (fieldW p) := by
          rw [← hinv]
          have h0 : (restOf k ws).getD 0 [] = ws.getD 0 [] := by
            unfold restOf; split <;> rfl
          cases hr : restOf k ws with
          | nil => rw [hr] at hlen; simp at hlen; omega
          | cons a t => rw [hr] at h0; rw [← h0]; rfl
        unfold unitText
        rw [← hj]
        congr 1
        unfold wordsP
        rw [hpk, hname]
        cases hself : selfAt k ws with
        | false =>
          rw [hself] at hps
          unfold restOf at hrest
          rw [hself, if_neg (by simp)] at hrest
          rw [hrest]
          congr 1
          have : ∀ t : List UInt8, t.flatMap (fieldWs p) = t.map (fieldW p) := by
            intro t
            induction t with
            | nil => rfl
            | cons c t ih =>
              rw [List.flatMap_cons, List.map_cons, ih]
              unfold fieldWs
              rw [if_neg (by simp [hps])]; rfl
          exact this _
        | true =>
          rw [hself] at hps
          unfold restOf at hrest
          rw [hself, if_pos rfl] at hrest
          unfold selfAt at hself
          simp only [Bool.and_eq_true, decide_eq_true_eq] at hself
          obtain ⟨⟨h3, h4⟩, h5⟩ := hself
          have hh : hasL k = [115, 100] := by rw [h3]; decide
          rw [hh] at hrest ⊢
          match ws, h4 with
          | [a, b, c, d], _ =>
            simp only [List.getD_cons_zero, List.getD_cons_succ, List.map_cons, List.map_nil, List.cons.injEq, and_true, true_and] at hrest h5 ⊢
            simp only [List.flatMap_cons, List.flatMap_nil, List.append_nil, fieldWs, hps]
            simp [hrest.1, hrest.2, h5]
      · cases h
end Go.Proofs.YtohenohgceaibaaGreatDoor
