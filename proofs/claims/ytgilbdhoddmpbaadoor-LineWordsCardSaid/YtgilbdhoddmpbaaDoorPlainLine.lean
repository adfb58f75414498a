/-
  A script's lines, letter by letter; plainly.
-/
import Derived.Test.YtgilbdhoddmpbaaDoorPlainSplit
import Derived.Test.YtgilbdhoddmpbaaDoorPlainUnhex
import Derived.Lib.ItoaNum
import Derived.Lib.ItoaMem
set_option linter.unusedVariables false
set_option linter.unusedSimpArgs false
namespace Go.Proofs.YtgilbdhoddmpbaaDoor
open Go

/-- The words of requests, with their kinds. -/
def askTab : List (List UInt8 × Int) :=
  [([101, 115, 116, 97, 98, 108, 105, 115, 104], 1), ([97, 99, 99, 101, 112, 116], 2), ([114, 101, 108, 101, 97, 115, 101], 3), ([114, 101, 115, 121, 110, 99], 4), ([114, 101, 115, 121, 110, 99, 101, 100], 5),
   ([114, 101, 99, 111, 118, 101, 114, 101, 100], 6), ([100, 97, 116, 97], 7), ([117, 110, 105, 116], 8), ([109, 97, 110, 97, 103, 101], 9), ([114, 101, 116, 114, 105, 101, 118, 101], 11)]
/-- A request's kind, by its word; 0: there is none such. -/
def askOf (w : List UInt8) : Int := ((askTab.find? (fun p => p.1 == w)).map (·.2)).getD 0
/-- The words of steps, with what each needs, letter by letter. -/
def needTab : List (List UInt8 × List UInt8) :=
  [([98, 111, 111, 107], []), ([116, 105, 99, 107], [78]), ([115, 101, 116, 116, 108, 101], [78]), ([108, 111, 111, 107], [69]), ([99, 97, 114, 114, 121], [69]), ([108, 111, 115, 101], [69]),
   ([116, 97, 107, 101], [69, 78]), ([98, 114, 105, 110, 103], [69, 72]), ([97, 115, 107], [69, 87, 72]), ([115, 112, 111, 105, 108], [69, 78, 78]), ([116, 105, 99, 107, 115], [78, 78, 78, 78, 78]), ([108, 105, 110, 107], [78, 78, 78, 78, 78, 78])]
def needOf (w : List UInt8) : Option (List UInt8) := (needTab.find? (fun p => p.1 == w)).map (·.2)
theorem ask_miss {w : List UInt8} (h : ∀ p ∈ askTab, p.1 ≠ w) : askOf w = 0 := by
  unfold askOf
  rw [List.find?_eq_none.2 (fun p hp => by simpa using h p hp)]; rfl
theorem need_miss {w : List UInt8} (h : ∀ p ∈ needTab, p.1 ≠ w) : needOf w = none := by
  unfold needOf
  rw [List.find?_eq_none.2 (fun p hp => by simpa using h p hp)]; rfl
theorem need_mem {w need : List UInt8} (h : needOf w = some need) : (w, need) ∈ needTab := by
  unfold needOf at h
  cases hf : needTab.find? (fun p => p.1 == w) with
  | none => rw [hf] at h; cases h
  | some p =>
    rw [hf] at h
    have h1 := List.mem_of_find?_eq_some hf
    have h2 : p.1 = w := by simpa using List.find?_some hf
    obtain ⟨a, b⟩ := p
    cases h; cases h2; exact h1
theorem ask_at : ∀ j : Fin 10, askOf (askTab[j.val]'(j.isLt)).1 = (askTab[j.val]'(j.isLt)).2 := by decide +kernel
theorem need_at : ∀ j : Fin 12, needOf (needTab[j.val]'(j.isLt)).1 = some (needTab[j.val]'(j.isLt)).2 := by decide +kernel
theorem need_good : ∀ p ∈ needTab, p.2.count 87 ≤ 1 ∧ p.2.count 72 ≤ 1 ∧ p.2.length ≤ 6 ∧ ∀ c ∈ p.2, c = 87 ∨ c = 72 ∨ c = 69 ∨ c = 78 := by decide +kernel
/-- The number that digits are. -/
def numGo : Nat → List UInt8 → Option Nat
  | acc, [] => some acc
  | acc, c :: t => if 48 ≤ c.toNat ∧ c.toNat ≤ 57 then numGo (10 * acc + (c.toNat - 48)) t else none
def numL (w : List UInt8) : Option Nat := match numGo 0 w with
  | some n => if Lib.decDigits n = w ∧ n ≤ 1099511627776 then some n else none
  | none => none
/-- A step. -/
structure Stp where
  word : List UInt8
  nums : List Int
  ask : List UInt8
  data : List UInt8
def takeL (c : UInt8) (w : List UInt8) (x : Stp) : Option Stp :=
  if c = 87 then (if askOf w = 0 then none else some { x with ask := w })
  else if c = 72 then (unhexOf w).map fun d => { x with data := d }
  else match numL w with
    | some n => if c = 69 ∧ 1 < n then none else some { x with nums := x.nums ++ [(n : Int)] }
    | none => none
def fieldsL : List UInt8 → List (List UInt8) → Stp → Option Stp
  | [], _, x => some x
  | _ :: _, [], _ => none
  | c :: t, w :: ws, x => match takeL c w x with
    | none => none
    | some y => fieldsL t ws y
def stepW (ws : List (List UInt8)) : Option Stp := match needOf (ws.getD 0 []) with
  | none => none
  | some need => if ws.length = 1 + need.length then fieldsL need ws.tail ⟨ws.getD 0 [], [], [], []⟩ else none
def stepL (s : List UInt8) : Option Stp := stepW (splitBy 32 s)
def skipL (l : List UInt8) : Bool := decide (l = []) || decide (l.head? = some 35)
def scanL : Nat → List Stp → List (List UInt8) → List Stp × Nat × Bool
  | _, out, [] => (out, 0, true)
  | n, out, l :: t => if skipL l = true then scanL (n + 1) out t else match stepL l with
    | none => ([], n + 1, false)
    | some x => if out.length = 400 then ([], n + 1, false) else scanL (n + 1) (out ++ [x]) t
def parseL (s : List UInt8) : List Stp × Nat × Bool := scanL 0 [] (splitBy 10 s)
def fieldsT : List UInt8 → List Int → Stp → List (List UInt8)
  | [], _, _ => []
  | c :: t, ns, x => if c = 87 then x.ask :: fieldsT t ns x else if c = 72 then hexOf x.data :: fieldsT t ns x else Lib.itoa (ns.headD 0) :: fieldsT t ns.tail x
def lineL (x : Stp) : List UInt8 := joinBy 32 (x.word :: fieldsT ((needOf x.word).getD []) x.nums x)

theorem numGo_le : ∀ (t : List UInt8) (acc n : Nat), numGo acc t = some n → acc ≤ n
  | [], acc, n, h => by simp [numGo] at h; omega
  | c :: t, acc, n, h => by
    unfold numGo at h
    split at h
    · have := numGo_le t _ _ h; omega
    · cases h
theorem numGo_app : ∀ (a b : List UInt8) (acc x : Nat), numGo acc a = some x → numGo acc (a ++ b) = numGo x b
  | [], b, acc, x, h => by simp [numGo] at h; subst h; rfl
  | c :: t, b, acc, x, h => by
    unfold numGo at h
    split at h
    · rename_i hc
      show (if 48 ≤ c.toNat ∧ c.toNat ≤ 57 then numGo (10 * acc + (c.toNat - 48)) (t ++ b) else none) = _
      rw [if_pos hc, numGo_app t b _ x h]
    · cases h
theorem numGo_snoc (a : List UInt8) (acc x : Nat) (c : UInt8) (h : numGo acc a = some x) : numGo acc (a ++ [c]) = if 48 ≤ c.toNat ∧ c.toNat ≤ 57 then some (10 * x + (c.toNat - 48)) else none := by
  rw [numGo_app a [c] acc x h]; rfl
theorem numL_itoa {w : List UInt8} {n : Nat} (h : numL w = some n) : Lib.itoa (n : Int) = w ∧ n ≤ 1099511627776 := by
  unfold numL at h
  split at h
  · split at h
    · rename_i hc; cases h
      exact ⟨by unfold Lib.itoa; rw [if_neg (by omega)]; simpa using hc.1, hc.2⟩
    · cases h
  · cases h
theorem take_word {c : UInt8} {w : List UInt8} {x y : Stp} (h : takeL c w x = some y) : y.word = x.word := by
  unfold takeL at h
  split at h
  · split at h <;> cases h; rfl
  · split at h
    · cases hu : unhexOf w with
      | none => rw [hu] at h; cases h
      | some d => rw [hu] at h; cases h; rfl
    · split at h
      · split at h <;> cases h; rfl
      · cases h
theorem take_ask {c : UInt8} {w : List UInt8} {x y : Stp} (hc : c ≠ 87) (h : takeL c w x = some y) : y.ask = x.ask := by
  unfold takeL at h
  rw [if_neg hc] at h
  split at h
  · cases hu : unhexOf w with
    | none => rw [hu] at h; cases h
    | some d => rw [hu] at h; cases h; rfl
  · split at h
    · split at h <;> cases h; rfl
    · cases h
theorem take_data {c : UInt8} {w : List UInt8} {x y : Stp} (hc : c ≠ 72) (h : takeL c w x = some y) : y.data = x.data := by
  unfold takeL at h
  split at h
  · split at h <;> cases h; rfl
  · split at h
    · split at h <;> cases h; rfl
    · cases h
theorem fields_keep : ∀ (need : List UInt8) (ws : List (List UInt8)) (x y : Stp), fieldsL need ws x = some y →
    y.word = x.word ∧ (87 ∉ need → y.ask = x.ask) ∧ (72 ∉ need → y.data = x.data)
  | [], ws, x, y, h => by simp [fieldsL] at h; subst h; exact ⟨rfl, fun _ => rfl, fun _ => rfl⟩
  | c :: t, [], x, y, h => by simp [fieldsL] at h
  | c :: t, w :: ws, x, y, h => by
    unfold fieldsL at h
    split at h
    · cases h
    · rename_i z hz
      obtain ⟨h1, h2, h3⟩ := fields_keep t ws z y h
      refine ⟨h1.trans (take_word hz), fun hn => ?_, fun hn => ?_⟩
      · simp at hn
        exact (h2 hn.2).trans (take_ask (fun e => hn.1 e.symm) hz)
      · simp at hn
        exact (h3 hn.2).trans (take_data (fun e => hn.1 e.symm) hz)
theorem fields_back : ∀ (need : List UInt8) (ws : List (List UInt8)) (x y : Stp), fieldsL need ws x = some y → ws.length = need.length → need.count 87 ≤ 1 → need.count 72 ≤ 1 →
    ∃ ns, y.nums = x.nums ++ ns ∧ fieldsT need ns y = ws
  | [], [], x, y, h, _, _, _ => by simp [fieldsL] at h; subst h; exact ⟨[], by simp, rfl⟩
  | [], _ :: _, x, y, h, hl, _, _ => by simp at hl
  | c :: t, [], x, y, h, _, _, _ => by simp [fieldsL] at h
  | c :: t, w :: ws, x, y, h, hl, h87, h72 => by
    unfold fieldsL at h
    split at h
    · cases h
    · rename_i z hz
      have ha : t.count 87 ≤ 1 := by rw [List.count_cons] at h87; omega
      have hb : t.count 72 ≤ 1 := by rw [List.count_cons] at h72; omega
      obtain ⟨ns, h1, h2⟩ := fields_back t ws z y h (by simpa using hl) ha hb
      obtain ⟨k1, k2, k3⟩ := fields_keep t ws z y h
      by_cases e87 : c = 87
      · subst e87
        have hn : (87 : UInt8) ∉ t := by
          intro hm
          have := List.count_pos_iff.2 hm
          rw [List.count_cons_self] at h87; omega
        unfold takeL at hz
        rw [if_pos rfl] at hz
        split at hz
        · cases hz
        · cases hz
          exact ⟨ns, h1, by unfold fieldsT; rw [if_pos rfl, h2, k2 hn]⟩
      · by_cases e72 : c = 72
        · subst e72
          have hn : (72 : UInt8) ∉ t := by
            intro hm
            have := List.count_pos_iff.2 hm
            rw [List.count_cons_self] at h72; omega
          unfold takeL at hz
          rw [if_neg e87, if_pos rfl] at hz
          cases hu : unhexOf w with
          | none => rw [hu] at hz; cases hz
          | some d =>
            rw [hu] at hz; cases hz
            exact ⟨ns, h1, by unfold fieldsT; rw [if_neg e87, if_pos rfl, h2, k3 hn, hex_unhex w d hu]⟩
        · unfold takeL at hz
          rw [if_neg e87, if_neg e72] at hz
          split at hz
          · rename_i n hu
            split at hz
            · cases hz
            · cases hz
              refine ⟨(n : Int) :: ns, by rw [h1]; simp, ?_⟩
              unfold fieldsT
              rw [if_neg e87, if_neg e72]
              show Lib.itoa (n : Int) :: fieldsT t ns y = _
              rw [h2, (numL_itoa hu).1]
          · cases hz
theorem need_once (w need : List UInt8) (h : needOf w = some need) : need.count 87 ≤ 1 ∧ need.count 72 ≤ 1 :=
  ⟨(need_good _ (need_mem h)).1, (need_good _ (need_mem h)).2.1⟩
theorem step_line (s : List UInt8) (x : Stp) (h : stepL s = some x) : lineL x = s := by
  unfold stepL stepW at h
  have hj := join_split 32 s
  have hne := splitBy_ne 32 s
  generalize splitBy 32 s = ws at h hj hne
  cases ws with
  | nil => exact absurd rfl hne
  | cons w ws =>
    split at h
    · cases h
    · rename_i need hneed
      split at h
      · rename_i hl
        obtain ⟨h1, h2⟩ := need_once _ _ hneed
        simp only [List.tail_cons, List.length_cons, List.getD_cons_zero] at h hl hneed
        obtain ⟨ns, e1, e2⟩ := fields_back need ws _ x h (by omega) h1 h2
        obtain ⟨k1, -, -⟩ := fields_keep need ws _ x h
        unfold lineL
        rw [k1, hneed]
        simp only [List.nil_append] at e1
        rw [e1]
        simp only [Option.getD_some]
        rw [e2, hj]
      · cases h
end Go.Proofs.YtgilbdhoddmpbaaDoor
