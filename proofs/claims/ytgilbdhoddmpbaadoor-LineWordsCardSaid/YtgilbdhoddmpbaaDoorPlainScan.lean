/-
  A script's lines, one behind the other; plainly.
-/
import Derived.Test.YtgilbdhoddmpbaaDoorPlainNum
import Derived.KernelRfl
set_option linter.unusedVariables false
set_option linter.unusedSimpArgs false
namespace Go.Proofs.YtgilbdhoddmpbaaDoor
open Go

/-- The lines of pre were steps (or none), and out they are. -/
def Scd (pre : List (List UInt8)) (out : List Stp) : Prop := ∀ rest, scanL 0 [] (pre ++ rest) = scanL pre.length out rest
def Bad (pre : List (List UInt8)) : Prop := ∀ rest, scanL 0 [] (pre ++ rest) = ([], pre.length, false)
theorem scan_cons (n : Nat) (out : List Stp) (l : List UInt8) (t : List (List UInt8)) : scanL n out (l :: t) = if skipL l = true then scanL (n + 1) out t else match stepL l with
    | none => ([], n + 1, false)
    | some x => if out.length = 400 then ([], n + 1, false) else scanL (n + 1) (out ++ [x]) t := rfl
theorem Scd.nil : Scd [] [] := fun rest => rfl
theorem Scd.skip {pre : List (List UInt8)} {out : List Stp} {x : List UInt8} (h : Scd pre out) (hs : skipL x = true) : Scd (pre ++ [x]) out := fun rest => by
  rw [List.append_assoc, h, List.singleton_append, scan_cons, if_pos hs, List.length_append]; rfl
theorem Scd.step {pre : List (List UInt8)} {out : List Stp} {x : List UInt8} {y : Stp} (h : Scd pre out) (hs : skipL x = false) (hx : stepL x = some y) (hl : out.length ≠ 400) : Scd (pre ++ [x]) (out ++ [y]) := fun rest => by
  rw [List.append_assoc, h, List.singleton_append, scan_cons, if_neg (by rw [hs]; simp), hx]
  simp only
  rw [if_neg hl, List.length_append]; rfl
theorem Scd.bad {pre : List (List UInt8)} {out : List Stp} {x : List UInt8} (h : Scd pre out) (hs : skipL x = false) (hx : stepL x = none ∨ out.length = 400) : Bad (pre ++ [x]) := fun rest => by
  rw [List.append_assoc, h, List.singleton_append, scan_cons, if_neg (by rw [hs]; simp), List.length_append]
  rcases hx with hx | hx
  · rw [hx]; rfl
  · cases stepL x with
    | none => rfl
    | some y => simp only; rw [if_pos hx]; rfl
theorem Scd.all {pre : List (List UInt8)} {out : List Stp} (h : Scd pre out) : scanL 0 [] pre = (out, 0, true) := by
  have := h []
  rw [List.append_nil] at this
  rw [this]; rfl
theorem Bad.all {pre l : List (List UInt8)} (h : Bad pre) (hp : pre <+: l) : scanL 0 [] l = ([], pre.length, false) := by
  obtain ⟨t, rfl⟩ := hp
  exact h t
/-- What a scan brings. -/
theorem scan_ok : ∀ (ls : List (List UInt8)) (n : Nat) (out xs : List Stp) (k : Nat), scanL n out ls = (xs, k, true) → k = 0 ∧ ∃ ys, xs = out ++ ys ∧ ys.map lineL = ls.filter (fun l => !skipL l)
  | [], n, out, xs, k, h => by
    simp only [scanL, Prod.mk.injEq] at h
    exact ⟨h.2.1.symm, [], by simp [h.1], rfl⟩
  | l :: t, n, out, xs, k, h => by
    rw [scan_cons] at h
    by_cases hs : skipL l = true
    · rw [if_pos hs] at h
      obtain ⟨h1, ys, h2, h3⟩ := scan_ok t _ _ _ _ h
      exact ⟨h1, ys, h2, by rw [List.filter_cons, hs]; simpa using h3⟩
    · rw [if_neg hs] at h
      cases hx : stepL l with
      | none => rw [hx] at h; simp at h
      | some x =>
        rw [hx] at h
        simp only at h
        by_cases hl : out.length = 400
        · rw [if_pos hl] at h; simp at h
        · rw [if_neg hl] at h
          obtain ⟨h1, ys, h2, h3⟩ := scan_ok t _ _ _ _ h
          refine ⟨h1, x :: ys, by rw [h2]; simp, ?_⟩
          have hf : skipL l = false := by simpa using hs
          rw [List.filter_cons, hf]
          simp [h3, step_line l x hx]
theorem scan_bad : ∀ (ls : List (List UInt8)) (n : Nat) (out xs : List Stp) (k : Nat), scanL n out ls = (xs, k, false) → xs = []
  | [], n, out, xs, k, h => by simp [scanL] at h
  | l :: t, n, out, xs, k, h => by
    rw [scan_cons] at h
    by_cases hs : skipL l = true
    · rw [if_pos hs] at h; exact scan_bad t _ _ _ _ h
    · rw [if_neg hs] at h
      cases hx : stepL l with
      | none => rw [hx] at h; simp at h; exact h.1
      | some x =>
        rw [hx] at h
        simp only at h
        by_cases hl : out.length = 400
        · rw [if_pos hl] at h; simp at h; exact h.1
        · rw [if_neg hl] at h; exact scan_bad t _ _ _ _ h
theorem parse_lines {s : List UInt8} {xs : List Stp} {k : Nat} (h : parseL s = (xs, k, true)) : k = 0 ∧ xs.map lineL = (splitBy 10 s).filter (fun l => !skipL l) := by
  obtain ⟨h1, ys, h2, h3⟩ := scan_ok _ _ _ _ _ h
  simp only [List.nil_append] at h2
  exact ⟨h1, by rw [h2, h3]⟩
/-- A text of one line. -/
theorem parse_one {s : List UInt8} (h : (10 : UInt8) ∉ s) : parseL s = if skipL s = true then ([], 0, true) else match stepL s with
    | none => ([], 1, false)
    | some x => ([x], 0, true) := by
  unfold parseL
  rw [splitBy_self 10 s h, scan_cons]
  split
  · rfl
  · cases stepL s with
    | none => rfl
    | some x => rfl
/-- Many lines 'book', behind a note. -/
def bookW : List UInt8 := [98, 111, 111, 107]
def noteW : List UInt8 := [35, 32, 97, 32, 110, 111, 116, 101]
def booksW : List UInt8 := [98, 111, 111, 107, 115]
theorem step_book : stepL bookW = some ⟨bookW, [], [], []⟩ := by rfl
theorem step_books : stepL booksW = none := by rfl
theorem skip_note : skipL noteW = true := by decide
theorem skip_book : skipL bookW = false := by decide
theorem skip_books : skipL booksW = false := by decide
theorem scan_books : ∀ (k n : Nat) (out : List Stp) (t : List (List UInt8)), out.length ≤ 400 → scanL n out (List.replicate k bookW ++ t) = if out.length + k ≤ 400 then scanL (n + k) (out ++ List.replicate k ⟨bookW, [], [], []⟩) t else ([], n + (400 - out.length) + 1, false)
  | 0, n, out, t, h => by simp [h]
  | k + 1, n, out, t, h => by
    rw [List.replicate_succ, List.cons_append, scan_cons, if_neg (by rw [skip_book]; simp), step_book]
    simp only
    by_cases hl : out.length = 400
    · rw [if_pos hl, if_neg (by omega), hl]
    · rw [if_neg hl, scan_books k (n + 1) _ t (by simp; omega)]
      simp only [List.length_append, List.length_singleton]
      by_cases h2 : out.length + (k + 1) ≤ 400
      · rw [if_pos (by omega), if_pos h2]
        congr 1
        · omega
        · rw [List.append_assoc, List.singleton_append, List.replicate_succ]
      · rw [if_neg (by omega), if_neg h2]
        congr 2; omega
/-- n times a text. -/
def rep (n : Nat) (l : List UInt8) : List UInt8 := (List.replicate n l).flatten
theorem rep_succ (n : Nat) (l : List UInt8) : rep (n + 1) l = rep n l ++ l := by
  unfold rep; rw [List.replicate_succ']; simp
theorem split_books (n : Nat) (t : List UInt8) : splitBy 10 (rep n (bookW ++ [10]) ++ t) = List.replicate n bookW ++ splitBy 10 t := by
  induction n with
  | zero => simp [rep]
  | succ n ih =>
    unfold rep at ih ⊢
    rw [List.replicate_succ, List.flatten_cons, List.append_assoc, List.append_assoc, List.singleton_append, splitBy_app 10 _ _ (by decide), ih]
    rw [List.replicate_succ]; rfl
def limitT (n : Nat) (more : Bool) : List UInt8 := noteW ++ 10 :: (rep n (bookW ++ [10]) ++ (if more = true then booksW else []))
theorem limit_parse (n : Nat) (more : Bool) : parseL (limitT n more) = if 400 < n then ([], 402, false) else if more = true then ([], n + 2, false) else (List.replicate n ⟨bookW, [], [], []⟩, 0, true) := by
  unfold parseL limitT
  rw [splitBy_app 10 _ _ (by decide), split_books, scan_cons, if_pos skip_note, scan_books _ _ _ _ (by simp)]
  by_cases h : 400 < n
  · rw [if_neg (by simp; omega), if_pos h]; rfl
  · rw [if_pos (by simp; omega), if_neg h]
    cases more with
    | true =>
      simp only [if_true]
      rw [splitBy_self 10 booksW (by decide), scan_cons, if_neg (by rw [skip_books]; simp), step_books, Nat.add_comm 1 n]
    | false => simp [splitBy, scanL, skipL]
/-- A word behind another one. -/
def tickW : List UInt8 := [116, 105, 99, 107]
def lookW : List UInt8 := [108, 111, 111, 107]
theorem step_two (w a : List UInt8) (c : UInt8) (hw : (32 : UInt8) ∉ w) (hn : needOf w = some [c]) (hc : c = 78 ∨ c = 69) : stepL (w ++ 32 :: a) = if (32 : UInt8) ∈ a then none else match numL a with
    | some n => if c = 69 ∧ 1 < n then none else some ⟨w, [(n : Int)], [], []⟩
    | none => none := by
  unfold stepL stepW
  rw [splitBy_app 32 w a hw]
  simp only [List.getD_cons_zero, hn, List.tail_cons, List.length_cons, List.length_nil]
  by_cases ha : (32 : UInt8) ∈ a
  · rw [if_pos ha, if_neg]
    rw [splitBy_length]
    have := List.count_pos_iff.2 ha
    omega
  · rw [if_neg ha, splitBy_self 32 a ha, if_pos (by simp)]
    unfold fieldsL takeL
    rw [if_neg (by rcases hc with rfl | rfl <;> decide), if_neg (by rcases hc with rfl | rfl <;> decide)]
    cases numL a with
    | none => rfl
    | some n =>
      simp only
      by_cases h : c = 69 ∧ 1 < n
      · rw [if_pos h, if_pos h]
      · rw [if_neg h, if_neg h]; simp [fieldsL]
theorem numL_dec (m : Nat) : numL (Lib.decDigits m) = if m ≤ 1099511627776 then some m else none := by
  have hgo : ∀ m : Nat, numGo 0 (Lib.decDigits m) = some m := by
    intro m
    induction m using Nat.strongRecOn with
    | _ m ih =>
      have hb : ∀ d : Nat, d < 10 → ((48 + UInt8.ofNat d : UInt8)).toNat = 48 + d := fun d hd => by rw [UInt8.toNat_add]; simp; omega
      by_cases h : m < 10
      · rw [dd_small m h]; unfold numGo; rw [hb m h, if_pos (by omega)]; simp [numGo]
      · have e : m = 10 * (m / 10) + m % 10 := by omega
        have h1 := ih (m / 10) (by omega)
        rw [e, dd_step (m / 10) (m % 10) (by omega) (by omega), numGo_snoc _ _ _ _ h1, hb _ (by omega), if_pos (by omega)]
        congr 1; omega
  unfold numL
  rw [hgo]
  simp
theorem dec_digit (m : Nat) : ∀ c ∈ Lib.decDigits m, 48 ≤ c.toNat ∧ c.toNat ≤ 57 := by
  induction m using Nat.strongRecOn with
  | _ m ih =>
    have hb : ∀ d : Nat, d < 10 → ((48 + UInt8.ofNat d : UInt8)).toNat = 48 + d := fun d hd => by rw [UInt8.toNat_add]; simp; omega
    by_cases h : m < 10
    · rw [dd_small m h]; intro c hc; rw [List.mem_singleton.1 hc, hb m h]; omega
    · have e : m = 10 * (m / 10) + m % 10 := by omega
      rw [e, dd_step (m / 10) (m % 10) (by omega) (by omega)]
      intro c hc
      rcases List.mem_append.1 hc with h1 | h1
      · exact ih (m / 10) (by omega) c h1
      · rw [List.mem_singleton.1 h1, hb _ (by omega)]; omega
theorem dec_free (m : Nat) (c : UInt8) (h : c.toNat < 48 ∨ 57 < c.toNat) : c ∉ Lib.decDigits m := fun hm => by have := dec_digit m c hm; omega
/-- What one step has, if it is 'tick'. -/
theorem need_tick : needOf tickW = some [78] := by decide +kernel
theorem need_look : needOf lookW = some [69] := by decide +kernel
theorem tick_step (a : List UInt8) : stepL (tickW ++ 32 :: a) = if (32 : UInt8) ∈ a then none else match numL a with
    | some n => some ⟨tickW, [(n : Int)], [], []⟩
    | none => none := by
  rw [step_two tickW a 78 (by decide) need_tick (.inl rfl)]
  split
  · rfl
  · cases numL a with
    | none => rfl
    | some n => simp
theorem look_step (a : List UInt8) : stepL (lookW ++ 32 :: a) = if (32 : UInt8) ∈ a then none else match numL a with
    | some n => if 1 < n then none else some ⟨lookW, [(n : Int)], [], []⟩
    | none => none := by
  rw [step_two lookW a 69 (by decide) need_look (.inr rfl)]
  simp
theorem tick_parse (a : List UInt8) (h : (10 : UInt8) ∉ a) : parseL (tickW ++ 32 :: a) = match stepL (tickW ++ 32 :: a) with
    | none => ([], 1, false)
    | some x => ([x], 0, true) := by
  rw [parse_one (by simp [tickW]; exact h), if_neg]
  simp [skipL, tickW]
theorem look_parse (a : List UInt8) (h : (10 : UInt8) ∉ a) : parseL (lookW ++ 32 :: a) = match stepL (lookW ++ 32 :: a) with
    | none => ([], 1, false)
    | some x => ([x], 0, true) := by
  rw [parse_one (by simp [lookW]; exact h), if_neg]
  simp [skipL, lookW]
/-- The fixed fact. -/
def wokeT : List UInt8 := [97, 115, 107, 32, 48, 32, 100, 97, 116, 97, 32, 54, 49, 54, 50]
theorem woke_parse : parseL wokeT = ([⟨[97, 115, 107], [0], [100, 97, 116, 97], [97, 98]⟩], 0, true) := by kernel_rfl
end Go.Proofs.YtgilbdhoddmpbaaDoor
