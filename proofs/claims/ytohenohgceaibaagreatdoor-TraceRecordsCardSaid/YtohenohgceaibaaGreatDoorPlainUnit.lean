/-
  What a unit that may be has; the document's text of it; plainly.
-/
import Derived.Test.YtohenohgceaibaaGreatDoorPlainTrace
import Derived.Lib.ItoaLen
set_option linter.unusedVariables false
set_option linter.unusedSimpArgs false
namespace Go.Proofs.YtohenohgceaibaaGreatDoor
open Go

theorem ck_parts {k sq n ps mr : Int} {l : List Int} {self : Bool} {dl : Nat} (h : checkOf k sq n ps mr l self dl = 0) :
    (1 ≤ k ∧ k ≤ 15) ∧ l.length ≤ 128 ∧ dl ≤ 200 ∧ ((l.length : Int) = sList k ∨ (sList k < 0 ∧ l.length % 2 = 0)) ∧ (n < 16777216 ∧ ps < 16777216 ∧ mr < 16777216 ∧ ∀ x ∈ l, x < 16777216) ∧
      ((0 < sData k ∨ dl = 0) ∧ (sN k = true ∨ n = 0) ∧ (sPs k = true ∨ ps = 0) ∧ (sMr k = true ∨ mr = 0) ∧ (sSelf k = true ∨ self = false)) ∧ (0 ≤ sq ∧ sq ≤ 255 ∧ (sSq k = true ∨ sq = 0)) := by
  unfold checkOf at h
  split at h
  · omega
  rename_i h1
  split at h
  · omega
  rename_i h2
  rw [ite_eq_left_iff] at h
  have h3 := Classical.byContradiction fun hc => absurd (h hc) (by decide)
  have hk : 1 ≤ k ∧ k ≤ 15 := by simpa [sIs] using h1
  simp only [Bool.and_eq_true] at h3
  obtain ⟨⟨⟨hl, ha⟩, hs⟩, hq⟩ := h3
  unfold listB at hl
  unfold allB lowB at ha
  unfold sqB at hq
  unfold bigB at h2
  unfold someB at hs
  simp only [Bool.and_eq_true, decide_eq_true_eq, List.all_eq_true, Bool.or_eq_true, Bool.not_eq_true'] at ha hq h2 hs hl
  have hd : sData k = 0 ∨ sData k = 64 ∨ sData k = 200 := by
    unfold sData
    split
    · simp
    · split <;> simp
  have hs1 := hs.1.1.1.1
  exact ⟨hk, by omega, by omega, hl, ⟨ha.1.1.1, ha.1.1.2, ha.1.2, ha.2⟩, ⟨hs.1.1.1.1, hs.1.1.1.2, hs.1.1.2, hs.1.2, hs.2⟩, hq.1.1, hq.1.2, hq.2⟩
theorem fit_of (p : Pd) (hn : 0 ≤ p.n) (hps : 0 ≤ p.ps) (hmr : 0 ≤ p.mr) (hl : ∀ x ∈ p.l, 0 ≤ x) (h : ckOf p = 0) : Fit p := by
  obtain ⟨k, sq, n, ps, mr, l, self, d⟩ := p
  unfold ckOf at h
  simp only at hn hps hmr hl h
  obtain ⟨⟨k1, k2⟩, h1, h2, h3, ⟨h4, h5, h6, h7⟩, ⟨h8, h9, h10, h11, h12⟩, h13, h14, h15⟩ := ck_parts h
  have hk : k = 1 ∨ k = 2 ∨ k = 3 ∨ k = 4 ∨ k = 5 ∨ k = 6 ∨ k = 7 ∨ k = 8 ∨ k = 9 ∨ k = 10 ∨ k = 11 ∨ k = 12 ∨ k = 13 ∨ k = 14 ∨ k = 15 := by omega
  refine ⟨k1, k2, ⟨h13, by show sq < _; omega⟩, ⟨hn, h4⟩, ⟨hps, h5⟩, ⟨hmr, h6⟩, fun x hx => ⟨hl x hx, h7 x hx⟩, ?_, ?_, ?_, ?_, ?_, ?_, ?_⟩ <;> simp only
  · rcases hk with rfl | rfl | rfl | rfl | rfl | rfl | rfl | rfl | rfl | rfl | rfl | rfl | rfl | rfl | rfl <;> simp [hasL, sSq] at h15 ⊢ <;> first | exact h15 | skip
  · rcases hk with rfl | rfl | rfl | rfl | rfl | rfl | rfl | rfl | rfl | rfl | rfl | rfl | rfl | rfl | rfl <;> simp [hasL, sN] at h9 ⊢ <;> first | exact h9 | skip
  · rcases hk with rfl | rfl | rfl | rfl | rfl | rfl | rfl | rfl | rfl | rfl | rfl | rfl | rfl | rfl | rfl <;> simp [hasL, sPs] at h10 ⊢ <;> first | exact h10 | skip
  · rcases hk with rfl | rfl | rfl | rfl | rfl | rfl | rfl | rfl | rfl | rfl | rfl | rfl | rfl | rfl | rfl <;> simp [hasL, sMr] at h11 ⊢ <;> first | exact h11 | skip
  · rcases hk with rfl | rfl | rfl | rfl | rfl | rfl | rfl | rfl | rfl | rfl | rfl | rfl | rfl | rfl | rfl <;> simp [hasL, sList] at h3 ⊢ <;> first | exact h3 | skip
  · rcases hk with rfl | rfl | rfl | rfl | rfl | rfl | rfl | rfl | rfl | rfl | rfl | rfl | rfl | rfl | rfl <;> simp [hasL, sData] at h8 ⊢ <;> first | exact h8 | skip
  · rcases hk with rfl | rfl | rfl | rfl | rfl | rfl | rfl | rfl | rfl | rfl | rfl | rfl | rfl | rfl | rfl <;> simp [sSelf] at h12 ⊢ <;> first | (intro hs; rw [hs] at h12; cases h12) | (rw [h12]) | skip
/-- Joined, one by one. -/
theorem join_flat (c : UInt8) : ∀ (w : List UInt8) (ws : List (List UInt8)), joinBy c (w :: ws) = w ++ ws.flatMap (fun v => c :: v)
  | w, [] => by simp [joinBy]
  | w, v :: vs => by
    rw [join_cons c w (by simp), join_flat c v vs]; simp
theorem unit_flat (p : Pd) : unitText p = nameOf p.k ++ (hasL p.k).flatMap (fun c => (fieldWs p c).flatMap (fun v => 32 :: v)) := by
  unfold unitText wordsP
  rw [join_flat, List.flatMap_assoc]
/-- The document's text. -/
def refUnit (p : Pd) : List UInt8 :=
  nameOf p.k ++ (if sSq p.k then [32, 115, 113] ++ Lib.itoa p.sq else []) ++ (if sN p.k then [32, 110] ++ Lib.itoa p.n else []) ++ (if p.k = 10 ∨ p.k = 11 then [32, 112, 115] ++ Lib.itoa p.ps else [])
    ++ (if p.k = 11 ∨ p.k = 12 then [32, 109, 114] ++ Lib.itoa p.mr ++ [32, 108] ++ listW p.l else []) ++ (if p.self then 32 :: selfW else []) ++ (if 0 < sData p.k then [32, 100] ++ hexOf p.d else [])
theorem refUnit_eq (p : Pd) (hp : Fit p) : refUnit p = unitText p := by
  rw [unit_flat]
  unfold refUnit
  have hs := hp.self
  have h1 := hp.k1
  have h2 := hp.k2
  obtain ⟨k, sq, n, ps, mr, l, self, d⟩ := p
  simp only at hs h1 h2 ⊢
  have hk : k = 1 ∨ k = 2 ∨ k = 3 ∨ k = 4 ∨ k = 5 ∨ k = 6 ∨ k = 7 ∨ k = 8 ∨ k = 9 ∨ k = 10 ∨ k = 11 ∨ k = 12 ∨ k = 13 ∨ k = 14 ∨ k = 15 := by omega
  rcases hk with rfl | rfl | rfl | rfl | rfl | rfl | rfl | rfl | rfl | rfl | rfl | rfl | rfl | rfl | rfl <;> cases self <;> simp at hs <;>
    simp [hasL, sSq, sN, sData, fieldWs, fieldW, selfW]
/-- As many words as fields. -/
theorem words_count (p : Pd) (hp : Fit p) : (unitText p).count 32 + 1 = 1 + (if sSq p.k then 1 else 0) + (if sN p.k then 1 else 0) + (if p.k = 10 ∨ p.k = 11 then 1 else 0) + (if p.k = 11 ∨ p.k = 12 then 1 else 0) + (if p.k = 11 ∨ p.k = 12 then 1 else 0) + (if p.self then 1 else 0) + (if 0 < sData p.k then 1 else 0) := by
  rw [← splitBy_length, split_unit p hp]
  have hs := hp.self
  have h1 := hp.k1
  have h2 := hp.k2
  obtain ⟨k, sq, n, ps, mr, l, self, d⟩ := p
  simp only at hs h1 h2 ⊢
  have hk : k = 1 ∨ k = 2 ∨ k = 3 ∨ k = 4 ∨ k = 5 ∨ k = 6 ∨ k = 7 ∨ k = 8 ∨ k = 9 ∨ k = 10 ∨ k = 11 ∨ k = 12 ∨ k = 13 ∨ k = 14 ∨ k = 15 := by omega
  rcases hk with rfl | rfl | rfl | rfl | rfl | rfl | rfl | rfl | rfl | rfl | rfl | rfl | rfl | rfl | rfl <;> cases self <;> simp at hs <;>
    simp [wordsP, hasL, sSq, sN, sData, fieldWs]
theorem unit_inj {p q : Pd} (hp : Fit p) (hq : Fit q) (cp : ckOf p = 0) (cq : ckOf q = 0) (h : unitText p = unitText q) : p = q := by
  have h1 := parse_unit p hp cp
  rw [h, parse_unit q hq cq] at h1
  exact (Option.some.inj h1).symm
theorem parse_none : parseT [] = none := by decide +kernel
theorem join_le (c : UInt8) (m : Nat) : ∀ (ws : List (List UInt8)), (∀ w ∈ ws, w.length ≤ m) → (joinBy c ws).length ≤ ws.length * (m + 1)
  | [], _ => by simp [joinBy]
  | [w], h => by have := h w (by simp); show w.length ≤ 1 * (m + 1); omega
  | w :: v :: ws, h => by
    have h1 := h w (by simp)
    have h2 := join_le c m (v :: ws) (fun x hx => h x (by simp [hx]))
    show (w ++ c :: joinBy c (v :: ws)).length ≤ (ws.length + 1 + 1) * (m + 1)
    rw [List.length_append, List.length_cons, Nat.add_mul]
    simp only [List.length_cons] at h2
    omega
theorem itoa_le (v : Int) (h : 0 ≤ v ∧ v < 16777216) : (Lib.itoa v).length ≤ 21 := Lib.itoa_length_le v (by omega) (by omega)
theorem listW_le (l : List Int) (h : ∀ x ∈ l, 0 ≤ x ∧ x < 16777216) (hl : l.length ≤ 128) : (listW l).length ≤ 2816 := by
  unfold listW
  split
  · simp
  · have := join_le 44 21 (l.map Lib.itoa) (fun w hw => by
      obtain ⟨x, hx, rfl⟩ := List.mem_map.1 hw
      exact itoa_le x (h x hx))
    rw [List.length_map] at this
    omega
theorem ite5 {c : Prop} [Decidable c] {a b : List UInt8} (ha : a.length ≤ 5) (hb : b.length ≤ 5) : (if c then a else b).length ≤ 5 := by split <;> assumption
theorem name_le (k : Int) : (nameOf k).length ≤ 5 := by
  unfold nameOf
  repeat' (refine ite5 ?_ ?_)
  all_goals decide
theorem text_le (p : Pd) (hp : Fit p) (hl : p.l.length ≤ 128) (hd : p.d.length ≤ 200) : (unitText p).length ≤ 4000 := by
  rw [unit_flat]
  have h1 := hp.k1
  have h2 := hp.k2
  have n1 := itoa_le _ hp.sq
  have n2 := itoa_le _ hp.n
  have n3 := itoa_le _ hp.ps
  have n4 := itoa_le _ hp.mr
  have n5 := listW_le _ hp.l hl
  have n6 := hexOf_length p.d
  obtain ⟨k, sq, n, ps, mr, l, self, d⟩ := p
  simp only at *
  have hk : k = 1 ∨ k = 2 ∨ k = 3 ∨ k = 4 ∨ k = 5 ∨ k = 6 ∨ k = 7 ∨ k = 8 ∨ k = 9 ∨ k = 10 ∨ k = 11 ∨ k = 12 ∨ k = 13 ∨ k = 14 ∨ k = 15 := by omega
  rcases hk with rfl | rfl | rfl | rfl | rfl | rfl | rfl | rfl | rfl | rfl | rfl | rfl | rfl | rfl | rfl <;> cases self <;>
    simp [hasL, fieldWs, fieldW, selfW, nameOf] <;> omega
end Go.Proofs.YtohenohgceaibaaGreatDoor
