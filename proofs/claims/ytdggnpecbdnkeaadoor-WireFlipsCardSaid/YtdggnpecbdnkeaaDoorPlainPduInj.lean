/-
  Unlike units have unlike bytes, plainly.
-/
import Derived.Test.YtdggnpecbdnkeaaDoorPduBytes
set_option linter.unusedVariables false
set_option linter.unusedSimpArgs false
namespace Go.Proofs.YtdggnpecbdnkeaaDoor

theorem wordBytes_cons (x : Int) (t : List Int) : wordBytes (x :: t) = be4 x.toNat ++ wordBytes t := rfl
theorem wordBytes_append (a b : List Int) : wordBytes (a ++ b) = wordBytes a ++ wordBytes b := by simp [wordBytes]
theorem wordBytes_inj : ∀ (a b : List Int), (∀ x ∈ a, 0 ≤ x ∧ x < 4294967296) → (∀ x ∈ b, 0 ≤ x ∧ x < 4294967296) → wordBytes a = wordBytes b → a = b
  | [], [], _, _, _ => rfl
  | [], x :: t, _, _, h => by have := congrArg List.length h; simp [wordBytes_length] at this
  | x :: t, [], _, _, h => by have := congrArg List.length h; simp [wordBytes_length] at this
  | x :: t, y :: u, ha, hb, h => by
    rw [wordBytes_cons, wordBytes_cons] at h
    obtain ⟨h1, h2⟩ := List.append_inj h (by rw [be4_length, be4_length])
    have hx := ha x (by simp)
    have hy := hb y (by simp)
    have e := be4_inj (by omega) (by omega) h1
    rw [show x = y by omega, wordBytes_inj t u (fun z hz => ha z (by simp [hz])) (fun z hz => hb z (by simp [hz])) h2]
theorem padOf_le (dl : Nat) : padOf dl ≤ 3 := by unfold padOf; omega
theorem last_lt {k n : Int} {self : Bool} {dl : Nat} (hk : 1 ≤ k ∧ k ≤ 15) (hn : 0 ≤ n ∧ n < 16777216) : lastWord k n self dl < 4294967296 := by
  have := padOf_le dl
  unfold lastWord
  cases self <;> simp <;> omega
theorem last_parts {k n k' n' : Int} {self self' : Bool} {dl dl' : Nat} (hk : 1 ≤ k ∧ k ≤ 15) (hn : 0 ≤ n ∧ n < 16777216) (hk' : 1 ≤ k' ∧ k' ≤ 15) (hn' : 0 ≤ n' ∧ n' < 16777216) (h : lastWord k n self dl = lastWord k' n' self' dl') :
    k = k' ∧ n = n' ∧ self = self' ∧ padOf dl = padOf dl' := by
  have h1 := padOf_le dl
  have h2 := padOf_le dl'
  unfold lastWord at h
  cases self <;> cases self' <;> simp at h <;> refine ⟨?_, ?_, ?_, ?_⟩ <;> first | rfl | omega
/-- What Check lets by, the rest of it. -/
theorem check_more {k sq n ps mr : Int} {l : List Int} {self : Bool} {dl : Nat} (h : checkOf k sq n ps mr l self dl = 0) :
    ((l.length : Int) = sList k ∨ (sList k < 0 ∧ l.length % 2 = 0)) ∧ (0 < sData k ∨ dl = 0) ∧ (sPs k = true ∨ ps = 0) ∧ (sMr k = true ∨ mr = 0) ∧ (sSq k = true ∨ sq = 0) := by
  unfold checkOf at h
  split at h
  · omega
  split at h
  · omega
  rw [ite_eq_left_iff] at h
  have h3 := Classical.byContradiction fun hc => absurd (h hc) (by decide)
  simp only [Bool.and_eq_true] at h3
  obtain ⟨⟨⟨hl, ha⟩, hs⟩, hq⟩ := h3
  unfold listB at hl
  unfold someB at hs
  unfold sqB at hq
  simp only [Bool.and_eq_true, decide_eq_true_eq, Bool.or_eq_true] at hl hs hq
  exact ⟨hl, hs.1.1.1.1, hs.1.1.2, hs.1.2, hq.2⟩
theorem sList_of (k : Int) : sList k < 0 ↔ k = 11 := by
  unfold sList
  split
  · omega
  · split <;> omega
theorem words_range {k sq n ps mr : Int} {l : List Int} {self : Bool} {dl : Nat} (hn : 0 ≤ n) (hps : 0 ≤ ps) (hmr : 0 ≤ mr) (hll : ∀ x ∈ l, 0 ≤ x) (h : checkOf k sq n ps mr l self dl = 0) : ∀ x ∈ wordsOf k sq ps mr l, 0 ≤ x ∧ x < 4294967296 := by
  obtain ⟨hk1, hk2, hlen, hdl, hsq0, hsq1, hn1, hps1, hmr1, hll1⟩ := check_zero h
  intro x hx
  unfold wordsOf at hx
  simp only [List.mem_append] at hx
  rcases hx with ((hx | hx) | hx) | hx
  · split at hx
    · simp at hx; omega
    · cases hx
  · have := hll x hx; have := hll1 x hx; omega
  · split at hx
    · simp at hx; omega
    · cases hx
  · split at hx
    · simp at hx; omega
    · cases hx
theorem wordsOf_len (k sq ps mr : Int) (l : List Int) : (wordsOf k sq ps mr l).length = (if sSq k then 1 else 0) + l.length + (if sPs k then 1 else 0) + (if sMr k then 1 else 0) := by
  unfold wordsOf
  simp only [List.length_append]
  cases sSq k <;> cases sPs k <;> cases sMr k <;> simp
theorem wordsOf_inj {k sq ps mr sq' ps' mr' : Int} {l l' : List Int} (hp : sPs k = true ∨ ps = 0 ∧ ps' = 0) (hm : sMr k = true ∨ mr = 0 ∧ mr' = 0) (hq : sSq k = true ∨ sq = 0 ∧ sq' = 0)
    (h : wordsOf k sq ps mr l = wordsOf k sq' ps' mr' l') : sq = sq' ∧ ps = ps' ∧ mr = mr' ∧ l = l' := by
  have hl : l.length = l'.length := by
    have := congrArg List.length h
    rw [wordsOf_len, wordsOf_len] at this
    omega
  unfold wordsOf at h
  obtain ⟨h1, e4⟩ := List.append_inj h (by simp only [List.length_append, hl]; cases sSq k <;> cases sPs k <;> simp)
  obtain ⟨h2, e3⟩ := List.append_inj h1 (by simp only [List.length_append, hl]; cases sSq k <;> simp)
  obtain ⟨e1, e2⟩ := List.append_inj h2 (by cases sSq k <;> simp)
  refine ⟨?_, ?_, ?_, e2⟩
  · rcases hq with hq | hq
    · rw [hq] at e1; simpa using e1
    · omega
  · rcases hp with hp | hp
    · rw [hp] at e3; simpa using e3
    · omega
  · rcases hm with hm | hm
    · rw [hm] at e4; simpa using e4
    · omega
theorem bytesOf_inj {k sq n ps mr : Int} {l : List Int} {self : Bool} {d : List UInt8} {k' sq' n' ps' mr' : Int} {l' : List Int} {self' : Bool} {d' : List UInt8}
    (hn : 0 ≤ n) (hps : 0 ≤ ps) (hmr : 0 ≤ mr) (hll : ∀ x ∈ l, 0 ≤ x) (hn' : 0 ≤ n') (hps' : 0 ≤ ps') (hmr' : 0 ≤ mr') (hll' : ∀ x ∈ l', 0 ≤ x)
    (hc : checkOf k sq n ps mr l self d.length = 0) (hc' : checkOf k' sq' n' ps' mr' l' self' d'.length = 0) (h : bytesOf k sq n ps mr l self d = bytesOf k' sq' n' ps' mr' l' self' d') :
    k = k' ∧ sq = sq' ∧ n = n' ∧ ps = ps' ∧ mr = mr' ∧ self = self' ∧ d = d' ∧ l = l' := by
  obtain ⟨hk1, hk2, hlen, hdl, hsq0, hsq1, hn1, hps1, hmr1, hll1⟩ := check_zero hc
  obtain ⟨hk1', hk2', hlen', hdl', hsq0', hsq1', hn1', hps1', hmr1', hll1'⟩ := check_zero hc'
  obtain ⟨m1, m2, m3, m4, m5⟩ := check_more hc
  obtain ⟨m1', m2', m3', m4', m5'⟩ := check_more hc'
  have hr := words_range hn hps hmr hll hc
  have hr' := words_range hn' hps' hmr' hll' hc'
  unfold bytesOf at h
  obtain ⟨h1, hlast⟩ := List.append_inj' h (by rw [be4_length, be4_length])
  obtain ⟨rfl, rfl, rfl, hpad⟩ := last_parts ⟨hk1, hk2⟩ ⟨hn, hn1⟩ ⟨hk1', hk2'⟩ ⟨hn', hn1'⟩ (be4_inj (last_lt ⟨hk1, hk2⟩ ⟨hn, hn1⟩) (last_lt ⟨hk1', hk2'⟩ ⟨hn', hn1'⟩) hlast)
  have hd : (d ++ Lib.repeatL [0] (padOf d.length)) = (d' ++ Lib.repeatL [0] (padOf d'.length)) ∧ wordBytes (wordsOf k sq ps mr l) = wordBytes (wordsOf k sq' ps' mr' l') := by
    by_cases h11 : k = 11
    · subst h11
      have e : sData 11 = 0 := by decide
      have z : d.length = 0 := by omega
      have z' : d'.length = 0 := by omega
      obtain rfl := List.eq_nil_of_length_eq_zero z
      obtain rfl := List.eq_nil_of_length_eq_zero z'
      exact List.append_inj h1 rfl
    · have hs : ¬ sList k < 0 := fun h => h11 ((sList_of k).1 h)
      refine List.append_inj' h1 ?_
      rw [wordBytes_length, wordBytes_length, wordsOf_len, wordsOf_len]
      omega
  obtain ⟨hd1, hw⟩ := hd
  obtain ⟨rfl, rfl, rfl, rfl⟩ := wordsOf_inj (by rcases m3 with h | h <;> rcases m3' with h' | h' <;> first | exact Or.inl h | exact Or.inl h' | exact Or.inr ⟨h, h'⟩) (by rcases m4 with h | h <;> rcases m4' with h' | h' <;> first | exact Or.inl h | exact Or.inl h' | exact Or.inr ⟨h, h'⟩) (by rcases m5 with h | h <;> rcases m5' with h' | h' <;> first | exact Or.inl h | exact Or.inl h' | exact Or.inr ⟨h, h'⟩) (wordBytes_inj _ _ hr hr' hw)
  rw [hpad] at hd1
  exact ⟨rfl, rfl, rfl, rfl, rfl, rfl, List.append_cancel_right hd1, rfl⟩
end Go.Proofs.YtdggnpecbdnkeaaDoor
