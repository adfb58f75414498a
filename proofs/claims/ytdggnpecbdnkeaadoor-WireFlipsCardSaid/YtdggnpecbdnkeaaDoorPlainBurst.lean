/-
  Bits turned within 32, plainly: a register of sums that ends alike for two texts of one length that differ within 32 bits: the texts are one.
-/
import Derived.Test.YtdggnpecbdnkeaaDoorPlainCrc
import Derived.Test.YtdggnpecbdnkeaaDoorPlainBe4
set_option linter.unusedVariables false
set_option linter.unusedSimpArgs false
namespace Go.Proofs.YtdggnpecbdnkeaaDoor

/-- A bit of a text: 0 is the highest one of the first byte. -/
def bitAt (l : List UInt8) (k : Nat) : Bool := (l.getD (k / 8) 0).toNat.testBit (7 - k % 8)
def top1 (c : Bool) : BitVec 32 := if c then 2147483648#32 else 0#32
def feed (x : BitVec 32) (c : Bool) : BitVec 32 := st (x ^^^ top1 c)
def feedN (x : BitVec 32) (D : Nat → Bool) : Nat → BitVec 32
  | 0 => x
  | n + 1 => feed (feedN x D n) (D n)
theorem top1_xor (a b : Bool) : top1 (a ^^ b) = top1 a ^^^ top1 b := by cases a <;> cases b <;> decide
theorem feedN_xor (x y : BitVec 32) (D E : Nat → Bool) : ∀ n, feedN (x ^^^ y) (fun k => D k ^^ E k) n = feedN x D n ^^^ feedN y E n
  | 0 => rfl
  | n + 1 => by
    show feed (feedN _ _ n) _ = feed _ _ ^^^ feed _ _
    unfold feed
    rw [feedN_xor x y D E n, top1_xor, xor_swap, st_xor]
def feed8 (x : BitVec 32) (b : Nat) : BitVec 32 := feed (feed (feed (feed (feed (feed (feed (feed x (b.testBit 7)) (b.testBit 6)) (b.testBit 5)) (b.testBit 4)) (b.testBit 3)) (b.testBit 2)) (b.testBit 1)) (b.testBit 0)
theorem feed_split (x y : BitVec 32) (c : Bool) : feed (x ^^^ y) c = st x ^^^ feed y c := by
  unfold feed; rw [BitVec.xor_assoc, st_xor]
set_option maxRecDepth 100000 in
theorem feed8_zero : ∀ b : Fin 256, feed8 0#32 b.val = stN 8 (topB b.val) := by decide +kernel
theorem feed8_on (x : BitVec 32) (b : UInt8) : feed8 x b.toNat = on x b := by
  have h0 := feed8_zero ⟨b.toNat, b.toNat_lt⟩
  have h1 : feed8 (x ^^^ 0#32) b.toNat = stN 8 x ^^^ feed8 0#32 b.toNat := by
    unfold feed8
    rw [feed_split, feed_split, feed_split, feed_split, feed_split, feed_split, feed_split, feed_split]
    rfl
  rw [BitVec.xor_zero] at h1
  unfold on
  rw [h1, stN_xor]
  exact congrArg _ h0
theorem feedN_run (x : BitVec 32) (l : List UInt8) : ∀ j, j ≤ l.length → feedN x (bitAt l) (8 * j) = run x (l.take j)
  | 0, _ => rfl
  | j + 1, h => by
    have ih := feedN_run x l j (by omega)
    have hb : ∀ i, i < 8 → bitAt l (8 * j + i) = (l.getD j 0).toNat.testBit (7 - i) := fun i hi => by
      unfold bitAt
      rw [show (8 * j + i) / 8 = j by omega, show (8 * j + i) % 8 = i by omega]
    have hg : l.getD j 0 = l[j] := by rw [List.getD_eq_getElem?_getD, List.getElem?_eq_getElem (by omega)]; rfl
    rw [List.take_succ_eq_append_getElem (by omega)]
    have hr : run x (l.take j ++ [l[j]]) = on (run x (l.take j)) l[j] := by unfold run; rw [List.foldl_append]; rfl
    rw [hr, ← ih, ← feed8_on, ← hg]
    show feed (feed (feed (feed (feed (feed (feed (feed (feedN x (bitAt l) (8 * j)) (bitAt l (8 * j + 0))) (bitAt l (8 * j + 1))) (bitAt l (8 * j + 2))) (bitAt l (8 * j + 3))) (bitAt l (8 * j + 4))) (bitAt l (8 * j + 5))) (bitAt l (8 * j + 6))) (bitAt l (8 * j + 7)) = _
    rw [hb 0 (by omega), hb 1 (by omega), hb 2 (by omega), hb 3 (by omega), hb 4 (by omega), hb 5 (by omega), hb 6 (by omega), hb 7 (by omega)]
    rfl
theorem feedN_run_all (x : BitVec 32) (l : List UInt8) : feedN x (bitAt l) (8 * l.length) = run x l := by
  rw [feedN_run x l l.length (Nat.le_refl _), List.take_of_length_le (Nat.le_refl _)]
theorem feed_no (x : BitVec 32) : feed x false = st x := by unfold feed top1; simp
theorem feedN_still (D : Nat → Bool) (a : Nat) : ∀ n, (∀ k, a ≤ k → k < a + n → D k = false) → ∀ x, feedN x D (a + n) = stN n (feedN x D a)
  | 0, _, _ => rfl
  | n + 1, h, x => by
    show feed (feedN x D (a + n)) (D (a + n)) = _
    rw [h (a + n) (by omega) (by omega), feed_no, feedN_still D a n (fun k h1 h2 => h k h1 (by omega)) x]
    have := stN_add n 1 (feedN x D a)
    exact this
/-- Up to 32 bits, as one word. -/
def wordOf (D : Nat → Bool) (a : Nat) : Nat → BitVec 32
  | 0 => 0#32
  | m + 1 => wordOf D a m ^^^ (if D (a + m) then BitVec.twoPow 32 (31 - m) else 0#32)
theorem stN_two (m : Nat) (h : m ≤ 31) : stN m (BitVec.twoPow 32 (31 - m)) = 2147483648#32 := by
  have hv : (BitVec.twoPow 32 (31 - m)).toNat = 2 ^ (31 - m) := by
    rw [BitVec.toNat_twoPow, Nat.mod_eq_of_lt]
    exact Nat.pow_lt_pow_right (by decide) (by omega)
  rw [stN_small m _ (by omega) (by rw [hv]; exact Nat.pow_lt_pow_right (by decide) (by omega))]
  apply BitVec.eq_of_toNat_eq
  rw [BitVec.toNat_shiftLeft, hv, Nat.shiftLeft_eq, ← Nat.pow_add, show 31 - m + m = 31 by omega]
  rfl
theorem feedN_word (D : Nat → Bool) (a : Nat) (h0 : feedN 0#32 D a = 0#32) : ∀ m, m ≤ 32 → feedN 0#32 D (a + m) = stN m (wordOf D a m)
  | 0, _ => h0
  | m + 1, h => by
    show feed (feedN 0#32 D (a + m)) (D (a + m)) = stN (m + 1) (wordOf D a m ^^^ _)
    rw [feedN_word D a h0 m (by omega)]
    have e : top1 (D (a + m)) = stN m (if D (a + m) then BitVec.twoPow 32 (31 - m) else 0#32) := by
      cases D (a + m)
      · simp [top1, stN_zero]
      · simp only [top1, if_true]; rw [stN_two m (by omega)]
    unfold feed
    rw [e, ← stN_xor]
    exact stN_add m 1 _
theorem wordOf_bit (D : Nat → Bool) (a : Nat) : ∀ m, m ≤ 32 → ∀ i, i < 32 → (wordOf D a m).getLsbD (31 - i) = (decide (i < m) && D (a + i))
  | 0, _, i, _ => by simp [wordOf]
  | m + 1, h, i, hi => by
    show (wordOf D a m ^^^ _).getLsbD _ = _
    rw [BitVec.getLsbD_xor, wordOf_bit D a m (by omega) i hi]
    have e : (if D (a + m) then BitVec.twoPow 32 (31 - m) else 0#32).getLsbD (31 - i) = (decide (i = m) && D (a + m)) := by
      cases D (a + m)
      · simp
      · simp only [if_true, BitVec.getLsbD_twoPow]
        by_cases h1 : i = m
        · subst h1; simp; omega
        · have : ¬ (31 - m = 31 - i) := by omega
          simp [h1, this]
    rw [e]
    by_cases h1 : i = m
    · subst h1; simp
    · by_cases h2 : i < m
      · have : i < m + 1 := by omega
        simp [h1, h2, this]
      · have : ¬ i < m + 1 := by omega
        simp [h1, h2, this]
/-- A word that ends in nought has no bit. -/
theorem feed_burst (D : Nat → Bool) (N a : Nat) (ha : a ≤ N) (hD : ∀ k, k < N → D k = true → a ≤ k ∧ k < a + 32) (h : feedN 0#32 D N = 0#32) : ∀ k, k < N → D k = false := by
  have h0 : feedN 0#32 D a = 0#32 := by
    have := feedN_still D 0 a (fun k _ hk => by
      cases hd : D k with
      | false => rfl
      | true => have := (hD k (by omega) hd).1; omega) 0#32
    rw [Nat.zero_add] at this
    rw [this]; exact stN_zero a
  obtain ⟨m, hm, hmN, hrest⟩ : ∃ m, m ≤ 32 ∧ a + m ≤ N ∧ (m = 32 ∨ a + m = N) := by
    by_cases hq : a + 32 ≤ N
    · exact ⟨32, by omega, hq, .inl rfl⟩
    · exact ⟨N - a, by omega, by omega, .inr (by omega)⟩
  have hw := feedN_word D a h0 m hm
  have hs : feedN 0#32 D (a + m + (N - (a + m))) = stN (N - (a + m)) (feedN 0#32 D (a + m)) := feedN_still D (a + m) (N - (a + m)) (fun k h1 h2 => by
    cases hd : D k with
    | false => rfl
    | true => have := (hD k (by omega) hd).2; omega) 0#32
  rw [show a + m + (N - (a + m)) = N by omega, h, hw] at hs
  have hz := stN_inj0 m _ (stN_inj0 _ _ hs.symm)
  intro k hk
  cases hd : D k with
  | false => rfl
  | true =>
    obtain ⟨h1, h2⟩ := hD k hk hd
    have hb := wordOf_bit D a m hm (k - a) (by omega)
    rw [hz, show a + (k - a) = k by omega, hd, decide_eq_true (by omega)] at hb
    simp at hb
theorem bits_ext {l k : List UInt8} (hl : l.length = k.length) (h : ∀ j, j < 8 * l.length → bitAt l j = bitAt k j) : l = k := by
  apply List.ext_getElem hl
  intro i h1 h2
  apply UInt8.toNat_inj.1
  apply Nat.eq_of_testBit_eq
  intro q
  by_cases hq : q < 8
  · have := h (8 * i + (7 - q)) (by omega)
    unfold bitAt at this
    rw [show (8 * i + (7 - q)) / 8 = i by omega, show (8 * i + (7 - q)) % 8 = 7 - q by omega, show 7 - (7 - q) = q by omega] at this
    rw [List.getD_eq_getElem?_getD, List.getD_eq_getElem?_getD, List.getElem?_eq_getElem h1, List.getElem?_eq_getElem h2] at this
    exact this
  · have e : ∀ b : UInt8, b.toNat.testBit q = false := fun b => Nat.testBit_lt_two_pow (Nat.lt_of_lt_of_le b.toNat_lt (by
      show 2 ^ 8 ≤ 2 ^ q
      exact Nat.pow_le_pow_right (by decide) (by omega)))
    rw [e, e]
/-- Two texts that differ within 32 bits and end alike are one. -/
theorem burst {l k : List UInt8} (a : Nat) (hl : l.length = k.length) (hD : ∀ j, j < 8 * l.length → bitAt l j ≠ bitAt k j → a ≤ j ∧ j < a + 32) (x : BitVec 32) (h : run x l = run x k) : l = k := by
  by_cases ha : a ≤ 8 * l.length
  · apply bits_ext hl
    have hx := feedN_xor x x (bitAt l) (bitAt k) (8 * l.length)
    rw [feedN_run_all, show feedN x (bitAt k) (8 * l.length) = run x k by rw [hl]; exact feedN_run_all x k, h, BitVec.xor_self, BitVec.xor_self] at hx
    have := feed_burst (fun j => bitAt l j ^^ bitAt k j) (8 * l.length) a ha (fun j hj hd => hD j hj (by
      intro e; simp [e] at hd)) hx
    intro j hj
    have := this j hj
    revert this
    cases bitAt l j <;> cases bitAt k j <;> simp
  · apply bits_ext hl
    intro j hj
    rcases Decidable.em (bitAt l j = bitAt k j) with h1 | h1
    · exact h1
    · have := (hD j hj h1).1; omega
/-- What fits ends in one word, whatever it is. -/
theorem topB_parts (n : Nat) (hn : n < 4294967296) (x : BitVec 32) : run x (be4 n) = stN 32 (x ^^^ BitVec.ofNat 32 n) := by
  have e : ∀ m : Nat, (m.toUInt8).toNat = m % 256 := fun m => by simp [Nat.toUInt8, UInt8.toNat_ofNat']
  have hs : ∀ (m k : Nat), k ≤ 24 → m < 256 → stN (24 - k) (BitVec.ofNat 32 (m * 2 ^ k)) = topB m := fun m k hk hm => by
    have hlt : m * 2 ^ k < 2 ^ (8 + k) := by rw [Nat.pow_add]; exact (Nat.mul_lt_mul_right (Nat.pow_pos (by decide))).2 hm
    have hlt2 : m * 2 ^ k < 2 ^ 32 := Nat.lt_of_lt_of_le hlt (Nat.pow_le_pow_right (by decide) (by omega))
    have hv : (BitVec.ofNat 32 (m * 2 ^ k)).toNat = m * 2 ^ k := by rw [BitVec.toNat_ofNat, Nat.mod_eq_of_lt hlt2]
    rw [stN_small (24 - k) _ (by omega) (by rw [hv]; exact Nat.lt_of_lt_of_le hlt (Nat.pow_le_pow_right (by decide) (by omega)))]
    apply BitVec.eq_of_toNat_eq
    rw [BitVec.toNat_shiftLeft, hv, Nat.shiftLeft_eq, Nat.mul_assoc, ← Nat.pow_add, show k + (24 - k) = 24 by omega]
    unfold topB
    rw [BitVec.toNat_ofNat]
  have h3 := hs (n / 16777216 % 256) 24 (by omega) (by omega)
  have h2 := hs (n / 65536 % 256) 16 (by omega) (by omega)
  have h1 := hs (n / 256 % 256) 8 (by omega) (by omega)
  have h0 := hs (n % 256) 0 (by omega) (by omega)
  have hsum : BitVec.ofNat 32 n = BitVec.ofNat 32 (n / 16777216 % 256 * 2 ^ 24) ^^^ (BitVec.ofNat 32 (n / 65536 % 256 * 2 ^ 16) ^^^ (BitVec.ofNat 32 (n / 256 % 256 * 2 ^ 8) ^^^ BitVec.ofNat 32 (n % 256 * 2 ^ 0))) := by
    have hadd : ∀ (a b k : Nat), b < 2 ^ k → a * 2 ^ k ^^^ b = a * 2 ^ k + b := fun a b k hb => by
      rw [Nat.mul_comm, Nat.two_pow_add_eq_or_of_lt hb]
      apply Nat.eq_of_testBit_eq
      intro i
      rw [Nat.testBit_xor, Nat.testBit_or]
      by_cases hi : i < k
      · have : (2 ^ k * a).testBit i = false := by
          rw [Nat.mul_comm, ← Nat.shiftLeft_eq, Nat.testBit_shiftLeft]; simp; omega
        rw [this]; simp
      · have : b.testBit i = false := Nat.testBit_lt_two_pow (Nat.lt_of_lt_of_le hb (Nat.pow_le_pow_right (by decide) (by omega)))
        rw [this]; simp
    apply BitVec.eq_of_toNat_eq
    rw [BitVec.toNat_xor, BitVec.toNat_xor, BitVec.toNat_xor]
    simp only [BitVec.toNat_ofNat]
    rw [Nat.mod_eq_of_lt (a := n) (by omega), Nat.mod_eq_of_lt (a := n / 16777216 % 256 * 2 ^ 24) (by omega), Nat.mod_eq_of_lt (a := n / 65536 % 256 * 2 ^ 16) (by omega), Nat.mod_eq_of_lt (a := n / 256 % 256 * 2 ^ 8) (by omega), Nat.mod_eq_of_lt (a := n % 256 * 2 ^ 0) (by omega)]
    rw [hadd (n / 256 % 256) (n % 256 * 2 ^ 0) 8 (by omega), hadd (n / 65536 % 256) _ 16 (by omega), hadd (n / 16777216 % 256) _ 24 (by omega)]
    omega
  show on (on (on (on x _) _) _) _ = _
  unfold on
  rw [e, e, e, e, hsum]
  have f3 : stN 32 (BitVec.ofNat 32 (n / 16777216 % 256 * 2 ^ 24)) = stN 32 (topB (n / 16777216 % 256)) := by rw [← h3]; rfl
  have f2 : stN 32 (BitVec.ofNat 32 (n / 65536 % 256 * 2 ^ 16)) = stN 24 (topB (n / 65536 % 256)) := by rw [← h2, stN_add]
  have f1 : stN 32 (BitVec.ofNat 32 (n / 256 % 256 * 2 ^ 8)) = stN 16 (topB (n / 256 % 256)) := by rw [← h1, stN_add]
  have f0 : stN 32 (BitVec.ofNat 32 (n % 256 * 2 ^ 0)) = stN 8 (topB (n % 256)) := by rw [← h0, stN_add]
  simp only [stN_xor, stN_add] at *
  rw [f3, f2, f1, f0]
  simp only [BitVec.xor_assoc]
end Go.Proofs.YtdggnpecbdnkeaaDoor
