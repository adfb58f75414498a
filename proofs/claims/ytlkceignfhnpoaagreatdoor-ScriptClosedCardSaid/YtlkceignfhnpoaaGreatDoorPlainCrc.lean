/-
  Sums of bytes, plainly: a register of 32 bits moved on bit by bit; it is linear, and one-to-one.
-/
set_option linter.unusedVariables false
set_option linter.unusedSimpArgs false
namespace Go.Proofs.YtlkceignfhnpoaaGreatDoor

def crcP : BitVec 32 := 79764919#32
/-- One bit on. -/
def st (x : BitVec 32) : BitVec 32 := (x <<< 1) ^^^ (if x.msb then crcP else 0#32)
def stN : Nat → BitVec 32 → BitVec 32
  | 0, x => x
  | n + 1, x => stN n (st x)
theorem xor4 (a b p : BitVec 32) : (a ^^^ b) = (a ^^^ p) ^^^ (b ^^^ p) := by
  rw [BitVec.xor_assoc, ← BitVec.xor_assoc p b p, BitVec.xor_comm p b, BitVec.xor_assoc b p p, BitVec.xor_self, BitVec.xor_zero]
theorem xor_swap (a b c d : BitVec 32) : (a ^^^ b) ^^^ (c ^^^ d) = (a ^^^ c) ^^^ (b ^^^ d) := by
  rw [BitVec.xor_assoc, ← BitVec.xor_assoc b c d, BitVec.xor_comm b c, BitVec.xor_assoc c b d, ← BitVec.xor_assoc]
theorem st_xor (x y : BitVec 32) : st (x ^^^ y) = st x ^^^ st y := by
  unfold st
  rw [BitVec.shiftLeft_xor_distrib, BitVec.msb_xor, xor_swap]
  cases x.msb <;> cases y.msb <;> simp
theorem stN_xor : ∀ (n : Nat) (x y : BitVec 32), stN n (x ^^^ y) = stN n x ^^^ stN n y
  | 0, _, _ => rfl
  | n + 1, x, y => by show stN n (st (x ^^^ y)) = _; rw [st_xor, stN_xor n]; rfl
theorem st_zero : st 0#32 = 0#32 := by decide
theorem stN_zero : ∀ n, stN n 0#32 = 0#32
  | 0 => rfl
  | n + 1 => by show stN n (st 0#32) = _; rw [st_zero, stN_zero n]
theorem stN_add : ∀ (m n : Nat) (x : BitVec 32), stN n (stN m x) = stN (m + n) x
  | 0, n, x => by rw [Nat.zero_add]; rfl
  | m + 1, n, x => by rw [show m + 1 + n = (m + n) + 1 by omega]; exact stN_add m n (st x)
theorem st_inj0 (x : BitVec 32) (h : st x = 0#32) : x = 0#32 := by
  unfold st at h
  cases hm : x.msb with
  | true =>
    rw [hm, if_pos rfl] at h
    have := congrArg (fun y : BitVec 32 => y.getLsbD 0) h
    simp [crcP] at this
  | false =>
    rw [hm, if_neg (by simp), BitVec.xor_zero] at h
    have h1 := congrArg BitVec.toNat h
    rw [BitVec.toNat_shiftLeft, Nat.shiftLeft_eq] at h1
    have h2 : x.toNat < 2 ^ 31 := by
      have := BitVec.msb_eq_decide x
      rw [hm] at this
      simpa using this
    apply BitVec.eq_of_toNat_eq
    simp at h1 ⊢
    omega
theorem stN_inj0 : ∀ (n : Nat) (x : BitVec 32), stN n x = 0#32 → x = 0#32
  | 0, _, h => h
  | n + 1, x, h => st_inj0 x (stN_inj0 n (st x) h)
theorem xor_eq_zero {x y : BitVec 32} (h : x ^^^ y = 0#32) : x = y := by
  have := congrArg (fun z => z ^^^ y) h
  simp only [BitVec.xor_assoc, BitVec.xor_self, BitVec.xor_zero, BitVec.zero_xor] at this
  exact this
theorem stN_inj (n : Nat) {x y : BitVec 32} (h : stN n x = stN n y) : x = y := by
  apply xor_eq_zero
  apply stN_inj0 n
  rw [stN_xor, h, BitVec.xor_self]
/-- Bits that don't reach the top are but moved. -/
theorem stN_small : ∀ (n : Nat) (x : BitVec 32), n ≤ 32 → x.toNat < 2 ^ (32 - n) → stN n x = x <<< n
  | 0, x, _, _ => by simp [stN]
  | n + 1, x, hn, hx => by
    have hx2 : x.toNat < 2 ^ 31 := Nat.lt_of_lt_of_le hx (Nat.pow_le_pow_right (by decide) (by omega))
    have hm : x.msb = false := by rw [BitVec.msb_eq_decide]; simpa using hx2
    have hs : st x = x <<< 1 := by unfold st; rw [hm, if_neg (by simp), BitVec.xor_zero]
    have ht : (x <<< 1).toNat = 2 * x.toNat := by rw [BitVec.toNat_shiftLeft, Nat.shiftLeft_eq, Nat.mod_eq_of_lt (by omega)]; omega
    show stN n (st x) = _
    rw [hs, stN_small n (x <<< 1) (by omega) (by
      rw [ht]
      have : 2 ^ (32 - n) = 2 * 2 ^ (32 - (n + 1)) := by rw [show 32 - n = (32 - (n + 1)) + 1 by omega, Nat.pow_succ]; omega
      omega), ← BitVec.shiftLeft_add, Nat.add_comm]

/-- A byte at the top. -/
def topB (b : Nat) : BitVec 32 := BitVec.ofNat 32 (b * 16777216)
def on (x : BitVec 32) (b : UInt8) : BitVec 32 := stN 8 (x ^^^ topB b.toNat)
def run (x : BitVec 32) (l : List UInt8) : BitVec 32 := l.foldl on x
def ones32 : BitVec 32 := 4294967295#32
def sumOf (l : List UInt8) : BitVec 32 := ones32 ^^^ run ones32 l
/-- What a byte makes (the table). -/
def tabAt (i : Nat) : BitVec 32 := stN 8 (topB i)
theorem topB_xor (a b : Nat) (ha : a < 256) (hb : b < 256) : topB (a ^^^ b) = topB a ^^^ topB b := by
  have hx : a ^^^ b < 256 := Nat.xor_lt_two_pow (n := 8) ha hb
  apply BitVec.eq_of_toNat_eq
  rw [BitVec.toNat_xor]
  unfold topB
  rw [BitVec.toNat_ofNat, BitVec.toNat_ofNat, BitVec.toNat_ofNat, Nat.mod_eq_of_lt (by omega), Nat.mod_eq_of_lt (by omega), Nat.mod_eq_of_lt (by omega)]
  rw [show (16777216 : Nat) = 2 ^ 24 from rfl, ← Nat.shiftLeft_eq, ← Nat.shiftLeft_eq, ← Nat.shiftLeft_eq, Nat.shiftLeft_xor_distrib]
/-- The table's way on is the bits' way on. -/
theorem on_tab (x : BitVec 32) (b : UInt8) : on x b = (x <<< 8) ^^^ tabAt (x.toNat / 16777216 ^^^ b.toNat) := by
  have hb := b.toNat_lt
  have hh : x.toNat / 16777216 < 256 := by have := x.isLt; omega
  have hlo : (BitVec.ofNat 32 (x.toNat % 16777216)).toNat = x.toNat % 16777216 := by rw [BitVec.toNat_ofNat]; omega
  have hx : x = topB (x.toNat / 16777216) ^^^ BitVec.ofNat 32 (x.toNat % 16777216) := by
    apply BitVec.eq_of_toNat_eq
    rw [BitVec.toNat_xor, hlo]
    unfold topB
    rw [BitVec.toNat_ofNat, Nat.mod_eq_of_lt (by omega)]
    have h1 : x.toNat / 16777216 * 16777216 ^^^ x.toNat % 16777216 = x.toNat / 16777216 * 16777216 + x.toNat % 16777216 := by
      rw [show (16777216 : Nat) = 2 ^ 24 from rfl, Nat.mul_comm, Nat.two_pow_add_eq_or_of_lt (Nat.mod_lt _ (show 0 < 2 ^ 24 by decide))]
      apply Nat.eq_of_testBit_eq
      intro i
      rw [Nat.testBit_xor, Nat.testBit_or]
      by_cases hi : i < 24
      · have : (2 ^ 24 * (x.toNat / 2 ^ 24)).testBit i = false := by
          rw [Nat.mul_comm, ← Nat.shiftLeft_eq, Nat.testBit_shiftLeft]; simp; omega
        rw [this]; simp
      · have : (x.toNat % 2 ^ 24).testBit i = false := by
          rw [Nat.testBit_mod_two_pow]; simp; omega
        rw [this]; simp
    rw [h1]; omega
  have hsh : x <<< 8 = BitVec.ofNat 32 (x.toNat % 16777216) <<< 8 := by
    apply BitVec.eq_of_toNat_eq
    rw [BitVec.toNat_shiftLeft, BitVec.toNat_shiftLeft, hlo, Nat.shiftLeft_eq, Nat.shiftLeft_eq]
    omega
  unfold on tabAt
  rw [hsh, ← stN_small 8 _ (by omega) (by rw [hlo]; exact Nat.mod_lt _ (by decide)), topB_xor _ _ hh hb, stN_xor 8 (topB _) (topB _)]
  conv => lhs; rw [hx]
  rw [stN_xor, stN_xor, BitVec.xor_comm (stN 8 (topB (x.toNat / 16777216))), BitVec.xor_assoc]
end Go.Proofs.YtlkceignfhnpoaaGreatDoor
