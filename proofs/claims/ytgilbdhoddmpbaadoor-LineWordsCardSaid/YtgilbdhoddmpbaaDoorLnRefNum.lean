/-
  The document's Number (layer 23).
-/
import Derived.Test.YtgilbdhoddmpbaaDoorLnAwake
import Derived.Test.YtgilbdhoddmpbaaDoorDigits
set_option linter.unusedVariables false
set_option linter.unusedSimpArgs false
namespace Go.Proofs.YtgilbdhoddmpbaaDoor
open Go.RowKit

def numI (l : List UInt8) : Int := match numL l with | some n => (n : Int) | none => -1
theorem dec_len : ∀ (k n : Nat), 1 ≤ k → n < 10 ^ k → (Lib.decDigits n).length ≤ k := by
  intro k
  induction k with
  | zero => intro n h; omega
  | succ k ih =>
    intro n _ hn
    by_cases h : n < 10
    · rw [dd_small n h]; simp
    · have e : n = 10 * (n / 10) + n % 10 := by omega
      have hk : 1 ≤ k := by
        rcases Nat.eq_zero_or_pos k with rfl | h1
        · simp at hn; omega
        · exact h1
      rw [Nat.pow_succ] at hn
      rw [e, dd_step (n / 10) (n % 10) (by omega) (by omega), List.length_append]
      have := ih (n / 10) hk (by omega)
      simp; omega
theorem numI_long {l : List UInt8} (h : 13 < l.length) : numI l = -1 := by
  unfold numI numL
  cases numGo 0 l with
  | none => rfl
  | some n =>
    simp only
    rw [if_neg]
    rintro ⟨h1, h2⟩
    have := dec_len 13 n (by omega) (by omega)
    rw [h1] at this; omega
theorem numI_nil : numI [] = -1 := by
  unfold numI numL
  simp only [numGo]
  rw [if_neg]
  rintro ⟨h, _⟩
  exact (dd_small 0 (by omega) ▸ h : [48 + UInt8.ofNat 0] = []) |> fun e => by cases e
theorem go_lt : ∀ (l : List UInt8) (acc n : Nat), numGo acc l = some n → n < (acc + 1) * 10 ^ l.length
  | [], acc, n, h => by simp [numGo] at h; subst h; simp
  | c :: t, acc, n, h => by
    unfold numGo at h
    split at h
    · have := go_lt t _ _ h
      rw [List.length_cons, Nat.pow_succ]
      have hc : 10 * acc + (c.toNat - 48) + 1 ≤ (acc + 1) * 10 := by omega
      calc n < (10 * acc + (c.toNat - 48) + 1) * 10 ^ t.length := this
        _ ≤ ((acc + 1) * 10) * 10 ^ t.length := Nat.mul_le_mul_right _ hc
        _ = (acc + 1) * (10 ^ t.length * 10) := by rw [Nat.mul_assoc, Nat.mul_comm 10]
    · cases h
theorem go_take {l : List UInt8} {j x : Nat} (h : numGo 0 (l.take j) = some x) (hj : j ≤ 13) : x < 10000000000000 := by
  have := go_lt _ _ _ h
  have h1 : (l.take j).length ≤ 13 := by rw [List.length_take]; omega
  have h2 : 10 ^ (l.take j).length ≤ 10 ^ 13 := Nat.pow_le_pow_right (by omega) h1
  omega
theorem go_other {l : List UInt8} {j x : Nat} (h : numGo 0 (l.take j) = some x) (hj : j < l.length) (hc : l[j].toNat < 48 ∨ 57 < l[j].toNat) : numI l = -1 := by
  have h1 := numGo_app (l.take j) (l.drop j) 0 x h
  rw [List.take_append_drop, List.drop_eq_getElem_cons hj] at h1
  have h2 : numGo x (l[j] :: l.drop (j + 1)) = none := by unfold numGo; rw [if_neg (by omega)]
  rw [h2] at h1
  unfold numI numL
  rw [h1]
theorem go_next {l : List UInt8} {j x : Nat} (h : numGo 0 (l.take j) = some x) (hj : j < l.length) (hc : 48 ≤ l[j].toNat ∧ l[j].toNat ≤ 57) : numGo 0 (l.take (j + 1)) = some (10 * x + (l[j].toNat - 48)) := by
  rw [List.take_succ_eq_append_getElem hj, numGo_snoc _ _ _ _ h, if_pos hc]
theorem go_done {l : List UInt8} {x : Nat} (h : numGo 0 (l.take l.length) = some x) : numI l = if Lib.decDigits x = l ∧ x ≤ 1099511627776 then (x : Int) else -1 := by
  rw [List.take_length] at h
  unfold numI numL
  rw [h]
  simp only
  by_cases hc : Lib.decDigits x = l ∧ x ≤ 1099511627776
  · rw [if_pos hc, if_pos hc]
  · rw [if_neg hc, if_neg hc]
set_option maxRecDepth 100000 in
set_option maxHeartbeats 2000000 in
theorem rnum_any (s : ByteArray) (w : World) (hs : s.size ≤ 1000000) :
    Calls Tryd.prog 23 #[.string s] w fun e w' => e = .returned (.int .i64 (numI s.data.toList)) ∧ Below w.heap.size w w' := by
  have HSL := Lib.hid (size_len s)
  by_cases h0 : s.data.toList = []
  · have hq : s.toList.isEmpty = true := by rw [Lib.toList_data, h0]; rfl
    have HR : Hid (numI s.data.toList = -1) := Lib.hid (by rw [h0]; exact numI_nil)
    clear h0
    go_enter Tryd.func23, Tryd.ntmps23
    go_wp2_with fail
    go_ret
    exact ⟨by rw [HR.out]; rfl, Below.refl _ _⟩
  · have hq : s.toList.isEmpty = false := by rw [Lib.toList_data]; simpa using h0
    by_cases hl : 13 < s.size
    · have hl1 : (13 : Int) < (s.size : Int) := by omega
      have HR : Hid (numI s.data.toList = -1) := Lib.hid (numI_long (by rw [size_len]; exact hl))
      clear h0
      go_enter Tryd.func23, Tryd.ntmps23
      go_wp2_with fail
      go_ret
      exact ⟨by rw [HR.out]; rfl, Below.refl _ _⟩
    · have hl1 : ¬ (13 : Int) < (s.size : Int) := by omega
      have H0 := Lib.hid h0
      clear h0
      go_enter Tryd.func23, Tryd.ntmps23
      go_wp2_with fail
      go_loop [3, 4] (fun n i => ∃ j x : Nat, j ≤ s.size ∧ i = .int .i64 (j : Int) ∧ n = .int .i64 (x : Int) ∧ Hid (numGo 0 (s.data.toList.take j) = some x)) (fun _ i => s.size - (intOf i).toNat)
      case atStart => exact ⟨0, 0, by omega, rfl, rfl, Lib.hid rfl⟩
      case round =>
        obtain ⟨j, x, hj, rfl, rfl, HG⟩ := hrel
        have hx := go_take HG.out (by omega)
        by_cases hlt : j < s.size
        · have hjl : j < s.data.toList.length := by rw [HSL.out]; exact hlt
          have hgk : s[j]'hlt = s.data.toList[j]'hjl := rfl
          by_cases hc : 48 ≤ (s[j]'hlt).toNat ∧ (s[j]'hlt).toNat ≤ 57
          · obtain ⟨hc1, hc2⟩ := hc
            have h1 : ¬ ((s[j]'hlt).toNat : Int) < 48 := by omega
            have h2 : ¬ (57 : Int) < ((s[j]'hlt).toNat : Int) := by omega
            have HG2 := Lib.hid (go_next HG.out hjl (by rw [← hgk]; exact ⟨hc1, hc2⟩))
            rw [← hgk] at HG2
            clear HG hgk
            go_wp2_with fail
            go_round
            case rel => exact ⟨j + 1, 10 * x + ((s[j]'hlt).toNat - 48), by omega, by go_num, congrArg (Value.int .i64) (by omega), HG2⟩
            case measure => simp [intOf]; omega
          · have HR := Lib.hid (go_other HG.out hjl (by rw [← hgk]; omega))
            clear HG hgk
            by_cases h1 : ((s[j]'hlt).toNat : Int) < 48
            · go_wp2_with fail
              go_ret
              exact ⟨by rw [HR.out]; rfl, Below.refl _ _⟩
            · have h2 : (57 : Int) < ((s[j]'hlt).toNat : Int) := by omega
              go_wp2_with fail
              go_ret
              exact ⟨by rw [HR.out]; rfl, Below.refl _ _⟩
        · have hjz : j = s.data.toList.length := by rw [HSL.out]; omega
          have HD := Lib.hid (go_done (l := s.data.toList) (by have := HG.out; rw [hjz] at this; exact this))
          have HDG := Lib.hid (digits_any (x : Int) w (by omega) (by omega))
          rw [itoa_nat] at HDG
          have HDT : Hid ((⟨(Lib.decDigits x).toArray⟩ : ByteArray).data.toList = Lib.decDigits x) := Lib.hid rfl
          clear HG hjz
          go_wp2_with fail
          refine HDG.out.mono ?_
          rintro e w1 ⟨rfl, hb1⟩
          have HB := Lib.hid hb1
          clear hb1 HDG
          by_cases hd : Lib.decDigits x = s.data.toList
          · have q1 : ((⟨(Lib.decDigits x).toArray⟩ : ByteArray).toList == s.toList) = true := by rw [Lib.toList_data, Lib.toList_data, hd]; simp
            have q2 : ((⟨(Lib.decDigits x).toArray⟩ : ByteArray).toList != s.toList) = false := by rw [bne, q1]; rfl
            by_cases hb : x ≤ 1099511627776
            · have hb1 : ¬ (1099511627776 : Int) < (x : Int) := by omega
              have HR : Hid (numI s.data.toList = (x : Int)) := Lib.hid (by rw [HD.out, if_pos ⟨hd, hb⟩])
              clear hd HD
              generalize (⟨(Lib.decDigits x).toArray⟩ : ByteArray) = X at *
              go_wp2_with fail
              go_ret
              exact ⟨by rw [HR.out]; rfl, HB.out⟩
            · have hb1 : (1099511627776 : Int) < (x : Int) := by omega
              have HR : Hid (numI s.data.toList = -1) := Lib.hid (by rw [HD.out, if_neg (fun h => hb h.2)])
              clear hd HD
              generalize (⟨(Lib.decDigits x).toArray⟩ : ByteArray) = X at *
              go_wp2_with fail
              go_ret
              exact ⟨by rw [HR.out]; rfl, HB.out⟩
          · have q1 : ((⟨(Lib.decDigits x).toArray⟩ : ByteArray).toList == s.toList) = false := by rw [Lib.toList_data, Lib.toList_data]; exact beq_eq_false_iff_ne.2 hd
            have q2 : ((⟨(Lib.decDigits x).toArray⟩ : ByteArray).toList != s.toList) = true := by rw [bne, q1]; rfl
            have HR : Hid (numI s.data.toList = -1) := Lib.hid (by rw [HD.out, if_neg (fun h => hd h.1)])
            clear hd HD
            generalize (⟨(Lib.decDigits x).toArray⟩ : ByteArray) = X at *
            go_wp2_with fail
            go_ret
            exact ⟨by rw [HR.out]; rfl, HB.out⟩
end Go.Proofs.YtgilbdhoddmpbaaDoor
