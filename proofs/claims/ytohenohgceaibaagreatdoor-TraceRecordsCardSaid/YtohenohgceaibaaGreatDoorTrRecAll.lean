/-
  Contract of trace.Record, of any record; of trace.Lines, of two records and of none.
  Contract of trace.Lines: of a record twice, and of none.
  A link.Record that came in, opened: its 18 cells, of which the unit's eight stay letters.
-/
import Derived.Test.YtohenohgceaibaaGreatDoorTrAwake
import Derived.Test.YtohenohgceaibaaGreatDoorText
import Derived.Test.YtohenohgceaibaaGreatDoorHex
import Derived.Test.YtohenohgceaibaaGreatDoorBox
import Derived.Test.YtohenohgceaibaaGreatDoorBigStruct
import Derived.Test.YtohenohgceaibaaGreatDoorLaw
import Derived.ChangeSlices
import Derived.DataReads
set_option linter.unusedVariables false
set_option linter.unusedSimpArgs false
namespace Go.Proofs.YtohenohgceaibaaGreatDoor
open Go.RowKit

/-- A record's line: ut its unit's text, st its signal's. -/
def recText (en kind : Int) (ut st : List UInt8) (rk : Int) (rd : List UInt8) (rn : Int) : List UInt8 :=
  if kind = 1 then Lib.itoa en ++ [32, 62, 32] ++ ut else if kind = 2 then Lib.itoa en ++ [32, 60, 32] ++ ut else if kind = 3 then Lib.itoa en ++ [32, 35] else if kind = 4 then Lib.itoa en ++ [32, 120]
  else if kind = 5 then Lib.itoa en ++ [32, 58, 32] ++ st else if kind = 6 then Lib.itoa en ++ [32, 63, 32] ++ Lib.itoa rk ++ [32] ++ (if rk = 10 then Lib.itoa rn else hexOf rd) else []
theorem sigText_len (k : Int) (data : List UInt8) (self : Bool) (code : Nat) (n : Int) (h0 : -9223372036854775808 ≤ n) (h1 : n ≤ 9223372036854775807) : (sigText k data self code n).length ≤ 2 * data.length + 60 := by
  have hw := sigWord_length
  have hh := hexOf_length data
  have hi := Lib.itoa_length_le n h0 h1
  have w3 := hw 3
  have wk := hw k
  have w12 := hw 12
  unfold sigText
  split
  · simp
  · split
    · split <;> simp <;> omega
    · split
      · simp; omega
      · split
        · split <;> simp <;> omega
        · omega
structure Rng64 (x : Int) : Prop where
  lo : -9223372036854775808 ≤ x
  hi : x ≤ 9223372036854775807

set_option maxRecDepth 100000 in
set_option maxHeartbeats 4000000 in
theorem record_txt (en kind k sq n ps mr : Int) (la : Option Addr) (ll lc : Nat) (self : Bool) (d : ByteArray) (sk : Int) (sd : ByteArray) (ss : Bool) (sc sn rk : Int) (rd : ByteArray) (rn : Int) (ut : List UInt8) (w : World) (he : Env w) (hen : Rng64 en) (hrk : Rng64 rk) (hrn : Rng64 rn) (hsn : Rng64 sn) (hsc0 : 0 ≤ sc) (hsc1 : sc ≤ 255) (hsd : sd.size ≤ 1000) (hrd : rd.size ≤ 1000) (hut : ut.length ≤ 100000)
    (hU : ∀ W, Below w.heap.size w W → Calls Tryz.prog 8 #[.agg #[.int .i64 k, .int .i64 sq, .int .u32 n, .int .u32 ps, .int .u32 mr, .slice la ll lc, .bool self, .string d]] W fun e w' => e = .returned (.string ⟨ut.toArray⟩) ∧ Below W.heap.size W w') :
    Calls Tryz.prog 17 #[.agg #[.int .i64 en, .int .i64 kind, .int .i64 k, .int .i64 sq, .int .u32 n, .int .u32 ps, .int .u32 mr, .slice la ll lc, .bool self, .string d, .int .i64 sk, .string sd, .bool ss, .int .u8 sc, .int .i64 sn, .int .i64 rk, .string rd, .int .i64 rn]] w fun e w' => e = .returned (.string ⟨(recText en kind ut (sigText sk sd.data.toList ss sc.toNat sn) rk rd.data.toList rn).toArray⟩) ∧ Below w.heap.size w w' := by
  have HE := Lib.hid he
  have HUN := Lib.hid hU
  have HIT : Hid (∀ x W, Rng64 x → Env W → Calls Tryz.prog 24 #[.int .i64 x] W fun e w' => e = .returned (.string ⟨(Lib.itoa x).toArray⟩) ∧ Below W.heap.size W w') := Lib.hid (fun x W h1 h => itoa_any x W h1.lo h1.hi h)
  have HSG : Hid (∀ W, Env W → Calls Tryz.prog 36 #[.agg #[.int .i64 sk, .string sd, .bool ss, .int .u8 sc, .int .i64 sn]] W fun e w' => e = .returned (.string ⟨(sigText sk sd.data.toList ss sc.toNat sn).toArray⟩) ∧ Below W.heap.size W w') := Lib.hid (fun W h => sigtext_any sk sd ss sc sn W (by omega) hsc0 hsc1 hsn.lo hsn.hi h.words h.wordsLt h.pow h.powLt)
  have HHX : Hid (∀ W, Calls Tryz.prog 26 #[.string rd] W fun e w' => e = .returned (.string ⟨(hexOf rd.data.toList).toArray⟩) ∧ Below W.heap.size W w') := Lib.hid (fun W => hex_any rd W (by omega))
  have hl0 := Lib.itoa_length_le en hen.lo hen.hi
  have hl1 := Lib.itoa_length_le rk hrk.lo hrk.hi
  have hl2 := Lib.itoa_length_le rn hrn.lo hrn.hi
  have HRT : Hid (recText en kind ut (sigText sk sd.data.toList ss sc.toNat sn) rk rd.data.toList rn = recText en kind ut (sigText sk sd.data.toList ss sc.toNat sn) rk rd.data.toList rn) := Lib.hid rfl
  have hst := HSG
  clear he hU
  have hsl := sigText_len sk sd.data.toList ss sc.toNat sn hsn.lo hsn.hi
  have hhl := hexOf_length rd.data.toList
  rw [size_len] at hsl hhl
  generalize hsigt : sigText sk sd.data.toList ss sc.toNat sn = st at *
  clear hsigt
  generalize hhex : hexOf rd.data.toList = hx at *
  have HHEX := Lib.hid hhex
  clear hhex
  go_enter Tryz.func17, Tryz.ntmps17
  go_wp2_with fail
  refine (HIT.out en _ hen HE.out.alloc).mono ?_
  rintro e w1 ⟨rfl, hb1⟩
  have HB1 := Lib.hid (belAlloc hb1 (by simp))
  have HX1 := Lib.hid ((BoxAt.new w 45 [.int .i64 en, .int .i64 kind, .int .i64 k, .int .i64 sq, .int .u32 n, .int .u32 ps, .int .u32 mr, .slice la ll lc, .bool self, .string d, .int .i64 sk, .string sd, .bool ss, .int .u8 sc, .int .i64 sn, .int .i64 rk, .string rd, .int .i64 rn]).below hb1 (by simp))
  have HE1 := Lib.hid (HE.out.below HB1.out)
  have q1 := HX1.out.cell 1
  simp only [List.getElem?_cons_succ, List.getElem?_cons_zero] at q1
  clear hb1
  by_cases h1 : kind = 1
  · subst h1
    have HR : Hid (recText en 1 ut st rk rd.data.toList rn = _) := Lib.hid (by unfold recText; simp only [Int.reduceEq, if_true, if_false]; rfl)
    have q2 := HX1.out.cell 2
    have q3 := HX1.out.cell 3
    have q4 := HX1.out.cell 4
    have q5 := HX1.out.cell 5
    have q6 := HX1.out.cell 6
    have q7 := HX1.out.cell 7
    have q8 := HX1.out.cell 8
    have q9 := HX1.out.cell 9
    simp only [List.getElem?_cons_succ, List.getElem?_cons_zero] at q2 q3 q4 q5 q6 q7 q8 q9
    go_wp2_with fail
    refine (HUN.out w1 HB1.out).mono ?_
    rintro e w2 ⟨rfl, hb2⟩
    go_wp2_with fail
    go_ret
    exact ⟨ret_str (by rw [HR.out]; simp [dapp]), belSeq HB1.out hb2⟩
  have b1 : (kind == 1) = false := beq_eq_false_iff_ne.2 h1
  by_cases h2 : kind = 2
  · subst h2
    have HR : Hid (recText en 2 ut st rk rd.data.toList rn = _) := Lib.hid (by unfold recText; simp only [Int.reduceEq, if_true, if_false]; rfl)
    have q2 := HX1.out.cell 2
    have q3 := HX1.out.cell 3
    have q4 := HX1.out.cell 4
    have q5 := HX1.out.cell 5
    have q6 := HX1.out.cell 6
    have q7 := HX1.out.cell 7
    have q8 := HX1.out.cell 8
    have q9 := HX1.out.cell 9
    simp only [List.getElem?_cons_succ, List.getElem?_cons_zero] at q2 q3 q4 q5 q6 q7 q8 q9
    go_wp2_with fail
    refine (HUN.out w1 HB1.out).mono ?_
    rintro e w2 ⟨rfl, hb2⟩
    go_wp2_with fail
    go_ret
    exact ⟨ret_str (by rw [HR.out]; simp [dapp]), belSeq HB1.out hb2⟩
  have b2 : (kind == 2) = false := beq_eq_false_iff_ne.2 h2
  by_cases h3 : kind = 3
  · subst h3
    have HR : Hid (recText en 3 ut st rk rd.data.toList rn = _) := Lib.hid (by unfold recText; simp only [Int.reduceEq, if_true, if_false]; rfl)
    go_wp2_with fail
    go_ret
    exact ⟨ret_str (by rw [HR.out]; simp [dapp]), HB1.out⟩
  have b3 : (kind == 3) = false := beq_eq_false_iff_ne.2 h3
  by_cases h4 : kind = 4
  · subst h4
    have HR : Hid (recText en 4 ut st rk rd.data.toList rn = _) := Lib.hid (by unfold recText; simp only [Int.reduceEq, if_true, if_false]; rfl)
    go_wp2_with fail
    go_ret
    exact ⟨ret_str (by rw [HR.out]; simp [dapp]), HB1.out⟩
  have b4 : (kind == 4) = false := beq_eq_false_iff_ne.2 h4
  by_cases h5 : kind = 5
  · subst h5
    have HR : Hid (recText en 5 ut st rk rd.data.toList rn = _) := Lib.hid (by unfold recText; simp only [Int.reduceEq, if_true, if_false]; rfl)
    have q10 := HX1.out.cell 10
    have q11 := HX1.out.cell 11
    have q12 := HX1.out.cell 12
    have q13 := HX1.out.cell 13
    have q14 := HX1.out.cell 14
    simp only [List.getElem?_cons_succ, List.getElem?_cons_zero] at q10 q11 q12 q13 q14
    go_wp2_with fail
    refine (HSG.out w1 HE1.out).mono ?_
    rintro e w2 ⟨rfl, hb2⟩
    go_wp2_with fail
    go_ret
    exact ⟨ret_str (by rw [HR.out]; simp [dapp]), belSeq HB1.out hb2⟩
  have b5 : (kind == 5) = false := beq_eq_false_iff_ne.2 h5
  by_cases h6 : kind = 6
  · subst h6
    have q15 := HX1.out.cell 15
    have q16 := HX1.out.cell 16
    have q17 := HX1.out.cell 17
    simp only [List.getElem?_cons_succ, List.getElem?_cons_zero] at q15 q16 q17
    go_wp2_with fail
    refine (HHX.out w1).mono ?_
    rintro e w2 ⟨rfl, hb2⟩
    have HB2 := Lib.hid (belSeq HB1.out hb2)
    have HE2 := Lib.hid (HE1.out.below hb2)
    have HX2 := Lib.hid (HX1.out.below hb2 HX1.out.lt)
    have p15 := HX2.out.cell 15
    have p17 := HX2.out.cell 17
    simp only [List.getElem?_cons_succ, List.getElem?_cons_zero] at p15 p17
    clear hb2 q15 q16 q17
    by_cases h10 : rk = 10
    · subst h10
      have HR : Hid (recText en 6 ut st 10 rd.data.toList rn = Lib.itoa en ++ [32, 63, 32] ++ Lib.itoa 10 ++ [32] ++ Lib.itoa rn) := Lib.hid (by unfold recText; simp)
      go_wp2_with fail
      refine (HIT.out rn w2 hrn HE2.out).mono ?_
      rintro e w3 ⟨rfl, hb3⟩
      have HB3 := Lib.hid (belSeq HB2.out hb3)
      have HE3 := Lib.hid (HE2.out.below hb3)
      have r15 := (HX2.out.below hb3 HX2.out.lt).cell 15
      simp only [List.getElem?_cons_succ, List.getElem?_cons_zero] at r15
      clear hb3
      go_wp2_with fail
      refine (HIT.out 10 w3 hrk HE3.out).mono ?_
      rintro e w4 ⟨rfl, hb4⟩
      go_wp2_with fail
      go_ret
      exact ⟨ret_str (by rw [HR.out]; simp [dapp]), belSeq HB3.out hb4⟩
    · have h10b : (rk == 10) = false := beq_eq_false_iff_ne.2 h10
      have HR : Hid (recText en 6 ut st rk rd.data.toList rn = Lib.itoa en ++ [32, 63, 32] ++ Lib.itoa rk ++ [32] ++ hx) := Lib.hid (by unfold recText; simp [h10, HHEX.out])
      go_wp2_with fail
      refine (HIT.out rk w2 hrk HE2.out).mono ?_
      rintro e w4 ⟨rfl, hb4⟩
      go_wp2_with fail
      go_ret
      exact ⟨ret_str (by rw [HR.out]; simp [dapp]), belSeq HB2.out hb4⟩
  have b6 : (kind == 6) = false := beq_eq_false_iff_ne.2 h6
  have HR : Hid (recText en kind ut st rk rd.data.toList rn = []) := Lib.hid (by unfold recText; simp [h1, h2, h3, h4, h5, h6])
  go_wp2_with fail
  go_ret
  exact ⟨ret_str (by rw [HR.out]), HB1.out⟩
end Go.Proofs.YtohenohgceaibaaGreatDoor
namespace Go.Proofs.YtohenohgceaibaaGreatDoor
open Go.RowKit

theorem own_bel {w w' : World} {base : Nat} {e : TypeId} {size : Nat} {v : Value} {n : Nat} {xs : List Value} (h : w.ownsRow base e size v n xs) (hb : Below w.heap.size w w') : w'.ownsRow base e size v n xs :=
  h.kept (row := none) ⟨hb.os, hb.tape, hb.output, hb.size, fun k hk _ => hb.block k hk⟩ (by cases hv : v.ownBlock <;> simp)
theorem bld_at_below {T e : TypeId} {B b : Nat} {p : Value} {bs : List Value} {w w' : World} (h : Lib.BuilderAt T e B b p bs w) (hb : Below w.heap.size w w') : Lib.BuilderAt T e B b p bs w' := by
  obtain ⟨h1, v, h2, h3, h4⟩ := h
  exact ⟨h1, v, (hb.block b (Array.getElem?_eq_some_iff.1 h2).1).trans h2, own_bel h3 hb, h4⟩
theorem bld_below {T e : TypeId} {B b : Nat} {bs : List Value} {w w' : World} (h : Lib.IsBuilder T e B b bs w) (hb : Below w.heap.size w w') : Lib.IsBuilder T e B b bs w' := h.elim (fun x => .inl (bld_at_below x hb)) (fun x => .inr (bld_at_below x hb))
theorem range_below {w w' : World} {b o : Nat} {cs : List Value} (h : w.rangeAt b o cs) (hb : Below w.heap.size w w') : w'.rangeAt b o cs := fun j v hv => (bcell hb b (o + j) (block_lt_of_cell (h j v hv))).trans (h j v hv)
theorem rec_sz : (Tryz.prog.info? 45).map (·.size) = some 18 := by kernel_rfl
theorem strcells (s : ByteArray) : Lib.strCells s = Lib.byteCells s.data.toList := rfl

set_option maxRecDepth 100000 in
set_option maxHeartbeats 4000000 in
theorem lines_nil (w : World) : Calls Tryz.prog 18 #[.slice none 0 0] w fun e w' => e = .returned (.string ⟨#[]⟩) ∧ Below w.heap.size w w' := by
  go_enter Tryz.func18, Tryz.ntmps18
  have HF := Lib.hid (Lib.fresh_isBuilder 70 5 w)
  have HB0 := Lib.hid ((Below.refl w.heap.size w).alloc (Nat.le_refl _) (.cells #[.pointer none, .slice none 0 0] 70))
  go_wp2_with fail
  go_loopw [8] (fun i wr => i = .int .i64 0 ∧ Lib.IsBuilder 70 5 w.heap.size w.heap.size (Lib.byteCells []) wr ∧ Below w.heap.size w wr) (fun i _ => 0)
  case atStart => exact ⟨rfl, HF.out, HB0.out⟩
  case round =>
    obtain ⟨rfl, hbu, hbel⟩ := hrel
    go_wp2_with fail
    refine (Tryz.Builder_String_any _ _ [] _ hbu hbel.size).mono ?_
    rintro e w1 ⟨rfl, hb1⟩
    go_wp2_with fail
    go_ret
    exact ⟨rfl, hbel.trans hb1⟩

def twice (t : List UInt8) (j : Nat) : List UInt8 := (List.replicate j (t ++ [10])).flatten
theorem twice_succ (t : List UInt8) (j : Nat) : twice t (j + 1) = twice t j ++ (t ++ [10]) := by
  unfold twice
  rw [List.replicate_succ', List.flatten_append]; simp
theorem twice_len (t : List UInt8) (j : Nat) : (twice t j).length = j * (t.length + 1) := by
  induction j with
  | zero => simp [twice]
  | succ j ih => rw [twice_succ, List.length_append, ih, Nat.succ_mul]; simp

set_option maxRecDepth 100000 in
set_option maxHeartbeats 4000000 in
theorem lines_two (en kind k sq n ps mr : Int) (la : Option Addr) (ll lc : Nat) (self : Bool) (d : ByteArray) (sk : Int) (sd : ByteArray) (ss : Bool) (sc sn rk : Int) (rd : ByteArray) (rn : Int) (b0 c : Nat) (t : List UInt8) (w : World) (ht : t.length ≤ 1000000) (h0 : w.rangeAt b0 0 [.int .i64 en, .int .i64 kind, .int .i64 k, .int .i64 sq, .int .u32 n, .int .u32 ps, .int .u32 mr, .slice la ll lc, .bool self, .string d, .int .i64 sk, .string sd, .bool ss, .int .u8 sc, .int .i64 sn, .int .i64 rk, .string rd, .int .i64 rn]) (h1 : w.rangeAt b0 18 [.int .i64 en, .int .i64 kind, .int .i64 k, .int .i64 sq, .int .u32 n, .int .u32 ps, .int .u32 mr, .slice la ll lc, .bool self, .string d, .int .i64 sk, .string sd, .bool ss, .int .u8 sc, .int .i64 sn, .int .i64 rk, .string rd, .int .i64 rn])
    (hone : (#[.int .i64 en, .int .i64 kind, .int .i64 k, .int .i64 sq, .int .u32 n, .int .u32 ps, .int .u32 mr, .slice la ll lc, .bool self, .string d, .int .i64 sk, .string sd, .bool ss, .int .u8 sc, .int .i64 sn, .int .i64 rk, .string rd, .int .i64 rn] : Array Value).all (·.oneCell') = true)
    (hR : ∀ W, Below w.heap.size w W → Calls Tryz.prog 17 #[.agg #[.int .i64 en, .int .i64 kind, .int .i64 k, .int .i64 sq, .int .u32 n, .int .u32 ps, .int .u32 mr, .slice la ll lc, .bool self, .string d, .int .i64 sk, .string sd, .bool ss, .int .u8 sc, .int .i64 sn, .int .i64 rk, .string rd, .int .i64 rn]] W fun e w' => e = .returned (.string ⟨t.toArray⟩) ∧ Below W.heap.size W w') :
    Calls Tryz.prog 18 #[.slice (some ⟨b0, 0, none⟩) 2 c] w fun e w' => e = .returned (.string ⟨(t ++ [10] ++ t ++ [10]).toArray⟩) ∧ Below w.heap.size w w' := by
  have HREC := Lib.hid hR
  have HC : Hid (∀ j : Nat, j < 2 → w.rangeAt b0 (j * 18) [.int .i64 en, .int .i64 kind, .int .i64 k, .int .i64 sq, .int .u32 n, .int .u32 ps, .int .u32 mr, .slice la ll lc, .bool self, .string d, .int .i64 sk, .string sd, .bool ss, .int .u8 sc, .int .i64 sn, .int .i64 rk, .string rd, .int .i64 rn]) := Lib.hid (fun j hj => by
    have : j = 0 ∨ j = 1 := by omega
    rcases this with rfl | rfl
    · exact h0
    · exact h1)
  have HONE := Lib.hid hone
  clear hR h0 h1 hone
  go_enter Tryz.func18, Tryz.ntmps18
  have HF := Lib.hid (Lib.fresh_isBuilder 70 5 w)
  have HB0 := Lib.hid ((Below.refl w.heap.size w).alloc (Nat.le_refl _) (.cells #[.pointer none, .slice none 0 0] 70))
  go_wp2_with fail
  go_loopw [8] (fun i wr => ∃ j : Nat, j ≤ 2 ∧ i = .int .i64 j ∧ Hid (Lib.IsBuilder 70 5 w.heap.size w.heap.size (Lib.byteCells (twice t j)) wr) ∧ Hid (Below w.heap.size w wr)) (fun i _ => 2 - (intOf i).toNat)
  case atStart => exact ⟨0, by omega, rfl, Lib.hid HF.out, Lib.hid HB0.out⟩
  case round =>
    obtain ⟨j, hj, rfl, HBU, HBL⟩ := hrel
    by_cases hlt : j < 2
    · have hlt1 : (j : Int) < 2 := by omega
      have hj0 : (0 : Int) ≤ (j : Int) := Int.natCast_nonneg _
      have HRG := Lib.hid (range_below (HC.out j hlt) HBL.out)
      have HBX : Hid ((wr.alloc (.cells #[.int .i64 en, .int .i64 kind, .int .i64 k, .int .i64 sq, .int .u32 n, .int .u32 ps, .int .u32 mr, .slice la ll lc, .bool self, .string d, .int .i64 sk, .string sd, .bool ss, .int .u8 sc, .int .i64 sn, .int .i64 rk, .string rd, .int .i64 rn] 45)).rangeAt wr.heap.size 0 [.int .i64 en, .int .i64 kind, .int .i64 k, .int .i64 sq, .int .u32 n, .int .u32 ps, .int .u32 mr, .slice la ll lc, .bool self, .string d, .int .i64 sk, .string sd, .bool ss, .int .u8 sc, .int .i64 sn, .int .i64 rk, .string rd, .int .i64 rn]) := Lib.hid (fun j v hv => by
        rw [Nat.zero_add, cell_of_row _ _ _ _ _ _ (heap_alloc_new wr _)]
        simpa using hv)
      have HB1 : Hid (Below wr.heap.size wr (wr.alloc (.cells #[.int .i64 en, .int .i64 kind, .int .i64 k, .int .i64 sq, .int .u32 n, .int .u32 ps, .int .u32 mr, .slice la ll lc, .bool self, .string d, .int .i64 sk, .string sd, .bool ss, .int .u8 sc, .int .i64 sn, .int .i64 rk, .string rd, .int .i64 rn] 45))) := Lib.hid ((Below.refl _ _).alloc (Nat.le_refl _) _)
      have htl := twice_len t j
      have hmul : j * (t.length + 1) ≤ 2 * (1000000 + 1) := Nat.mul_le_mul hj (by omega)
      have HTL : Hid ((twice t j).length ≤ 3000000) := Lib.hid (by omega)
      have HTS := Lib.hid (twice_succ t j)
      clear htl hmul
      go_wp2_with (first | (refine wpList_load_mid rfl 45 (.tmp 10) rfl b0 (j * 18) (by rfl) [.int .i64 en, .int .i64 kind, .int .i64 k, .int .i64 sq, .int .u32 n, .int .u32 ps, .int .u32 mr, .slice la ll lc, .bool self, .string d, .int .i64 sk, .string sd, .bool ss, .int .u8 sc, .int .i64 sn, .int .i64 rk, .string rd, .int .i64 rn] _ HRG.out Tryz.underlying45 rfl rec_sz ?_) | (refine wpList_store_new rfl 45 (.tmp 5) (.tmp 11) rfl wr.heap.size 45 _ #[.int .i64 en, .int .i64 kind, .int .i64 k, .int .i64 sq, .int .u32 n, .int .u32 ps, .int .u32 mr, .slice la ll lc, .bool self, .string d, .int .i64 sk, .string sd, .bool ss, .int .u8 sc, .int .i64 sn, .int .i64 rk, .string rd, .int .i64 rn] rfl (by rfl) (by rfl) rfl rec_sz HONE.out ?_) | (refine wpList_load_mid rfl 45 (.tmp 5) rfl wr.heap.size 0 (by rfl) [.int .i64 en, .int .i64 kind, .int .i64 k, .int .i64 sq, .int .u32 n, .int .u32 ps, .int .u32 mr, .slice la ll lc, .bool self, .string d, .int .i64 sk, .string sd, .bool ss, .int .u8 sc, .int .i64 sn, .int .i64 rk, .string rd, .int .i64 rn] _ HBX.out Tryz.underlying45 rfl rec_sz ?_))
      refine (HREC.out _ (belSeq HBL.out HB1.out)).mono ?_
      rintro e w2 ⟨rfl, hb2⟩
      have HB2 := Lib.hid (belSeq HB1.out hb2)
      clear hb2
      have hz2 := (belSeq HBL.out HB2.out).size
      go_wp2_with fail
      refine (Tryz.Builder_WriteString _ _ _ _ _ (bld_below HBU.out HB2.out) (by rw [Lib.byteCells_length, ByteArray.size_append, size_arr, show (⟨#[10]⟩ : ByteArray).size = 1 from rfl]; have := HTL.out; omega) hz2).mono ?_
      rintro e w3 ⟨rfl, hbu3, hb3⟩
      have HBU3 : Hid (Lib.IsBuilder 70 5 w.heap.size w.heap.size (Lib.byteCells (twice t (j + 1))) w3) := Lib.hid (by
        rw [HTS.out, Lib.byteCells_append]
        refine Or.inr ?_
        have h := hbu3
        rw [strcells, dapp] at h
        exact h)
      have HB3 := Lib.hid ((belSeq HBL.out HB2.out).trans hb3)
      clear hbu3 hb3
      go_wp2_with fail
      exact ⟨⟨j + 1, hlt, by simp, HBU3, HB3⟩, by simp [intOf]; omega⟩
    · have hj2 : j = 2 := by omega
      subst hj2
      go_wp2_with fail
      refine (Tryz.Builder_String_any _ _ _ _ HBU.out HBL.out.size).mono ?_
      rintro e w1 ⟨rfl, hb1⟩
      have HT2 : Hid (twice t 2 = t ++ [10] ++ t ++ [10]) := Lib.hid (by simp [twice])
      rw [HT2.out]
      have HBE := Lib.hid (HBL.out.trans hb1)
      clear hb1
      go_wp2_with fail
      go_ret
      exact ⟨ret_str (by simp), HBE.out⟩
end Go.Proofs.YtohenohgceaibaaGreatDoor
namespace Go.Proofs.YtohenohgceaibaaGreatDoor
open Go.ChangeShapes Go.WideShapes Go.ChangeAt Go.RowKit

structure RecOk (sk : Int) (sd : ByteArray) (sc sn rk : Int) (rd : ByteArray) (rn : Int) : Prop where
  sd : sd.size ≤ maxLen
  sc0 : 0 ≤ sc
  sc1 : sc ≤ 255
  sn : Rng64 sn
  rk : Rng64 rk
  rd : rd.size ≤ maxLen
  rn : Rng64 rn

set_option maxRecDepth 100000 in
set_option maxHeartbeats 1000000 in
theorem open_rec {H : Type} {enc : TypeId × Value → H} {w : World} {r : Reach} {b0 : Nat} {v : Value} {d : DataW H} {p : List MemPlace} {base : Nat} {spare : Nat → Bool} {held : Bool}
    (hv : Value.okWide Tryz.prog w r b0 45 v) (h : DataW.Trod enc Tryz.prog w base spare held 45 v d p) :
    ∃ (en kind : Int) (u0 u1 u2 u3 u4 u5 u6 u7 : Value) (sk : Int) (sd : ByteArray) (ss : Bool) (sc sn rk : Int) (rd : ByteArray) (rn : Int), v = .agg #[.int .i64 en, .int .i64 kind, u0, u1, u2, u3, u4, u5, u6, u7, .int .i64 sk, .string sd, .bool ss, .int .u8 sc, .int .i64 sn, .int .i64 rk, .string rd, .int .i64 rn] ∧ RecOk sk sd sc sn rk rd rn := by
  obtain ⟨cs, rfl, hsz⟩ := okWide_struct Tryz.underlying45 hv
  obtain ⟨l⟩ := cs
  match l, hsz.trans (show Tryz.prog.cellsOf 45 = 18 by kernel_rfl) with
  | [c0, c1, c2, c3, c4, c5, c6, c7, c8, c9, c10, c11, c12, c13, c14, c15, c16, c17], _ =>
    obtain ⟨fuel, hf⟩ := h
    obtain ⟨xs, n, _, hx, _, hlen, hg⟩ := DataW.trod_struct Tryz.underlying45 hf
    match xs, hlen with
    | [y0, y1, y2, y3, y4], _ =>
      have kI : Tryz.prog.cellsOf 3 = 1 := by kernel_rfl
      have kB : Tryz.prog.cellsOf 4 = 1 := by kernel_rfl
      have kU : Tryz.prog.cellsOf 5 = 1 := by kernel_rfl
      have kT : Tryz.prog.cellsOf 9 = 1 := by kernel_rfl
      have kS : Tryz.prog.cellsOf 41 = 5 := by kernel_rfl
      have kR : Tryz.prog.cellsOf 43 = 3 := by kernel_rfl
      have h0 : DataW.trod enc Tryz.prog w base spare held n 3 [c0] = some y0 := by simpa [Value.cells, kI] using hg 0 _ rfl
      have h1 : DataW.trod enc Tryz.prog w base spare held n 3 [c1] = some y1 := by simpa [Value.cells, kI] using hg 1 _ rfl
      have h3 : DataW.trod enc Tryz.prog w base spare held n 41 [c10, c11, c12, c13, c14] = some y3 := by simpa [Value.cells, kS] using hg 3 _ rfl
      have h4 : DataW.trod enc Tryz.prog w base spare held n 43 [c15, c16, c17] = some y4 := by simpa [Value.cells, kR] using hg 4 _ rfl
      obtain ⟨en, e0, -, -⟩ := DataW.trod_int Tryz.underlying3 h0
      obtain ⟨kind, e1, -, -⟩ := DataW.trod_int Tryz.underlying3 h1
      obtain ⟨zs, m, _, hx3, _, hlen3, hg3⟩ := DataW.trod_struct Tryz.underlying41 h3
      obtain ⟨rs, q, _, hx4, _, hlen4, hg4⟩ := DataW.trod_struct Tryz.underlying43 h4
      match zs, hlen3 with
      | [z0, z1, z2, z3, z4], _ =>
        match rs, hlen4 with
        | [r0, r1, r2], _ =>
          have s0 : DataW.trod enc Tryz.prog w base spare held m 3 [c10] = some z0 := by simpa [Value.cells, kI] using hg3 0 _ rfl
          have s1 : DataW.trod enc Tryz.prog w base spare held m 9 [c11] = some z1 := by simpa [Value.cells, kT] using hg3 1 _ rfl
          have s2 : DataW.trod enc Tryz.prog w base spare held m 4 [c12] = some z2 := by simpa [Value.cells, kB] using hg3 2 _ rfl
          have s3 : DataW.trod enc Tryz.prog w base spare held m 5 [c13] = some z3 := by simpa [Value.cells, kU] using hg3 3 _ rfl
          have s4 : DataW.trod enc Tryz.prog w base spare held m 3 [c14] = some z4 := by simpa [Value.cells, kI] using hg3 4 _ rfl
          have t0 : DataW.trod enc Tryz.prog w base spare held q 3 [c15] = some r0 := by simpa [Value.cells, kI] using hg4 0 _ rfl
          have t1 : DataW.trod enc Tryz.prog w base spare held q 9 [c16] = some r1 := by simpa [Value.cells, kT] using hg4 1 _ rfl
          have t2 : DataW.trod enc Tryz.prog w base spare held q 3 [c17] = some r2 := by simpa [Value.cells, kI] using hg4 2 _ rfl
          obtain ⟨sk, e2, -, -⟩ := DataW.trod_int Tryz.underlying3 s0
          obtain ⟨sd, e3, -, hsd⟩ := DataW.trod_string Tryz.underlying9 s1
          obtain ⟨ss, e4, -⟩ := DataW.trod_bool Tryz.underlying4 s2
          obtain ⟨sc, e5, -, hsc⟩ := DataW.trod_int Tryz.underlying5 s3
          obtain ⟨sn, e6, -, hsn⟩ := DataW.trod_int Tryz.underlying3 s4
          obtain ⟨rk, e7, -, hrk⟩ := DataW.trod_int Tryz.underlying3 t0
          obtain ⟨rd, e8, -, hrd⟩ := DataW.trod_string Tryz.underlying9 t1
          obtain ⟨rn, e9, -, hrn⟩ := DataW.trod_int Tryz.underlying3 t2
          simp at e0 e1 e2 e3 e4 e5 e6 e7 e8 e9; subst e0 e1 e2 e3 e4 e5 e6 e7 e8 e9
          have b1 := bounds_u8 hsc
          have b2 := bounds_i64 hsn
          have b3 := bounds_i64 hrk
          have b4 := bounds_i64 hrn
          exact ⟨en, kind, c2, c3, c4, c5, c6, c7, c8, c9, sk, sd, ss, sc, sn, rk, rd, rn, rfl, ⟨hsd, by omega, by omega, ⟨b2.1, b2.2⟩, ⟨b3.1, b3.2⟩, hrd, ⟨b4.1, b4.2⟩⟩⟩
end Go.Proofs.YtohenohgceaibaaGreatDoor
