/-
  Contract of the reference's Bytes (layer 6).
-/
import Derived.Test.YtdggnpecbdnkeaaDoorRefCheck
import Derived.Test.YtdggnpecbdnkeaaDoorPlainPduInj
import Derived.Deep.DeepCutAuto
set_option linter.unusedVariables false
set_option linter.unusedSimpArgs false
namespace Go.Proofs.YtdggnpecbdnkeaaDoor
open Go.RowKit

theorem repeat_rep (j : Nat) : Lib.repeatL ([0] : List UInt8) j = List.replicate j 0 := by
  induction j with
  | zero => rfl
  | succ m ih => rw [show Lib.repeatL ([0] : List UInt8) (m + 1) = [0] ++ Lib.repeatL [0] m from rfl, ih]; rfl
theorem repeat_snoc (j : Nat) : Lib.repeatL ([0] : List UInt8) (j + 1) = Lib.repeatL [0] j ++ [0] := by
  rw [repeat_rep, repeat_rep, List.replicate_succ']
theorem wordBytes_snoc (a : List Int) (x : Int) : wordBytes (a ++ [x]) = wordBytes a ++ be4 x.toNat := by simp [wordBytes]
/-- A text that is being made; what was there is as it was. -/
def StrR (W0 : World) (v : Value) (bs : List UInt8) (wx : World) : Prop := (∃ S : ByteArray, v = .string S ∧ S.data.toList = bs) ∧ Below W0.heap.size W0 wx

theorem Word_int (x : Int) (h0 : 0 ≤ x) (h1 : x < 4294967296) (w : World) :
    Calls Tryd.prog 79 #[.int .i64 x] w fun e w' => e = .returned (.string ⟨(be4 x.toNat).toArray⟩) ∧ Below w.heap.size w w' := by
  obtain ⟨n, rfl⟩ := Int.eq_ofNat_of_zero_le h0
  exact Word_any n (by omega) w
theorem wordBytes_nil : wordBytes [] = [] := rfl
theorem wordBytes_one (x : Int) : wordBytes [x] = be4 x.toNat := by simp [wordBytes]
theorem Word_last (k n : Int) (self : Bool) (dl : Nat) (x : Int) (hk1 : 1 ≤ k) (hk2 : k ≤ 15) (hn : 0 ≤ n) (hn1 : n < 16777216) (hx : x = (padOf dl : Int) * 1073741824 + (if self then 1 else 0) * 536870912 + k * 16777216 + n) (w : World) :
    Calls Tryd.prog 79 #[.int .i64 x] w fun e w' => e = .returned (.string ⟨(be4 (lastWord k n self dl)).toArray⟩) ∧ Below w.heap.size w w' := by
  have hp : padOf dl ≤ 3 := by unfold padOf; omega
  have e : x = ((lastWord k n self dl : Nat) : Int) := by rw [hx]; unfold lastWord; cases self <;> simp <;> omega
  have hl : lastWord k n self dl < 4294967296 := by unfold lastWord; cases self <;> simp <;> omega
  rw [e]
  exact Word_any _ hl w
set_option maxHeartbeats 1000000 in
theorem rbytes_bad (k sq n ps mr : Int) (lv : Value) (l : List Int) (self : Bool) (d : ByteArray) (w : World)
    (hn : 0 ≤ n) (hps : 0 ≤ ps) (hmr : 0 ≤ mr) (hl : IntsR .i64 w lv l) (hll : ∀ x ∈ l, 0 ≤ x) (hd : d.size ≤ 1000000) (hlen : l.length ≤ 1000000) (hck : checkOf k sq n ps mr l self d.size ≠ 0) :
    Calls Tryd.prog 51 #[refV k sq n ps mr lv self d] w fun e w' => e = .returned (.string ⟨#[]⟩) ∧ Below w.heap.size w w' := by
  have HLL := Lib.hid hll
  have hck2 : (checkOf k sq n ps mr l self d.size != 0) = true := by simpa using hck
  clear hll hck
  unfold refV
  go_enter Tryd.func51, Tryd.ntmps51
  go_wp2_with fail
  refine (rcheck_any k sq n ps mr lv l self d _ hn hps hmr hl.alloc HLL.out hd hlen).mono ?_
  rintro e w1 ⟨rfl, hb⟩
  generalize checkOf k sq n ps mr l self d.size = R at *
  go_wp2_with fail
  go_ret
  exact ⟨rfl, belAlloc hb (by simp)⟩

set_option maxRecDepth 100000 in
set_option maxHeartbeats 4000000 in
theorem rbytes_ok (k sq n ps mr : Int) (lv : Value) (l : List Int) (self : Bool) (d : ByteArray) (w : World)
    (hn : 0 ≤ n) (hps : 0 ≤ ps) (hmr : 0 ≤ mr) (hl : IntsR .i64 w lv l) (hll : ∀ x ∈ l, 0 ≤ x) (hck : checkOf k sq n ps mr l self d.size = 0) :
    Calls Tryd.prog 51 #[refV k sq n ps mr lv self d] w fun e w' => e = .returned (.string ⟨(bytesOf k sq n ps mr l self d.data.toList).toArray⟩) ∧ Below w.heap.size w w' := by
  obtain ⟨hk1, hk2, hlen, hdl, hsq0, hsq1, hn1, hps1, hmr1, hll1⟩ := check_zero hck
  have HLL := Lib.hid hll
  have HLL1 := Lib.hid hll1
  have HCK := Lib.hid hck
  have HL := Lib.hid hl
  obtain ⟨a, c, rfl, hc1, hm1, ha⟩ := hl.len
  have hd0 : d.size ≤ 200 := by omega
  clear hll hll1 hck hl
  have HF : Hid (bytesOf k sq n ps mr l self d.data.toList = d.data.toList ++ Lib.repeatL [0] (padOf d.size) ++ wordBytes ((if sSq k then [sq] else []) ++ l ++ (if sPs k then [ps] else []) ++ (if sMr k then [mr] else [])) ++ be4 (lastWord k n self d.size)) := Lib.hid (by
    unfold bytesOf wordsOf; simp only [size_len])
  generalize bytesOf k sq n ps mr l self d.data.toList = R at *
  have HQ := Lib.hid (HasSQ_any k)
  have hpl : padOf d.size ≤ 3 := by unfold padOf; omega
  have kc := conv1
  unfold refV
  go_enter Tryd.func51, Tryd.ntmps51
  have HBX0 := Lib.hid (BoxAt.new w 65 [.int .i64 k, .int .i64 sq, .int .i64 n, .int .i64 ps, .int .i64 mr, .slice a l.length c, .bool self, .string d])
  go_wp2_with fail
  refine (rcheck_any k sq n ps mr (.slice a l.length c) l self d _ hn hps hmr HL.out.alloc HLL.out (by omega) (by omega)).mono ?_
  rintro e w1 ⟨rfl, hb⟩
  rw [HCK.out]
  have HBX := Lib.hid (HBX0.out.below hb (by simp))
  have HB := Lib.hid (belAlloc hb (by simp))
  have HL1 := Lib.hid (HL.out.alloc.below hb (by simp))
  have hp0 : w.heap.size < w1.heap.size := HBX.out.lt
  clear hb HBX0 HL HCK
  obtain ⟨q0, q1, q2, q3, q4, q5, q6, q7⟩ := HBX.out.cells8
  go_wp2_with fail
  clear q0 q1 q2 q3 q4 q5 q6 q7
  go_loopw [3, 4] (fun s p wx => ∃ j : Nat, j ≤ padOf d.size ∧ p = .int .i64 j ∧ StrR w1 s (d.data.toList ++ Lib.repeatL [0] j) wx) (fun _ p _ => padOf d.size - (intOf p).toNat)
  case atStart => exact ⟨0, Nat.zero_le _, rfl, ⟨d, rfl, by simp [Lib.repeatL]⟩, Below.refl _ _⟩
  case round =>
    obtain ⟨j, hj, rfl, ⟨S, rfl, hS⟩, hbel⟩ := hrel
    have hSl : S.size = d.size + j := by
      rw [← size_len, hS, List.length_append, size_len, Lib.repeatL_length]; simp
    have HS := Lib.hid hS
    have HE := Lib.hid hbel
    clear hS hbel
    by_cases hlt : j < padOf d.size
    · have ht : ((S.size : Int) % 4 != 0) = true := by simp; unfold padOf at hlt; omega
      have hS2 : S.size ≤ 1000 := by omega
      have HSL := Lib.hid hSl
      clear hSl
      go_wp2_with fail
      go_roundw
      case rel =>
        refine ⟨j + 1, by omega, by go_num, ⟨_, rfl, ?_⟩, HE.out.alloc HE.out.size _⟩
        rw [dapp, HS.out, List.append_assoc, ← repeat_snoc]
      case measure => simp [intOf]; omega
    · obtain rfl : j = padOf d.size := by omega
      have ht : ((S.size : Int) % 4 != 0) = false := by simp; unfold padOf at hSl; omega
      have hS2 : S.size ≤ 203 := by omega
      have hcl := fun b o h => bcell HE.out b o h
      have HBX1 := Lib.hid (HBX.out.below HE.out hp0)
      have HL2 := Lib.hid (HL1.out.below HE.out (Nat.le_refl _))
      have HB1 := Lib.hid (belSeq HB.out HE.out)
      have hp1 : w.heap.size < wr.heap.size := HBX1.out.lt
      clear hcl HBX HL1 HB HE hSl
      obtain ⟨q0, q1, q2, q3, q4, q5, q6, q7⟩ := HBX1.out.cells8
      go_upto_region 8 with fail
      generalize d.data.toList ++ Lib.repeatL [0] (padOf d.size) = bs0 at *
      have hbl : bs0.length ≤ 203 := by rw [← HS.out, size_len]; omega
      have HSn := Lib.hid (size_len S)
      go_wp2_with fail
      refine (HQ.out _).mono ?_
      rintro e w2 ⟨rfl, hb2⟩
      have HBX2 := Lib.hid (HBX1.out.below hb2 hp1)
      have HL3 := Lib.hid (HL2.out.below hb2 (Nat.le_refl _))
      have HB2 := Lib.hid (belSeq HB1.out hb2)
      have hp2 : w.heap.size < w2.heap.size := HBX2.out.lt
      clear HBX1 HL2 HB1 hb2 q0 q1 q2 q3 q4 q5 q6 q7 HQ
      obtain ⟨q0, q1, q2, q3, q4, q5, q6, q7⟩ := HBX2.out.cells8
      generalize sSq k = bq at *
      go_upto_if 25 with fail
      go_cut [3] (fun v wx => StrR w2 v (bs0 ++ wordBytes (if bq then [sq] else [])) wx)
      case first =>
        cases bq
        · go_wp2_with fail
          go_meet
          exact ⟨⟨_, rfl, by rw [HS.out]; simp [wordBytes]⟩, Below.refl _ _⟩
        · go_wp2_with fail
          refine (Word_int sq (by omega) (by omega) _).mono ?_
          rintro e w3 ⟨rfl, hb3⟩
          have hWz : (⟨(be4 (sq).toNat).toArray⟩ : ByteArray).size ≤ 4 := by rw [size_arr, be4_length]; omega
          generalize hWB : (⟨(be4 (sq).toNat).toArray⟩ : ByteArray) = WB at *
          have HWB : Hid (WB.data.toList = be4 (sq).toNat) := Lib.hid (by rw [← hWB])
          clear hWB
          go_wp2_with fail
          go_meet
          exact ⟨⟨_, rfl, by rw [dapp, HS.out, HWB.out]; simp [wordBytes]⟩, hb3⟩
      case rest =>
        obtain ⟨⟨S1, rfl, hS1⟩, hbc⟩ := hcut
        have hb1l : (wordBytes (if bq then [sq] else [])).length ≤ 4 := by rw [wordBytes_length]; cases bq <;> simp
        obtain ⟨bs1, hbs1⟩ : ∃ b, b = bs0 ++ wordBytes (if bq then [sq] else []) := ⟨_, rfl⟩
        rw [← hbs1] at hS1
        have hb1 : bs1.length ≤ 207 := by rw [hbs1, List.length_append]; omega
        have hS1l : S1.size ≤ 207 := by rw [← size_len, hS1]; exact hb1
        have HS1 := Lib.hid hS1
        have HBS1 := Lib.hid hbs1
        have HBX3 := Lib.hid (HBX2.out.below hbc hp2)
        have HL4 := Lib.hid (HL3.out.below hbc (Nat.le_refl _))
        have HB3 := Lib.hid (belSeq HB2.out hbc)
        have hp3 : w.heap.size < wc.heap.size := HBX3.out.lt
        clear HBX2 HL3 HB2 hbc q0 q1 q2 q3 q4 q5 q6 q7 hS1 hbs1 HS HSn hS2
        obtain ⟨q0, q1, q2, q3, q4, q5, q6, q7⟩ := HBX3.out.cells8
        go_wp2_with fail
        clear q0 q1 q2 q3 q4 q5 q6 q7
        go_loopw [34, 3, 6] (fun i s _ wx => ∃ j : Nat, j ≤ l.length ∧ i = .int .i64 j ∧ StrR wc s (bs1 ++ wordBytes (l.take j)) wx) (fun i _ _ _ => l.length - (intOf i).toNat)
        case atStart => exact ⟨0, Nat.zero_le _, rfl, ⟨S1, rfl, by rw [HS1.out]; simp [wordBytes]⟩, Below.refl _ _⟩
        case round =>
          obtain ⟨j, hj, rfl, ⟨S2, rfl, hS2⟩, hbel⟩ := hrel
          have hS2l : S2.size ≤ 1000 := by rw [← size_len, hS2, List.length_append, wordBytes_length, List.length_take]; omega
          have HS2 := Lib.hid hS2
          have HE := Lib.hid hbel
          clear hS2 hbel
          by_cases hlt : j < l.length
          · obtain ⟨b, o, rfl⟩ := ha (by omega)
            have z1 := (HL4.out.below HE.out (Nat.le_refl _)).at j hlt
            have hx0 := HLL.out l[j] (List.getElem_mem hlt)
            have hx1 := HLL1.out l[j] (List.getElem_mem hlt)
            have HN : Hid (wordBytes (l.take (j + 1)) = wordBytes (l.take j) ++ be4 (l[j]).toNat) := Lib.hid (by rw [List.take_succ_eq_append_getElem hlt, wordBytes_snoc])
            generalize l[j] = x at *
            go_wp2_with fail
            refine (Word_int x (by omega) (by omega) _).mono ?_
            rintro e w3 ⟨rfl, hb3⟩
            have hWz : (⟨(be4 (x).toNat).toArray⟩ : ByteArray).size ≤ 4 := by rw [size_arr, be4_length]; omega
            generalize hWB : (⟨(be4 (x).toNat).toArray⟩ : ByteArray) = WB at *
            have HWB : Hid (WB.data.toList = be4 (x).toNat) := Lib.hid (by rw [← hWB])
            have HE3 := Lib.hid (belSeq HE.out hb3)
            clear hWB z1 hb3
            go_wp2_with fail
            go_roundw
            case rel => exact ⟨j + 1, by omega, by go_num, ⟨_, rfl, by rw [dapp, HS2.out, HWB.out, HN.out, List.append_assoc]⟩, HE3.out⟩
            case measure => simp [intOf]; omega
          · have hjl : l.take j = l := List.take_of_length_le (by omega)
            rw [hjl] at HS2
            have HBX4 := Lib.hid (HBX3.out.below HE.out hp3)
            have HB4 := Lib.hid (belSeq HB3.out HE.out)
            have hp4 : w.heap.size < wr.heap.size := HBX4.out.lt
            clear HBX3 HB3 HE HL4 hjl
            obtain ⟨q0, q1, q2, q3, q4, q5, q6, q7⟩ := HBX4.out.cells8
            have hzr : S2.size ≤ 1000 := hS2l
            generalize hbp : sPs k = bp at *
            generalize hbm : sMr k = bm at *
            by_cases h10 : k = 10
            · have e10 : (k == 10) = true := by simpa using h10
              have e11 : (k == 11) = false := by simp; omega
              have e12 : (k == 12) = false := by simp; omega
              have HP : Hid (bp = true) := Lib.hid (by rw [← hbp]; unfold sPs; exact decide_eq_true (by omega))
              have HM : Hid (bm = false) := Lib.hid (by rw [← hbm]; unfold sMr; exact decide_eq_false (by omega))
              clear h10 hbp hbm
              as_aux_lemma =>
              go_wp2_with fail
              refine (Word_int ps (by omega) (by omega) _).mono ?_
              rintro e w5 ⟨rfl, hb5⟩
              have hWz5 : (⟨(be4 (ps).toNat).toArray⟩ : ByteArray).size ≤ 4 := by rw [size_arr, be4_length]; omega
              generalize hWB : (⟨(be4 (ps).toNat).toArray⟩ : ByteArray) = WB5 at *
              have HWB5 : Hid (WB5.data.toList = be4 (ps).toNat) := Lib.hid (by rw [← hWB])
              have HBX5 := Lib.hid (HBX4.out.below hb5 hp4)
              have HB5 := Lib.hid (belSeq HB4.out hb5)
              have hp5 : w.heap.size < w5.heap.size := HBX5.out.lt
              clear hWB hb5 q0 q1 q2 q3 q4 q5 q6 q7
              obtain ⟨q0, q1, q2, q3, q4, q5, q6, q7⟩ := HBX5.out.cells8
              cases self
              · go_wp2_with fail
                refine (Word_last k n false d.size _ hk1 hk2 hn hn1 (by simp) _).mono ?_
                rintro e wl ⟨rfl, hbl⟩
                have hWzl : (⟨(be4 (lastWord k n false d.size)).toArray⟩ : ByteArray).size ≤ 4 := by rw [size_arr, be4_length]; omega
                generalize hWB : (⟨(be4 (lastWord k n false d.size)).toArray⟩ : ByteArray) = WBl at *
                have HWBl : Hid (WBl.data.toList = be4 (lastWord k n false d.size)) := Lib.hid (by rw [← hWB])
                clear hWB
                go_wp2_with fail
                go_ret
                exact ⟨ret_str (by rw [HF.out]; simp only [dapp, HWBl.out, HS2.out, HBS1.out, HWB5.out, HP.out, HM.out, wordBytes_append, if_true, if_false, Bool.false_eq_true, wordBytes_nil, wordBytes_one, List.append_assoc, List.append_nil, List.nil_append]), belSeq HB5.out hbl⟩
              · go_wp2_with fail
                refine (Word_last k n true d.size _ hk1 hk2 hn hn1 (by simp) _).mono ?_
                rintro e wl ⟨rfl, hbl⟩
                have hWzl : (⟨(be4 (lastWord k n true d.size)).toArray⟩ : ByteArray).size ≤ 4 := by rw [size_arr, be4_length]; omega
                generalize hWB : (⟨(be4 (lastWord k n true d.size)).toArray⟩ : ByteArray) = WBl at *
                have HWBl : Hid (WBl.data.toList = be4 (lastWord k n true d.size)) := Lib.hid (by rw [← hWB])
                clear hWB
                go_wp2_with fail
                go_ret
                exact ⟨ret_str (by rw [HF.out]; simp only [dapp, HWBl.out, HS2.out, HBS1.out, HWB5.out, HP.out, HM.out, wordBytes_append, if_true, if_false, Bool.false_eq_true, wordBytes_nil, wordBytes_one, List.append_assoc, List.append_nil, List.nil_append]), belSeq HB5.out hbl⟩
            by_cases h11 : k = 11
            · have e10 : (k == 10) = false := by simp; omega
              have e11 : (k == 11) = true := by simpa using h11
              have e12 : (k == 12) = false := by simp; omega
              have HP : Hid (bp = true) := Lib.hid (by rw [← hbp]; unfold sPs; exact decide_eq_true (by omega))
              have HM : Hid (bm = true) := Lib.hid (by rw [← hbm]; unfold sMr; exact decide_eq_true (by omega))
              clear h10 h11 hbp hbm
              as_aux_lemma =>
              go_wp2_with fail
              refine (Word_int ps (by omega) (by omega) _).mono ?_
              rintro e w5 ⟨rfl, hb5⟩
              have hWz5 : (⟨(be4 (ps).toNat).toArray⟩ : ByteArray).size ≤ 4 := by rw [size_arr, be4_length]; omega
              generalize hWB : (⟨(be4 (ps).toNat).toArray⟩ : ByteArray) = WB5 at *
              have HWB5 : Hid (WB5.data.toList = be4 (ps).toNat) := Lib.hid (by rw [← hWB])
              have HBX5 := Lib.hid (HBX4.out.below hb5 hp4)
              have HB5 := Lib.hid (belSeq HB4.out hb5)
              have hp5 : w.heap.size < w5.heap.size := HBX5.out.lt
              clear hWB hb5 q0 q1 q2 q3 q4 q5 q6 q7
              obtain ⟨q0, q1, q2, q3, q4, q5, q6, q7⟩ := HBX5.out.cells8
              go_wp2_with fail
              refine (Word_int mr (by omega) (by omega) _).mono ?_
              rintro e w6 ⟨rfl, hb6⟩
              have hWz6 : (⟨(be4 (mr).toNat).toArray⟩ : ByteArray).size ≤ 4 := by rw [size_arr, be4_length]; omega
              generalize hWB : (⟨(be4 (mr).toNat).toArray⟩ : ByteArray) = WB6 at *
              have HWB6 : Hid (WB6.data.toList = be4 (mr).toNat) := Lib.hid (by rw [← hWB])
              have HBX6 := Lib.hid (HBX5.out.below hb6 hp5)
              have HB6 := Lib.hid (belSeq HB5.out hb6)
              have hp6 : w.heap.size < w6.heap.size := HBX6.out.lt
              clear hWB hb6 q0 q1 q2 q3 q4 q5 q6 q7
              obtain ⟨q0, q1, q2, q3, q4, q5, q6, q7⟩ := HBX6.out.cells8
              cases self
              · go_wp2_with fail
                refine (Word_last k n false d.size _ hk1 hk2 hn hn1 (by simp) _).mono ?_
                rintro e wl ⟨rfl, hbl⟩
                have hWzl : (⟨(be4 (lastWord k n false d.size)).toArray⟩ : ByteArray).size ≤ 4 := by rw [size_arr, be4_length]; omega
                generalize hWB : (⟨(be4 (lastWord k n false d.size)).toArray⟩ : ByteArray) = WBl at *
                have HWBl : Hid (WBl.data.toList = be4 (lastWord k n false d.size)) := Lib.hid (by rw [← hWB])
                clear hWB
                go_wp2_with fail
                go_ret
                exact ⟨ret_str (by rw [HF.out]; simp only [dapp, HWBl.out, HS2.out, HBS1.out, HWB5.out, HWB6.out, HP.out, HM.out, wordBytes_append, if_true, if_false, Bool.false_eq_true, wordBytes_nil, wordBytes_one, List.append_assoc, List.append_nil, List.nil_append]), belSeq HB6.out hbl⟩
              · go_wp2_with fail
                refine (Word_last k n true d.size _ hk1 hk2 hn hn1 (by simp) _).mono ?_
                rintro e wl ⟨rfl, hbl⟩
                have hWzl : (⟨(be4 (lastWord k n true d.size)).toArray⟩ : ByteArray).size ≤ 4 := by rw [size_arr, be4_length]; omega
                generalize hWB : (⟨(be4 (lastWord k n true d.size)).toArray⟩ : ByteArray) = WBl at *
                have HWBl : Hid (WBl.data.toList = be4 (lastWord k n true d.size)) := Lib.hid (by rw [← hWB])
                clear hWB
                go_wp2_with fail
                go_ret
                exact ⟨ret_str (by rw [HF.out]; simp only [dapp, HWBl.out, HS2.out, HBS1.out, HWB5.out, HWB6.out, HP.out, HM.out, wordBytes_append, if_true, if_false, Bool.false_eq_true, wordBytes_nil, wordBytes_one, List.append_assoc, List.append_nil, List.nil_append]), belSeq HB6.out hbl⟩
            by_cases h12 : k = 12
            · have e10 : (k == 10) = false := by simp; omega
              have e11 : (k == 11) = false := by simp; omega
              have e12 : (k == 12) = true := by simpa using h12
              have HP : Hid (bp = false) := Lib.hid (by rw [← hbp]; unfold sPs; exact decide_eq_false (by omega))
              have HM : Hid (bm = true) := Lib.hid (by rw [← hbm]; unfold sMr; exact decide_eq_true (by omega))
              clear h10 h11 h12 hbp hbm
              as_aux_lemma =>
              go_wp2_with fail
              refine (Word_int mr (by omega) (by omega) _).mono ?_
              rintro e w5 ⟨rfl, hb5⟩
              have hWz5 : (⟨(be4 (mr).toNat).toArray⟩ : ByteArray).size ≤ 4 := by rw [size_arr, be4_length]; omega
              generalize hWB : (⟨(be4 (mr).toNat).toArray⟩ : ByteArray) = WB5 at *
              have HWB5 : Hid (WB5.data.toList = be4 (mr).toNat) := Lib.hid (by rw [← hWB])
              have HBX5 := Lib.hid (HBX4.out.below hb5 hp4)
              have HB5 := Lib.hid (belSeq HB4.out hb5)
              have hp5 : w.heap.size < w5.heap.size := HBX5.out.lt
              clear hWB hb5 q0 q1 q2 q3 q4 q5 q6 q7
              obtain ⟨q0, q1, q2, q3, q4, q5, q6, q7⟩ := HBX5.out.cells8
              cases self
              · go_wp2_with fail
                refine (Word_last k n false d.size _ hk1 hk2 hn hn1 (by simp) _).mono ?_
                rintro e wl ⟨rfl, hbl⟩
                have hWzl : (⟨(be4 (lastWord k n false d.size)).toArray⟩ : ByteArray).size ≤ 4 := by rw [size_arr, be4_length]; omega
                generalize hWB : (⟨(be4 (lastWord k n false d.size)).toArray⟩ : ByteArray) = WBl at *
                have HWBl : Hid (WBl.data.toList = be4 (lastWord k n false d.size)) := Lib.hid (by rw [← hWB])
                clear hWB
                go_wp2_with fail
                go_ret
                exact ⟨ret_str (by rw [HF.out]; simp only [dapp, HWBl.out, HS2.out, HBS1.out, HWB5.out, HP.out, HM.out, wordBytes_append, if_true, if_false, Bool.false_eq_true, wordBytes_nil, wordBytes_one, List.append_assoc, List.append_nil, List.nil_append]), belSeq HB5.out hbl⟩
              · go_wp2_with fail
                refine (Word_last k n true d.size _ hk1 hk2 hn hn1 (by simp) _).mono ?_
                rintro e wl ⟨rfl, hbl⟩
                have hWzl : (⟨(be4 (lastWord k n true d.size)).toArray⟩ : ByteArray).size ≤ 4 := by rw [size_arr, be4_length]; omega
                generalize hWB : (⟨(be4 (lastWord k n true d.size)).toArray⟩ : ByteArray) = WBl at *
                have HWBl : Hid (WBl.data.toList = be4 (lastWord k n true d.size)) := Lib.hid (by rw [← hWB])
                clear hWB
                go_wp2_with fail
                go_ret
                exact ⟨ret_str (by rw [HF.out]; simp only [dapp, HWBl.out, HS2.out, HBS1.out, HWB5.out, HP.out, HM.out, wordBytes_append, if_true, if_false, Bool.false_eq_true, wordBytes_nil, wordBytes_one, List.append_assoc, List.append_nil, List.nil_append]), belSeq HB5.out hbl⟩
            · have e10 : (k == 10) = false := by simp; omega
              have e11 : (k == 11) = false := by simp; omega
              have e12 : (k == 12) = false := by simp; omega
              have HP : Hid (bp = false) := Lib.hid (by rw [← hbp]; unfold sPs; exact decide_eq_false (by omega))
              have HM : Hid (bm = false) := Lib.hid (by rw [← hbm]; unfold sMr; exact decide_eq_false (by omega))
              clear h10 h11 h12 hbp hbm
              as_aux_lemma =>
              cases self
              · go_wp2_with fail
                refine (Word_last k n false d.size _ hk1 hk2 hn hn1 (by simp) _).mono ?_
                rintro e wl ⟨rfl, hbl⟩
                have hWzl : (⟨(be4 (lastWord k n false d.size)).toArray⟩ : ByteArray).size ≤ 4 := by rw [size_arr, be4_length]; omega
                generalize hWB : (⟨(be4 (lastWord k n false d.size)).toArray⟩ : ByteArray) = WBl at *
                have HWBl : Hid (WBl.data.toList = be4 (lastWord k n false d.size)) := Lib.hid (by rw [← hWB])
                clear hWB
                go_wp2_with fail
                go_ret
                exact ⟨ret_str (by rw [HF.out]; simp only [dapp, HWBl.out, HS2.out, HBS1.out, HP.out, HM.out, wordBytes_append, if_true, if_false, Bool.false_eq_true, wordBytes_nil, wordBytes_one, List.append_assoc, List.append_nil, List.nil_append]), belSeq HB4.out hbl⟩
              · go_wp2_with fail
                refine (Word_last k n true d.size _ hk1 hk2 hn hn1 (by simp) _).mono ?_
                rintro e wl ⟨rfl, hbl⟩
                have hWzl : (⟨(be4 (lastWord k n true d.size)).toArray⟩ : ByteArray).size ≤ 4 := by rw [size_arr, be4_length]; omega
                generalize hWB : (⟨(be4 (lastWord k n true d.size)).toArray⟩ : ByteArray) = WBl at *
                have HWBl : Hid (WBl.data.toList = be4 (lastWord k n true d.size)) := Lib.hid (by rw [← hWB])
                clear hWB
                go_wp2_with fail
                go_ret
                exact ⟨ret_str (by rw [HF.out]; simp only [dapp, HWBl.out, HS2.out, HBS1.out, HP.out, HM.out, wordBytes_append, if_true, if_false, Bool.false_eq_true, wordBytes_nil, wordBytes_one, List.append_assoc, List.append_nil, List.nil_append]), belSeq HB4.out hbl⟩
end Go.Proofs.YtdggnpecbdnkeaaDoor
