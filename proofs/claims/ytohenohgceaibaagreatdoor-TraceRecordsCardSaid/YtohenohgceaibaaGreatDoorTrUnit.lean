/-
  Contract of trace.Unit.
-/
import Derived.Test.YtohenohgceaibaaGreatDoorTrList
import Derived.Test.YtohenohgceaibaaGreatDoorPduCheck
import Derived.Test.YtohenohgceaibaaGreatDoorPduName
import Derived.Test.YtohenohgceaibaaGreatDoorTrNum
import Derived.Test.YtohenohgceaibaaGreatDoorBox
import Derived.Test.YtohenohgceaibaaGreatDoorHex
import Derived.Lib.OthersKept
import Derived.Laws.RangeAny
import Derived.Deep.Light
set_option linter.unusedVariables false
set_option linter.unusedSimpArgs false
namespace Go.Proofs.YtohenohgceaibaaGreatDoor
open Go.RowKit

def fieldF (p : Pd) (c : UInt8) : List UInt8 := (fieldWs p c).flatMap (fun v => 32 :: v)
def accOf (p : Pd) (j : Nat) : List UInt8 := nameOf p.k ++ ((hasL p.k).take j).flatMap (fieldF p)
theorem accOf_all (p : Pd) (j : Nat) (h : (hasL p.k).length ≤ j) : accOf p j = unitText p := by
  unfold accOf; rw [List.take_of_length_le h, unit_flat]; rfl
theorem accOf_step (p : Pd) (j : Nat) (h : j < (hasL p.k).length) : accOf p (j + 1) = accOf p j ++ fieldF p (hasL p.k)[j] := by
  unfold accOf; rw [List.take_succ_eq_append_getElem h, List.flatMap_append]; simp
theorem flat_le {α : Type} (f : α → List UInt8) (l : List α) (j : Nat) : ((l.take j).flatMap f).length ≤ (l.flatMap f).length := by
  conv => rhs; rw [← List.take_append_drop j l, List.flatMap_append, List.length_append]
  omega
theorem accOf_le (p : Pd) (j : Nat) : (accOf p j).length ≤ (unitText p).length := by
  rw [unit_flat]
  unfold accOf
  rw [List.length_append, List.length_append]
  have := flat_le (fieldF p) (hasL p.k) j
  show _ + _ ≤ _ + ((hasL p.k).flatMap (fieldF p)).length
  omega
def UnitRel (w : World) (p : Pd) (b g : Nat) (cs : List Value) (j : Nat) (v : Value) (wx : World) : Prop :=
  (∃ S : ByteArray, v = .string S ∧ S.data.toList = accOf p j) ∧ wx.heap[g]? = some (.stringIter ⟨(hasL p.k).toArray⟩ j) ∧ Below w.heap.size w wx ∧ BoxAt wx b 31 cs ∧ b ≠ g ∧ w.heap.size ≤ g
/-- Behind 'next'. -/
def UnitMid (w : World) (p : Pd) (b g : Nat) (cs : List Value) (j : Nat) (wx : World) : Prop :=
  wx.heap[g]? = some (.stringIter ⟨(hasL p.k).toArray⟩ (j + 1)) ∧ Below w.heap.size w wx ∧ BoxAt wx b 31 cs ∧ b ≠ g ∧ w.heap.size ≤ g
theorem UnitRel.mid {w wx : World} {p : Pd} {b g : Nat} {cs : List Value} {j : Nat} {v : Value} (h : UnitRel w p b g cs j v wx) : UnitMid w p b g cs j (wx.iterAt g ⟨(hasL p.k).toArray⟩ (j + 1)) := by
  obtain ⟨_, h1, h2, h3, h4, h5⟩ := h
  exact ⟨Lib.iterAt_heap _ _ _ _ _ h1, Lib.below_iterAt h2 h5 _ _, (Lib.iterAt_other _ _ _ _ _ h4).trans h3, h4, h5⟩
theorem UnitMid.keep {w wx wy : World} {p : Pd} {b g : Nat} {cs : List Value} {j : Nat} (h : UnitMid w p b g cs j wx) (hb : Below wx.heap.size wx wy) : UnitMid w p b g cs j wy := by
  obtain ⟨h1, h2, h3, h4, h5⟩ := h
  exact ⟨(hb.block g (Array.getElem?_eq_some_iff.1 h1).1).trans h1, belSeq h2 hb, h3.below hb h3.lt, h4, h5⟩
theorem UnitMid.next {w wx : World} {p : Pd} {b g : Nat} {cs : List Value} {j : Nat} (h : UnitMid w p b g cs j wx) (S : ByteArray) (hS : S.data.toList = accOf p (j + 1)) : UnitRel w p b g cs (j + 1) (.string S) wx :=
  ⟨⟨S, rfl, hS⟩, h.1, h.2.1, h.2.2.1, h.2.2.2.1, h.2.2.2.2⟩
theorem UnitMid.meas {w wx wr : World} {p : Pd} {b g : Nat} {cs : List Value} {j : Nat} {v : Value} (h : UnitMid w p b g cs j wx) (h0 : UnitRel w p b g cs j v wr) (hlt : j < (hasL p.k).length) : (hasL p.k).length - wx.iterPos g < (hasL p.k).length - wr.iterPos g := by
  rw [iterPos_of h.1, iterPos_of h0.2.1]; omega
theorem has_letters (k : Int) : ∀ c ∈ hasL k, c ∈ letters := by
  unfold hasL
  repeat' split
  all_goals decide
theorem ite4 {c : Prop} [Decidable c] {a b : List UInt8} (ha : a.length ≤ 4) (hb : b.length ≤ 4) : (if c then a else b).length ≤ 4 := by split <;> assumption
theorem has_le (k : Int) : (hasL k).length ≤ 4 := by
  unfold hasL
  repeat' (refine ite4 ?_ ?_)
  all_goals decide
set_option maxRecDepth 100000 in
set_option maxHeartbeats 1000000 in
theorem unit_bad (k sq n ps mr : Int) (lv : Value) (l : List Int) (self : Bool) (d : ByteArray) (w : World)
    (hn : 0 ≤ n ∧ n < 4294967296) (hps : 0 ≤ ps ∧ ps < 4294967296) (hmr : 0 ≤ mr ∧ mr < 4294967296) (hl : IntsR .u32 w lv l) (hll : ∀ x ∈ l, 0 ≤ x ∧ x < 4294967296)
    (hd : d.size ≤ 1000000) (hlen : l.length ≤ 1000000) (hck : checkOf k sq n ps mr l self d.size ≠ 0) :
    Calls Tryz.prog 8 #[pduV k sq n ps mr lv self d] w fun e w' => e = .returned (.string ⟨#[]⟩) ∧ Below w.heap.size w w' := by
  have HLL := Lib.hid hll
  have hck2 : (checkOf k sq n ps mr l self d.size != 0) = true := by simpa using hck
  have HCK := Lib.hid (check_any k sq n ps mr lv l self d (w.alloc (.cells #[.int .i64 k, .int .i64 sq, .int .u32 n, .int .u32 ps, .int .u32 mr, lv, .bool self, .string d] 31)) hn hps hmr hl.alloc HLL.out hd hlen)
  unfold pduV at *
  generalize checkOf k sq n ps mr l self d.size = R at *
  clear hll hck
  go_enter Tryz.func8, Tryz.ntmps8
  go_wp2_with fail
  refine HCK.out.mono ?_
  rintro e w1 ⟨rfl, hb⟩
  go_wp2_with fail
  go_ret
  exact ⟨rfl, belAlloc hb (by simp)⟩
set_option maxRecDepth 100000 in
set_option maxHeartbeats 4000000 in
theorem unit_ok (k sq n ps mr : Int) (lv : Value) (l : List Int) (self : Bool) (d : ByteArray) (w : World) (hn : 0 ≤ n) (hps : 0 ≤ ps) (hmr : 0 ≤ mr) (hl : IntsR .u32 w lv l) (hll : ∀ x ∈ l, 0 ≤ x)
    (hck : checkOf k sq n ps mr l self d.size = 0) (he : Env w) :
    Calls Tryz.prog 8 #[pduV k sq n ps mr lv self d] w fun e w' => e = .returned (.string ⟨(unitText ⟨k, sq, n, ps, mr, l, self, d.data.toList⟩).toArray⟩) ∧ Below w.heap.size w w' := by
  have hck' : ckOf ⟨k, sq, n, ps, mr, l, self, d.data.toList⟩ = 0 := by unfold ckOf; rw [size_len]; exact hck
  have hfit := fit_of ⟨k, sq, n, ps, mr, l, self, d.data.toList⟩ hn hps hmr hll hck'
  obtain ⟨⟨hk1, hk2⟩, hlen, hdl, _, ⟨hn1, hps1, hmr1, hll1⟩, _, hsq0, hsq1, _⟩ := ck_parts hck
  have htl := text_le _ hfit hlen (by rw [size_len]; exact hdl)
  have HLL : Hid (∀ x ∈ l, 0 ≤ x ∧ x < 4294967296) := Lib.hid (fun x hx => ⟨hll x hx, by have := hll1 x hx; omega⟩)
  have HLS : Hid (∀ x ∈ l, 0 ≤ x ∧ x < 16777216) := Lib.hid (fun x hx => ⟨hll x hx, hll1 x hx⟩)
  have HL := Lib.hid hl
  have HE := Lib.hid he
  obtain ⟨al, cl', rfl, _, _, _⟩ := hl.len
  have HCK := Lib.hid (check_any k sq n ps mr (.slice al l.length cl') l self d (w.alloc (.cells #[.int .i64 k, .int .i64 sq, .int .u32 n, .int .u32 ps, .int .u32 mr, .slice al l.length cl', .bool self, .string d] 31)) (by omega) (by omega) (by omega) hl.alloc HLL.out (by omega) (by omega))
  rw [hck] at HCK
  have HNM := Lib.hid (fun w => Name_any k sq n ps mr (.slice al l.length cl') self d w)
  have hnl := name_le k
  rw [kindWord_name] at HNM
  have HHA := Lib.hid (has_any k)
  have HLE := Lib.hid (fun j => accOf_le ⟨k, sq, n, ps, mr, l, self, d.data.toList⟩ j)
  have HAL := Lib.hid (fun j h => accOf_all ⟨k, sq, n, ps, mr, l, self, d.data.toList⟩ j h)
  have HTL := Lib.hid htl
  have hhl := has_le k
  unfold pduV at *
  clear hck' hfit hll hll1 hck he hl htl
  go_enter Tryz.func8, Tryz.ntmps8
  have HBX0 := Lib.hid (BoxAt.new w 31 [.int .i64 k, .int .i64 sq, .int .u32 n, .int .u32 ps, .int .u32 mr, .slice al l.length cl', .bool self, .string d])
  go_wp2_with fail
  refine HCK.out.mono ?_
  rintro e w1 ⟨rfl, hb⟩
  have HBX1 := Lib.hid (HBX0.out.below hb (by simp))
  have HB1 := Lib.hid (belAlloc hb (by simp))
  clear hb HBX0 HCK
  obtain ⟨q0, q1, q2, q3, q4, q5, q6, q7⟩ := HBX1.out.cells8
  go_wp2_with fail
  refine (HNM.out _).mono ?_
  rintro e w2 ⟨rfl, hb⟩
  have HBX2 := Lib.hid (HBX1.out.below hb HBX1.out.lt)
  have HB2 := Lib.hid (belSeq HB1.out hb)
  clear hb HBX1 HB1 HNM q0 q1 q2 q3 q4 q5 q6 q7
  obtain ⟨q0, q1, q2, q3, q4, q5, q6, q7⟩ := HBX2.out.cells8
  clear q1 q2 q3 q4 q5 q6 q7
  go_wp2_with fail
  refine (HHA.out _).mono ?_
  rintro e w2' ⟨rfl, rfl⟩
  have HRS := Lib.hid (show UnitRel w ⟨k, sq, n, ps, mr, l, self, d.data.toList⟩ w.heap.size w2.heap.size [.int .i64 k, .int .i64 sq, .int .u32 n, .int .u32 ps, .int .u32 mr, .slice al l.length cl', .bool self, .string d] 0 (.string ⟨(nameOf k).toArray⟩) (w2.iter ⟨(hasL k).toArray⟩ 0) from
    ⟨⟨_, rfl, by simp [accOf]⟩, World.iter_heap _ _ _, HB2.out.alloc HB2.out.size _, HBX2.out.alloc, Nat.ne_of_lt HBX2.out.lt, HB2.out.size⟩)
  clear HBX2 HB2 q0
  go_wp2_with fail
  generalize w2.iter ⟨(hasL k).toArray⟩ 0 = W0 at *
  generalize w2.heap.size = g at *
  go_loopw [3] (fun v wx => ∃ j : Nat, j ≤ (hasL k).length ∧ UnitRel w ⟨k, sq, n, ps, mr, l, self, d.data.toList⟩ w.heap.size g [.int .i64 k, .int .i64 sq, .int .u32 n, .int .u32 ps, .int .u32 mr, .slice al l.length cl', .bool self, .string d] j v wx) (fun _ wx => (hasL k).length - wx.iterPos g)
  case atStart => exact ⟨0, by omega, HRS.out⟩
  case round =>
    clear HRS
    obtain ⟨j, hj, hrl⟩ := hrel
    have HR := Lib.hid hrl
    obtain ⟨⟨S, rfl, hS⟩, hit, hbel, hbx, hne, hge⟩ := hrl
    have HS := Lib.hid hS
    have hSz : S.size ≤ 4000 := by
      have h1 := HLE.out j
      have h2 := HTL.out
      rw [← size_len, hS]; omega
    have HB := Lib.hid hbel
    clear hS hbx hbel
    by_cases hlt : j < (hasL k).length
    · have hlt' : j < (⟨(hasL k).toArray⟩ : ByteArray).size := by rw [size_arr]; exact hlt
      have hgb : (⟨(hasL k).toArray⟩ : ByteArray)[j] = (hasL k)[j] := rfl
      have hmem := has_letters k _ (List.getElem_mem hlt)
      have HSS := Lib.hid (accOf_step ⟨k, sq, n, ps, mr, l, self, d.data.toList⟩ j hlt)
      have hc7 : ((hasL k)[j]'hlt).toNat < 128 := by
        simp only [letters, List.mem_cons, List.not_mem_nil, or_false] at hmem
        rcases hmem with h | h | h | h | h | h <;> rw [h] <;> decide
      have hnx : ∀ ty, (Instr.next (.pointer (some ⟨g, 0, none⟩)) true ty).run Tryz.prog wr = .ok (.tuple #[.bool true, .int .i64 (j : Int), .int .i32 ((((hasL k)[j]'hlt).toNat : Nat) : Int)]) (wr.iterAt g ⟨(hasL k).toArray⟩ (j + 1)) := fun ty => Lib.run_next_ascii_at (P := Tryz.prog) wr g ⟨(hasL k).toArray⟩ j ty hit hlt' (by rw [hgb]; exact hc7)
      have HR1 := Lib.hid HR.out.mid
      simp only at HR1
      have HE1 := Lib.hid (HE.out.below HR1.out.2.1)
      have HL1 := Lib.hid (HL.out.below HR1.out.2.1 (Nat.le_refl _))
      clear hc7 hgb hlt' hit HB
      generalize hcc : (hasL k)[j]'hlt = c at *
      obtain ⟨q0, q1, q2, q3, q4, q5, q6, q7⟩ := HR1.out.2.2.1.cells8
      generalize wr.iterAt g ⟨(hasL k).toArray⟩ (j + 1) = W1 at *
      simp only [letters, List.mem_cons, List.not_mem_nil, or_false] at hmem
      clear hcc
      rcases hmem with hc | hc | hc | hc | hc | hc
      · subst hc
        have HF : Hid (fieldF ⟨k, sq, n, ps, mr, l, self, d.data.toList⟩ 115 = [32, 115, 113] ++ Lib.itoa sq) := Lib.hid (by simp [fieldF, fieldWs, fieldW])
        have HIT := Lib.hid (fun W (h : Env W) => itoa_any sq W (by omega) (by omega) h)
        have hil := Lib.itoa_length_le sq (by omega) (by omega)
        generalize fieldF ⟨k, sq, n, ps, mr, l, self, d.data.toList⟩ 115 = FF at *
        go_wp2_with fail
        refine (HIT.out _ HE1.out).mono ?_
        rintro e w2 ⟨rfl, hb2⟩
        have HR2 := Lib.hid (HR1.out.keep hb2)
        clear hb2
        go_wp2_with fail
        go_roundw
        case rel => exact ⟨j + 1, by omega, HR2.out.next _ (by simp only [dapp]; rw [HS.out, HSS.out, HF.out])⟩
        case measure => exact HR2.out.meas HR.out hlt
      · subst hc
        have HF : Hid (fieldF ⟨k, sq, n, ps, mr, l, self, d.data.toList⟩ 110 = [32, 110] ++ Lib.itoa n) := Lib.hid (by simp [fieldF, fieldWs, fieldW])
        have HIT := Lib.hid (fun W (h : Env W) => itoa_any n W (by omega) (by omega) h)
        have hil := Lib.itoa_length_le n (by omega) (by omega)
        generalize fieldF ⟨k, sq, n, ps, mr, l, self, d.data.toList⟩ 110 = FF at *
        go_wp2_with fail
        refine (HIT.out _ HE1.out).mono ?_
        rintro e w2 ⟨rfl, hb2⟩
        have HR2 := Lib.hid (HR1.out.keep hb2)
        clear hb2
        go_wp2_with fail
        go_roundw
        case rel => exact ⟨j + 1, by omega, HR2.out.next _ (by simp only [dapp]; rw [HS.out, HSS.out, HF.out])⟩
        case measure => exact HR2.out.meas HR.out hlt
      · subst hc
        have HF : Hid (fieldF ⟨k, sq, n, ps, mr, l, self, d.data.toList⟩ 112 = [32, 112, 115] ++ Lib.itoa ps) := Lib.hid (by simp [fieldF, fieldWs, fieldW])
        have HIT := Lib.hid (fun W (h : Env W) => itoa_any ps W (by omega) (by omega) h)
        have hil := Lib.itoa_length_le ps (by omega) (by omega)
        generalize fieldF ⟨k, sq, n, ps, mr, l, self, d.data.toList⟩ 112 = FF at *
        go_wp2_with fail
        refine (HIT.out _ HE1.out).mono ?_
        rintro e w2 ⟨rfl, hb2⟩
        have HR2 := Lib.hid (HR1.out.keep hb2)
        clear hb2
        go_wp2_with fail
        go_roundw
        case rel => exact ⟨j + 1, by omega, HR2.out.next _ (by simp only [dapp]; rw [HS.out, HSS.out, HF.out])⟩
        case measure => exact HR2.out.meas HR.out hlt
      · subst hc
        have HF : Hid (fieldF ⟨k, sq, n, ps, mr, l, self, d.data.toList⟩ 109 = [32, 109, 114] ++ Lib.itoa mr) := Lib.hid (by simp [fieldF, fieldWs, fieldW])
        have HIT := Lib.hid (fun W (h : Env W) => itoa_any mr W (by omega) (by omega) h)
        have hil := Lib.itoa_length_le mr (by omega) (by omega)
        generalize fieldF ⟨k, sq, n, ps, mr, l, self, d.data.toList⟩ 109 = FF at *
        go_wp2_with fail
        refine (HIT.out _ HE1.out).mono ?_
        rintro e w2 ⟨rfl, hb2⟩
        have HR2 := Lib.hid (HR1.out.keep hb2)
        clear hb2
        go_wp2_with fail
        go_roundw
        case rel => exact ⟨j + 1, by omega, HR2.out.next _ (by simp only [dapp]; rw [HS.out, HSS.out, HF.out])⟩
        case measure => exact HR2.out.meas HR.out hlt
      · subst hc
        have HF : Hid (fieldF ⟨k, sq, n, ps, mr, l, self, d.data.toList⟩ 108 = [32, 108] ++ listW l) := Lib.hid (by simp [fieldF, fieldWs, fieldW])
        have HLI := Lib.hid (list_any (.slice al l.length cl') l W1 HL1.out HLS.out hlen HE1.out)
        have hil := listW_le l HLS.out hlen
        generalize fieldF ⟨k, sq, n, ps, mr, l, self, d.data.toList⟩ 108 = FF at *
        generalize listW l = LW at *
        go_wp2_with fail
        refine HLI.out.mono ?_
        rintro e w2 ⟨rfl, hb2⟩
        have HR2 := Lib.hid (HR1.out.keep hb2)
        clear hb2
        go_wp2_with fail
        go_roundw
        case rel => exact ⟨j + 1, by omega, HR2.out.next _ (by simp only [dapp]; rw [HS.out, HSS.out, HF.out])⟩
        case measure => exact HR2.out.meas HR.out hlt
      · subst hc
        have HF : Hid (fieldF ⟨k, sq, n, ps, mr, l, self, d.data.toList⟩ 100 = (if self then [32, 115, 101, 108, 102] else []) ++ [32, 100] ++ hexOf d.data.toList) := Lib.hid (by cases self <;> simp [fieldF, fieldWs, fieldW, selfW])
        have HHX := Lib.hid (fun W => hex_any d W (by omega))
        have hil := hexOf_length d.data.toList
        rw [size_len] at hil
        generalize fieldF ⟨k, sq, n, ps, mr, l, self, d.data.toList⟩ 100 = FF at *
        generalize hexOf d.data.toList = LW at *
        cases self
        all_goals
          go_wp2_with fail
          refine (HHX.out _).mono ?_
          rintro e w2 ⟨rfl, hb2⟩
          have HR2 := Lib.hid (HR1.out.keep hb2)
          clear hb2
          go_wp2_with fail
          go_roundw
          case rel => exact ⟨j + 1, by omega, HR2.out.next _ (by simp only [dapp]; rw [HS.out, HSS.out, HF.out]; simp)⟩
          case measure => exact HR2.out.meas HR.out hlt
    · have hnx := fun ty => Lib.run_next_end_at (P := Tryz.prog) wr g ⟨(hasL k).toArray⟩ j ty hit (by rw [size_arr]; exact hlt)
      have HA := Lib.hid (HAL.out j (by show (hasL k).length ≤ j; omega))
      clear hit
      go_wp2_with fail
      go_ret
      exact ⟨ret_str (by rw [HS.out, HA.out]), HB.out⟩
end Go.Proofs.YtohenohgceaibaaGreatDoor
