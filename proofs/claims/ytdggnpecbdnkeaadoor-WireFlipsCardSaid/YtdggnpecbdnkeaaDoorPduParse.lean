/-
  Parse of the bytes of a unit that may be: the unit comes back.
-/
import Derived.Test.YtdggnpecbdnkeaaDoorPduFixed
import Derived.Test.YtdggnpecbdnkeaaDoorPlainPduInj
import Derived.Deep.Light
set_option linter.unusedVariables false
set_option linter.unusedSimpArgs false
namespace Go.Proofs.YtdggnpecbdnkeaaDoor
open Go.RowKit
attribute [local go_sem ↓] Go.wp_at_zero Go.wp_at_succ

theorem wordAt_be4 (pre : List UInt8) (x : Nat) (hx : x < 4294967296) : wordAt (pre ++ be4 x) pre.length = x := by
  unfold wordAt be4
  simp only [List.getD_eq_getElem?_getD]
  rw [List.getElem?_append_right (by omega), List.getElem?_append_right (by omega), List.getElem?_append_right (by omega), List.getElem?_append_right (by omega)]
  simp only [Nat.sub_self, Nat.add_sub_cancel_left, List.getElem?_cons_zero, List.getElem?_cons_succ, Option.getD_some, Nat.toUInt8, UInt8.toNat_ofNat']
  omega
theorem take_be (b : Nat) (pre : List UInt8) (x : Nat) (w : World) (hc : w.cell? ⟨b, 0, none⟩ = some (.string ⟨(pre ++ be4 x).toArray⟩)) (hf : w.frozen? ⟨b, 0, none⟩ = false) (hx : x < 4294967296) (hp : pre.length ≤ 900000) :
    Calls Tryd.prog 70 #[.pointer (some ⟨b, 0, none⟩)] w fun e w' => e = .returned (.int .u32 (x : Int)) ∧ w' = (w.setCell ⟨b, 0, none⟩ (.string ⟨pre.toArray⟩)).drew := by
  refine (take_any b _ pre.length w hc hf (by rw [size_arr, List.length_append, be4_length]) hp).mono fun e w' ⟨h1, h2⟩ => ⟨h1.trans (ret_int ?_), h2.trans ?_⟩
  · rw [show (⟨(pre ++ be4 x).toArray⟩ : ByteArray).data.toList = pre ++ be4 x from rfl, wordAt_be4 pre x hx]
  · congr 3
    exact str_eq (by simp)
theorem last_bits {k n : Int} {self : Bool} {dl : Nat} (hk : 1 ≤ k ∧ k ≤ 15) (hn : 0 ≤ n ∧ n < 16777216) :
    bits .and .u32 ((lastWord k n self dl : Int) / 16777216) 15 = k ∧ (bits .and .u32 ((lastWord k n self dl : Int) / 536870912) 1 == 1) = self ∧ (lastWord k n self dl : Int) / 1073741824 = ((padOf dl : Nat) : Int) ∧ ((lastWord k n self dl % 16777216 : Nat) : Int) = n := by
  have hp := padOf_le dl
  have hl := last_lt (self := self) (dl := dl) hk hn
  have h1 : lastWord k n self dl = padOf dl * 1073741824 + (if self then 1 else 0) * 536870912 + k.toNat * 16777216 + n.toNat := rfl
  generalize lastWord k n self dl = x at *
  refine ⟨?_, ?_, ?_, ?_⟩
  · rw [show (x : Int) / 16777216 = ((x / 16777216 : Nat) : Int) by omega, show (15 : Int) = ((15 : Nat) : Int) from rfl, u32_and_nat _ 15 (by omega) (by omega), show 15 = 2 ^ 4 - 1 from rfl, Nat.and_two_pow_sub_one_eq_mod]
    cases self <;> simp at h1 <;> omega
  · rw [show (x : Int) / 536870912 = ((x / 536870912 : Nat) : Int) by omega, show bits .and .u32 ((x / 536870912 : Nat) : Int) 1 = (((x / 536870912) % 2 : Nat) : Int) from by
      rw [show (1 : Int) = ((1 : Nat) : Int) from rfl, u32_and_nat _ 1 (by omega) (by omega), show 1 = 2 ^ 1 - 1 from rfl, Nat.and_two_pow_sub_one_eq_mod]]
    rw [Bool.eq_iff_iff]
    cases self <;> simp at h1 ⊢ <;> omega
  · cases self <;> simp at h1 <;> omega
  · cases self <;> simp at h1 <;> omega
/-- The state while a unit is taken apart: what is left of the bytes (block T), the unit (block P), the shape (block H), the result's place (block R). -/
def ParSt (w : World) (R H : Nat) (ts : List UInt8) (pc hc : List Value) (wx : World) : Prop :=
  BoxAt wx (R + 1) 110 [.string ⟨ts.toArray⟩] ∧ BoxAt wx (R + 1 + 1) 59 pc ∧ BoxAt wx H 114 hc ∧
  BoxAt wx R 59 [.int .i64 0, .int .i64 0, .int .u32 0, .int .u32 0, .int .u32 0, .slice none 0 0, .bool false, .string ⟨#[]⟩] ∧ Below R w wx ∧ R + 1 + 1 < H
/-- A take. -/
theorem ParSt.take {w wx : World} {R H : Nat} {ts ts' : List UInt8} {pc hc : List Value} (h : ParSt w R H ts pc hc wx) : ParSt w R H ts' pc hc (wx.setCell ⟨R + 1, 0, none⟩ (.string ⟨ts'.toArray⟩)).drew := by
  obtain ⟨h1, h2, h3, h4, h5, h6⟩ := h
  exact ⟨h1.set 0 _, h2.other (by simp) _, h3.other (by simp; omega) _, h4.other (by simp) _, (h5.setCell (by simp) _).drew, h6⟩
/-- A field of the unit. -/
theorem ParSt.field {w wx : World} {R H : Nat} {ts : List UInt8} {pc hc : List Value} (h : ParSt w R H ts pc hc wx) (o : Nat) (v : Value) : ParSt w R H ts (pc.set o v) hc (wx.setCell ⟨R + 1 + 1, o, none⟩ v) := by
  obtain ⟨h1, h2, h3, h4, h5, h6⟩ := h
  exact ⟨h1.other (by simp) _, h2.set o _, h3.other (by simp; omega) _, h4.other (by simp; omega) _, h5.setCell (by simp; omega) _, h6⟩
theorem ParSt.below {w wx wy : World} {R H : Nat} {ts : List UInt8} {pc hc : List Value} (h : ParSt w R H ts pc hc wx) (hb : Below wx.heap.size wx wy) : ParSt w R H ts pc hc wy := by
  obtain ⟨h1, h2, h3, h4, h5, h6⟩ := h
  exact ⟨h1.below hb h1.lt, h2.below hb h2.lt, h3.below hb h3.lt, h4.below hb h4.lt, h5.trans (hb.mono (Nat.le_of_lt h4.lt)), h6⟩
theorem ParSt.grown {w wx wy : World} {R H : Nat} {ts : List UInt8} {pc hc : List Value} {row : Option Nat} (h : ParSt w R H ts pc hc wx) (hg : wx.grownBy wy row) (hr : ∀ q, row = some q → H < q) : ParSt w R H ts pc hc wy := by
  obtain ⟨h1, h2, h3, h4, h5, h6⟩ := h
  have e : ∀ b, b ≤ H → some b ≠ row := fun b hb h => by have := hr b h.symm; omega
  exact ⟨h1.grown hg (e _ (by omega)), h2.grown hg (e _ (by omega)), h3.grown hg (e _ (by omega)), h4.grown hg (e _ (by omega)), h5.grown hg (Nat.le_of_lt h4.lt) (fun q hq => by have := hr q hq; omega), h6⟩
theorem ParSt.drew {w wx : World} {R H : Nat} {ts : List UInt8} {pc hc : List Value} (h : ParSt w R H ts pc hc wx) : ParSt w R H ts pc hc wx.drew := by
  obtain ⟨h1, h2, h3, h4, h5, h6⟩ := h
  exact ⟨h1, h2, h3, h4, h5.drew, h6⟩
theorem ParSt.alloc {w wx : World} {R H : Nat} {ts : List UInt8} {pc hc : List Value} {o : Obj} (h : ParSt w R H ts pc hc wx) : ParSt w R H ts pc hc (wx.alloc o) := h.below ((Below.refl _ _).alloc (Nat.le_refl _) o)
/-- Reverse of a row of the call's own. -/
theorem reverse_own (base : Nat) (v : Value) (xs : List Int) (w : World) (h : w.ownsRow base 56 1 v xs.length (xs.map (Value.int .u32))) (hlen : xs.length ≤ 1000000) :
    Calls Tryd.prog 74 #[v] w fun e w' => e = .returned (.tuple #[]) ∧ w'.ownsRow base 56 1 v xs.reverse.length (xs.reverse.map (Value.int .u32)) ∧ w.grownBy w' v.ownBlock := by
  obtain ⟨h1, h2 | ⟨g, cap, cur, hv, hg, hcur, hn, hcap, hs, ht⟩⟩ := h
  · obtain ⟨rfl, h0⟩ := h2
    obtain rfl := List.eq_nil_of_length_eq_zero h0
    refine (reverse_nil w).mono ?_
    rintro e w' ⟨rfl, rfl⟩
    exact ⟨rfl, World.ownsRow_nil _ _ _ _, World.grownBy.refl _ _⟩
  · subst hv
    have hb : BoxAt w g 56 (xs.map (Value.int .u32) ++ cur.toList.drop xs.length) := by
      unfold BoxAt
      rw [hcur]
      congr 2
      apply Array.toList_inj.1
      rw [← ht]
      simp only [List.length_map, Nat.mul_one]
      exact (List.take_append_drop _ _).symm
    refine (reverse_some g cap xs (cur.toList.drop xs.length) w hb hlen hn).mono ?_
    rintro e w' ⟨rfl, hb', hg'⟩
    refine ⟨rfl, ⟨by simp, Or.inr ⟨g, cap, ((xs.reverse.map (Value.int .u32)) ++ cur.toList.drop xs.length).toArray, by simp, hg, hb', by simpa using hn, hcap, ?_, ?_⟩⟩, hg'⟩
    · have : cur.toList.length = cap * 1 := by simpa using hs
      simp; omega
    · simp
theorem heap_new_at {W : World} {b : Nat} (hb : W.heap.size = b) (o : Obj) : (W.alloc o).heap[b]? = some o := hb ▸ heap_alloc_new W o
theorem ParSt.append {w wr w5 : World} {R H : Nat} {ts pre : List UInt8} {pc hc : List Value} {ob : Obj} {row : Option Nat} (h : ParSt w R H ts pc hc wr)
    (hg : ((wr.setCell ⟨R + 1, 0, none⟩ (.string ⟨pre.toArray⟩)).alloc ob).drew.drew.grownBy w5 row) (hr : ∀ q, row = some q → H < q) : ParSt w R H pre pc hc w5 := by
  have h1 := (h.take (ts' := pre)).alloc (o := ob)
  have h2 : ParSt w R H pre pc hc (((wr.setCell ⟨R + 1, 0, none⟩ (.string ⟨pre.toArray⟩)).alloc ob).drew.drew) := by
    obtain ⟨a1, a2, a3, a4, a5, a6⟩ := h1
    exact ⟨a1, a2, a3, a4, a5.drew, a6⟩
  exact h2.grown hg hr
/-- While the list is taken: j of its words have come. -/
def ParRel (w : World) (R H : Nat) (A3 : List UInt8) (pc : Value → List Value) (hc : List Value) (l : List Int) (j : Nat) (wx : World) : Prop :=
  ∃ v, ParSt w R H (A3 ++ wordBytes (l.take (l.length - j))) (pc v) hc wx ∧ wx.ownsRow (H + 1) 56 1 v ((l.drop (l.length - j)).reverse).length (((l.drop (l.length - j)).reverse).map (Value.int .u32))
theorem ParRel.close {w w5 : World} {R H : Nat} {A3 pre : List UInt8} {pc : Value → List Value} {hc : List Value} {l rv : List Int} {x : Int} {j m : Nat} {v v' : Value} (hst : ParSt w R H pre (pc v) hc w5) (hcs : ∀ v v', (pc v).set 5 v' = pc v')
    (hown : w5.ownsRow (H + 1) 56 1 v' (rv.length + 1) (rv.map (Value.int .u32) ++ [.int .u32 x])) (hj : l.length - (j + 1) = m) (hp : A3 ++ wordBytes (l.take m) = pre) (hr : (l.drop m).reverse = rv ++ [x]) :
    ParRel w R H A3 pc hc l (j + 1) (w5.setCell ⟨R + 1 + 1, 5, none⟩ v') := by
  have hR := hst.2.2.2.2.2
  refine ⟨v', ?_, ?_⟩
  · rw [hj, hp]
    have := hst.field 5 v'
    rwa [hcs] at this
  · rw [hj, hr]
    refine ownsRow_setCell_below ?_ (by simp; omega) _
    simpa using hown
def ParsePost (w : World) (k sq n ps mr : Int) (l : List Int) (self : Bool) (d : ByteArray) (e : Ending) (w' : World) : Prop :=
  ∃ lv, e = .returned (.tuple #[pduV k sq n ps mr lv self d, .int .i64 0]) ∧ IntsR .u32 w' lv l ∧ Below w.heap.size w w'

/-- Likewise; the list lies in a row of the call's own. -/
def ParseOwn (w : World) (k sq n ps mr : Int) (l : List Int) (self : Bool) (d : ByteArray) (e : Ending) (w' : World) : Prop :=
  ∃ lv base, e = .returned (.tuple #[pduV k sq n ps mr lv self d, .int .i64 0]) ∧ w.heap.size ≤ base ∧ w'.ownsRow base 56 1 lv l.length (l.map (Value.int .u32)) ∧ Below w.heap.size w w'
set_option maxRecDepth 100000 in
set_option maxHeartbeats 4000000 in
theorem parse_own (k sq n ps mr : Int) (l : List Int) (self : Bool) (d s : ByteArray) (w : World) (hn : 0 ≤ n) (hps : 0 ≤ ps) (hmr : 0 ≤ mr) (hll : ∀ x ∈ l, 0 ≤ x) (hck : checkOf k sq n ps mr l self d.size = 0)
    (hs : bytesOf k sq n ps mr l self d.data.toList = s.data.toList) : Calls Tryd.prog 42 #[.string s] w (ParseOwn w k sq n ps mr l self d) := by
  obtain ⟨hk1, hk2, hlen, hdl, hsq0, hsq1, hn1, hps1, hmr1, hll1⟩ := check_zero hck
  have hlen2 := congrArg List.length hs
  rw [size_len] at hlen2
  have HSZ : Hid (s.size = (d.data.toList ++ Lib.repeatL [0] (padOf d.size) ++ wordBytes (wordsOf k sq ps mr l)).length + 4) := Lib.hid (by
    rw [← hlen2]; unfold bytesOf; rw [List.length_append, be4_length]; simp only [size_len])
  have HB4 : s.size % 4 = 0 ∧ 4 ≤ s.size ∧ s.size ≤ 1000 := by
    have h1 := wordsOf_len k sq ps mr l
    have h2 : (if sSq k then 1 else 0) ≤ 1 := by split <;> omega
    have h3 : (if sPs k then 1 else 0) ≤ 1 := by split <;> omega
    have h4 : (if sMr k then 1 else 0) ≤ 1 := by split <;> omega
    rw [← hlen2]
    unfold bytesOf padOf
    simp only [List.length_append, wordBytes_length, be4_length, Lib.repeatL_length, List.length_cons, List.length_nil, size_len]
    omega
  have hm4 : ((s.size : Int) % 4 != 0) = false := by simp; omega
  have he := full_bool (s := s) (by omega)
  obtain ⟨e1, e2, e3, e4⟩ := last_bits (self := self) (dl := d.size) ⟨hk1, hk2⟩ ⟨hn, hn1⟩
  have hll4 := last_lt (self := self) (dl := d.size) ⟨hk1, hk2⟩ ⟨hn, hn1⟩
  obtain ⟨A0, hA0⟩ : ∃ x, x = d.data.toList ++ Lib.repeatL [0] (padOf d.size) ++ wordBytes (wordsOf k sq ps mr l) := ⟨_, rfl⟩
  have hbytes : s.data.toList = A0 ++ be4 (lastWord k n self d.size) := by
    rw [← hs, hA0]; unfold bytesOf; simp only [size_len]
  have hA0l : A0.length ≤ 1000 := by
    have := congrArg List.length hbytes
    rw [size_len, List.length_append, be4_length] at this
    omega
  generalize lastWord k n self d.size = last at *
  have HT : Hid (∀ b (w : World), w.cell? ⟨b, 0, none⟩ = some (.string s) → w.frozen? ⟨b, 0, none⟩ = false → Calls Tryd.prog 70 #[.pointer (some ⟨b, 0, none⟩)] w fun e w' => e = .returned (.int .u32 (last : Int)) ∧ w' = (w.setCell ⟨b, 0, none⟩ (.string ⟨A0.toArray⟩)).drew) := Lib.hid (fun b w hc hf => by
    refine take_be b _ last w (hc.trans ?_) hf hll4 (by omega)
    congr 2
    exact str_eq hbytes)
  have HLow : Hid (∀ w : World, Calls Tryd.prog 71 #[.int .u32 (last : Int)] w fun e w' => e = .returned (.int .u32 n) ∧ w = w') := Lib.hid (fun w => (Low_any last hll4 w).mono fun e w' ⟨h1, h2⟩ => ⟨h1.trans (ret_int e4), h2⟩)
  have HA0 := Lib.hid hA0
  have HLL := Lib.hid hll
  have HLL1 := Lib.hid hll1
  have HCK := Lib.hid hck
  have HS := Lib.hid hs
  have hsh := shapeOf_any k
  unfold shapeV at hsh
  have hsi : sIs k = true := by unfold sIs; exact decide_eq_true ⟨hk1, hk2⟩
  rw [hsi] at hsh
  have HSH := Lib.hid hsh
  clear hA0 hll hll1 hck hs hlen2 hbytes e4 hsh hsi
  obtain ⟨i0, hi, hz0, hz1, hz2⟩ := info_parts info_num
  go_enter Tryd.func42, Tryd.ntmps42
  go_wp2_with fail
  refine (HT.out _ _ (by simp) (by simp)).mono ?_
  rintro e w1 ⟨rfl, rfl⟩
  go_wp2_with fail
  refine (HLow.out _).mono ?_
  rintro e w1 ⟨rfl, rfl⟩
  go_upto_region 6 with fail
  refine region_gen (fun W => BoxAt W w.heap.size 59 [.int .i64 0, .int .i64 0, .int .u32 0, .int .u32 0, .int .u32 0, .slice none 0 0, .bool false, .string ⟨#[]⟩] ∧ BoxAt W (w.heap.size + 1) 110 [.string ⟨A0.toArray⟩] ∧ BoxAt W (w.heap.size + 1 + 1) 59 [.int .i64 k, .int .i64 0, .int .u32 n, .int .u32 0, .int .u32 0, .slice none 0 0, .bool self, .string ⟨#[]⟩] ∧ Below w.heap.size w W) ⟨(BoxAt.new w _ _).alloc.alloc.drew, (BoxAt.newAt (by simp) _ _).alloc.drew, (BoxAt.newAt (by simp) _ _).drew, ((((Below.refl _ _).alloc (Nat.le_refl _) _).alloc (by simp) _).alloc (by simp; omega) _).drew⟩ ?_
  rintro W ⟨hR, hT, hP, hB⟩
  have HR := Lib.hid hR
  have HTT := Lib.hid hT
  have HP := Lib.hid hP
  have HB := Lib.hid hB
  have hpW := hP.lt
  obtain ⟨p0, p1, p2, p3, p4, p5, p6, p7⟩ := hP.cells8
  clear hR hT hP hB HT HLow
  go_wp2_with fail
  refine (HSH.out _).mono ?_
  rintro e w2 ⟨rfl, hb2⟩
  have HM := Lib.hid (check_more HCK.out)
  have hzb2 := hb2.size
  have HST0 : Hid (ParSt w w.heap.size w2.heap.size A0 [.int .i64 k, .int .i64 0, .int .u32 n, .int .u32 0, .int .u32 0, .slice none 0 0, .bool self, .string ⟨#[]⟩] [.int .i64 (sData k), .bool (sSq k), .bool (sN k), .int .i64 (sList k), .bool (sPs k), .bool (sMr k), .bool (sSelf k), .bool true] (w2.alloc (.cells #[.int .i64 (sData k), .bool (sSq k), .bool (sN k), .int .i64 (sList k), .bool (sPs k), .bool (sMr k), .bool (sSelf k), .bool true] 114))) :=
    Lib.hid ⟨(HTT.out.below hb2 HTT.out.lt).alloc, (HP.out.below hb2 HP.out.lt).alloc, BoxAt.new _ _ _, (HR.out.below hb2 HR.out.lt).alloc, (belSeq HB.out hb2).alloc (by omega) _, by omega⟩
  have hslr : -1 ≤ sList k ∧ sList k ≤ 2 := by
    unfold sList; split
    · omega
    · split <;> omega
  have hslk : sList k < 0 ↔ k = 11 := sList_of k
  have hfx := fixed_any (sData k) (sSq k) (sN k) (sList k) (sPs k) (sMr k) (sSelf k) true hslr
  clear hb2 HSH HR HTT HP HB p0 p1 p2 p3 p4 p5 p6 p7
  have hA0e : A0 = d.data.toList ++ Lib.repeatL [0] (padOf d.size) ++ (if sSq k then be4 sq.toNat else []) ++ wordBytes l ++ (if sPs k then be4 ps.toNat else []) ++ (if sMr k then be4 mr.toNat else []) := by
    rw [HA0.out]
    unfold wordsOf
    simp only [wordBytes_append]
    cases sSq k <;> cases sPs k <;> cases sMr k <;> simp [wordBytes]
  have hfo : 4 * fixedOf (sSq k) (sPs k) (sMr k) (sList k) ≤ (s.size : Int) ∧ 0 ≤ fixedOf (sSq k) (sPs k) (sMr k) (sList k) := by
    have h1 := congrArg List.length hA0e
    have h2 := HSZ.out
    rw [← HA0.out] at h2
    have h3 := HM.out.1
    simp only [List.length_append, wordBytes_length] at h1
    unfold fixedOf
    cases hq : sSq k <;> cases hp : sPs k <;> cases hm : sMr k <;> simp only [hq, hp, hm, if_true, if_false, Bool.false_eq_true, be4_length, List.length_nil] at h1 ⊢ <;> split <;> omega
  have HM1 := Lib.hid HM.out.1
  have hsd : sList k < 0 → d.size = 0 ∧ sSq k = false ∧ l.length % 2 = 0 := fun h => by
    have h11 := hslk.1 h
    subst h11
    have e : sData 11 = 0 := by decide
    have h1 := HM.out.1
    have h2 := HM.out.2.1
    exact ⟨by omega, rfl, by omega⟩
  have HSD := Lib.hid hsd
  have HMps := Lib.hid HM.out.2.2.1
  have HMmr := Lib.hid HM.out.2.2.2.1
  have HMsq := Lib.hid HM.out.2.2.2.2
  clear HM hslk hsd HA0
  have hpl := padOf_le d.size
  go_upto_region 7 with fail
  generalize w2.alloc (.cells #[.int .i64 (sData k), .bool (sSq k), .bool (sN k), .int .i64 (sList k), .bool (sPs k), .bool (sMr k), .bool (sSelf k), .bool true] 114) = W2 at *
  generalize w2.heap.size = H at *
  generalize fixedOf (sSq k) (sPs k) (sMr k) (sList k) = FX at *
  generalize sData k = sd at *
  generalize sSq k = bq at *
  generalize sN k = bn at *
  generalize sList k = sl at *
  generalize sPs k = bp at *
  generalize sMr k = bm at *
  generalize sSelf k = bs at *
  obtain ⟨A4, hA4⟩ : ∃ x, x = d.data.toList ++ Lib.repeatL [0] (padOf d.size) := ⟨_, rfl⟩
  rw [← hA4] at hA0e
  have hA4l : A4.length = d.size + padOf d.size := by rw [hA4, List.length_append, size_len, Lib.repeatL_length]; simp
  have HA4 := Lib.hid hA4
  obtain ⟨A3, hA3⟩ : ∃ x, x = A4 ++ (if bq then be4 sq.toNat else []) := ⟨_, rfl⟩
  obtain ⟨A1, hA1⟩ : ∃ x, x = A3 ++ wordBytes l ++ (if bp then be4 ps.toNat else []) := ⟨_, rfl⟩
  rw [← hA3, ← hA1] at hA0e
  have hA3l : A3.length ≤ 1000 := by
    have h1 := congrArg List.length hA0e
    have h2 := congrArg List.length hA1
    simp only [List.length_append] at h1 h2
    omega
  have hA1l : A1.length ≤ 1000 := by
    have h1 := congrArg List.length hA0e
    simp only [List.length_append] at h1
    omega
  have HA3 := Lib.hid hA3
  have HA1 := Lib.hid hA1
  have HA0 := Lib.hid hA0e
  have HFX := Lib.hid hfx
  clear hA4 hA3 hA1 hA0e hfx
  obtain ⟨t0, p0, h0, r0, b0, o0⟩ := HST0.out
  obtain ⟨s0, s1, s2, s3, s4, s5, s6, s7⟩ := h0.cells8
  clear t0 p0 h0 r0 b0
  go_wp2_with fail
  refine (HFX.out _).mono ?_
  rintro e W3 ⟨rfl, hb3⟩
  have HST := Lib.hid (HST0.out.below hb3)
  clear HST0 hb3 HFX s0 s1 s2 s3 s4 s5 s6 s7
  obtain ⟨t0, p0, h0, r0, b0, _⟩ := HST.out
  obtain ⟨s0, s1, s2, s3, s4, s5, s6, s7⟩ := h0.cells8
  have ct := t0.cell 0
  have ft := t0.froz 0
  simp only [List.getElem?_cons_zero] at ct
  obtain ⟨c0, c1, c2, c3, c4, c5, c6, c7⟩ := p0.cells8
  obtain ⟨f0, f1, f2, f3, f4, f5, f6, f7⟩ := p0.frozs8
  have hlt1 : ¬ ((s.size : Int) < FX * 4) := by omega
  have hfx2 : FX ≤ 1000 := by omega
  go_upto_if 54 with fail
  go_cut [] (fun wx => ParSt w w.heap.size H A1 [.int .i64 k, .int .i64 0, .int .u32 n, .int .u32 0, .int .u32 mr, .slice none 0 0, .bool self, .string ⟨#[]⟩] [.int .i64 sd, .bool bq, .bool bn, .int .i64 sl, .bool bp, .bool bm, .bool bs, .bool true] wx)
  case first =>
    clear t0 p0 h0 r0 b0
    cases bm
    · have HZ0 : Hid (mr = 0) := Lib.hid (HMmr.out.resolve_left (by simp))
      go_wp2_with fail
      go_meet
      rw [HZ0.out]
      have h := HA0.out
      simp only [Bool.false_eq_true, if_false, List.append_nil] at h
      rw [← h]
      exact HST.out
    · have h := HA0.out
      simp only [if_true] at h
      rw [h] at ct
      have HTK := Lib.hid (take_be (w.heap.size + 1) A1 mr.toNat W3 ct ft (by omega) (by omega))
      have hmm : (mr.toNat : Int) = mr := by omega
      rw [hmm] at HTK
      clear h hmm ct
      go_wp2_with fail
      refine HTK.out.mono ?_
      rintro e w4 ⟨rfl, rfl⟩
      go_wp2_with fail
      go_meet
      exact (HST.out.take).field 4 (.int .u32 mr)
  case rest =>
    clear t0 p0 h0 r0 b0
    clear s0 s1 s2 s3 s4 s5 s6 s7 ct ft c0 c1 c2 c3 c4 c5 c6 c7 f0 f1 f2 f3 f4 f5 f6 f7 HST
    have HST := Lib.hid hcut
    clear hcut
    obtain ⟨t0, p0, h0, r0, b0, _⟩ := HST.out
    obtain ⟨s0, s1, s2, s3, s4, s5, s6, s7⟩ := h0.cells8
    have ct := t0.cell 0
    have ft := t0.froz 0
    simp only [List.getElem?_cons_zero] at ct
    obtain ⟨c0, c1, c2, c3, c4, c5, c6, c7⟩ := p0.cells8
    obtain ⟨f0, f1, f2, f3, f4, f5, f6, f7⟩ := p0.frozs8
    clear t0 p0 h0 r0 b0
    go_upto_if 59 with fail
    go_cut [] (fun wx => ParSt w w.heap.size H (A3 ++ wordBytes l) [.int .i64 k, .int .i64 0, .int .u32 n, .int .u32 ps, .int .u32 mr, .slice none 0 0, .bool self, .string ⟨#[]⟩] [.int .i64 sd, .bool bq, .bool bn, .int .i64 sl, .bool bp, .bool bm, .bool bs, .bool true] wx)
    case first =>
      cases bp
      · have HZ0 : Hid (ps = 0) := Lib.hid (HMps.out.resolve_left (by simp))
        go_wp2_with fail
        go_meet
        rw [HZ0.out]
        have h := HA1.out
        simp only [Bool.false_eq_true, if_false, List.append_nil] at h
        rw [← h]
        exact HST.out
      · have h := HA1.out
        simp only [if_true] at h
        have hl3 := congrArg List.length h
        rw [h] at ct
        simp only [List.length_append, wordBytes_length, be4_length] at hl3
        have HTK := Lib.hid (take_be (w.heap.size + 1) (A3 ++ wordBytes l) ps.toNat wc ct ft (by omega) (by rw [List.length_append, wordBytes_length]; omega))
        have hmm : (ps.toNat : Int) = ps := by omega
        rw [hmm] at HTK
        clear h hmm ct hl3
        go_wp2_with fail
        refine HTK.out.mono ?_
        rintro e w4 ⟨rfl, rfl⟩
        go_wp2_with fail
        go_meet
        exact (HST.out.take).field 3 (.int .u32 ps)
    case rest =>
      clear s0 s1 s2 s3 s4 s5 s6 s7 ct ft c0 c1 c2 c3 c4 c5 c6 c7 f0 f1 f2 f3 f4 f5 f6 f7 HST
      have HST := Lib.hid hcut
      clear hcut
      obtain ⟨t0, p0, h0, r0, b0, _⟩ := HST.out
      obtain ⟨s0, s1, s2, s3, s4, s5, s6, s7⟩ := h0.cells8
      have ct := t0.cell 0
      have ft := t0.froz 0
      simp only [List.getElem?_cons_zero] at ct
      obtain ⟨c0, c1, c2, c3, c4, c5, c6, c7⟩ := p0.cells8
      obtain ⟨f0, f1, f2, f3, f4, f5, f6, f7⟩ := p0.frozs8
      clear t0 p0 h0 r0 b0
      go_upto_if 66 with fail
      go_cut [9] (fun v wx => v = .int .i64 (l.length : Int) ∧ wx = wc)
      case first =>
        by_cases hsl : sl < 0
        · obtain ⟨hd0, hq0, hl2⟩ := HSD.out hsl
          have hA3 : A3.length = 0 := by
            have h1 := congrArg List.length HA3.out
            rw [hq0] at h1
            have h2 : padOf d.size = 0 := by rw [hd0]; rfl
            simp only [List.length_append, Bool.false_eq_true, if_false, List.length_nil] at h1
            omega
          have hsz : (⟨(A3 ++ wordBytes l).toArray⟩ : ByteArray).size = 4 * l.length := by rw [size_arr, List.length_append, wordBytes_length]; omega
          have HSZ2 := Lib.hid hsz
          clear hd0 hq0 hA3 hsz
          generalize hTB : (⟨(A3 ++ wordBytes l).toArray⟩ : ByteArray) = TB at *
          have hTz : (TB.size : Int) = 4 * (l.length : Int) := by have := HSZ2.out; omega
          clear hTB HSZ2
          go_wp2_with fail
          go_meet
          exact ⟨rfl, rfl⟩
        · have hsl2 : sl = (l.length : Int) := by rcases HM1.out with h | h <;> omega
          have HSL := Lib.hid hsl2
          clear hsl2
          go_wp2_with fail
          go_meet
          exact ⟨by rw [HSL.out], rfl⟩
      case rest =>
        obtain ⟨rfl, rfl⟩ := hcut
        clear s0 s1 s2 s3 s4 s5 s6 s7 ct ft c0 c1 c2 c3 c4 c5 c6 c7 f0 f1 f2 f3 f4 f5 f6 f7
        go_wp2_with fail
        go_loopw [74] (fun i wx => ∃ j : Nat, j ≤ l.length ∧ i = .int .i64 j ∧ ParRel w w.heap.size H A3 (fun v => [.int .i64 k, .int .i64 0, .int .u32 n, .int .u32 ps, .int .u32 mr, v, .bool self, .string ⟨#[]⟩]) [.int .i64 sd, .bool bq, .bool bn, .int .i64 sl, .bool bp, .bool bm, .bool bs, .bool true] l j wx) (fun i _ => l.length - (intOf i).toNat)
        case atStart => exact ⟨0, Nat.zero_le _, rfl, _, by rw [Nat.sub_zero, List.take_length]; exact HST.out, by rw [Nat.sub_zero, List.drop_length]; exact World.ownsRow_nil _ _ _ _⟩
        case round =>
          obtain ⟨j, hj, rfl, v, hst, hown⟩ := hrel
          by_cases hlt : j < l.length
          · obtain ⟨m, hm⟩ : ∃ m, l.length - j = m + 1 := ⟨l.length - j - 1, by omega⟩
            have hml : m < l.length := by omega
            have hx0 := HLL.out l[m] (List.getElem_mem hml)
            have hx1 := HLL1.out l[m] (List.getElem_mem hml)
            have HN1 : Hid (A3 ++ wordBytes (l.take (m + 1)) = (A3 ++ wordBytes (l.take m)) ++ be4 (l[m]).toNat) := Lib.hid (by
              rw [List.take_succ_eq_append_getElem hml, wordBytes_append, List.append_assoc]; simp [wordBytes])
            have HN2 : Hid ((l.drop m).reverse = (l.drop (m + 1)).reverse ++ [l[m]]) := Lib.hid (by
              rw [List.drop_eq_getElem_cons hml, List.reverse_cons])
            have hpl2 : (A3 ++ wordBytes (l.take m)).length ≤ 900000 := by rw [List.length_append, wordBytes_length, List.length_take]; omega
            rw [hm] at hst hown
            have hj1 : j + 1 ≤ l.length := by omega
            have HJ : Hid (l.length - (j + 1) = m) := Lib.hid (by omega)
            rw [HN1.out] at hst
            have hrl : ((l.drop (m + 1)).reverse).length ≤ 128 := by simp; omega
            generalize hxx : l[m] = x at *
            generalize hrr : (l.drop (m + 1)).reverse = rv at *
            generalize hpp : A3 ++ wordBytes (l.take m) = pre at *
            have HPP := Lib.hid hpp
            clear hpp hxx hrr hm
            have HSTr := Lib.hid hst
            have HW := Lib.hid hown
            obtain ⟨t0, p0, h0, r0, b0, o1⟩ := hst
            have ct := t0.cell 0
            have ft := t0.froz 0
            simp only [List.getElem?_cons_zero] at ct
            have c5 := p0.cell 5
            have f5 := p0.froz 5
            simp only [List.getElem?_cons_succ, List.getElem?_cons_zero] at c5
            have hsp := p0.lt
            have hsh := h0.lt
            have hst1 := t0.lt
            have hne : some (w.heap.size + 1 + 1) ≠ v.ownBlock := fun h => by have := (hown.lt _ h.symm).1; omega
            clear t0 p0 h0 r0 b0 hown
            have hmm : (x.toNat : Int) = x := by omega
            have HTK : Hid (∀ (wz : World), wz.cell? ⟨w.heap.size + 1, 0, none⟩ = some (.string ⟨(pre ++ be4 x.toNat).toArray⟩) → wz.frozen? ⟨w.heap.size + 1, 0, none⟩ = false → Calls Tryd.prog 70 #[.pointer (some ⟨w.heap.size + 1, 0, none⟩)] wz fun e w' => e = .returned (.int .u32 x) ∧ w' = (wz.setCell ⟨w.heap.size + 1, 0, none⟩ (.string ⟨pre.toArray⟩)).drew) := Lib.hid (fun wz h1 h2 => by
              have := take_be (w.heap.size + 1) pre x.toNat wz h1 h2 (by omega) hpl2
              rwa [hmm] at this)
            clear hmm
            have HW1 := Lib.hid (ownsRow_setCell_below HW.out (a := ⟨w.heap.size + 1, 0, none⟩) (by simp; omega) (.string ⟨pre.toArray⟩))
            have HV : Hid (∀ q, v.ownBlock = some q → H < q) := Lib.hid (fun q hq => by have := (HW.out.lt q hq).1; omega)
            have HNW : Hid (∀ o, ((wr.setCell ⟨w.heap.size + 1, 0, none⟩ (.string ⟨pre.toArray⟩)).alloc o).heap[wr.heap.size]? = some o) := Lib.hid (fun o => heap_new_at (by simp) o)
            go_wp2_with fail
            go_region_law (first | ((refine step_append_lies _ (by rfl) _ _ _ (by rfl) (H + 1) 56 i0 _ 1 4 Tryd.underlying57 hi hz0 hz1 hz2 rfl (by omega) v rv.length (rv.map (Value.int .u32)) (by rfl) ((HW1.out.alloc _).drew) ⟨wr.heap.size, 0, none⟩ 1 1 [.int .u32 x] (by rfl) (by rfl) (World.news_of_block (cs := #[.int .u32 x]) (t := 56) (fr := (0, 0)) (HNW.out _)) (by simp [Value.oneCell']) (by omega) (by unfold maxLen; omega) (by omega) (by simp; omega) (wr.heap.size + 1) (by simp) ?_; intro gg cap w5 hown2 hgrow hat hlt2; have hst5 := HSTr.out.append hgrow HV.out; have hw2c : w5.cell? ⟨w.heap.size + 1 + 1, 5, none⟩ = some v := hst5.2.1.cell 5; have hw2f : w5.frozen? ⟨w.heap.size + 1 + 1, 5, none⟩ = false := hst5.2.1.froz 5; have HST5 := Lib.hid hst5; clear hst5)) | (go_simp; go_at_call 70; refine (HTK.out _ (by simpa using ct) (by simpa using ft)).mono ?_; rintro e w' ⟨rfl, rfl⟩))
            all_goals
              go_wp2_with fail
              go_roundw
              case rel => exact ⟨j + 1, hj1, by go_num, ParRel.close HST5.out (fun _ _ => rfl) hown2 HJ.out HPP.out HN2.out⟩
              case measure => go_light; simp [intOf]; omega
          · obtain rfl : j = l.length := by omega
            rw [Nat.sub_self, List.take_zero, show wordBytes [] = [] from rfl, List.append_nil] at hst
            rw [Nat.sub_self, List.drop_zero] at hown
            clear HST
            have HST := Lib.hid hst
            have HW := Lib.hid hown
            have hrvl : l.reverse.length ≤ 1000000 := by simp; omega
            clear hst hown
            obtain ⟨t0, p0, h0, r0, b0, _⟩ := HST.out
            obtain ⟨s0, s1, s2, s3, s4, s5, s6, s7⟩ := h0.cells8
            have ct := t0.cell 0
            have ft := t0.froz 0
            simp only [List.getElem?_cons_zero] at ct
            obtain ⟨c0, c1, c2, c3, c4, c5, c6, c7⟩ := p0.cells8
            obtain ⟨f0, f1, f2, f3, f4, f5, f6, f7⟩ := p0.frozs8
            obtain ⟨r0', r1, r2, r3, r4, r5, r6, r7⟩ := r0.cells8
            obtain ⟨g0, g1, g2, g3, g4, g5, g6, g7⟩ := r0.frozs8
            clear t0 p0 h0 r0 b0
            go_wp2_with fail
            refine (reverse_own (H + 1) v l.reverse _ HW.out hrvl).mono ?_
            rintro e w6 ⟨rfl, hown6, hgr6⟩
            have HST6 := Lib.hid (HST.out.grown hgr6 (fun q hq => by have := (HW.out.lt q hq).1; omega))
            rw [List.reverse_reverse] at hown6
            have HW6 := Lib.hid hown6
            clear hown6 hgr6 HW hrvl
            clear s0 s1 s2 s3 s4 s5 s6 s7 ct ft c0 c1 c2 c3 c4 c5 c6 c7 f0 f1 f2 f3 f4 f5 f6 f7 r0' r1 r2 r3 r4 r5 r6 r7 g0 g1 g2 g3 g4 g5 g6 g7 HST
            have HST := HST6
            clear HST6
            obtain ⟨t0, p0, h0, r0, b0, _⟩ := HST.out
            obtain ⟨s0, s1, s2, s3, s4, s5, s6, s7⟩ := h0.cells8
            have ct := t0.cell 0
            have ft := t0.froz 0
            simp only [List.getElem?_cons_zero] at ct
            obtain ⟨c0, c1, c2, c3, c4, c5, c6, c7⟩ := p0.cells8
            obtain ⟨f0, f1, f2, f3, f4, f5, f6, f7⟩ := p0.frozs8
            obtain ⟨r0', r1, r2, r3, r4, r5, r6, r7⟩ := r0.cells8
            obtain ⟨g0, g1, g2, g3, g4, g5, g6, g7⟩ := r0.frozs8
            clear t0 p0 h0 r0 b0
            go_upto_if 88 with fail
            go_cut [] (fun wx => ParSt w w.heap.size H A4 [.int .i64 k, .int .i64 sq, .int .u32 n, .int .u32 ps, .int .u32 mr, v, .bool self, .string ⟨#[]⟩] [.int .i64 sd, .bool bq, .bool bn, .int .i64 sl, .bool bp, .bool bm, .bool bs, .bool true] wx ∧ wx.ownsRow (H + 1) 56 1 v l.length (l.map (Value.int .u32)))
            case first =>
              cases bq
              · have HZ0 : Hid (sq = 0) := Lib.hid (HMsq.out.resolve_left (by simp))
                go_wp2_with fail
                go_meet
                rw [HZ0.out]
                have h := HA3.out
                simp only [Bool.false_eq_true, if_false, List.append_nil] at h
                rw [← h]
                exact ⟨HST.out, HW6.out⟩
              · have h := HA3.out
                simp only [if_true] at h
                have hl3 := congrArg List.length h
                rw [h] at ct
                simp only [List.length_append, be4_length] at hl3
                have HTK := Lib.hid (take_be (w.heap.size + 1) A4 sq.toNat w6 ct ft (by omega) (by omega))
                have hmm : (sq.toNat : Int) = sq := by omega
                rw [hmm] at HTK
                clear h hmm ct hl3
                go_wp2_with fail
                refine HTK.out.mono ?_
                rintro e w7 ⟨rfl, rfl⟩
                go_wp2_with fail
                go_meet
                exact ⟨(HST.out.take).field 1 (.int .i64 sq), ownsRow_setCell_below (ownsRow_setCell_below HW6.out (by simp; omega) _) (by simp; omega) _⟩
            case rest =>
              clear s0 s1 s2 s3 s4 s5 s6 s7 ct ft c0 c1 c2 c3 c4 c5 c6 c7 f0 f1 f2 f3 f4 f5 f6 f7 r0' r1 r2 r3 r4 r5 r6 r7 g0 g1 g2 g3 g4 g5 g6 g7 HST
              obtain ⟨hst, hown⟩ := hcut
              have HST := Lib.hid hst
              have HW := Lib.hid hown
              clear hst hown HW6
              obtain ⟨t0, p0, h0, r0, b0, _⟩ := HST.out
              obtain ⟨s0, s1, s2, s3, s4, s5, s6, s7⟩ := h0.cells8
              have ct := t0.cell 0
              have ft := t0.froz 0
              simp only [List.getElem?_cons_zero] at ct
              obtain ⟨c0, c1, c2, c3, c4, c5, c6, c7⟩ := p0.cells8
              obtain ⟨f0, f1, f2, f3, f4, f5, f6, f7⟩ := p0.frozs8
              obtain ⟨r0', r1, r2, r3, r4, r5, r6, r7⟩ := r0.cells8
              obtain ⟨g0, g1, g2, g3, g4, g5, g6, g7⟩ := r0.frozs8
              clear t0 p0 h0 r0 b0
              have HTB : Hid ((⟨A4.toArray⟩ : ByteArray).extract 0 d.size = d) := Lib.hid (by
                refine str_eq ?_
                rw [HA4.out]
                simp)
              have hTz : (⟨A4.toArray⟩ : ByteArray).size = d.size + padOf d.size := by rw [size_arr]; exact hA4l
              generalize (⟨A4.toArray⟩ : ByteArray) = TB at *
              have hT1 : (TB.size : Int) = (d.size : Int) + (padOf d.size : Int) := by omega
              have HT1 := Lib.hid hTz
              clear hTz
              go_upto_region 28 with fail
              have q1 : IntKind.i64.wrap ((TB.size : Int) - (padOf d.size : Int)) = (d.size : Int) := by rw [IntWalk.i64_in _ (by omega)]; omega
              have q2 : (0 : Int) ≤ (d.size : Int) := by omega
              have q3 : (d.size : Int) ≤ (TB.size : Int) := by omega
              clear hT1
              have kt := cell_regrown ct
              refine wp_region_tail_below 13 (by kernel_rfl) (by kernel_rfl) ?_
              simp only [List.take_succ_cons, List.take_zero, List.drop_succ_cons, List.drop_zero]
              repeat (quiet_step (fail))
              refine wpQuiet_nil ?_
              intro _ hw'
              obtain ⟨⟨dq, osq⟩, hw''⟩ := hw'
              subst hw''
              have hW8 := below_regrown wc dq osq
              generalize Sort.grow (redrawn wc dq) osq = w8 at *
              clear kt q1 q2 q3 ct ft s0 s1 s2 s3 s4 s5 s6 s7
              have HST8 := Lib.hid (HST.out.below hW8)
              have HW8 := Lib.hid (ownsRow_below HW.out hW8)
              clear hW8 HW
              clear c0 c1 c2 c3 c4 c5 c6 c7 f0 f1 f2 f3 f4 f5 f6 f7 r0' r1 r2 r3 r4 r5 r6 r7 g0 g1 g2 g3 g4 g5 g6 g7 HST
              have HST := HST8
              clear HST8
              obtain ⟨t0, p0, h0, r0, b0, _⟩ := HST.out
              obtain ⟨c0, c1, c2, c3, c4, c5, c6, c7⟩ := p0.cells8
              obtain ⟨f0, f1, f2, f3, f4, f5, f6, f7⟩ := p0.frozs8
              obtain ⟨r0', r1, r2, r3, r4, r5, r6, r7⟩ := r0.cells8
              obtain ⟨g0, g1, g2, g3, g4, g5, g6, g7⟩ := r0.frozs8
              clear t0 p0 h0 r0 b0
              have HST9 : Hid (ParSt w w.heap.size H A4 [.int .i64 k, .int .i64 sq, .int .u32 n, .int .u32 ps, .int .u32 mr, v, .bool self, .string d] [.int .i64 sd, .bool bq, .bool bn, .int .i64 sl, .bool bp, .bool bm, .bool bs, .bool true] (w8.setCell ⟨w.heap.size + 1 + 1, 7, none⟩ (.string d))) := Lib.hid (HST.out.field 7 (.string d))
              have HW9 : Hid ((w8.setCell ⟨w.heap.size + 1 + 1, 7, none⟩ (.string d)).ownsRow (H + 1) 56 1 v l.length (l.map (Value.int .u32))) := Lib.hid (ownsRow_setCell_below HW8.out (by simp; omega) _)
              rw [HTB.out]
              go_upto_region 29 with fail
              generalize w8.setCell ⟨w.heap.size + 1 + 1, 7, none⟩ (.string d) = w9 at *
              clear c0 c1 c2 c3 c4 c5 c6 c7 f0 f1 f2 f3 f4 f5 f6 f7 r0' r1 r2 r3 r4 r5 r6 r7 g0 g1 g2 g3 g4 g5 g6 g7 HST
              have HST := HST9
              clear HST9
              obtain ⟨t0, p0, h0, r0, b0, _⟩ := HST.out
              obtain ⟨c0, c1, c2, c3, c4, c5, c6, c7⟩ := p0.cells8
              obtain ⟨f0, f1, f2, f3, f4, f5, f6, f7⟩ := p0.frozs8
              obtain ⟨r0', r1, r2, r3, r4, r5, r6, r7⟩ := r0.cells8
              obtain ⟨g0, g1, g2, g3, g4, g5, g6, g7⟩ := r0.frozs8
              have HI9 := Lib.hid (IntsR.of_owns HW9.out (by omega))
              go_wp2_with fail
              refine (told_ok (w.heap.size + 1 + 1) k sq n ps mr v l self d s w9 hn hps hmr HI9.out HLL.out HCK.out HS.out c0 c1 c2 c3 c4 c5 c6 c7).mono ?_
              rintro e w10 ⟨rfl, hb9⟩
              have HI10 := Lib.hid (ownsRow_below HW9.out hb9)
              have HB10 := Lib.hid (b0.trans (hb9.mono (Nat.le_of_lt r0.lt)))
              have HST10 := Lib.hid (HST.out.below hb9)
              clear t0 p0 h0 r0 b0 hb9 HI9 HW9
              clear c0 c1 c2 c3 c4 c5 c6 c7 f0 f1 f2 f3 f4 f5 f6 f7 r0' r1 r2 r3 r4 r5 r6 r7 g0 g1 g2 g3 g4 g5 g6 g7 HST
              have HST := HST10
              clear HST10
              obtain ⟨t0, p0, h0, r0, b0, _⟩ := HST.out
              obtain ⟨c0, c1, c2, c3, c4, c5, c6, c7⟩ := p0.cells8
              obtain ⟨f0, f1, f2, f3, f4, f5, f6, f7⟩ := p0.frozs8
              obtain ⟨r0', r1, r2, r3, r4, r5, r6, r7⟩ := r0.cells8
              obtain ⟨g0, g1, g2, g3, g4, g5, g6, g7⟩ := r0.frozs8
              clear t0 p0 h0 r0 b0
              obtain ⟨av, cv, rfl, _, _, _⟩ := (IntsR.of_owns HI10.out (by omega)).len
              go_wp2_with fail
              refine bodyPost_ret (v := .tuple #[pduV k sq n ps mr (.slice av l.length cv) self d, .int .i64 0]) (by unfold pduV; simp [results, Tryd.results42, go_sem, r0', r1, r2, r3, r4, r5, r6, r7]) rfl ⟨_, H + 1, rfl, by omega, ?_, ?_⟩
              · repeat refine ownsRow_setCell_below ?_ (by simp; omega) _
                exact HI10.out
              · exact ((((((((HB10.out.setCell (p := ⟨w.heap.size, 0, none⟩) (Nat.le_refl _) _).setCell (p := ⟨w.heap.size, 1, none⟩) (Nat.le_refl _) _).setCell (p := ⟨w.heap.size, 2, none⟩) (Nat.le_refl _) _).setCell (p := ⟨w.heap.size, 3, none⟩) (Nat.le_refl _) _).setCell (p := ⟨w.heap.size, 4, none⟩) (Nat.le_refl _) _).setCell (p := ⟨w.heap.size, 5, none⟩) (Nat.le_refl _) _).setCell (p := ⟨w.heap.size, 6, none⟩) (Nat.le_refl _) _).setCell (p := ⟨w.heap.size, 7, none⟩) (Nat.le_refl _) _)
theorem parse_any (k sq n ps mr : Int) (l : List Int) (self : Bool) (d s : ByteArray) (w : World) (hn : 0 ≤ n) (hps : 0 ≤ ps) (hmr : 0 ≤ mr) (hll : ∀ x ∈ l, 0 ≤ x) (hck : checkOf k sq n ps mr l self d.size = 0)
    (hs : bytesOf k sq n ps mr l self d.data.toList = s.data.toList) : Calls Tryd.prog 42 #[.string s] w (ParsePost w k sq n ps mr l self d) := by
  obtain ⟨_, _, hlen, _, _, _, _, _, _, _⟩ := check_zero hck
  exact (parse_own k sq n ps mr l self d s w hn hps hmr hll hck hs).mono fun e w' ⟨lv, base, he, _, ho, hb⟩ => ⟨lv, he, IntsR.of_owns ho (by omega), hb⟩
end Go.Proofs.YtdggnpecbdnkeaaDoor
