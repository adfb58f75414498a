/-
  Contract of PDU.Bytes.
-/
import Derived.Test.YtlkceignfhnpoaaGreatDoorPduCheck
import Derived.Test.YtlkceignfhnpoaaGreatDoorPlainBe4
import Derived.Test.YtlkceignfhnpoaaGreatDoorPduWords
import Derived.Test.YtlkceignfhnpoaaGreatDoorPduSmall
import Derived.Test.YtlkceignfhnpoaaGreatDoorQTail
import Derived.Test.YtlkceignfhnpoaaGreatDoorShelf
import Derived.Lib.OthersKept
import Derived.Lib.Repeat
set_option linter.unusedVariables false
set_option linter.unusedSimpArgs false
namespace Go.Proofs.YtlkceignfhnpoaaGreatDoor
open Go.RowKit

def padOf (dl : Nat) : Nat := (4 - dl % 4) % 4
def lastWord (k n : Int) (self : Bool) (dl : Nat) : Nat := padOf dl * 1073741824 + (if self then 1 else 0) * 536870912 + k.toNat * 16777216 + n.toNat
def wordBytes (ns : List Int) : List UInt8 := ns.flatMap fun x => be4 x.toNat
def bytesOf (k sq n ps mr : Int) (l : List Int) (self : Bool) (d : List UInt8) : List UInt8 :=
  d ++ Lib.repeatL [0] (padOf d.length) ++ wordBytes (wordsOf k sq ps mr l) ++ be4 (lastWord k n self d.length)

theorem wordBytes_length (ns : List Int) : (wordBytes ns).length = 4 * ns.length := by
  induction ns with
  | nil => rfl
  | cons x t ih => simp only [wordBytes, List.flatMap_cons, List.length_append, be4_length, List.length_cons] at *; omega

/-- What Check lets by. -/
theorem check_zero {k sq n ps mr : Int} {l : List Int} {self : Bool} {dl : Nat} (h : checkOf k sq n ps mr l self dl = 0) :
    1 ≤ k ∧ k ≤ 15 ∧ l.length ≤ 128 ∧ (dl : Int) ≤ 200 ∧ 0 ≤ sq ∧ sq ≤ 255 ∧ n < 16777216 ∧ ps < 16777216 ∧ mr < 16777216 ∧ (∀ x ∈ l, x < 16777216) := by
  unfold checkOf at h
  split at h
  · omega
  rename_i h1
  split at h
  · omega
  rename_i h2
  rw [ite_eq_left_iff] at h
  have h3 := Classical.byContradiction fun hc => absurd (h hc) (by decide)
  have hk : 1 ≤ k ∧ k ≤ 15 := by simpa [sIs] using h1
  simp only [Bool.and_eq_true] at h3
  obtain ⟨⟨⟨hl, ha⟩, hs⟩, hq⟩ := h3
  unfold allB lowB at ha
  unfold sqB at hq
  unfold bigB at h2
  unfold someB at hs
  simp only [Bool.and_eq_true, decide_eq_true_eq, List.all_eq_true, Bool.or_eq_true] at ha hq h2 hs
  have hd : sData k = 0 ∨ sData k = 64 ∨ sData k = 200 := by
    unfold sData
    split
    · simp
    · split <;> simp
  refine ⟨hk.1, hk.2, by omega, ?_, hq.1.1, hq.1.2, ha.1.1.1, ha.1.1.2, ha.1.2, ha.2⟩
  have hs1 := hs.1.1.1.1
  omega

theorem u32_in (x : Int) (h0 : 0 ≤ x) (h1 : x < 4294967296) : IntKind.u32.wrap x = x := by rw [IntKind.wrap_u32]; omega
theorem last_or (p : Nat) (hp : p ≤ 3) (s : Bool) (k n : Int) (hk1 : 1 ≤ k) (hk2 : k ≤ 15) (hn : 0 ≤ n) (hn1 : n < 16777216) :
    bits .or .u32 (bits .or .u32 (bits .or .u32 (IntKind.u32.wrap (IntKind.u32.wrap (p : Int) * 1073741824)) (IntKind.u32.wrap ((if s = true then 1 else 0) * 536870912))) (IntKind.u32.wrap (IntKind.u32.wrap k * 16777216))) n
      = ((p * 1073741824 + (if s then 1 else 0) * 536870912 + k.toNat * 16777216 + n.toNat : Nat) : Int) := by
  rw [u32_in (p : Int) (by omega) (by omega), u32_in ((p : Int) * 1073741824) (by omega) (by omega), u32_in k (by omega) (by omega), u32_in (k * 16777216) (by omega) (by omega)]
  cases s
  · simp only [Bool.false_eq_true, if_false]
    rw [u32_in (0 * 536870912) (by omega) (by omega),
      or_u32 30 (by omega) ((p : Int) * 1073741824) (0 * 536870912) (by omega) (by omega) (by omega) (by omega) (by omega) (by omega),
      or_u32 29 (by omega) _ (k * 16777216) (by omega) (by omega) (by omega) (by omega) (by omega) (by omega),
      or_u32 24 (by omega) _ n (by omega) (by omega) (by omega) (by omega) (by omega) (by omega)]
    omega
  · simp only [if_true]
    rw [u32_in (1 * 536870912) (by omega) (by omega),
      or_u32 30 (by omega) ((p : Int) * 1073741824) (1 * 536870912) (by omega) (by omega) (by omega) (by omega) (by omega) (by omega),
      or_u32 29 (by omega) _ (k * 16777216) (by omega) (by omega) (by omega) (by omega) (by omega) (by omega),
      or_u32 24 (by omega) _ n (by omega) (by omega) (by omega) (by omega) (by omega) (by omega)]
    omega

theorem BuilderAtF_below {T e : TypeId} {B b : Nat} {p : Value} {bs : List Value} {w w' : World} (h : Lib.BuilderAtF T e B b p bs w) (hb : Below w.heap.size w w') : Lib.BuilderAtF T e B b p bs w' := by
  have hlt := h.lt
  obtain ⟨hB, v, hv, ⟨h1, h2⟩, hne⟩ := h
  refine ⟨hB, v, (hb.block b hlt).trans hv, ⟨h1, ?_⟩, hne⟩
  rcases h2 with h2 | ⟨g, cap, cur, fz, h3, h4, h5, h6⟩
  · exact .inl h2
  · exact .inr ⟨g, cap, cur, fz, h3, h4, (hb.block g (by rw [Array.getElem?_eq_some_iff] at h5; exact h5.1)).trans h5, h6⟩
theorem IsBuilderF_below {T e : TypeId} {B b : Nat} {bs : List Value} {w w' : World} (h : Lib.IsBuilderF T e B b bs w) (hb : Below w.heap.size w w') : Lib.IsBuilderF T e B b bs w' :=
  h.elim (fun h => .inl (BuilderAtF_below h hb)) (fun h => .inr (BuilderAtF_below h hb))
theorem ownsRow_others {w w' : World} {B E e size : Nat} {b : Nat} {v : Value} {n : Nat} {xs : List Value} (h : w.ownsRow B E size v n xs) (ho : Lib.OthersKept e (some b) w w') (hb : b < B) (hE : E ≠ e) : w'.ownsRow B E size v n xs := by
  obtain ⟨h1, h2 | ⟨g, cap, cur, h2, h3, h4, h5⟩⟩ := h
  · exact ⟨h1, .inl h2⟩
  · exact ⟨h1, .inr ⟨g, cap, cur, h2, h3, ho g _ h4 (by simp; omega) (by intro c fz hc; cases hc; exact hE rfl), h5⟩⟩
theorem ownsRow_below {w w' : World} {B E size : Nat} {v : Value} {n : Nat} {xs : List Value} (h : w.ownsRow B E size v n xs) (hb : Below w.heap.size w w') : w'.ownsRow B E size v n xs := by
  obtain ⟨h1, h2 | ⟨g, cap, cur, h2, h3, h4, h5⟩⟩ := h
  · exact ⟨h1, .inl h2⟩
  · exact ⟨h1, .inr ⟨g, cap, cur, h2, h3, (hb.block g (by rw [Array.getElem?_eq_some_iff] at h4; exact h4.1)).trans h4, h5⟩⟩

set_option maxHeartbeats 1000000 in
theorem bytes_bad (k sq n ps mr : Int) (lv : Value) (l : List Int) (self : Bool) (d : ByteArray) (w : World)
    (hn : 0 ≤ n ∧ n < 4294967296) (hps : 0 ≤ ps ∧ ps < 4294967296) (hmr : 0 ≤ mr ∧ mr < 4294967296) (hl : IntsR .u32 w lv l) (hll : ∀ x ∈ l, 0 ≤ x ∧ x < 4294967296)
    (hd : d.size ≤ 1000000) (hlen : l.length ≤ 1000000) (hck : checkOf k sq n ps mr l self d.size ≠ 0) :
    Calls Tryz.prog 185 #[pduV k sq n ps mr lv self d] w fun e w' => e = .returned (.string ⟨#[]⟩) ∧ Below w.heap.size w w' := by
  have HLL := Lib.hid hll
  have hck2 : (checkOf k sq n ps mr l self d.size != 0) = true := by simpa using hck
  clear hll hck
  unfold pduV
  go_enter Tryz.func185, Tryz.ntmps185
  go_wp2_with fail
  refine (check_any k sq n ps mr lv l self d _ hn hps hmr hl.alloc HLL.out hd hlen).mono ?_
  rintro e w1 ⟨rfl, hb⟩
  generalize checkOf k sq n ps mr l self d.size = R at *
  go_wp2_with fail
  go_ret
  exact ⟨rfl, belAlloc hb (by simp)⟩

set_option maxHeartbeats 4000000 in
theorem bytes_ok (k sq n ps mr : Int) (lv : Value) (l : List Int) (self : Bool) (d : ByteArray) (w : World)
    (hn : 0 ≤ n) (hps : 0 ≤ ps) (hmr : 0 ≤ mr) (hl : IntsR .u32 w lv l) (hll : ∀ x ∈ l, 0 ≤ x) (hck : checkOf k sq n ps mr l self d.size = 0) :
    Calls Tryz.prog 185 #[pduV k sq n ps mr lv self d] w fun e w' => e = .returned (.string ⟨(bytesOf k sq n ps mr l self d.data.toList).toArray⟩) ∧ Below w.heap.size w w' := by
  obtain ⟨hk1, hk2, hlen, hdl, hsq0, hsq1, hn1, hps1, hmr1, hll1⟩ := check_zero hck
  have HLL : Hid (∀ x ∈ l, 0 ≤ x ∧ x < 4294967296) := Lib.hid (fun x hx => ⟨hll x hx, by have := hll1 x hx; omega⟩)
  have HCK := Lib.hid hck
  have HL := Lib.hid hl
  clear hll hll1 hck hl
  have HF : Hid (bytesOf k sq n ps mr l self d.data.toList = (d ++ ⟨(Lib.repeatL [0] (padOf d.size)).toArray⟩ : ByteArray).data.toList ++ wordBytes (wordsOf k sq ps mr l) ++ be4 (lastWord k n self d.size)) := Lib.hid (by
    unfold bytesOf; rw [dapp]; simp only [size_len])
  generalize bytesOf k sq n ps mr l self d.data.toList = R at *
  have hpad : (4 - (d.size : Int) % 4) % 4 = ((padOf d.size : Nat) : Int) := by unfold padOf; omega
  have hpl : padOf d.size ≤ 3 := by unfold padOf; omega
  have hsz0 : d.size ≤ 200 := by omega
  unfold pduV
  go_enter Tryz.func185, Tryz.ntmps185
  go_wp2_with fail
  refine (check_any k sq n ps mr lv l self d _ ⟨hn, by omega⟩ ⟨hps, by omega⟩ ⟨hmr, by omega⟩ HL.out.alloc HLL.out (by omega) (by omega)).mono ?_
  rintro e w1 ⟨rfl, hb⟩
  rw [HCK.out]
  have hz : w.heap.size < w1.heap.size := by have := hb.size; simp at this; omega
  have hcl := fun b o h => bcell hb b o h
  have HB := Lib.hid (belAlloc hb (by simp))
  have HL1 := Lib.hid (HL.out.alloc.below hb (by simp))
  clear hb HL
  go_wp2_with fail
  have q0 : (w1.alloc (.cells #[.pointer none, .slice none 0 0] 68)).cell? ⟨w.heap.size, 0, none⟩ = some (.int .i64 k) := by rw [Below.cell ((Below.refl _ _).alloc (Nat.le_refl _) _) hz]; rw [hcl _ _ (by simp)]; simp
  have q1 : (w1.alloc (.cells #[.pointer none, .slice none 0 0] 68)).cell? ⟨w.heap.size, 1, none⟩ = some (.int .i64 sq) := by rw [Below.cell ((Below.refl _ _).alloc (Nat.le_refl _) _) hz]; rw [hcl _ _ (by simp)]; simp
  have q2 : (w1.alloc (.cells #[.pointer none, .slice none 0 0] 68)).cell? ⟨w.heap.size, 2, none⟩ = some (.int .u32 n) := by rw [Below.cell ((Below.refl _ _).alloc (Nat.le_refl _) _) hz]; rw [hcl _ _ (by simp)]; simp
  have q3 : (w1.alloc (.cells #[.pointer none, .slice none 0 0] 68)).cell? ⟨w.heap.size, 3, none⟩ = some (.int .u32 ps) := by rw [Below.cell ((Below.refl _ _).alloc (Nat.le_refl _) _) hz]; rw [hcl _ _ (by simp)]; simp
  have q4 : (w1.alloc (.cells #[.pointer none, .slice none 0 0] 68)).cell? ⟨w.heap.size, 4, none⟩ = some (.int .u32 mr) := by rw [Below.cell ((Below.refl _ _).alloc (Nat.le_refl _) _) hz]; rw [hcl _ _ (by simp)]; simp
  have q5 : (w1.alloc (.cells #[.pointer none, .slice none 0 0] 68)).cell? ⟨w.heap.size, 5, none⟩ = some lv := by rw [Below.cell ((Below.refl _ _).alloc (Nat.le_refl _) _) hz]; rw [hcl _ _ (by simp)]; simp
  have q6 : (w1.alloc (.cells #[.pointer none, .slice none 0 0] 68)).cell? ⟨w.heap.size, 6, none⟩ = some (.bool self) := by rw [Below.cell ((Below.refl _ _).alloc (Nat.le_refl _) _) hz]; rw [hcl _ _ (by simp)]; simp
  have q7 : (w1.alloc (.cells #[.pointer none, .slice none 0 0] 68)).cell? ⟨w.heap.size, 7, none⟩ = some (.string d) := by rw [Below.cell ((Below.refl _ _).alloc (Nat.le_refl _) _) hz]; rw [hcl _ _ (by simp)]; simp
  have HBU := Lib.hid (Lib.IsBuilderF.of (Lib.fresh_isBuilder 68 5 w1))
  have HB1 := Lib.hid (HB.out.alloc (by omega) (.cells #[.pointer none, .slice none 0 0] 68))
  have HBW := Lib.hid ((Below.refl _ w1).alloc (Nat.le_refl _) (.cells #[.pointer none, .slice none 0 0] 68))
  have hsz1 : w1.heap.size < (w1.alloc (.cells #[.pointer none, .slice none 0 0] 68)).heap.size := by simp
  clear HB hcl
  generalize w1.alloc (.cells #[.pointer none, .slice none 0 0] 68) = W1 at *
  generalize hb0 : w1.heap.size = b0 at *
  have Hb0 := Lib.hid hb0
  clear hb0
  generalize hP0 : w.heap.size = P0 at *
  have HP0 := Lib.hid hP0
  clear hP0
  have k7 := cell_regrown q7
  obtain ⟨rp, hrp⟩ : ∃ r, r = Lib.repeatL [0] (padOf d.size) := ⟨_, rfl⟩
  have hRep : ∀ W : World, Calls Tryz.prog 261 #[.string ⟨#[0]⟩, .int .i64 ((padOf d.size : Nat) : Int)] W fun e w' => e = .returned (.string ⟨rp.toArray⟩) ∧ Below W.heap.size W w' := fun W => by
    rw [hrp]; exact Tryz.strings_Repeat ⟨#[0]⟩ (padOf d.size) W (by omega) (by show 1 * padOf d.size ≤ _; omega)
  have hrpl : rp.length ≤ 3 := by rw [hrp, Lib.repeatL_length]; simp; omega
  rw [← hrp] at HF
  clear hrp
  have cA := fun dd os => Calls.regrown_of (hRep (Sort.grow (redrawn W1 dd) os))
  clear hRep
  refine wp_region_tail_below 4 (by kernel_rfl) (by kernel_rfl) ?_
  simp only [List.take_succ_cons, List.take_zero, List.drop_succ_cons, List.drop_zero]
  repeat (quiet_step (with_reducible exact cA _ _))
  refine wpQuiet_nil ?_
  intro _ hw'
  obtain ⟨⟨dq, osq⟩, hw''⟩ := hw'
  subst hw''
  have hW2 := below_regrown W1 dq osq
  generalize Sort.grow (redrawn W1 dq) osq = w2 at *
  clear k7 cA
  go_wp2_with fail
  have hdp : (d ++ ⟨rp.toArray⟩ : ByteArray).size ≤ 203 := by rw [← size_len, dapp, List.length_append, size_len]; simp; omega
  generalize (d ++ ⟨rp.toArray⟩ : ByteArray) = dp at *
  have hsw := hW2.size
  refine (Tryz.Builder_WriteString_k b0 b0 [] dp w2 (IsBuilderF_below HBU.out hW2) (by simp; omega) (by omega)).mono ?_
  rintro e w3 ⟨rfl, hbu3, hbel3, hok3⟩
  have HBU3 : Hid (Lib.IsBuilderF 68 5 b0 b0 (Lib.byteCells dp.data.toList) w3) := Lib.hid (.inr hbu3)
  have HB3 : Hid (Below b0 W1 w3) := Lib.hid ((hW2.mono (by omega)).trans hbel3)
  have hsw3 := hbel3.size
  clear hbu3 hbel3 hok3 hW2 HBU
  have r0 := (bcell HB3.out P0 0 hz).trans q0
  have r1 := (bcell HB3.out P0 1 hz).trans q1
  have r2 := (bcell HB3.out P0 2 hz).trans q2
  have r3 := (bcell HB3.out P0 3 hz).trans q3
  have r4 := (bcell HB3.out P0 4 hz).trans q4
  have r5 := (bcell HB3.out P0 5 hz).trans q5
  have r6 := (bcell HB3.out P0 6 hz).trans q6
  have r7 := (bcell HB3.out P0 7 hz).trans q7
  go_wp2_with fail
  refine (words_any k sq n ps mr lv l self d w3 ⟨hsq0, by omega⟩ (HL1.out.below (HBW.out.trans HB3.out) (Nat.le_of_eq Hb0.out)) (by omega)).mono ?_
  rintro e w4 ⟨v, rfl, hown, hb4⟩
  clear r0 r1 r2 r3 r4 r5 r6 r7 q1 q3 q4 q5 q7
  have hnl : (wordsOf k sq ps mr l).length ≤ 131 := by
    unfold wordsOf; simp only [List.length_append]
    have h1 : (if sSq k then [sq] else []).length ≤ 1 := by split <;> simp
    have h2 : (if sPs k then [ps] else []).length ≤ 1 := by split <;> simp
    have h3 : (if sMr k then [mr] else []).length ≤ 1 := by split <;> simp
    omega
  have HNB : Hid (∀ x ∈ wordsOf k sq ps mr l, 0 ≤ x ∧ x < 4294967296) := Lib.hid (by
    intro x hx
    unfold wordsOf at hx
    simp only [List.mem_append] at hx
    rcases hx with ((hx | hx) | hx) | hx
    · split at hx
      · simp at hx; omega
      · cases hx
    · exact HLL.out x hx
    · split at hx
      · simp at hx; omega
      · cases hx
    · split at hx
      · simp at hx; omega
      · cases hx)
  generalize wordsOf k sq ps mr l = ns at *
  obtain ⟨a, c, rfl, hc, hm, ha⟩ := (IntsR.of_owns hown (by omega)).len
  have HBU4 := Lib.hid (IsBuilderF_below HBU3.out hb4)
  have HB4 := Lib.hid (HB3.out.trans (hb4.mono (by omega)))
  have HO := Lib.hid hown
  have hb3w : b0 < w3.heap.size := by omega
  generalize w3.heap.size = B3 at *
  clear hown hb4 HBU3 HB3 HLL HL1 HBW hsw3
  go_wp2_with fail
  go_loopw [25, 6] (fun i _ wx => ∃ j : Nat, j ≤ ns.length ∧ i = .int .i64 j ∧ Lib.IsBuilderF 68 5 b0 b0 (Lib.byteCells (dp.data.toList ++ wordBytes (ns.take j))) wx ∧ wx.ownsRow B3 35 1 (.slice a ns.length c) ns.length (ns.map (Value.int .u32)) ∧ Below b0 W1 wx) (fun i _ _ => ns.length - (intOf i).toNat)
  case atStart => exact ⟨0, Nat.zero_le _, rfl, by simpa [wordBytes] using HBU4.out, HO.out, HB4.out⟩
  case round =>
    obtain ⟨j, hj, rfl, hbu, hown, hbel⟩ := hrel
    clear HBU4 HO HB4
    have hln : (dp.data.toList ++ wordBytes (ns.take j)).length ≤ 1000 := by rw [List.length_append, wordBytes_length, size_len]; have := List.length_take_le j ns; omega
    have hszr := hbel.size
    by_cases hlt : j < ns.length
    · obtain ⟨b, o, rfl⟩ := ha (by omega)
      have q := (IntsR.of_owns hown (by omega)).at j hlt
      have hxb := HNB.out ns[j] (List.getElem_mem hlt)
      have HN : Hid (dp.data.toList ++ wordBytes (ns.take (j + 1)) = (dp.data.toList ++ wordBytes (ns.take j)) ++ be4 ns[j].toNat) := Lib.hid (by
        rw [List.take_succ_eq_append_getElem hlt]; unfold wordBytes; simp only [List.flatMap_append, List.flatMap_cons, List.flatMap_nil, List.append_nil, List.append_assoc])
      have HBU := Lib.hid hbu
      have HO := Lib.hid hown
      have HBE := Lib.hid hbel
      clear hbu hown hbel
      generalize ns[j] = x at *
      obtain ⟨m, rfl⟩ := Int.eq_ofNat_of_zero_le hxb.1
      generalize dp.data.toList ++ wordBytes (ns.take j) = acc at *
      go_wp2_with fail
      refine (four_any m (by omega) _).mono ?_
      rintro e w5 ⟨rfl, hb5⟩
      have hsz5 := hb5.size
      have HB5 := Lib.hid hb5
      clear hb5
      go_wp2_with fail
      refine (Tryz.Builder_WriteString_k b0 b0 (Lib.byteCells acc) ⟨(be4 m).toArray⟩ w5 (IsBuilderF_below HBU.out HB5.out) (by rw [Lib.byteCells_length, size_arr, be4_length]; omega) (by omega)).mono ?_
      rintro e w6 ⟨rfl, hbu6, hbel6, hok6⟩
      have HBU6 : Hid (Lib.IsBuilderF 68 5 b0 b0 (Lib.byteCells (dp.data.toList ++ wordBytes (ns.take (j + 1)))) w6) := Lib.hid (by
        rw [HN.out, Lib.byteCells_append]; exact .inr hbu6)
      have HO6 := Lib.hid (ownsRow_others (ownsRow_below HO.out HB5.out) hok6 hb3w (by decide))
      have HB6 := Lib.hid ((HBE.out.trans (HB5.out.mono (by omega))).trans hbel6)
      clear hbu6 hbel6 hok6 HBU HO HBE HB5 q HN
      go_wp2_with fail
      go_roundw
      case rel => exact ⟨j + 1, by omega, by go_num, HBU6.out, HO6.out, HB6.out⟩
      case measure => simp [intOf]; omega
    · have hfull : ns.take j = ns := List.take_of_length_le (by omega)
      rw [hfull] at hbu hln
      have r0 := (bcell hbel P0 0 hz).trans q0
      have r2 := (bcell hbel P0 2 hz).trans q2
      have r6 := (bcell hbel P0 6 hz).trans q6
      have HBU := Lib.hid hbu
      have HBE := Lib.hid hbel
      clear hfull hbu hown hbel q0 q2 q6
      go_wp2_with fail
      have k0 := cell_regrown r0
      have k2 := cell_regrown r2
      have k6 := cell_regrown r6
      have cB := fun dd os => Calls.regrown_of (Calls.same_below (bit_any self (Sort.grow (redrawn wr dd) os)))
      refine wp_region_tail_below 16 (by kernel_rfl) (by kernel_rfl) ?_
      simp only [List.take_succ_cons, List.take_zero, List.drop_succ_cons, List.drop_zero]
      repeat (quiet_step (with_reducible exact cB _ _))
      refine wpQuiet_nil ?_
      intro _ hw'
      obtain ⟨⟨dq2, osq2⟩, hw''⟩ := hw'
      subst hw''
      have hW5 := below_regrown wr dq2 osq2
      generalize Sort.grow (redrawn wr dq2) osq2 = w5 at *
      have HB5 := Lib.hid hW5
      have hsz5 := hW5.size
      clear k0 k2 k6 r0 r2 r6 cB hW5
      have hlw : lastWord k n self d.size < 4294967296 := by unfold lastWord; cases self <;> simp <;> omega
      have HLO := Lib.hid (last_or (padOf d.size) hpl self k n hk1 hk2 hn hn1)
      have HLW : Hid (lastWord k n self d.size = padOf d.size * 1073741824 + (if self then 1 else 0) * 536870912 + k.toNat * 16777216 + n.toNat) := Lib.hid rfl
      rw [HLO.out, ← HLW.out]
      clear HLO HLW
      generalize lastWord k n self d.size = lw at *
      generalize (if self = true then (1 : Int) else 0) = si
      go_wp2_with fail
      generalize dp.data.toList ++ wordBytes ns = acc at *
      refine (four_any lw hlw _).mono ?_
      rintro e w6 ⟨rfl, hb6⟩
      have hsz6 := hb6.size
      have HB6 := Lib.hid hb6
      clear hb6
      go_wp2_with fail
      refine (Tryz.Builder_WriteString_k b0 b0 (Lib.byteCells acc) ⟨(be4 lw).toArray⟩ w6 (IsBuilderF_below (IsBuilderF_below HBU.out HB5.out) HB6.out) (by rw [Lib.byteCells_length, size_arr, be4_length]; omega) (by omega)).mono ?_
      rintro e w7 ⟨rfl, hbu7, hbel7, hok7⟩
      have HB7 := Lib.hid (((HBE.out.trans (HB5.out.mono (by omega))).trans (HB6.out.mono (by omega))).trans hbel7)
      have HBU7 : Hid (Lib.IsBuilderF 68 5 b0 b0 (Lib.byteCells (acc ++ be4 lw)) w7) := Lib.hid (by rw [Lib.byteCells_append]; exact .inr hbu7)
      have hsz7 := hbel7.size
      clear hbu7 hbel7 hok7 HBU HBE HB5 HB6
      go_wp2_with fail
      refine (Tryz.Builder_String_any_k b0 b0 (acc ++ be4 lw) w7 HBU7.out (by omega)).mono ?_
      rintro e w8 ⟨rfl, hbu8, hbel8, hok8⟩
      have HB8 := Lib.hid (HB7.out.trans hbel8)
      clear hbu8 hbel8 hok8 HBU7 HB7
      go_wp2_with fail
      go_ret
      refine ⟨ret_str ?_, ?_⟩
      · rw [HF.out]
      · rw [HP0.out]; exact HB1.out.trans (HB8.out.mono (by omega))
end Go.Proofs.YtlkceignfhnpoaaGreatDoor
