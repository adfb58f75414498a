/-
  Contracts of the document's Name and Unit of layer 19.
-/
import Derived.Test.YtohenohgceaibaaGreatDoorRefPdu
import Derived.Test.YtohenohgceaibaaGreatDoorRefCheck
import Derived.Test.YtohenohgceaibaaGreatDoorRefHex
import Derived.Test.YtohenohgceaibaaGreatDoorDigits
import Derived.Test.YtohenohgceaibaaGreatDoorPlainUnit
import Derived.Test.YtohenohgceaibaaGreatDoorBox
import Derived.Deep.DeepCutAuto
import Derived.Deep.Light
set_option linter.unusedVariables false
set_option linter.unusedSimpArgs false
namespace Go.Proofs.YtohenohgceaibaaGreatDoor
open Go.RowKit

theorem join_snoc (c : UInt8) (w : List UInt8) : ∀ ws : List (List UInt8), ws ≠ [] → joinBy c (ws ++ [w]) = joinBy c ws ++ c :: w
  | [], h => absurd rfl h
  | [v], _ => rfl
  | v :: u :: ws, _ => by
    show v ++ c :: joinBy c (u :: ws ++ [w]) = (v ++ c :: joinBy c (u :: ws)) ++ c :: w
    rw [join_snoc c w (u :: ws) (by simp)]; simp
def joinTo (l : List Int) (j : Nat) : List UInt8 := joinBy 44 ((l.take j).map Lib.itoa)
theorem joinTo_zero (l : List Int) (h : 0 < l.length) : joinTo l 1 = Lib.itoa l[0] := by
  unfold joinTo
  cases l with
  | nil => simp at h
  | cons a t => rfl
theorem joinTo_step (l : List Int) (j : Nat) (h0 : 0 < j) (h : j < l.length) : joinTo l (j + 1) = joinTo l j ++ 44 :: Lib.itoa l[j] := by
  unfold joinTo
  rw [List.take_succ_eq_append_getElem h, List.map_append, List.map_cons, List.map_nil, join_snoc]
  intro e
  have h2 : ((l.take j).map Lib.itoa).length = 0 := by rw [e]; rfl
  rw [List.length_map, List.length_take] at h2
  omega
theorem joinTo_all (l : List Int) (h : l ≠ []) : joinTo l l.length = listW l := by
  unfold joinTo listW
  rw [List.take_of_length_le (Nat.le_refl _), if_neg h]
theorem joinTo_le (l : List Int) (j : Nat) (hx : ∀ x ∈ l, 0 ≤ x ∧ x < 16777216) (hl : l.length ≤ 128) : (joinTo l j).length ≤ 2816 := by
  unfold joinTo
  have := join_le 44 21 ((l.take j).map Lib.itoa) (fun w hw => by
    obtain ⟨x, hm, rfl⟩ := List.mem_map.1 hw
    exact itoa_le x (hx x (List.mem_of_mem_take hm)))
  rw [List.length_map, List.length_take] at this
  have h2 : min j l.length ≤ 128 := by omega
  have h3 : min j l.length * (21 + 1) ≤ 128 * 22 := Nat.mul_le_mul h2 (Nat.le_refl _)
  omega
def names19 : List (List UInt8) := [[], [98, 103, 110], [98, 103, 97, 107], [101, 110, 100], [101, 110, 100, 97, 107], [114, 115], [114, 115, 97, 107], [98, 103, 114, 101, 106], [115, 100], [101, 114], [112, 111, 108, 108], [115, 116, 97, 116], [117, 115, 116, 97, 116], [117, 100], [109, 100], [101, 114, 97, 107]]
theorem names19_get : ∀ i : Fin 15, names19[i.val + 1]? = some (nameOf ((i.val : Int) + 1)) := by decide +kernel
set_option maxRecDepth 100000 in
set_option maxHeartbeats 1000000 in
theorem name19_any (k : Int) (h1 : 1 ≤ k) (h2 : k ≤ 15) (w : World) :
    Calls Tryz.prog 27 #[.int .i64 k] w fun e w' => e = .returned (.string ⟨(nameOf k).toArray⟩) ∧ Below w.heap.size w w' := by
  obtain ⟨i, rfl⟩ : ∃ i : Nat, k = (i : Int) + 1 := ⟨(k - 1).toNat, by omega⟩
  have hg := names19_get ⟨i, by omega⟩
  simp only at hg
  have HX := Lib.hid (BoxAt.new w 9 (names19.map fun l => Value.string ⟨l.toArray⟩))
  have HC : Hid ((w.alloc (.cells (names19.map fun l => Value.string ⟨l.toArray⟩).toArray 9)).cell? ⟨w.heap.size, i + 1, none⟩ = some (.string ⟨(nameOf ((i : Int) + 1)).toArray⟩)) := Lib.hid (by
    rw [HX.out.cell, List.getElem?_map, hg]; rfl)
  have hc : (w.alloc (.cells #[.string ⟨#[]⟩, .string ⟨#[98, 103, 110]⟩, .string ⟨#[98, 103, 97, 107]⟩, .string ⟨#[101, 110, 100]⟩, .string ⟨#[101, 110, 100, 97, 107]⟩, .string ⟨#[114, 115]⟩, .string ⟨#[114, 115, 97, 107]⟩, .string ⟨#[98, 103, 114, 101, 106]⟩, .string ⟨#[115, 100]⟩, .string ⟨#[101, 114]⟩, .string ⟨#[112, 111, 108, 108]⟩, .string ⟨#[115, 116, 97, 116]⟩, .string ⟨#[117, 115, 116, 97, 116]⟩, .string ⟨#[117, 100]⟩, .string ⟨#[109, 100]⟩, .string ⟨#[101, 114, 97, 107]⟩] 9)).cell? ⟨w.heap.size, i + 1, none⟩ = some (.string ⟨(nameOf ((i : Int) + 1)).toArray⟩) := HC.out
  have k1 : (0 : Int) ≤ (i : Int) + 1 := by omega
  have k2 : (i : Int) + 1 < 16 := by omega
  have k3 : ((i : Int) + 1).toNat = i + 1 := by omega
  have HR := Lib.hid hc
  clear hg HX HC hc
  have HB := Lib.hid ((Below.refl w.heap.size w).alloc (Nat.le_refl _) (.cells #[.string ⟨#[]⟩, .string ⟨#[98, 103, 110]⟩, .string ⟨#[98, 103, 97, 107]⟩, .string ⟨#[101, 110, 100]⟩, .string ⟨#[101, 110, 100, 97, 107]⟩, .string ⟨#[114, 115]⟩, .string ⟨#[114, 115, 97, 107]⟩, .string ⟨#[98, 103, 114, 101, 106]⟩, .string ⟨#[115, 100]⟩, .string ⟨#[101, 114]⟩, .string ⟨#[112, 111, 108, 108]⟩, .string ⟨#[115, 116, 97, 116]⟩, .string ⟨#[117, 115, 116, 97, 116]⟩, .string ⟨#[117, 100]⟩, .string ⟨#[109, 100]⟩, .string ⟨#[101, 114, 97, 107]⟩] 9))
  generalize nameOf ((i : Int) + 1) = NM at *
  have hq := HR.out
  go_enter Tryz.func27, Tryz.ntmps27
  go_wp2_with fail
  go_ret
  exact ⟨rfl, HB.out⟩
/-- How the document's Unit stands: the unit in its block. -/
def RefI (w : World) (cs : List Value) (lv : Value) (l : List Int) (wx : World) : Prop :=
  BoxAt wx w.heap.size 24 cs ∧ Below w.heap.size w wx ∧ IntsR .i64 wx lv l
theorem RefI.keep {w wx wy : World} {cs : List Value} {lv : Value} {l : List Int} (h : RefI w cs lv l wx) (hb : Below wx.heap.size wx wy) : RefI w cs lv l wy :=
  ⟨h.1.below hb h.1.lt, belSeq h.2.1 hb, h.2.2.below hb (Nat.le_refl _)⟩
def RefS (w : World) (cs : List Value) (lv : Value) (l : List Int) (acc : List UInt8) (v : Value) (wx : World) : Prop :=
  RefI w cs lv l wx ∧ ∃ S : ByteArray, v = .string S ∧ S.data.toList = acc
set_option maxRecDepth 100000 in
set_option maxHeartbeats 2000000 in
theorem refUnit_bad (k sq n ps mr : Int) (lv : Value) (l : List Int) (self : Bool) (d : ByteArray) (w : World)
    (hn : 0 ≤ n) (hps : 0 ≤ ps) (hmr : 0 ≤ mr) (hl : IntsR .i64 w lv l) (hll : ∀ x ∈ l, 0 ≤ x) (hd : d.size ≤ 1000000) (hlen : l.length ≤ 1000000) (hck : checkOf k sq n ps mr l self d.size ≠ 0) :
    Calls Tryz.prog 9 #[refV k sq n ps mr lv self d] w fun e w' => e = .returned (.string ⟨#[]⟩) ∧ Below w.heap.size w w' := by
  have hck2 : (checkOf k sq n ps mr l self d.size != 0) = true := by simpa using hck
  have HRC := Lib.hid (rcheck_any k sq n ps mr lv l self d (w.alloc (.cells #[.int .i64 k, .int .i64 sq, .int .i64 n, .int .i64 ps, .int .i64 mr, lv, .bool self, .string d] 24)) hn hps hmr hl.alloc hll hd hlen)
  unfold refV at *
  clear hck hll hl
  generalize checkOf k sq n ps mr l self d.size = C at *
  go_enter Tryz.func9, Tryz.ntmps9
  go_wp2_with fail
  refine HRC.out.mono ?_
  rintro e w1 ⟨rfl, hb⟩
  go_wp2_with fail
  go_ret
  exact ⟨rfl, belAlloc hb (by simp)⟩
set_option maxRecDepth 100000 in
set_option maxHeartbeats 4000000 in
theorem refUnit_ok (k sq n ps mr : Int) (lv : Value) (l : List Int) (self : Bool) (d : ByteArray) (w : World) (hn : 0 ≤ n) (hps : 0 ≤ ps) (hmr : 0 ≤ mr) (hl : IntsR .i64 w lv l) (hll : ∀ x ∈ l, 0 ≤ x)
    (hck : checkOf k sq n ps mr l self d.size = 0) :
    Calls Tryz.prog 9 #[refV k sq n ps mr lv self d] w fun e w' => e = .returned (.string ⟨(unitText ⟨k, sq, n, ps, mr, l, self, d.data.toList⟩).toArray⟩) ∧ Below w.heap.size w w' := by
  have hck' : ckOf ⟨k, sq, n, ps, mr, l, self, d.data.toList⟩ = 0 := by unfold ckOf; rw [size_len]; exact hck
  have hfit := fit_of ⟨k, sq, n, ps, mr, l, self, d.data.toList⟩ hn hps hmr hll hck'
  obtain ⟨⟨hk1, hk2⟩, hlen, hdl, _, ⟨hn1, hps1, hmr1, hll1⟩, _, hsq0, hsq1, _⟩ := ck_parts hck
  have HLS : Hid (∀ x ∈ l, 0 ≤ x ∧ x < 16777216) := Lib.hid (fun x hx => ⟨hll x hx, hll1 x hx⟩)
  have HRU := refUnit_eq _ hfit
  have HL := Lib.hid hl
  obtain ⟨al, cl', rfl, _, _, hal⟩ := hl.len
  have HRC : Hid (∀ W, IntsR .i64 W (.slice al l.length cl') l → Calls Tryz.prog 11 #[.agg #[.int .i64 k, .int .i64 sq, .int .i64 n, .int .i64 ps, .int .i64 mr, .slice al l.length cl', .bool self, .string d]] W fun e w' => e = .returned (.int .i64 0) ∧ Below W.heap.size W w') := Lib.hid (fun W h => by
    have := rcheck_any k sq n ps mr (.slice al l.length cl') l self d W hn hps hmr h hll (by omega) (by omega)
    rwa [hck] at this)
  have HFI : Hid (unitText ⟨k, sq, n, ps, mr, l, self, d.data.toList⟩ = nameOf k ++ (if sSq k then [32, 115, 113] ++ Lib.itoa sq else []) ++ (if sN k then [32, 110] ++ Lib.itoa n else []) ++ (if k = 10 ∨ k = 11 then [32, 112, 115] ++ Lib.itoa ps else [])
    ++ (if k = 11 ∨ k = 12 then [32, 109, 114] ++ Lib.itoa mr ++ [32, 108] ++ listW l else []) ++ (if self then 32 :: selfW else []) ++ (if 0 < sData k then [32, 100] ++ hexOf d.data.toList else [])) := Lib.hid (by
    rw [← HRU]; rfl)
  generalize unitText ⟨k, sq, n, ps, mr, l, self, d.data.toList⟩ = UT at *
  have HNM := Lib.hid (name19_any k hk1 hk2)
  have hnl := name_le k
  have HQ := Lib.hid (HasSQ_any k)
  have HNN := Lib.hid (HasN_any k)
  have HMO := Lib.hid (Most_any k)
  have HDG := Lib.hid digits_any
  have HHX := Lib.hid (fun W => refHex_any d W (by omega))
  have hhl := hexOf_length d.data.toList
  rw [size_len] at hhl
  have isq := Lib.itoa_length_le sq (by omega) (by omega)
  have inn := Lib.itoa_length_le n (by omega) (by omega)
  have ips := Lib.itoa_length_le ps (by omega) (by omega)
  have imr := Lib.itoa_length_le mr (by omega) (by omega)
  generalize hb10 : (k == 10) = b10 at *
  generalize hb11 : (k == 11) = b11 at *
  generalize hb12 : (k == 12) = b12 at *
  have HIF1 : Hid ((if k = 10 ∨ k = 11 then [32, 112, 115] ++ Lib.itoa ps else []) = if (b10 || b11) then [32, 112, 115] ++ Lib.itoa ps else []) := Lib.hid (by
    rw [← hb10, ← hb11]; simp)
  have HIF2 : Hid ((if k = 11 ∨ k = 12 then [32, 109, 114] ++ Lib.itoa mr ++ [32, 108] ++ listW l else []) = if (b11 || b12) then [32, 109, 114] ++ Lib.itoa mr ++ [32, 108] ++ listW l else []) := Lib.hid (by
    rw [← hb11, ← hb12]; simp)
  unfold refV
  clear hck' hfit HRU hll hll1 hck hl
  go_enter Tryz.func9, Tryz.ntmps9
  have HBX0 := Lib.hid (BoxAt.new w 24 [.int .i64 k, .int .i64 sq, .int .i64 n, .int .i64 ps, .int .i64 mr, .slice al l.length cl', .bool self, .string d])
  go_wp2_with fail
  refine (HRC.out _ HL.out.alloc).mono ?_
  rintro e w1 ⟨rfl, hb⟩
  have HI1 := Lib.hid (show RefI w [.int .i64 k, .int .i64 sq, .int .i64 n, .int .i64 ps, .int .i64 mr, .slice al l.length cl', .bool self, .string d] (.slice al l.length cl') l w1 from ⟨HBX0.out.below hb (by simp), belAlloc hb (by simp), HL.out.alloc.below hb (by simp)⟩)
  clear hb HBX0 HL HRC
  obtain ⟨q0, q1, q2, q3, q4, q5, q6, q7⟩ := HI1.out.1.cells8
  go_wp2_with fail
  refine (HNM.out _).mono ?_
  rintro e w2 ⟨rfl, hb⟩
  have HI2 := Lib.hid (HI1.out.keep hb)
  clear hb HI1 q0 q1 q2 q3 q4 q5 q6 q7 HNM
  have HSN : Hid ((⟨(nameOf k).toArray⟩ : ByteArray).data.toList = nameOf k) := Lib.hid rfl
  have hs0 : (⟨(nameOf k).toArray⟩ : ByteArray).size ≤ 5 := by rw [size_arr]; exact hnl
  generalize (⟨(nameOf k).toArray⟩ : ByteArray) = S0 at *
  generalize nameOf k = A0 at *
  obtain ⟨q0, q1, q2, q3, q4, q5, q6, q7⟩ := HI2.out.1.cells8
  go_wp2_with fail
  refine (HQ.out _).mono ?_
  rintro e w3 ⟨rfl, hb⟩
  have HI3 := Lib.hid (HI2.out.keep hb)
  clear hb HI2 q0 q1 q2 q3 q4 q5 q6 q7 HQ
  obtain ⟨q0, q1, q2, q3, q4, q5, q6, q7⟩ := HI3.out.1.cells8
  generalize sSq k = bq at *
  go_upto_if 14 with fail
  go_cut [3] (fun v wx => RefS w [.int .i64 k, .int .i64 sq, .int .i64 n, .int .i64 ps, .int .i64 mr, .slice al l.length cl', .bool self, .string d] (.slice al l.length cl') l (A0 ++ (if bq then [32, 115, 113] ++ Lib.itoa sq else [])) v wx)
  case first =>
    cases bq
    · go_wp2_with fail
      go_meet
      exact ⟨HI3.out, _, rfl, by rw [HSN.out]; simp⟩
    · go_wp2_with fail
      refine (HDG.out sq _ (by omega) (by omega)).mono ?_
      rintro e w4 ⟨rfl, hb⟩
      have HI4 := Lib.hid (HI3.out.keep hb)
      clear hb
      go_wp2_with fail
      go_meet
      exact ⟨HI4.out, _, rfl, by simp only [dapp]; rw [HSN.out]; simp⟩
  case rest =>
  obtain ⟨hi4, S1, rfl, hs1⟩ := hcut
  have HI4 := Lib.hid hi4
  have hsz1 : S1.size ≤ 60 := by
    rw [← size_len, hs1, List.length_append]
    have : A0.length ≤ 5 := by rw [← HSN.out, size_len]; exact hs0
    cases bq <;> simp <;> omega
  have HS1 := Lib.hid hs1
  clear hs1 hi4 HI3 q0 q1 q2 q3 q4 q5 q6 q7
  obtain ⟨A1, hA1⟩ : ∃ A1, A1 = A0 ++ (if bq then [32, 115, 113] ++ Lib.itoa sq else []) := ⟨_, rfl⟩
  rw [← hA1] at HS1 HFI
  clear hA1 HSN hs0
  obtain ⟨q0, q1, q2, q3, q4, q5, q6, q7⟩ := HI4.out.1.cells8
  go_wp2_with fail
  refine (HNN.out _).mono ?_
  rintro e w5 ⟨rfl, hb⟩
  have HI5 := Lib.hid (HI4.out.keep hb)
  clear hb HI4 q0 q1 q2 q3 q4 q5 q6 q7 HNN
  obtain ⟨q0, q1, q2, q3, q4, q5, q6, q7⟩ := HI5.out.1.cells8
  generalize sN k = bn at *
  go_upto_if 23 with fail
  go_cut [3] (fun v wx => RefS w [.int .i64 k, .int .i64 sq, .int .i64 n, .int .i64 ps, .int .i64 mr, .slice al l.length cl', .bool self, .string d] (.slice al l.length cl') l (A1 ++ (if bn then [32, 110] ++ Lib.itoa n else [])) v wx)
  case first =>
    cases bn
    · go_wp2_with fail
      go_meet
      exact ⟨HI5.out, _, rfl, by rw [HS1.out]; simp⟩
    · go_wp2_with fail
      refine (HDG.out n _ (by omega) (by omega)).mono ?_
      rintro e w4 ⟨rfl, hb⟩
      have HI4 := Lib.hid (HI5.out.keep hb)
      clear hb
      go_wp2_with fail
      go_meet
      exact ⟨HI4.out, _, rfl, by simp only [dapp]; rw [HS1.out]; simp⟩
  case rest =>
  obtain ⟨hi4, S2, rfl, hs2⟩ := hcut
  have HI6 := Lib.hid hi4
  have hsz2 : S2.size ≤ 120 := by
    rw [← size_len, hs2, List.length_append, ← HS1.out, size_len]
    cases bn <;> simp <;> omega
  have HS2 := Lib.hid hs2
  clear hs2 hi4 HI5 q0 q1 q2 q3 q4 q5 q6 q7
  obtain ⟨A2, hA2⟩ : ∃ A2, A2 = A1 ++ (if bn then [32, 110] ++ Lib.itoa n else []) := ⟨_, rfl⟩
  rw [← hA2] at HS2 HFI
  clear hA2 HS1 hsz1
  rw [HIF1.out, HIF2.out] at HFI
  clear HIF1 HIF2
  obtain ⟨q0, q1, q2, q3, q4, q5, q6, q7⟩ := HI6.out.1.cells8
  go_upto_region 8 with fail
  go_cut [37] (fun v wx => v = .bool (b10 || b11) ∧ wx = wc)
  case first =>
    cases b10 <;> cases b11 <;> (go_wp2_with fail; go_meet; exact ⟨rfl, rfl⟩)
  case rest =>
  obtain ⟨rfl, rfl⟩ := hcut
  generalize hbp : (b10 || b11) = bp at *
  go_upto_if 37 with fail
  go_cut [3] (fun v wx => RefS w [.int .i64 k, .int .i64 sq, .int .i64 n, .int .i64 ps, .int .i64 mr, .slice al l.length cl', .bool self, .string d] (.slice al l.length cl') l (A2 ++ (if bp then [32, 112, 115] ++ Lib.itoa ps else [])) v wx)
  case first =>
    cases bp
    · go_wp2_with fail
      go_meet
      exact ⟨HI6.out, _, rfl, by rw [HS2.out]; simp⟩
    · go_wp2_with fail
      refine (HDG.out ps _ (by omega) (by omega)).mono ?_
      rintro e w4 ⟨rfl, hb⟩
      have HI4 := Lib.hid (HI6.out.keep hb)
      clear hb
      go_wp2_with fail
      go_meet
      exact ⟨HI4.out, _, rfl, by simp only [dapp]; rw [HS2.out]; simp⟩
  case rest =>
  obtain ⟨hi4, S3, rfl, hs3⟩ := hcut
  have HI7 := Lib.hid hi4
  have hsz3 : S3.size ≤ 180 := by
    rw [← size_len, hs3, List.length_append, ← HS2.out, size_len]
    cases bp <;> simp <;> omega
  have HS3 := Lib.hid hs3
  clear hs3 hi4 HI6 q0 q1 q2 q3 q4 q5 q6 q7
  obtain ⟨A3, hA3⟩ : ∃ A3, A3 = A2 ++ (if bp then [32, 112, 115] ++ Lib.itoa ps else []) := ⟨_, rfl⟩
  rw [← hA3] at HS3 HFI
  clear hA3 HS2 hsz2 hbp
  obtain ⟨q0, q1, q2, q3, q4, q5, q6, q7⟩ := HI7.out.1.cells8
  go_upto_region 10 with fail
  go_cut [51] (fun v wx => v = .bool (b11 || b12) ∧ wx = wc)
  case first =>
    cases b11 <;> cases b12 <;> (go_wp2_with fail; go_meet; exact ⟨rfl, rfl⟩)
  case rest =>
  obtain ⟨rfl, rfl⟩ := hcut
  generalize hbm : (b11 || b12) = bm at *
  go_upto_if 51 with fail
  go_cut [3] (fun v wx => RefS w [.int .i64 k, .int .i64 sq, .int .i64 n, .int .i64 ps, .int .i64 mr, .slice al l.length cl', .bool self, .string d] (.slice al l.length cl') l (A3 ++ (if bm then [32, 109, 114] ++ Lib.itoa mr ++ [32, 108] ++ listW l else [])) v wx)
  case first =>
    cases bm
    · go_wp2_with fail
      go_meet
      exact ⟨HI7.out, _, rfl, by rw [HS3.out]; simp⟩
    · go_wp2_with fail
      refine (HDG.out mr _ (by omega) (by omega)).mono ?_
      rintro e w4 ⟨rfl, hb⟩
      have HI8 := Lib.hid (HI7.out.keep hb)
      clear hb q0 q1 q2 q3 q4 q5 q6 q7 HI7
      have HM : Hid ((⟨(Lib.itoa mr).toArray⟩ : ByteArray).data.toList = Lib.itoa mr) := Lib.hid rfl
      have hms : (⟨(Lib.itoa mr).toArray⟩ : ByteArray).size ≤ 21 := by rw [size_arr]; exact imr
      generalize (⟨(Lib.itoa mr).toArray⟩ : ByteArray) = M at *
      obtain ⟨q0, q1, q2, q3, q4, q5, q6, q7⟩ := HI8.out.1.cells8
      obtain ⟨A3', hA3'⟩ : ∃ A3', A3' = A3 ++ ([32, 109, 114] ++ Lib.itoa mr ++ [32, 108]) := ⟨_, rfl⟩
      have hA3l : A3'.length ≤ 300 := by
        have : A3.length ≤ 180 := by rw [← HS3.out, size_len]; exact hsz3
        rw [hA3']; simp; omega
      have HA3 := Lib.hid hA3'
      clear hA3'
      have HJL := Lib.hid (fun j => joinTo_le l j HLS.out hlen)
      go_wp2_with fail
      go_loopw [62, 3, 4, 5] (fun i v _ _ wx => ∃ j : Nat, j ≤ l.length ∧ i = .int .i64 j ∧ RefS w [.int .i64 k, .int .i64 sq, .int .i64 n, .int .i64 ps, .int .i64 mr, .slice al l.length cl', .bool self, .string d] (.slice al l.length cl') l (A3' ++ joinTo l j) v wx) (fun i _ _ _ _ => l.length - (intOf i).toNat)
      case atStart => exact ⟨0, by omega, rfl, HI8.out, _, rfl, by simp only [dapp]; rw [HS3.out, HM.out, HA3.out]; simp [joinTo, joinBy]⟩
      case round =>
        clear HI8 q0 q1 q2 q3 q4 q5 q6 q7
        obtain ⟨j, hj, rfl, hi, S, rfl, hS⟩ := hrel
        have HI := Lib.hid hi
        have HS := Lib.hid hS
        have hSl : S.size ≤ 3200 := by
          have h1 := HJL.out j
          rw [← size_len, hS, List.length_append]; omega
        clear hi hS
        by_cases hlt : j < l.length
        · obtain ⟨b, o, rfl⟩ := hal (by omega)
          have z1 := HI.out.2.2.at j hlt
          have hx0 := HLS.out l[j] (List.getElem_mem hlt)
          have HN0 : Hid (j = 0 → joinTo l (j + 1) = Lib.itoa l[j]) := Lib.hid (fun h => by subst h; exact joinTo_zero l hlt)
          have HN1 : Hid (0 < j → joinTo l (j + 1) = joinTo l j ++ 44 :: Lib.itoa l[j]) := Lib.hid (fun h => joinTo_step l j h hlt)
          generalize l[j] = x at *
          have ix := Lib.itoa_length_le x (by omega) (by omega)
          by_cases hj0 : j = 0
          · subst hj0
            have HN := Lib.hid (HN0.out rfl)
            rw [Nat.add_zero] at z1
            clear HN0 HN1
            go_wp2_with fail
            refine (HDG.out x _ (by omega) (by omega)).mono ?_
            rintro e w4 ⟨rfl, hb⟩
            have HI4 := Lib.hid (HI.out.keep hb)
            clear hb z1
            go_wp2_with fail
            go_roundw
            case rel => exact ⟨0 + 1, by omega, by go_num, HI4.out, _, rfl, by simp only [dapp]; rw [HS.out, HN.out]; simp [joinTo, joinBy]⟩
            case measure => simp [intOf]; omega
          · have hj1 : 0 < j := by omega
            have HN := Lib.hid (HN1.out hj1)
            clear HN0 HN1 hj0
            go_wp2_with fail
            refine (HDG.out x _ (by omega) (by omega)).mono ?_
            rintro e w4 ⟨rfl, hb⟩
            have HI4 := Lib.hid (HI.out.keep hb)
            clear hb z1
            go_wp2_with fail
            go_roundw
            case rel => exact ⟨j + 1, by omega, by go_num, HI4.out, _, rfl, by simp only [dapp]; rw [HS.out, HN.out]; simp⟩
            case measure => simp [intOf]; omega
        · obtain rfl : j = l.length := by omega
          obtain ⟨q0, q1, q2, q3, q4, q5, q6, q7⟩ := HI.out.1.cells8
          by_cases h0 : l.length = 0
          · have e0 : ((l.length : Int) == 0) = true := by simp; exact List.eq_nil_of_length_eq_zero h0
            have hnil := List.eq_nil_of_length_eq_zero h0
            have HF : Hid (A3' ++ joinTo l l.length ++ [45] = A3 ++ ([32, 109, 114] ++ Lib.itoa mr ++ [32, 108] ++ listW l)) := Lib.hid (by
              rw [HA3.out, hnil]; simp [joinTo, joinBy, listW])
            clear hnil h0
            go_wp2_with fail
            go_meet
            exact ⟨HI.out, _, rfl, by simp only [dapp]; rw [HS.out]; exact HF.out⟩
          · have e0 : ((l.length : Int) == 0) = false := beq_eq_false_iff_ne.2 (by omega)
            have HF : Hid (A3' ++ joinTo l l.length = A3 ++ ([32, 109, 114] ++ Lib.itoa mr ++ [32, 108] ++ listW l)) := Lib.hid (by
              rw [HA3.out, joinTo_all l (fun h => h0 (by rw [h]; rfl))]; simp)
            clear h0
            go_wp2_with fail
            go_meet
            exact ⟨HI.out, _, rfl, by rw [HS.out]; exact HF.out⟩
  case rest =>
  obtain ⟨hi4, S4, rfl, hs4⟩ := hcut
  have HI9 := Lib.hid hi4
  have hsz4 : S4.size ≤ 3200 := by
    have := listW_le l HLS.out hlen
    rw [← size_len, hs4, List.length_append, ← HS3.out, size_len]
    cases bm <;> simp <;> omega
  have HS4 := Lib.hid hs4
  clear hs4 hi4 HI7 q0 q1 q2 q3 q4 q5 q6 q7
  obtain ⟨A4, hA4⟩ : ∃ A4, A4 = A3 ++ (if bm then [32, 109, 114] ++ Lib.itoa mr ++ [32, 108] ++ listW l else []) := ⟨_, rfl⟩
  rw [← hA4] at HS4 HFI
  clear hA4 HS3 hsz3 hbm
  obtain ⟨q0, q1, q2, q3, q4, q5, q6, q7⟩ := HI9.out.1.cells8
  go_upto_if 83 with fail
  go_cut [3] (fun v wx => RefS w [.int .i64 k, .int .i64 sq, .int .i64 n, .int .i64 ps, .int .i64 mr, .slice al l.length cl', .bool self, .string d] (.slice al l.length cl') l (A4 ++ (if self then 32 :: selfW else [])) v wx)
  case first =>
    cases self
    · go_wp2_with fail
      go_meet
      exact ⟨HI9.out, _, rfl, by rw [HS4.out]; simp⟩
    · go_wp2_with fail
      go_meet
      exact ⟨HI9.out, _, rfl, by simp only [dapp]; rw [HS4.out]; simp [selfW]⟩
  case rest =>
  obtain ⟨hi4, S5, rfl, hs5⟩ := hcut
  have HI10 := Lib.hid hi4
  have hsz5 : S5.size ≤ 3300 := by
    rw [← size_len, hs5, List.length_append, ← HS4.out, size_len]
    cases self
    · simp; omega
    · simp [selfW]; try omega
  have HS5 := Lib.hid hs5
  clear hs5 hi4 HI9 q0 q1 q2 q3 q4 q5 q6 q7
  obtain ⟨A5, hA5⟩ : ∃ A5, A5 = A4 ++ (if self then 32 :: selfW else []) := ⟨_, rfl⟩
  rw [← hA5] at HS5 HFI
  clear hA5 HS4 hsz4
  obtain ⟨q0, q1, q2, q3, q4, q5, q6, q7⟩ := HI10.out.1.cells8
  go_wp2_with fail
  refine (HMO.out _).mono ?_
  rintro e w5 ⟨rfl, hb⟩
  have HI11 := Lib.hid (HI10.out.keep hb)
  clear hb HI10 q0 q1 q2 q3 q4 q5 q6 q7 HMO
  obtain ⟨q0, q1, q2, q3, q4, q5, q6, q7⟩ := HI11.out.1.cells8
  generalize sData k = sd at *
  by_cases hsd : 0 < sd
  · have HF : Hid (UT = A5 ++ ([32, 100] ++ hexOf d.data.toList)) := Lib.hid (by rw [HFI.out, if_pos hsd])
    clear HFI
    go_wp2_with fail
    refine (HHX.out _).mono ?_
    rintro e w6 ⟨rfl, hb⟩
    have HI12 := Lib.hid (HI11.out.keep hb)
    clear hb
    go_wp2_with fail
    go_ret
    exact ⟨ret_str (by simp only [dapp]; rw [HS5.out, HF.out]), HI12.out.2.1⟩
  · have HF : Hid (UT = A5) := Lib.hid (by rw [HFI.out, if_neg hsd]; simp)
    clear HFI
    go_wp2_with fail
    go_ret
    exact ⟨ret_str (by rw [HS5.out, HF.out]), HI11.out.2.1⟩
end Go.Proofs.YtohenohgceaibaaGreatDoor
