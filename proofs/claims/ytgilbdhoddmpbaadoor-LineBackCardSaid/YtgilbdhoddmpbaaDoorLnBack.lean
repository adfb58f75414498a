/-
  The statement LineBack.
-/
import Derived.Test.YtgilbdhoddmpbaaDoorLnFacts
import Derived.Test.YtgilbdhoddmpbaaDoorLnRefParse
import Derived.Test.YtgilbdhoddmpbaaDoorCut
set_option linter.unusedVariables false
set_option linter.unusedSimpArgs false
namespace Go.Proofs.YtgilbdhoddmpbaaDoor
open Go.RowKit

theorem nl_add (a l : List UInt8) : (⟨a.toArray⟩ : ByteArray) ++ ((⟨l.toArray⟩ : ByteArray) ++ ⟨#[10]⟩) = ⟨(a ++ (l ++ [10])).toArray⟩ := by apply str_eq; simp [ByteArray.data_append]
set_option maxRecDepth 100000 in
set_option maxHeartbeats 4000000 in
theorem back_any (s : ByteArray) (w : World) (hs : s.size ≤ maxLen) (he : EnvP w) :
    Calls Tryd.prog 6 #[.string s] w fun e w' => e = .returned (.bool true) ∧ Below w.heap.size w w' := by
  have HAW := Lib.hid (awake23 w he.most)
  have HCU := Lib.hid (fun W => cut_any s 2000 W hs (by omega))
  obtain ⟨S, hS, hSl⟩ : ∃ S : ByteArray, S = ⟨(s.data.toList.take 2000).toArray⟩ ∧ S.size ≤ 2000 := ⟨_, rfl, by rw [size_arr, List.length_take]; omega⟩
  rw [← hS] at HCU
  clear hS
  obtain ⟨xs, k, ok, hp⟩ : ∃ xs k ok, parseL S.data.toList = (xs, k, ok) := ⟨_, _, _, rfl⟩
  have HP := Lib.hid hp
  clear hp hs
  go_enter Tryd.func6, Tryd.ntmps6
  go_wp2_with fail
  refine HAW.out.mono ?_
  rintro e w1 ⟨rfl, hb1⟩
  have HB1 := Lib.hid hb1
  have HE1 := Lib.hid (he.below hb1)
  clear hb1 he HAW
  go_wp2_with fail
  refine (HCU.out _).mono ?_
  rintro e w1' ⟨rfl, rfl⟩
  go_wp2_with fail
  refine (parse_in S w1 (by omega) HE1.out.most xs k ok HP.out).mono ?_
  rintro e w2 ⟨a1, c1, nvs1, rfl, hst1, hc1, hb2⟩
  have HST2 := Lib.hid hst1
  have HB2 := Lib.hid (belSeq HB1.out hb2)
  have HE2 := Lib.hid (HE1.out.below hb2)
  clear hst1 hb2 HCU HB1 HE1
  cases ok with
  | false =>
    have hx : xs = [] := scan_bad _ _ _ _ _ HP.out
    subst hx
    simp only [List.length_nil] at *
    go_wp2_with fail
    go_ret
    exact ⟨rfl, HB2.out⟩
  | true =>
  have HF := Lib.hid (parse_from HP.out)
  have HLN : Hid (xs.map lineL = keepL (splitBy 10 S.data.toList)) := Lib.hid (parse_lines HP.out).2
  have HSP := Lib.hid (fun W => rsplit_any S 10 W (by omega))
  have hxl : xs.length ≤ 100000 := by
    have h1 := congrArg List.length HLN.out
    rw [List.length_map] at h1
    have h2 : (keepL (splitBy 10 S.data.toList)).length ≤ (splitBy 10 S.data.toList).length := List.length_filter_le _ _
    rw [splitBy_length] at h2
    have := List.count_le_length (a := (10 : UInt8)) (l := S.data.toList)
    rw [size_len] at this; omega
  have HLL : Hid (∀ x ∈ xs, numC ((needOf x.word).getD []) ≤ x.nums.length ∧ x.data.length ≤ 2000 ∧ (∀ n ∈ x.nums, 0 ≤ n ∧ n ≤ 1099511627776) ∧ (lineL x).length ≤ 2000) := Lib.hid (fun x hx => by
    obtain ⟨l, hl, hst⟩ := HF.out x hx
    obtain ⟨h1, h2, h3, h4⟩ := step_full hst
    have h5 := splitBy_le 10 S.data.toList l hl
    rw [size_len] at h5
    exact ⟨by omega, by omega, h3, by rw [h4]; omega⟩)
  have HKL := Lib.hid (keep_le (splitBy 10 S.data.toList) S.data.toList rfl)
  have HLE := Lib.hid (lines_le xs S.data.toList HLN.out)
  rw [size_len] at HKL HLE
  have hwl : (splitBy 10 S.data.toList).length ≤ 100001 := by
    rw [splitBy_length]
    have := List.count_le_length (a := (10 : UInt8)) (l := S.data.toList)
    rw [size_len] at this; omega
  have HPL : Hid (∀ x ∈ splitBy 10 S.data.toList, x.length ≤ 2000) := Lib.hid (fun x hx => by
    have := splitBy_le 10 S.data.toList x hx
    rw [size_len] at this; omega)
  clear HF HP
  generalize splitBy 10 S.data.toList = ws at *
  unfold RsplitEnd at HSP
  rw [show (((10 : UInt8).toNat : Nat) : Int) = 10 from rfl] at HSP
  go_wp2_with fail
  refine (HSP.out _).mono ?_
  rintro e w3 ⟨hb3, g, wc, rfl, ho3⟩
  have HO3 := Lib.hid ho3
  have HB3 := Lib.hid (belSeq HB2.out hb3)
  have HE3 := Lib.hid (HE2.out.below hb3)
  have HST3 := Lib.hid (HST2.out.below hb3)
  clear hb3 ho3 HSP HB2 HE2 HST2
  go_wp2_with fail
  go_loop [6, 30] (fun v i => ∃ j : Nat, i = .int .i64 (j : Int) ∧ j ≤ ws.length ∧ v = .string ⟨(nlL (keepL (ws.take j))).toArray⟩) (fun _ i => ws.length - (intOf i).toNat)
  case atStart => exact ⟨0, rfl, by omega, rfl⟩
  case round =>
    obtain ⟨j, rfl, hj, rfl⟩ := hrel
    have hzj := HKL.out j
    by_cases hlt : j < ws.length
    · have hcell : w3.cell? ⟨g, j, none⟩ = some (.string ⟨(ws[j]).toArray⟩) := by
        rw [HO3.out.cellAt j (by omega)]; simp [hlt, strV]
      have hlt1 : (j : Int) < (ws.length : Int) := by omega
      have hxl := HPL.out _ (List.getElem_mem hlt)
      have hzs : (⟨(nlL (keepL (ws.take j))).toArray⟩ : ByteArray).size ≤ 3000 := by rw [size_arr]; omega
      have HS : Hid ((⟨(ws[j]).toArray⟩ : ByteArray).data.toList = ws[j]) := Lib.hid rfl
      have HSZ : Hid ((⟨(ws[j]).toArray⟩ : ByteArray).size = (ws[j]).length) := Lib.hid (size_arr _)
      have HGI : Hid (∀ h0 : 0 < (ws[j]).length, (⟨(ws[j]).toArray⟩ : ByteArray)[0]'(by rw [size_arr]; exact h0) = (ws[j])[0]'h0) := Lib.hid (fun _ => rfl)
      by_cases hk : skipL ws[j] = true
      · have HN := Lib.hid (keep_skip ws j hlt hk)
        by_cases hx0 : ws[j] = []
        · have hq : (⟨(ws[j]).toArray⟩ : ByteArray).toList.isEmpty = true := by rw [Lib.toList_data, HS.out, hx0]; rfl
          clear hk hx0 HGI HSZ HS
          generalize (⟨(ws[j]).toArray⟩ : ByteArray) = X at *
          go_wp2_with fail
          go_round
          case rel => exact ⟨j + 1, by go_num, by omega, by rw [HN.out]⟩
          case measure => simp [intOf]; omega
        · have hq : (⟨(ws[j]).toArray⟩ : ByteArray).toList.isEmpty = false := by rw [Lib.toList_data, HS.out]; simpa using hx0
          have hxp : 0 < (ws[j]).length := List.length_pos_iff.2 hx0
          have hxs : 0 < (⟨(ws[j]).toArray⟩ : ByteArray).size := by rw [HSZ.out]; exact hxp
          have h35 : (((⟨(ws[j]).toArray⟩ : ByteArray)[0]'hxs).toNat : Int) = 35 := by
            have h1 := HGI.out hxp
            have h2 : (ws[j])[0]'hxp = 35 := skip_head hk hxp
            rw [h1, h2]; rfl
          clear hk hx0 HGI HSZ HS
          generalize (⟨(ws[j]).toArray⟩ : ByteArray) = X at *
          go_wp2_with fail
          go_round
          case rel => exact ⟨j + 1, by go_num, by omega, by rw [HN.out]⟩
          case measure => simp [intOf]; omega
      · have hk2 : skipL ws[j] = false := by simpa using hk
        have HN := Lib.hid (keep_keep ws j hlt hk2)
        have hx0 : ws[j] ≠ [] := fun e => by rw [e] at hk; simp [skipL] at hk
        have hq : (⟨(ws[j]).toArray⟩ : ByteArray).toList.isEmpty = false := by rw [Lib.toList_data, HS.out]; simpa using hx0
        have hxp : 0 < (ws[j]).length := List.length_pos_iff.2 hx0
        have hxs : 0 < (⟨(ws[j]).toArray⟩ : ByteArray).size := by rw [HSZ.out]; exact hxp
        have h35 : (((⟨(ws[j]).toArray⟩ : ByteArray)[0]'hxs).toNat : Int) ≠ 35 := fun e => by
          have h1 := HGI.out hxp
          rw [h1] at e
          exact hk (skip_of hxp (UInt8.toNat_inj.1 (by show _ = 35; omega)))
        have HAD := Lib.hid (nl_add (nlL (keepL (ws.take j))) ws[j])
        have hxs2 : (⟨(ws[j]).toArray⟩ : ByteArray).size ≤ 2000 := by rw [HSZ.out]; omega
        clear hk hk2 hx0 HGI HSZ HS
        generalize (⟨(ws[j]).toArray⟩ : ByteArray) = X at *
        go_wp2_with fail
        go_round
        case rel => exact ⟨j + 1, by go_num, by omega, by rw [HN.out, nl_snoc, ← HAD.out]⟩
        case measure => simp [intOf]; omega
    · have hjl : ws.take j = ws := List.take_of_length_le (by omega)
      rw [hjl]
      have hlt1 : ¬ (j : Int) < (ws.length : Int) := by omega
      clear hjl hzj
      have HWANT : Hid (nlL (keepL ws) = nlL (xs.map lineL)) := Lib.hid (by rw [HLN.out])
      rw [HWANT.out]
      go_wp2_with fail
      go_loopw [7, 48] (fun v i wx => ∃ m : Nat, i = .int .i64 (m : Int) ∧ m ≤ xs.length ∧ v = .string ⟨(nlL ((xs.take m).map lineL)).toArray⟩ ∧ Below w3.heap.size w3 wx) (fun _ i _ => xs.length - (intOf i).toNat)
      case atStart => exact ⟨0, rfl, by omega, rfl, Below.refl _ _⟩
      case round =>
        obtain ⟨m, rfl, hm, rfl, hbel⟩ := hrel
        have hzm := HLE.out m
        by_cases hltm : m < xs.length
        · obtain ⟨b1, d1, hv1, _, hg1⟩ := HST3.out.form
          obtain ⟨g1, rfl, hgB1, hgl1⟩ := hg1 (by omega)
          cases hv1
          obtain ⟨na, nc, hi1⟩ := HST3.out.at rfl hltm
          obtain ⟨p0, p1, p2, p3, pn⟩ := hi1.below hbel
          have HPN := Lib.hid pn
          obtain ⟨f1, f2, f3, f4⟩ := HLL.out _ (List.getElem_mem hltm)
          have HLS := Lib.hid (line_snoc xs m hltm)
          have HB4 := Lib.hid hbel
          have HF3 := Lib.hid f3
          have hltm1 : (m : Int) < (xs.length : Int) := by omega
          have hzs : (⟨(nlL ((xs.take m).map lineL)).toArray⟩ : ByteArray).size ≤ 3000 := by rw [size_arr]; omega
          have HAD := Lib.hid (nl_add (nlL ((xs.take m).map lineL)) (lineL xs[m]))
          rw [Nat.mul_comm 4 m] at p0 p1 p2 p3
          clear hi1 hbel pn f3 hzm
          generalize xs[m] = x at *
          generalize (⟨(nlL ((xs.take m).map lineL)).toArray⟩ : ByteArray) = X at *
          go_upto_region 17 with fail
          have hwb := (Below.refl wr.heap.size wr).alloc (Nat.le_refl _) (.cells #[.string ⟨x.word.toArray⟩, .slice na x.nums.length nc, .string ⟨x.ask.toArray⟩, .string ⟨x.data.toArray⟩] 34)
          obtain ⟨m0, m1, m2, m3⟩ := (BoxAt.new wr 34 [.string ⟨x.word.toArray⟩, .slice na x.nums.length nc, .string ⟨x.ask.toArray⟩, .string ⟨x.data.toArray⟩]).cells4
          have HPM := Lib.hid (HPN.out.below hwb (Nat.le_refl _))
          have HBM := Lib.hid (belSeq HB4.out hwb)
          have HEM := Lib.hid ((HE3.out.below HB4.out).below hwb)
          clear hwb p0 p1 p2 p3 HPN HB4
          simp only [List.toArray] at m0 m1 m2 m3
          generalize wr.alloc (.cells #[.string ⟨x.word.toArray⟩, .slice na x.nums.length nc, .string ⟨x.ask.toArray⟩, .string ⟨x.data.toArray⟩] 34) = W at *
          generalize wr.heap.size = bb at *
          have HCL := Lib.hid (line_any x na nc W HPM.out HF3.out f1 (by omega) (by omega) HEM.out)
          unfold stpV at HCL
          have hlz : (⟨(lineL x).toArray⟩ : ByteArray).size ≤ 2000 := by rw [size_arr]; exact f4
          generalize (⟨(lineL x).toArray⟩ : ByteArray) = Y at *
          go_wp2_with fail
          refine HCL.out.mono ?_
          rintro e w5 ⟨rfl, hb5⟩
          have HB5 := Lib.hid (belSeq HBM.out hb5)
          clear hb5 m0 m1 m2 m3 HPM HBM HEM HCL
          go_wp2_with fail
          go_roundw
          case rel => exact ⟨m + 1, by go_num, by omega, by rw [HLS.out, nl_snoc, ← HAD.out], HB5.out⟩
          case measure => simp [intOf]; omega
        · have hml : xs.take m = xs := List.take_of_length_le (by omega)
          rw [hml]
          have hltm1 : ¬ (m : Int) < (xs.length : Int) := by omega
          clear hml hzm
          go_wp2_with fail
          go_ret
          exact ⟨ret_bool (by simp), belSeq HB3.out hbel⟩
end Go.Proofs.YtgilbdhoddmpbaaDoor
