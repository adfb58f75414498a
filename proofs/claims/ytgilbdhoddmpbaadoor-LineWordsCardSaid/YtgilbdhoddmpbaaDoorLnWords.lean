/-
  The statement LineWords.
-/
import Derived.Test.YtgilbdhoddmpbaaDoorLnFacts
import Derived.Test.YtgilbdhoddmpbaaDoorLnSame
import Derived.Test.YtgilbdhoddmpbaaDoorLnNums
import Derived.Test.YtgilbdhoddmpbaaDoorCut
import Derived.Test.YtgilbdhoddmpbaaDoorBytesOf
import Derived.Test.YtgilbdhoddmpbaaDoorStrsR
import Derived.Lib.QuietBelow
import Derived.Deep.QuietTactic
import Derived.BigQuiet
set_option linter.unusedVariables false
set_option linter.unusedSimpArgs false
namespace Go.Proofs.YtgilbdhoddmpbaaDoor
open Go.RowKit

/-- What is taken of a word. -/
def cutW (b : ByteArray) : List UInt8 := (b.data.toList.take 14).filter (· ≠ 10)
def lineW (ss : List ByteArray) (j : Nat) : List UInt8 := joinBy 32 ((ss.take j).map cutW)
theorem cutW_len (b : ByteArray) : (cutW b).length ≤ 14 := Nat.le_trans (List.length_filter_le _ _) (by rw [List.length_take]; omega)
theorem cutW_free (b : ByteArray) : (10 : UInt8) ∉ cutW b := by unfold cutW; simp
theorem join_snoc (c : UInt8) : ∀ (ws : List (List UInt8)) (w : List UInt8), ws ≠ [] → joinBy c (ws ++ [w]) = joinBy c ws ++ (c :: w)
  | [], w, h => absurd rfl h
  | [v], w, _ => rfl
  | v :: u :: t, w, _ => by
    have ih := join_snoc c (u :: t) w (by simp)
    rw [List.cons_append, join_cons c v (by simp), ih, join_cons c v (by simp)]
    simp
theorem join_len (c : UInt8) (m : Nat) : ∀ (ws : List (List UInt8)), (∀ w ∈ ws, w.length ≤ m) → (joinBy c ws).length ≤ ws.length * (m + 1)
  | [], _ => by simp [joinBy]
  | [w], h => by have := h w (by simp); simp [joinBy]; omega
  | v :: u :: t, h => by
    have ih := join_len c m (u :: t) (fun w hw => h w (by simp [List.mem_cons.1 hw]))
    have h1 := h v (by simp)
    rw [join_cons c v (by simp), List.length_append, List.length_cons]
    have e : (v :: u :: t).length * (m + 1) = (u :: t).length * (m + 1) + (m + 1) := by rw [List.length_cons, Nat.succ_mul]
    omega
theorem join_none (c b : UInt8) (hcb : b ≠ c) : ∀ (ws : List (List UInt8)), (∀ w ∈ ws, b ∉ w) → b ∉ joinBy c ws
  | [], _ => by simp [joinBy]
  | [w], h => h w (by simp)
  | v :: u :: t, h => by
    have ih := join_none c b hcb (u :: t) (fun w hw => h w (by simp [List.mem_cons.1 hw]))
    rw [join_cons c v (by simp)]
    intro hm
    rcases List.mem_append.1 hm with h1 | h1
    · exact h v (by simp) h1
    · rcases List.mem_cons.1 h1 with h2 | h2
      · exact hcb h2
      · exact ih h2
theorem lineW_len (ss : List ByteArray) (j : Nat) (h : j ≤ 9) : (lineW ss j).length ≤ 135 := by
  have := join_len 32 14 ((ss.take j).map cutW) (fun w hw => by
    obtain ⟨b, _, rfl⟩ := List.mem_map.1 hw
    exact cutW_len b)
  unfold lineW
  rw [List.length_map, List.length_take] at this
  have : min j ss.length * 15 ≤ 9 * 15 := Nat.mul_le_mul_right _ (by omega)
  omega
theorem lineW_free (ss : List ByteArray) (j : Nat) : (10 : UInt8) ∉ lineW ss j := join_none 32 10 (by decide) _ (fun w hw => by
  obtain ⟨b, _, rfl⟩ := List.mem_map.1 hw
  exact cutW_free b)
theorem lineW_zero (ss : List ByteArray) : lineW ss 0 = [] := by simp [lineW, joinBy]
theorem lineW_one (ss : List ByteArray) (h : 0 < ss.length) : lineW ss 1 = cutW ss[0] := by
  unfold lineW
  rw [List.take_succ_eq_append_getElem h]; simp [joinBy]
theorem lineW_succ (ss : List ByteArray) (j : Nat) (h : j < ss.length) (h0 : 0 < j) : lineW ss (j + 1) = lineW ss j ++ [32] ++ cutW ss[j] := by
  unfold lineW
  rw [List.take_succ_eq_append_getElem h, List.map_append, List.map_cons, List.map_nil, join_snoc 32 _ _ (by
    intro e
    have := congrArg List.length e
    rw [List.length_map, List.length_take, List.length_nil] at this
    omega)]
  simp
theorem add_str (a b : List UInt8) : (⟨a.toArray⟩ : ByteArray) ++ ⟨b.toArray⟩ = ⟨(a ++ b).toArray⟩ := by apply str_eq; simp [ByteArray.data_append]
set_option maxRecDepth 100000 in
set_option maxHeartbeats 4000000 in
theorem words_any (v : Value) (ss : List ByteArray) (w : World) (hv : StrsR w v ss) (hz : ∀ s ∈ ss, s.size ≤ maxLen) (he : EnvP w) :
    Calls Tryd.prog 7 #[v] w fun e w' => e = .returned (.bool true) ∧ Below w.heap.size w w' := by
  have kc := conv1
  have HAW := Lib.hid (awake23 w he.most)
  obtain ⟨a, c, rfl, hc, hm, ha, hr⟩ := hv
  have HC := Lib.hid hr
  have HZ := Lib.hid hz
  clear hr hz
  obtain ⟨m, hm0⟩ : ∃ m : Nat, m = min ss.length 9 := ⟨_, rfl⟩
  have hm9 : m ≤ 9 := by omega
  have hms : m ≤ ss.length := by omega
  have HM := Lib.hid hm0
  clear hm0
  go_enter Tryd.func7, Tryd.ntmps7
  go_wp2_with fail
  refine HAW.out.mono ?_
  rintro e w1 ⟨rfl, hb1⟩
  have HB1 := Lib.hid hb1
  have HE1 := Lib.hid (he.below hb1)
  clear he HAW hb1
  go_wp2_with fail
  go_loopw [3, 4] (fun s i wx => ∃ j : Nat, j ≤ m ∧ i = .int .i64 (j : Int) ∧ s = .string ⟨(lineW ss j).toArray⟩ ∧ Below w1.heap.size w1 wx) (fun _ i _ => m - (intOf i).toNat)
  case atStart => exact ⟨0, by omega, rfl, by rw [lineW_zero], Below.refl _ _⟩
  case round =>
    obtain ⟨j, hj, rfl, rfl, hbel⟩ := hrel
    have hjl := lineW_len ss j (by omega)
    have hjz : (⟨(lineW ss j).toArray⟩ : ByteArray).size ≤ 200 := by rw [size_arr]; omega
    by_cases hlt : j < m
    · obtain ⟨b, o, rfl⟩ := ha (by omega)
      have hjs : j < ss.length := by omega
      have hl1 : (j : Int) < (ss.length : Int) := by omega
      have hl2 : (j : Int) < 9 := by omega
      have hcell : wr.cell? ⟨b, o + j, none⟩ = some (.string ss[j]) := by
        have h1 := HC.out b o rfl j hjs
        have h2 := (HB1.out.mono (Nat.le_refl _)).cell (block_lt_of_cell h1)
        have h3 := h2.trans h1
        rw [hbel.cell (block_lt_of_cell h3), h3]
        simp [List.getD_eq_getElem?_getD, hjs]
      have HCU := Lib.hid (fun W => cut_any ss[j] 14 W (HZ.out _ (List.getElem_mem hjs)) (by omega))
      obtain ⟨C, hC, hCl⟩ : ∃ C : ByteArray, C = ⟨(ss[j].data.toList.take 14).toArray⟩ ∧ C.size ≤ 14 := ⟨_, rfl, by rw [size_arr, List.length_take]; omega⟩
      rw [← hC] at HCU
      have HW : Hid (C.data.toList.filter (· ≠ 10) = cutW ss[j]) := Lib.hid (by rw [hC]; rfl)
      have HBL := Lib.hid hbel
      clear hC hbel
      go_wp2_with fail
      refine (HCU.out _).mono ?_
      rintro e wr' ⟨rfl, rfl⟩
      obtain ⟨W0, hW0⟩ : ∃ W0 : World, W0 = wr := ⟨_, rfl⟩
      subst hW0
      obtain ⟨cb, w2, hrun, hcb, hbel2⟩ := bytes_of C W0
      have HCB := Lib.hid hcb
      have HB2 := Lib.hid (belSeq HBL.out hbel2)
      clear hcb hbel2 HBL hcell
      go_wp2_with fail
      clear hrun
      go_loopw [5, 34] (fun x i wx => ∃ k : Nat, k ≤ C.size ∧ i = .int .i64 (k : Int) ∧ x = .string ⟨((C.data.toList.take k).filter (· ≠ 10)).toArray⟩ ∧ Below w2.heap.size w2 wx) (fun _ i _ => C.size - (intOf i).toNat)
      case atStart => exact ⟨0, by omega, rfl, rfl, Below.refl _ _⟩
      case round =>
        obtain ⟨k, hk, rfl, rfl, hbel⟩ := hrel
        have hfl : ((C.data.toList.take k).filter (· ≠ 10)).length ≤ 14 := Nat.le_trans (List.length_filter_le _ _) (by rw [List.length_take]; omega)
        have hfz : (⟨((C.data.toList.take k).filter (· ≠ 10)).toArray⟩ : ByteArray).size ≤ 14 := by rw [size_arr]; exact hfl
        have hsz := hbel.size
        by_cases hlk : k < C.size
        · have hcell : wr.cell? ⟨W0.heap.size, k, none⟩ = some (.int .u8 (C[k].toNat : Int)) := by
            have h1 := HCB.out k hlk
            rw [hbel.cell (block_lt_of_cell h1), h1]
          have hkk : k < C.data.toList.length := by rw [size_len]; exact hlk
          have hTK : C.data.toList.take (k + 1) = C.data.toList.take k ++ [C[k]] := List.take_succ_eq_append_getElem hkk
          by_cases h10 : C[k] = 10
          · have e1 : ((C[k].toNat : Int) != 10) = false := by rw [h10]; rfl
            have HN : Hid ((C.data.toList.take (k + 1)).filter (· ≠ 10) = (C.data.toList.take k).filter (· ≠ 10)) := Lib.hid (by rw [hTK, List.filter_append, h10]; simp)
            have HBX := Lib.hid hbel
            clear h10 hTK hbel
            generalize hX : (⟨((C.data.toList.take k).filter (· ≠ 10)).toArray⟩ : ByteArray) = X at *
            have HX := Lib.hid hX
            clear hX
            go_wp2_with fail
            go_roundw
            case rel => exact ⟨k + 1, by omega, by go_num, by rw [HN.out, HX.out], HBX.out⟩
            case measure => simp [intOf]; omega
          · have e1 : ((C[k].toNat : Int) != 10) = true := by
              have : ¬ (C[k].toNat : Int) = 10 := fun e => h10 (UInt8.toNat_inj.1 (by show C[k].toNat = 10; omega))
              simpa using this
            have HN : Hid ((C.data.toList.take (k + 1)).filter (· ≠ 10) = (C.data.toList.take k).filter (· ≠ 10) ++ [C[k]]) := Lib.hid (by rw [hTK, List.filter_append]; simp [h10])
            have HAD := Lib.hid (add_str ((C.data.toList.take k).filter (· ≠ 10)) [C[k]])
            have hcb : (⟨[C[k]].toArray⟩ : ByteArray).size ≤ 14 := by rw [size_arr]; simp
            have HBX := Lib.hid (hbel.alloc hsz (.cells #[.int .u8 (C[k].toNat : Int)] 5))
            clear h10 hTK hbel
            generalize hX : (⟨((C.data.toList.take k).filter (· ≠ 10)).toArray⟩ : ByteArray) = X at *
            have HX := Lib.hid hX
            clear hX
            go_wp2_with fail
            go_roundw
            case rel => exact ⟨k + 1, by omega, by go_num, by rw [HN.out, ← HAD.out], HBX.out⟩
            case measure => simp [intOf]; omega
        · have hkz : C.data.toList.take k = C.data.toList := List.take_of_length_le (by rw [size_len]; omega)
          rw [hkz, HW.out]
          have hnk : ¬ (k : Int) < (C.size : Int) := by omega
          have HB3 := Lib.hid (belSeq HB2.out hbel)
          have hwl := cutW_len ss[j]
          clear hkz HCB HB2 HCU hbel hfl hfz hsz
          by_cases hj0 : j = 0
          · subst hj0
            have HL : Hid (lineW ss 1 = lineW ss 0 ++ cutW ss[0]) := Lib.hid (by rw [lineW_one ss hjs, lineW_zero]; rfl)
            have HAD := Lib.hid (add_str (lineW ss 0) (cutW ss[0]))
            have hzz : (⟨(cutW ss[0]).toArray⟩ : ByteArray).size ≤ 14 := by rw [size_arr]; exact hwl
            go_wp2_with fail
            go_roundw
            case rel => exact ⟨1, by omega, rfl, by rw [HL.out, ← HAD.out], HB3.out⟩
            case measure => simp [intOf]; omega
          · have hjp : (0 : Int) < (j : Int) := by omega
            have HL := Lib.hid (lineW_succ ss j hjs (by omega))
            have HAD := Lib.hid (add_str (lineW ss j) [32])
            have HAE := Lib.hid (add_str (lineW ss j ++ [32]) (cutW ss[j]))
            have hzz : (⟨(cutW ss[j]).toArray⟩ : ByteArray).size ≤ 14 := by rw [size_arr]; exact hwl
            have hzy : (⟨(lineW ss j ++ [32]).toArray⟩ : ByteArray).size ≤ 200 := by rw [size_arr, List.length_append]; simp; omega
            clear hj0
            go_wp2_with fail
            go_roundw
            case rel => exact ⟨j + 1, by omega, by go_num, by rw [HL.out, ← HAE.out, ← HAD.out], HB3.out⟩
            case measure => simp [intOf]; omega
    · obtain rfl : j = m := by omega
      have hends : (¬ (j : Int) < (ss.length : Int)) ∨ ((j : Int) < (ss.length : Int) ∧ ¬ (j : Int) < 9) := by have := HM.out; omega
      have HBL := Lib.hid (belSeq HB1.out hbel)
      have HEL := Lib.hid (HE1.out.below hbel)
      have HFR := Lib.hid (lineW_free ss j)
      have hp1 := parse_one HFR.out
      have HS : Hid ((⟨(lineW ss j).toArray⟩ : ByteArray).data.toList = lineW ss j) := Lib.hid rfl
      have HGI : Hid (∀ h0 : 0 < (lineW ss j).length, ∃ h1 : 0 < (⟨(lineW ss j).toArray⟩ : ByteArray).size, (⟨(lineW ss j).toArray⟩ : ByteArray)[0]'h1 = (lineW ss j)[0]'h0) := Lib.hid (fun h0 => ⟨by rw [size_arr]; exact h0, rfl⟩)
      have HZL := Lib.hid (size_arr (lineW ss j))
      have hPI := fun W (h : EnvM W) xs k ok (hp : parseL (lineW ss j) = (xs, k, ok)) => parse_in ⟨(lineW ss j).toArray⟩ W (by omega) h xs k ok hp
      have HON := Lib.hid (fun W => rone_any ⟨(lineW ss j).toArray⟩ W (by omega))
      have HFU := Lib.hid (fun x (h : stepL (lineW ss j) = some x) => step_full h)
      rw [HS.out] at HON
      clear HFR hbel HB1 HE1 hlt
      generalize (⟨(lineW ss j).toArray⟩ : ByteArray) = X at *
      generalize lineW ss j = L at *
      by_cases hk : skipL L = true
      · rw [if_pos hk] at hp1
        have HPI := Lib.hid (hPI wr HEL.out.most _ _ _ hp1)
        simp only [List.length_nil] at HPI
        clear hPI hp1 HON HFU
        have hfst : X.toList.isEmpty = true ∨ (X.toList.isEmpty = false ∧ ∃ hxs : 0 < X.size, ((X[0]'hxs).toNat : Int) = 35) := by
          by_cases hx0 : L = []
          · left; rw [Lib.toList_data, HS.out, hx0]; rfl
          · right
            have hxp : 0 < L.length := List.length_pos_iff.2 hx0
            obtain ⟨hxs, hxe⟩ := HGI.out hxp
            refine ⟨by rw [Lib.toList_data, HS.out]; simpa using hx0, hxs, ?_⟩
            rw [hxe, skip_head hk hxp]; rfl
        clear hk HGI HS HZL
        rcases hends with hends | ⟨hends, hends2⟩
        all_goals
          rcases hfst with hq | ⟨hq, hxs, h35⟩
          all_goals
            go_wp2_with fail
            refine HPI.out.mono ?_
            rintro e w3 ⟨a3, c3, nvs3, rfl, -, hc3, hb3⟩
            have HB3 := Lib.hid (belSeq HBL.out hb3)
            clear hb3 HPI HBL
            go_wp2_with fail
            go_ret
            exact ⟨ret_bool (by simp), HB3.out⟩
      · rw [if_neg hk] at hp1
        have hfst : X.toList.isEmpty = false ∧ ∃ hxs : 0 < X.size, ¬ ((X[0]'hxs).toNat : Int) = 35 := by
          have hx0 : L ≠ [] := fun e => by rw [e] at hk; simp [skipL] at hk
          have hxp : 0 < L.length := List.length_pos_iff.2 hx0
          obtain ⟨hxs, hxe⟩ := HGI.out hxp
          refine ⟨by rw [Lib.toList_data, HS.out]; simpa using hx0, hxs, fun e => hk (skip_of hxp ?_)⟩
          rw [hxe] at e
          exact UInt8.toNat_inj.1 (by show _ = 35; omega)
        obtain ⟨hq, hxs, h35⟩ := hfst
        clear hk HGI HZL
        cases hst : stepL L with
        | none =>
          rw [hst] at hp1 HON
          simp only at hp1
          have HPI := Lib.hid (hPI wr HEL.out.most _ _ _ hp1)
          simp only [List.length_nil] at HPI
          clear hPI hp1 HFU hst
          unfold StepEnd at HON
          simp only at HON
          rcases hends with hends | ⟨hends, hends2⟩
          all_goals
            go_wp2_with fail
            refine HPI.out.mono ?_
            rintro e w3 ⟨a3, c3, nvs3, rfl, -, hc3, hb3⟩
            have HB3 := Lib.hid (belSeq HBL.out hb3)
            clear hb3 HPI HBL
            go_wp2_with fail
            refine (HON.out _).mono ?_
            rintro e w4 ⟨hb4, rfl⟩
            have HB4 := Lib.hid ((belSeq HB3.out hb4).alloc (belSeq HB3.out hb4).size (.cells #[.string ⟨#[]⟩, .slice none 0 0, .string ⟨#[]⟩, .string ⟨#[]⟩] 32))
            clear hb4 HON HB3
            unfold stpV
            go_wp2_with fail
            generalize w4.alloc (.cells #[.string ⟨#[]⟩, .slice none 0 0, .string ⟨#[]⟩, .string ⟨#[]⟩] 32) = w5 at *
            go_loopw [86] (fun i wx => ∃ t : Nat, i = .int .i64 (t : Int) ∧ t ≤ ss.length ∧ Below w5.heap.size w5 wx) (fun i _ => ss.length - (intOf i).toNat)
            case atStart => exact ⟨0, rfl, by omega, Below.refl _ _⟩
            case round =>
              obtain ⟨t, rfl, ht, hbel⟩ := hrel
              have HB5 := Lib.hid (belSeq HB4.out hbel)
              by_cases htl : t < ss.length
              · obtain ⟨b, o, rfl⟩ := ha (by omega)
                have ht1 : (t : Int) < (ss.length : Int) := by omega
                have hcell : wr.cell? ⟨b, o + t, none⟩ = some (.string ss[t]) := by
                  have h1 := HC.out b o rfl t htl
                  rw [HB5.out.cell (block_lt_of_cell h1), h1]
                  simp [List.getD_eq_getElem?_getD, htl]
                have HKD := Lib.hid (fun W => lkind_any ss[t] W)
                have HRK := Lib.hid (fun W => rkind_any ss[t] W)
                have HBW := Lib.hid hbel
                clear hbel
                go_wp2_with fail
                refine (HKD.out _).mono ?_
                rintro e w6 ⟨rfl, rfl⟩
                go_wp2_with fail
                refine (HRK.out _).mono ?_
                rintro e w7 ⟨rfl, hb7⟩
                have HB7 := Lib.hid (belSeq HBW.out hb7)
                clear hb7 HBW HRK HKD hcell
                go_wp2_with fail
                go_roundw
                case rel => exact ⟨t + 1, by go_num, by omega, HB7.out⟩
                case measure => simp [intOf]; omega
              · have ht1 : ¬ (t : Int) < (ss.length : Int) := by omega
                go_wp2_with fail
                go_quiet (fail)
                go_wp2_with fail
                go_ret
                exact ⟨ret_bool (by simp), below_drewN HB5.out _⟩
        | some x =>
          rw [hst] at hp1 HON
          simp only at hp1
          have HPI := Lib.hid (hPI wr HEL.out.most _ _ _ hp1)
          simp only [List.length_singleton] at HPI
          obtain ⟨f1, f2, f3, f4⟩ := HFU.out x hst
          have HXL : Hid ((⟨(lineL x).toArray⟩ : ByteArray) = X) := Lib.hid (str_eq (by rw [HS.out]; exact f4))
          have hll : (lineL x).length ≤ 200 := by rw [f4, ← HS.out, size_len]; exact hjz
          have hdl : x.data.length ≤ 200 := by rw [← HS.out, size_len] at f2; omega
          have hnl : x.nums.length ≤ 6 := step_nums hst
          have HF1 := Lib.hid f1
          have HF3 := Lib.hid f3
          have HLL := Lib.hid hll
          have HDL := Lib.hid hdl
          clear hPI hp1 HFU hst f1 f2 f3 f4 hll hdl
          unfold StepEnd at HON
          simp only at HON
          rcases hends with hends | ⟨hends, hends2⟩
          all_goals
            go_wp2_with fail
            refine HPI.out.mono ?_
            rintro e w3 ⟨a3, c3, nvs3, rfl, hst3, hc3, hb3⟩
            obtain ⟨a', c', hv, hc', hg⟩ := hst3.form
            obtain ⟨g, ha3, hBg, hgl⟩ := hg (by simp)
            cases hv
            subst ha3
            simp only [List.length_singleton] at *
            obtain ⟨na, nc, hin⟩ := hst3.at rfl (j := 0) (by simp)
            have HIN3 := Lib.hid hin
            simp only [Nat.mul_zero, List.getElem_cons_zero] at HIN3
            have HB3 := Lib.hid (belSeq HBL.out hb3)
            have HE3 := Lib.hid (HEL.out.below hb3)
            clear hb3 HPI HBL HEL hst3 hin
            go_wp2_with fail
            refine (HON.out _).mono ?_
            rintro e w4 ⟨hb4, nv, rfl, hown4⟩
            obtain ⟨nb, mc, rfl⟩ := own_form hown4
            have hwb := (Below.refl w4.heap.size w4).alloc (Nat.le_refl _) (.cells #[.string ⟨x.word.toArray⟩, .slice nb x.nums.length mc, .string ⟨x.ask.toArray⟩, .string ⟨x.data.toArray⟩] 32)
            have HB4 := Lib.hid (belSeq (belSeq HB3.out hb4) hwb)
            have HE4 := Lib.hid ((HE3.out.below hb4).below hwb)
            have HIN4 := Lib.hid ((HIN3.out.below hb4).below hwb)
            have HNU4 := Lib.hid ((numR hown4).below hwb (Nat.le_refl _))
            have HBX4 := Lib.hid (BoxAt.new w4 32 [.string ⟨x.word.toArray⟩, .slice nb x.nums.length mc, .string ⟨x.ask.toArray⟩, .string ⟨x.data.toArray⟩])
            clear hb4 hwb HON HB3 HE3 HIN3 hown4
            unfold stpV
            go_wp2_with fail
            simp only [List.toArray] at HBX4
            generalize w4.alloc (.cells #[.string ⟨x.word.toArray⟩, .slice nb x.nums.length mc, .string ⟨x.ask.toArray⟩, .string ⟨x.data.toArray⟩] 32) = w5 at *
            generalize w4.heap.size = bx at *
            go_loopw [86] (fun i wx => ∃ t : Nat, i = .int .i64 (t : Int) ∧ t ≤ ss.length ∧ Below w5.heap.size w5 wx) (fun i _ => ss.length - (intOf i).toNat)
            case atStart => exact ⟨0, rfl, by omega, Below.refl _ _⟩
            case round =>
              obtain ⟨t, rfl, ht, hbel⟩ := hrel
              have HB5 := Lib.hid (belSeq HB4.out hbel)
              by_cases htl : t < ss.length
              · obtain ⟨b, o, rfl⟩ := ha (by omega)
                have ht1 : (t : Int) < (ss.length : Int) := by omega
                have hcell : wr.cell? ⟨b, o + t, none⟩ = some (.string ss[t]) := by
                  have h1 := HC.out b o rfl t htl
                  rw [HB5.out.cell (block_lt_of_cell h1), h1]
                  simp [List.getD_eq_getElem?_getD, htl]
                have HKD := Lib.hid (fun W => lkind_any ss[t] W)
                have HRK := Lib.hid (fun W => rkind_any ss[t] W)
                have HBW := Lib.hid hbel
                clear hbel
                go_wp2_with fail
                refine (HKD.out _).mono ?_
                rintro e w6 ⟨rfl, rfl⟩
                go_wp2_with fail
                refine (HRK.out _).mono ?_
                rintro e w7 ⟨rfl, hb7⟩
                have HB7 := Lib.hid (belSeq HBW.out hb7)
                clear hb7 HBW HRK HKD hcell
                go_wp2_with fail
                go_roundw
                case rel => exact ⟨t + 1, by go_num, by omega, HB7.out⟩
                case measure => simp [intOf]; omega
              · have ht1 : ¬ (t : Int) < (ss.length : Int) := by omega
                obtain ⟨p0, p1, p2, p3, pn⟩ := HIN4.out.below hbel
                obtain ⟨q0, q1, q2, q3⟩ := (HBX4.out.below hbel HBX4.out.lt).cells4
                have HQN := Lib.hid (HNU4.out.below hbel (Nat.le_refl _))
                have HPN := Lib.hid pn
                have HER := Lib.hid (HE4.out.below hbel)
                go_wp2_with fail
                have k0 := cell_regrown p0
                have k1 := cell_regrown p1
                have k2 := cell_regrown p2
                have k3 := cell_regrown p3
                have l0 := cell_regrown q0
                have l1 := cell_regrown q1
                have l2 := cell_regrown q2
                have l3 := cell_regrown q3
                have cA := fun dd os => Calls.regrown_of (same_step x na nb nc mc (Sort.grow (redrawn wr dd) os) (by omega) (HPN.out.below (below_regrown wr dd os) (Nat.le_refl _)) (HQN.out.below (below_regrown wr dd os) (Nat.le_refl _)))
                have cB := fun dd os => Calls.regrown_of (line_any x na nc (Sort.grow (redrawn wr dd) os) (HPN.out.below (below_regrown wr dd os) (Nat.le_refl _)) HF3.out (by rw [HF1.out]; exact Nat.le_refl _) (by have := HLL.out; omega) (by have := HDL.out; omega) (HER.out.below (below_regrown wr dd os)))
                unfold stpV at cB
                rw [HXL.out] at cB
                clear p0 p1 p2 p3 q0 q1 q2 q3 pn hbel
                refine wp_region_quiet_below (by kernel_rfl) (by kernel_rfl) ?_
                repeat (quiet_step (first | (with_reducible exact cA _ _) | (with_reducible exact cB _ _)))
                refine wpQuiet_nil ?_
                intro _ hw'
                obtain ⟨⟨dq, osq⟩, hw''⟩ := hw'
                subst hw''
                have HB6 := Lib.hid (belSeq HB5.out (below_regrown wr dq osq))
                generalize Sort.grow (redrawn wr dq) osq = W6 at *
                clear cA cB k0 k1 k2 k3 l0 l1 l2 l3
                go_wp2_with fail
                go_ret
                exact ⟨ret_bool (by simp), HB6.out⟩
end Go.Proofs.YtgilbdhoddmpbaaDoor
