/-
  The statement LineNumbers.
-/
import Derived.Test.YtgilbdhoddmpbaaDoorLnRefOne
import Derived.Test.YtgilbdhoddmpbaaDoorCut
import Derived.Test.YtgilbdhoddmpbaaDoorDigits
import Derived.Test.YtgilbdhoddmpbaaDoorBytesOf
set_option linter.unusedVariables false
set_option linter.unusedSimpArgs false
namespace Go.Proofs.YtgilbdhoddmpbaaDoor
open Go.RowKit

theorem num_tick (m : Nat) : parseL (tickW ++ 32 :: Lib.decDigits m) = if m ≤ 1099511627776 then ([⟨tickW, [(m : Int)], [], []⟩], 0, true) else ([], 1, false) := by
  rw [tick_parse _ (dec_free m 10 (by decide)), tick_step, if_neg (dec_free m 32 (by decide)), numL_dec]
  by_cases h : m ≤ 1099511627776
  · rw [if_pos h, if_pos h]
  · rw [if_neg h, if_neg h]
theorem num_look (m : Nat) : ∃ xs k, parseL (lookW ++ 32 :: Lib.decDigits m) = (xs, k, decide ((m : Int) ≤ 1)) := by
  rw [look_parse _ (dec_free m 10 (by decide)), look_step, if_neg (dec_free m 32 (by decide)), numL_dec]
  by_cases h : m ≤ 1099511627776
  · rw [if_pos h]
    simp only
    by_cases h1 : m ≤ 1
    · rw [if_neg (by omega)]; exact ⟨_, _, by rw [decide_eq_true (by omega)]⟩
    · rw [if_pos (by omega)]; exact ⟨_, _, by rw [decide_eq_false (by omega)]⟩
  · rw [if_neg h]; exact ⟨_, _, by rw [decide_eq_false (by omega)]⟩
theorem tick_nums {a : List UInt8} {x : Stp} (h : stepL (tickW ++ 32 :: a) = some x) : x.nums.length = 1 := by
  rw [tick_step] at h
  split at h
  · cases h
  · cases hn : numL a with
    | none => rw [hn] at h; cases h
    | some n => rw [hn] at h; cases h; rfl
theorem tick_more (a : List UInt8) : ∃ xs k ok, parseL (tickW ++ 32 :: a) = (xs, k, ok) ∧ ((10 : UInt8) ∉ a → ok = (stepL (tickW ++ 32 :: a)).isSome) := by
  obtain ⟨xs, k, ok, h⟩ : ∃ xs k ok, parseL (tickW ++ 32 :: a) = (xs, k, ok) := ⟨_, _, _, rfl⟩
  refine ⟨xs, k, ok, h, fun hn => ?_⟩
  rw [tick_parse _ hn] at h
  cases hs : stepL (tickW ++ 32 :: a) with
  | none => rw [hs] at h; cases h; rfl
  | some x => rw [hs] at h; cases h; rfl
theorem front_add (c : List UInt8) (l : List UInt8) : (⟨c.toArray⟩ : ByteArray) ++ ⟨l.toArray⟩ = ⟨(c ++ l).toArray⟩ := by apply str_eq; simp [ByteArray.data_append]
theorem front_two (c : List UInt8) (a : ByteArray) (l : List UInt8) : (⟨c.toArray⟩ : ByteArray) ++ a ++ ⟨l.toArray⟩ = ⟨(c ++ (a.data.toList ++ l)).toArray⟩ := by apply str_eq; simp [ByteArray.data_append]
set_option maxRecDepth 100000 in
set_option maxHeartbeats 4000000 in
theorem numbers_any (n : Int) (s : ByteArray) (w : World) (hs : s.size ≤ maxLen) (he : EnvM w) (h0 : -9223372036854775808 ≤ n) (h1 : n ≤ 9223372036854775807) :
    Calls Tryd.prog 5 #[.int .i64 n, .string s] w fun e w' => e = .returned (.bool true) ∧ Below w.heap.size w w' := by
  have kc := conv1
  have HAW := Lib.hid (awake23 w he)
  have HCU := Lib.hid (fun W => cut_any s 3 W hs (by omega))
  obtain ⟨A, hA, hAl⟩ : ∃ A : ByteArray, A = ⟨(s.data.toList.take 3).toArray⟩ ∧ A.size ≤ 3 := ⟨_, rfl, by rw [size_arr, List.length_take]; omega⟩
  rw [← hA] at HCU
  clear hA hs
  obtain ⟨u0, hu, hu1⟩ : ∃ u0 : Nat, max n 0 = (u0 : Int) ∧ u0 ≤ 9223372036854775807 := ⟨(max n 0).toNat, by omega, by omega⟩
  have hdl := Lib.itoa_length_le (u0 : Int) (by omega) (by omega)
  rw [itoa_nat u0] at hdl
  have HDL := Lib.hid hdl
  clear hdl
  go_enter Tryd.func5, Tryd.ntmps5
  go_wp2_with fail
  refine HAW.out.mono ?_
  rintro e w1 ⟨rfl, hb1⟩
  have HB1 := Lib.hid hb1
  have HE1 := Lib.hid (he.below hb1)
  clear he HAW hb1
  go_wp2_with fail
  go_loopw [5, 6, 7] (fun o m i wr => ∃ (u j : Nat) (acc : List UInt8), u ≤ u0 ∧ m = .int .i64 u ∧ o = .string ⟨acc.toArray⟩ ∧ i = .int .i64 j ∧ Hid (j = acc.length) ∧ Hid ((j = 0 ∧ u = u0 ∧ acc = []) ∨ (0 < j ∧ Lib.decDigits u0 = decPre u ++ acc)) ∧ Below w1.heap.size w1 wr) (fun _ m i _ => (intOf m).toNat + if (intOf i) = 0 then 1 else 0)
  case atStart => exact ⟨u0, 0, [], Nat.le_refl _, rfl, rfl, rfl, Lib.hid rfl, Lib.hid (Or.inl ⟨rfl, rfl, rfl⟩), Below.refl _ _⟩
  case round =>
    obtain ⟨u, j, acc, hu2, rfl, rfl, rfl, hj, hacc, hbel⟩ := hrel
    have hal : acc.length ≤ 21 := by
      have := HDL.out
      rcases hacc.out with ⟨_, _, rfl⟩ | ⟨_, h⟩
      · simp
      · have := congrArg List.length h; rw [List.length_append] at this; omega
    have hjl : j ≤ 21 := by have := hj.out; omega
    have hsz := hbel.size
    by_cases hj0 : j = 0
    · subst hj0
      have hst : u = u0 ∧ acc = [] := by
        rcases hacc.out with ⟨_, h1, h2⟩ | ⟨h, _⟩
        · exact ⟨h1, h2⟩
        · omega
      obtain ⟨rfl, rfl⟩ := hst
      clear hacc hj
      go_wp2_with fail
      refine ⟨⟨u / 10, 1, [48 + UInt8.ofNat (u % 10)], by omega, by simp, congrArg Value.string (str_eq (by simp)), by simp, Lib.hid rfl, Lib.hid (Or.inr ⟨by omega, decDigits_step u⟩), hbel.alloc hsz _⟩, by simp [intOf]; omega⟩
    · have hd : Lib.decDigits u0 = decPre u ++ acc := by
        rcases hacc.out with ⟨h, _, _⟩ | ⟨_, h⟩
        · exact absurd h hj0
        · exact h
      have HD := Lib.hid hd
      clear hd hacc
      have hjb : ((j : Int) == 0) = false := by simpa using hj0
      by_cases hlt : 0 < u
      · go_wp2_with fail
        refine ⟨⟨u / 10, j + 1, (48 + UInt8.ofNat (u % 10)) :: acc, by omega, by simp, congrArg Value.string (str_eq (by simp)), by simp, Lib.hid (by rw [hj.out]; simp), Lib.hid (Or.inr ⟨by omega, by rw [HD.out, decPre_step u hlt]; simp⟩), hbel.alloc hsz _⟩, ?_⟩
        have e1 : ¬ ((j : Int) + 1 = 0) := by omega
        simp [intOf, e1, hj0]; omega
      · obtain rfl : u = 0 := by omega
        have hacc2 : acc = Lib.decDigits u0 := by rw [HD.out]; rfl
        subst hacc2
        clear hj HD
        have HBR := Lib.hid (belSeq HB1.out hbel)
        have HER := Lib.hid (HE1.out.below hbel)
        obtain ⟨xs2, k2, hlk⟩ := num_look u0
        obtain ⟨xs3, k3, ok3, hmo, hmi⟩ := tick_more (A.data.toList ++ Lib.decDigits u0)
        have htk := num_tick u0
        obtain ⟨D, hD, hDs⟩ : ∃ D : ByteArray, D = ⟨(Lib.decDigits u0).toArray⟩ ∧ D.size ≤ 21 := ⟨_, rfl, by rw [size_arr]; exact HDL.out⟩
        have ht1 : ((⟨#[116, 105, 99, 107, 32]⟩ : ByteArray) ++ D) = ⟨(tickW ++ 32 :: Lib.decDigits u0).toArray⟩ := by rw [hD]; exact front_add [116, 105, 99, 107, 32] _
        have ht2 : ((⟨#[108, 111, 111, 107, 32]⟩ : ByteArray) ++ D) = ⟨(lookW ++ 32 :: Lib.decDigits u0).toArray⟩ := by rw [hD]; exact front_add [108, 111, 111, 107, 32] _
        have ht3 : ((⟨#[116, 105, 99, 107, 32]⟩ : ByteArray) ++ A ++ D) = ⟨(tickW ++ 32 :: (A.data.toList ++ Lib.decDigits u0)).toArray⟩ := by rw [hD]; exact front_two [116, 105, 99, 107, 32] A _
        have hz1 : ((⟨#[116, 105, 99, 107, 32]⟩ : ByteArray) ++ D).size ≤ 100 := by rw [ByteArray.size_append]; show 5 + _ ≤ _; omega
        have hz2 : ((⟨#[108, 111, 111, 107, 32]⟩ : ByteArray) ++ D).size ≤ 100 := by rw [ByteArray.size_append]; show 5 + _ ≤ _; omega
        have hz3 : ((⟨#[116, 105, 99, 107, 32]⟩ : ByteArray) ++ A ++ D).size ≤ 100 := by rw [ByteArray.size_append, ByteArray.size_append]; show 5 + _ + _ ≤ _; omega
        have HPA := Lib.hid (fun W (h : EnvM W) xs k ok (hp : parseL (tickW ++ 32 :: Lib.decDigits u0) = (xs, k, ok)) => parse_in ((⟨#[116, 105, 99, 107, 32]⟩ : ByteArray) ++ D) W (by omega) h xs k ok (by rw [ht1]; exact hp))
        have HLK := Lib.hid (fun W (h : EnvM W) => parse_in ((⟨#[108, 111, 111, 107, 32]⟩ : ByteArray) ++ D) W (by omega) h xs2 k2 _ (by rw [ht2]; exact hlk))
        have HMO := Lib.hid (fun W (h : EnvM W) => parse_in ((⟨#[116, 105, 99, 107, 32]⟩ : ByteArray) ++ A ++ D) W (by omega) h xs3 k3 ok3 (by rw [ht3]; exact hmo))
        have HON := Lib.hid (fun W => rone_any ((⟨#[116, 105, 99, 107, 32]⟩ : ByteArray) ++ A ++ D) W (by omega))
        rw [show ((⟨#[116, 105, 99, 107, 32]⟩ : ByteArray) ++ A ++ D).data.toList = tickW ++ 32 :: (A.data.toList ++ Lib.decDigits u0) by rw [ht3]] at HON
        have hmi2 : (10 : UInt8) ∉ A.data.toList → ok3 = (stepL (tickW ++ 32 :: (A.data.toList ++ Lib.decDigits u0))).isSome := fun hn => hmi (by simp [hn, dec_free u0 10 (by decide)])
        have hon : ∀ x, stepL (tickW ++ 32 :: (A.data.toList ++ Lib.decDigits u0)) = some x → x.nums.length = 1 := fun x hx => tick_nums hx
        generalize stepL (tickW ++ 32 :: (A.data.toList ++ Lib.decDigits u0)) = RN at *
        have HMI := Lib.hid hmi2
        have HNU := Lib.hid hon
        have HTK := Lib.hid htk
        clear hlk hmo hmi hmi2 hon htk ht1 ht2 ht3 HE1 HB1 hbel hz1 hz2 hz3 hsz
        rw [← hD]
        clear hD
        by_cases h40 : u0 ≤ 1099511627776
        · rw [if_pos h40] at HTK
          have h4 : (u0 : Int) ≤ 1099511627776 := by omega
          have HPB := Lib.hid (HPA.out wr HER.out _ _ _ HTK.out)
          clear HTK HPA h40
          go_wp2_with fail
          refine HPB.out.mono ?_
          rintro e w2 ⟨a1, c1, nvs1, rfl, hst, hc1, hb2⟩
          obtain ⟨a', c', hv, hc', hg⟩ := hst.form
          obtain ⟨g, ha, hBg, hgl⟩ := hg (by simp)
          cases hv
          subst ha
          obtain ⟨na, nc, hin⟩ := hst.at rfl (j := 0) (by simp)
          have p1 := hin.c1
          obtain ⟨nb, no, nk, hnv, hnk, hnr⟩ := hin.nums.cells (by simp)
          have p2 := hnr 0 (by simp)
          simp only [Nat.mul_zero, Nat.zero_add, List.getElem_cons_zero, List.length_singleton, List.getD_cons_zero, Nat.add_zero] at p1 p2 hnv
          cases hnv
          have HB2 := Lib.hid (belSeq HBR.out hb2)
          have HE2 := Lib.hid (HER.out.below hb2)
          clear hst hin hb2 HPB hnr HBR HER
          simp only [List.length_singleton] at *
          go_wp2_with fail
          refine (HLK.out _ HE2.out).mono ?_
          rintro e w3 ⟨a3, c3, nvs3, rfl, -, hc3, hb3⟩
          have HB3 := Lib.hid (belSeq HB2.out hb3)
          have HE3 := Lib.hid (HE2.out.below hb3)
          clear hb3 HB2 HE2 HLK
          go_wp2_with fail
          refine (HCU.out _).mono ?_
          rintro e w3' ⟨rfl, rfl⟩
          go_wp2_with fail
          refine (HMO.out _ HE3.out).mono ?_
          rintro e w4 ⟨a4, c4, nvs4, rfl, -, hc4, hb4⟩
          have HB4 := Lib.hid (belSeq HB3.out hb4)
          clear hb4 HB3 HE3 HMO HCU
          go_wp2_with fail
          refine (HON.out _).mono ?_
          rintro e w5 ⟨hb5, hpost⟩
          have HB5 := Lib.hid (belSeq HB4.out hb5)
          clear hb5 HB4 HON
          cases RN with
          | none =>
            simp only at hpost
            subst hpost
            have HO3 : Hid ((10 : UInt8) ∉ A.data.toList → ok3 = false) := Lib.hid HMI.out
            clear HMI HNU
            unfold stpV
            go_upto_region 18 with fail
            have HB6 : Hid (Below w.heap.size w (w5.alloc (.cells #[.string ⟨#[]⟩, .slice none 0 0, .string ⟨#[]⟩, .string ⟨#[]⟩] 32))) := Lib.hid (HB5.out.alloc HB5.out.size _)
            generalize w5.alloc (.cells #[.string ⟨#[]⟩, .slice none 0 0, .string ⟨#[]⟩, .string ⟨#[]⟩] 32) = w6 at *
            obtain ⟨c7, w7, hrun, hcell, hbel7⟩ := bytes_of A w6
            have HC7 := Lib.hid hcell
            have HB7 := Lib.hid (belSeq HB6.out hbel7)
            clear hcell hbel7 HB6 HB5
            go_wp2_with fail
            clear hrun
            go_loop [98] (fun i => ∃ k : Nat, k ≤ A.size ∧ i = .int .i64 k ∧ Hid ((10 : UInt8) ∉ A.data.toList.take k)) (fun i => A.size - (intOf i).toNat)
            case atStart => exact ⟨0, Nat.zero_le _, rfl, Lib.hid (by simp)⟩
            case round =>
              obtain ⟨k, hk, rfl, hall⟩ := hrel
              by_cases hlt : k < A.size
              · have hcell := HC7.out k hlt
                by_cases h10 : A[k] = 10
                · have e1 : ((A[k].toNat : Int) == 10) = true := by rw [h10]; rfl
                  clear h10
                  go_wp2_with fail
                  go_ret
                  exact ⟨ret_bool (by simp), HB7.out⟩
                · have e1 : ((A[k].toNat : Int) == 10) = false := beq_eq_false_iff_ne.2 (fun e => h10 (UInt8.toNat_inj.1 (by show A[k].toNat = 10; omega)))
                  have HN : Hid ((10 : UInt8) ∉ A.data.toList.take (k + 1)) := Lib.hid (by
                    rw [List.take_succ_eq_append_getElem (by rw [size_len]; exact hlt)]
                    intro hm
                    rcases List.mem_append.1 hm with h | h
                    · exact hall.out h
                    · exact h10 (List.mem_singleton.1 h).symm)
                  clear h10
                  go_wp2_with fail
                  go_round
                  case rel => exact ⟨k + 1, by omega, by go_num, HN⟩
                  case measure => simp [intOf]; omega
              · have ho3 : ok3 = false := HO3.out (by have := hall.out; rwa [List.take_of_length_le (by rw [size_len]; omega)] at this)
                subst ho3
                clear HC7 hall HO3
                go_wp2_with fail
                go_ret
                exact ⟨ret_bool (by simp), HB7.out⟩
          | some y =>
            have hn1 := HNU.out y rfl
            obtain ⟨nv, rfl, hown⟩ := hpost
            obtain ⟨na', nc', rfl⟩ := own_form hown
            rw [hn1]
            have HO3 : Hid ((10 : UInt8) ∉ A.data.toList → ok3 = true) := Lib.hid HMI.out
            clear HMI HNU hown hn1
            unfold stpV
            go_upto_region 18 with fail
            have HB6 : Hid (Below w.heap.size w (w5.alloc (.cells #[.string ⟨y.word.toArray⟩, .slice na' 1 nc', .string ⟨y.ask.toArray⟩, .string ⟨y.data.toArray⟩] 32))) := Lib.hid (HB5.out.alloc HB5.out.size _)
            have HX6 : Hid (BoxAt (w5.alloc (.cells #[.string ⟨y.word.toArray⟩, .slice na' 1 nc', .string ⟨y.ask.toArray⟩, .string ⟨y.data.toArray⟩] 32)) w5.heap.size 32 [.string ⟨y.word.toArray⟩, .slice na' 1 nc', .string ⟨y.ask.toArray⟩, .string ⟨y.data.toArray⟩]) := Lib.hid (BoxAt.new w5 _ _)
            generalize w5.alloc (.cells #[.string ⟨y.word.toArray⟩, .slice na' 1 nc', .string ⟨y.ask.toArray⟩, .string ⟨y.data.toArray⟩] 32) = w6 at *
            generalize w5.heap.size = bx at *
            obtain ⟨c7, w7, hrun, hcell, hbel7⟩ := bytes_of A w6
            have HC7 := Lib.hid hcell
            have HB7 := Lib.hid (belSeq HB6.out hbel7)
            have hx1 := (HX6.out.below hbel7 HX6.out.lt).cell 1
            simp only [List.getElem?_cons_succ, List.getElem?_cons_zero] at hx1
            clear hcell hbel7 HB6 HB5
            go_wp2_with fail
            clear hrun
            go_loop [98] (fun i => ∃ k : Nat, k ≤ A.size ∧ i = .int .i64 k ∧ Hid ((10 : UInt8) ∉ A.data.toList.take k)) (fun i => A.size - (intOf i).toNat)
            case atStart => exact ⟨0, Nat.zero_le _, rfl, Lib.hid (by simp)⟩
            case round =>
              obtain ⟨k, hk, rfl, hall⟩ := hrel
              by_cases hlt : k < A.size
              · have hcell := HC7.out k hlt
                by_cases h10 : A[k] = 10
                · have e1 : ((A[k].toNat : Int) == 10) = true := by rw [h10]; rfl
                  clear h10
                  go_wp2_with fail
                  go_ret
                  exact ⟨ret_bool (by simp), HB7.out⟩
                · have e1 : ((A[k].toNat : Int) == 10) = false := beq_eq_false_iff_ne.2 (fun e => h10 (UInt8.toNat_inj.1 (by show A[k].toNat = 10; omega)))
                  have HN : Hid ((10 : UInt8) ∉ A.data.toList.take (k + 1)) := Lib.hid (by
                    rw [List.take_succ_eq_append_getElem (by rw [size_len]; exact hlt)]
                    intro hm
                    rcases List.mem_append.1 hm with h | h
                    · exact hall.out h
                    · exact h10 (List.mem_singleton.1 h).symm)
                  clear h10
                  go_wp2_with fail
                  go_round
                  case rel => exact ⟨k + 1, by omega, by go_num, HN⟩
                  case measure => simp [intOf]; omega
              · have ho3 : ok3 = true := HO3.out (by have := hall.out; rwa [List.take_of_length_le (by rw [size_len]; omega)] at this)
                subst ho3
                clear HC7 hall HO3
                go_wp2_with fail
                go_ret
                exact ⟨ret_bool (by simp), HB7.out⟩
        · rw [if_neg h40] at HTK
          have h4 : ¬ (u0 : Int) ≤ 1099511627776 := by omega
          have HPB := Lib.hid (HPA.out wr HER.out _ _ _ HTK.out)
          clear HTK HPA h40
          go_wp2_with fail
          refine HPB.out.mono ?_
          rintro e w2 ⟨a1, c1, nvs1, rfl, hst, hc1, hb2⟩
          have HB2 := Lib.hid (belSeq HBR.out hb2)
          have HE2 := Lib.hid (HER.out.below hb2)
          clear hst hb2 HPB HBR HER
          simp only [List.length_nil] at *
          go_wp2_with fail
          refine (HLK.out _ HE2.out).mono ?_
          rintro e w3 ⟨a3, c3, nvs3, rfl, -, hc3, hb3⟩
          have HB3 := Lib.hid (belSeq HB2.out hb3)
          have HE3 := Lib.hid (HE2.out.below hb3)
          clear hb3 HB2 HE2 HLK
          go_wp2_with fail
          refine (HCU.out _).mono ?_
          rintro e w3' ⟨rfl, rfl⟩
          go_wp2_with fail
          refine (HMO.out _ HE3.out).mono ?_
          rintro e w4 ⟨a4, c4, nvs4, rfl, -, hc4, hb4⟩
          have HB4 := Lib.hid (belSeq HB3.out hb4)
          clear hb4 HB3 HE3 HMO HCU
          go_wp2_with fail
          refine (HON.out _).mono ?_
          rintro e w5 ⟨hb5, hpost⟩
          have HB5 := Lib.hid (belSeq HB4.out hb5)
          clear hb5 HB4 HON
          cases RN with
          | none =>
            simp only at hpost
            subst hpost
            have HO3 : Hid ((10 : UInt8) ∉ A.data.toList → ok3 = false) := Lib.hid HMI.out
            clear HMI HNU
            unfold stpV
            go_upto_region 18 with fail
            have HB6 : Hid (Below w.heap.size w (w5.alloc (.cells #[.string ⟨#[]⟩, .slice none 0 0, .string ⟨#[]⟩, .string ⟨#[]⟩] 32))) := Lib.hid (HB5.out.alloc HB5.out.size _)
            generalize w5.alloc (.cells #[.string ⟨#[]⟩, .slice none 0 0, .string ⟨#[]⟩, .string ⟨#[]⟩] 32) = w6 at *
            obtain ⟨c7, w7, hrun, hcell, hbel7⟩ := bytes_of A w6
            have HC7 := Lib.hid hcell
            have HB7 := Lib.hid (belSeq HB6.out hbel7)
            clear hcell hbel7 HB6 HB5
            go_wp2_with fail
            clear hrun
            go_loop [98] (fun i => ∃ k : Nat, k ≤ A.size ∧ i = .int .i64 k ∧ Hid ((10 : UInt8) ∉ A.data.toList.take k)) (fun i => A.size - (intOf i).toNat)
            case atStart => exact ⟨0, Nat.zero_le _, rfl, Lib.hid (by simp)⟩
            case round =>
              obtain ⟨k, hk, rfl, hall⟩ := hrel
              by_cases hlt : k < A.size
              · have hcell := HC7.out k hlt
                by_cases h10 : A[k] = 10
                · have e1 : ((A[k].toNat : Int) == 10) = true := by rw [h10]; rfl
                  clear h10
                  go_wp2_with fail
                  go_ret
                  exact ⟨ret_bool (by simp), HB7.out⟩
                · have e1 : ((A[k].toNat : Int) == 10) = false := beq_eq_false_iff_ne.2 (fun e => h10 (UInt8.toNat_inj.1 (by show A[k].toNat = 10; omega)))
                  have HN : Hid ((10 : UInt8) ∉ A.data.toList.take (k + 1)) := Lib.hid (by
                    rw [List.take_succ_eq_append_getElem (by rw [size_len]; exact hlt)]
                    intro hm
                    rcases List.mem_append.1 hm with h | h
                    · exact hall.out h
                    · exact h10 (List.mem_singleton.1 h).symm)
                  clear h10
                  go_wp2_with fail
                  go_round
                  case rel => exact ⟨k + 1, by omega, by go_num, HN⟩
                  case measure => simp [intOf]; omega
              · have ho3 : ok3 = false := HO3.out (by have := hall.out; rwa [List.take_of_length_le (by rw [size_len]; omega)] at this)
                subst ho3
                clear HC7 hall HO3
                go_wp2_with fail
                go_ret
                exact ⟨ret_bool (by simp), HB7.out⟩
          | some y =>
            have hn1 := HNU.out y rfl
            obtain ⟨nv, rfl, hown⟩ := hpost
            obtain ⟨na', nc', rfl⟩ := own_form hown
            rw [hn1]
            have HO3 : Hid ((10 : UInt8) ∉ A.data.toList → ok3 = true) := Lib.hid HMI.out
            clear HMI HNU hown hn1
            unfold stpV
            go_upto_region 18 with fail
            have HB6 : Hid (Below w.heap.size w (w5.alloc (.cells #[.string ⟨y.word.toArray⟩, .slice na' 1 nc', .string ⟨y.ask.toArray⟩, .string ⟨y.data.toArray⟩] 32))) := Lib.hid (HB5.out.alloc HB5.out.size _)
            have HX6 : Hid (BoxAt (w5.alloc (.cells #[.string ⟨y.word.toArray⟩, .slice na' 1 nc', .string ⟨y.ask.toArray⟩, .string ⟨y.data.toArray⟩] 32)) w5.heap.size 32 [.string ⟨y.word.toArray⟩, .slice na' 1 nc', .string ⟨y.ask.toArray⟩, .string ⟨y.data.toArray⟩]) := Lib.hid (BoxAt.new w5 _ _)
            generalize w5.alloc (.cells #[.string ⟨y.word.toArray⟩, .slice na' 1 nc', .string ⟨y.ask.toArray⟩, .string ⟨y.data.toArray⟩] 32) = w6 at *
            generalize w5.heap.size = bx at *
            obtain ⟨c7, w7, hrun, hcell, hbel7⟩ := bytes_of A w6
            have HC7 := Lib.hid hcell
            have HB7 := Lib.hid (belSeq HB6.out hbel7)
            have hx1 := (HX6.out.below hbel7 HX6.out.lt).cell 1
            simp only [List.getElem?_cons_succ, List.getElem?_cons_zero] at hx1
            clear hcell hbel7 HB6 HB5
            go_wp2_with fail
            clear hrun
            go_loop [98] (fun i => ∃ k : Nat, k ≤ A.size ∧ i = .int .i64 k ∧ Hid ((10 : UInt8) ∉ A.data.toList.take k)) (fun i => A.size - (intOf i).toNat)
            case atStart => exact ⟨0, Nat.zero_le _, rfl, Lib.hid (by simp)⟩
            case round =>
              obtain ⟨k, hk, rfl, hall⟩ := hrel
              by_cases hlt : k < A.size
              · have hcell := HC7.out k hlt
                by_cases h10 : A[k] = 10
                · have e1 : ((A[k].toNat : Int) == 10) = true := by rw [h10]; rfl
                  clear h10
                  go_wp2_with fail
                  go_ret
                  exact ⟨ret_bool (by simp), HB7.out⟩
                · have e1 : ((A[k].toNat : Int) == 10) = false := beq_eq_false_iff_ne.2 (fun e => h10 (UInt8.toNat_inj.1 (by show A[k].toNat = 10; omega)))
                  have HN : Hid ((10 : UInt8) ∉ A.data.toList.take (k + 1)) := Lib.hid (by
                    rw [List.take_succ_eq_append_getElem (by rw [size_len]; exact hlt)]
                    intro hm
                    rcases List.mem_append.1 hm with h | h
                    · exact hall.out h
                    · exact h10 (List.mem_singleton.1 h).symm)
                  clear h10
                  go_wp2_with fail
                  go_round
                  case rel => exact ⟨k + 1, by omega, by go_num, HN⟩
                  case measure => simp [intOf]; omega
              · have ho3 : ok3 = true := HO3.out (by have := hall.out; rwa [List.take_of_length_le (by rw [size_len]; omega)] at this)
                subst ho3
                clear HC7 hall HO3
                go_wp2_with fail
                go_ret
                exact ⟨ret_bool (by simp), HB7.out⟩
end Go.Proofs.YtgilbdhoddmpbaaDoor
