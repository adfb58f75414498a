/-
  Contract of line.Step.Line: a step's line.
-/
import Derived.Test.YtgilbdhoddmpbaaDoorLnEnvP
import Derived.Test.YtgilbdhoddmpbaaDoorLnKind
import Derived.Test.YtgilbdhoddmpbaaDoorLnStep
import Derived.Test.YtgilbdhoddmpbaaDoorHex
import Derived.Laws.RangeAny
import Derived.Deep.AppendLies
set_option linter.unusedVariables false
set_option linter.unusedSimpArgs false
namespace Go.Proofs.YtgilbdhoddmpbaaDoor
open Go.RowKit

/-- How many letters want a number. -/
def numC (l : List UInt8) : Nat := l.countP (fun c => c ≠ 87 ∧ c ≠ 72)
theorem numC_87 (t : List UInt8) : numC (87 :: t) = numC t := by unfold numC; rw [List.countP_cons]; simp
theorem numC_72 (t : List UInt8) : numC (72 :: t) = numC t := by unfold numC; rw [List.countP_cons]; simp
theorem numC_num (c : UInt8) (t : List UInt8) (h : c ≠ 87) (h2 : c ≠ 72) : numC (c :: t) = numC t + 1 := by unfold numC; rw [List.countP_cons]; simp [h, h2]
theorem IntsR.tail {kd : IntKind} {w : World} {b o c : Nat} {n : Int} {ns : List Int} (h : IntsR kd w (.slice (some ⟨b, o, none⟩) (ns.length + 1) c) (n :: ns)) : IntsR kd w (.slice (if c = 1 then some ⟨b, o, none⟩ else some ⟨b, o + 1, none⟩) ns.length (c - 1)) ns := by
  obtain ⟨a, c', hv, hc, hm, ha, hr⟩ := h
  cases hv
  simp only [List.length_cons] at hc hm
  refine ⟨_, _, rfl, by omega, by omega, fun h0 => ⟨b, o + 1, if_neg (by omega)⟩, fun b' o' hbo j hj => ?_⟩
  rw [if_neg (by omega)] at hbo
  cases hbo
  have := hr b o rfl (j + 1) (by simp; omega)
  rw [show o + 1 + j = o + (j + 1) by omega, this]
  simp [List.getD_eq_getElem?_getD]
theorem info_s1 : (Tryd.prog.info? 9).map (fun i => (i.zero, i.size, i.bytes)) = some (some (.string ⟨#[]⟩), 1, 16) := by kernel_rfl
theorem own_one (W : World) (B : Nat) (l : List UInt8) (h : B ≤ W.heap.size) : (W.alloc (.cells #[strV l] 9)).ownsRow B 9 1 (.slice (some ⟨W.heap.size, 0, none⟩) 1 1) 1 [strV l] :=
  ⟨rfl, .inr ⟨W.heap.size, 1, #[strV l], rfl, h, heap_alloc_new _ _, Nat.le_refl _, by decide, rfl, rfl⟩⟩
theorem own_kept {w w' : World} {base : Nat} {e : TypeId} {size : Nat} {v : Value} {n : Nat} {xs : List Value} (h : w.ownsRow base e size v n xs) (hb : Below w.heap.size w w') : w'.ownsRow base e size v n xs :=
  h.kept (row := none) ⟨hb.os, hb.tape, hb.output, hb.size, fun k hk _ => hb.block k hk⟩ (by cases hv : v.ownBlock <;> simp)
theorem own_some {w : World} {base E sz n : Nat} {v : Value} {xs : List Value} (h : w.ownsRow base E sz v n xs) (hp : 0 < n) : ∃ g c, v = .slice (some ⟨g, 0, none⟩) n c := by
  rcases h.2 with ⟨_, h0⟩ | ⟨g, cap, cur, rfl, _⟩
  · omega
  · exact ⟨g, cap, rfl⟩
/-- What lies behind j letters. -/
structure LineQ (w wx : World) (need : List UInt8) (x : Stp) (nv0 : Value) (j : Nat) (acc : List (List UInt8)) (v : Value) : Prop where
  it : wx.heap[w.heap.size + 2]? = some (.stringIter ⟨need.toArray⟩ j)
  box : BoxAt wx w.heap.size 34 [.string ⟨x.word.toArray⟩, nv0, .string ⟨x.ask.toArray⟩, .string ⟨x.data.toArray⟩]
  own : wx.ownsRow (w.heap.size + 1) 9 1 v acc.length (acc.map strV)
  bel : Below w.heap.size w wx
  le : w.heap.size + 3 ≤ wx.heap.size
theorem LineQ.mid {w wx : World} {need : List UInt8} {x : Stp} {nv0 v : Value} {j : Nat} {acc : List (List UInt8)} (h : LineQ w wx need x nv0 j acc v) :
    LineQ w (wx.iterAt (w.heap.size + 2) ⟨need.toArray⟩ (j + 1)) need x nv0 (j + 1) acc v := by
  refine ⟨Lib.iterAt_heap _ _ _ _ _ h.it, (Lib.iterAt_other _ _ _ _ _ (by omega)).trans h.box, ?_, Lib.below_iterAt h.bel (by omega) _ _, by have := h.le; unfold World.iterAt; simp; omega⟩
  obtain ⟨h1, h2 | ⟨q, cap, cur, hv, hB, hq, rest⟩⟩ := h.own
  · exact ⟨h1, .inl h2⟩
  · refine ⟨h1, .inr ⟨q, cap, cur, hv, hB, ?_, rest⟩⟩
    rw [Lib.iterAt_other _ _ _ _ _ (fun e => by rw [e, h.it] at hq; cases hq)]
    exact hq
theorem LineQ.below {w wx wy : World} {need : List UInt8} {x : Stp} {nv0 v : Value} {j : Nat} {acc : List (List UInt8)} (h : LineQ w wx need x nv0 j acc v) (hb : Below wx.heap.size wx wy) : LineQ w wy need x nv0 j acc v :=
  ⟨(hb.block _ (by have := h.le; omega)).trans h.it, h.box.below hb h.box.lt, own_kept h.own hb, belSeq h.bel hb, Nat.le_trans h.le hb.size⟩
theorem LineQ.more {w wx w2 : World} {need : List UInt8} {x : Stp} {nv0 v v' : Value} {j : Nat} {acc : List (List UInt8)} {o : Obj} {y : List UInt8} (h : LineQ w wx need x nv0 j acc v) (hg : (wx.alloc o).grownBy w2 v.ownBlock)
    (ho : w2.ownsRow (w.heap.size + 1) 9 1 v' (acc.length + 1) (acc.map strV ++ [strV y])) : LineQ w w2 need x nv0 j (acc ++ [y]) v' := by
  have hlt := h.own.lt
  have hsz : wx.heap.size ≤ (wx.alloc o).heap.size := by simp
  have hle := h.le
  refine ⟨(hg.block _ (by omega) (fun e => ?_)).trans ((Below.heap_alloc _ _ _ (by omega)).trans h.it), (h.box.alloc).grown hg (fun e => by have := (hlt _ e.symm).1; omega), by rw [List.length_append, List.map_append]; exact ho,
    (h.bel.alloc h.bel.size _).grown hg (by simp; have := h.bel.size; omega) (fun q hq => by have := (hlt q hq).1; omega), by have := hg.size; omega⟩
  rcases h.own.2 with ⟨rfl, _⟩ | ⟨q, cap, cur, rfl, hB, hq, rest⟩
  · simp [Value.ownBlock] at e
  · simp [Value.ownBlock] at e
    rw [← e, h.it] at hq; cases hq
set_option maxRecDepth 100000 in
set_option maxHeartbeats 4000000 in
theorem line_any (x : Stp) (a : Option Addr) (c : Nat) (w : World) (hR : IntsR .i64 w (.slice a x.nums.length c) x.nums) (hb : ∀ n ∈ x.nums, 0 ≤ n ∧ n ≤ 1099511627776) (hc : numC ((needOf x.word).getD []) ≤ x.nums.length)
    (hl : (lineL x).length ≤ 1000000) (hd : x.data.length ≤ 400000) (he : EnvP w) :
    Calls Tryd.prog 15 #[stpV x (.slice a x.nums.length c)] w fun e w' => e = .returned (.string ⟨(lineL x).toArray⟩) ∧ Below w.heap.size w w' := by
  obtain ⟨i0, hi, hz0, hz1, hz2⟩ := info_parts info_s1
  have HLN : Hid (lineL x = joinBy 32 (x.word :: fieldsT ((needOf x.word).getD []) x.nums x)) := Lib.hid rfl
  have HND := Lib.hid (fun W => lneeds_any ⟨x.word.toArray⟩ W)
  rw [show (⟨x.word.toArray⟩ : ByteArray).data.toList = x.word from rfl] at HND
  have HN6 : Hid (((needOf x.word).getD []).length ≤ 6 ∧ ∀ c ∈ (needOf x.word).getD [], c = 87 ∨ c = 72 ∨ c = 69 ∨ c = 78) := Lib.hid (by
    cases h : needOf x.word with
    | none => exact ⟨by simp, fun c hc => by cases hc⟩
    | some need => exact ⟨(need_good _ (need_mem h)).2.2.1, (need_good _ (need_mem h)).2.2.2⟩)
  have HC := Lib.hid hc
  have HRR := Lib.hid hR
  have HBN := Lib.hid hb
  have HLL := Lib.hid hl
  have HE := Lib.hid he
  have HD := Lib.hid hd
  clear hc hR hb hl he hd
  generalize (needOf x.word).getD [] = need at *
  generalize (needOf x.word).isSome = isq at *
  generalize lineL x = LL at *
  have hn6 := HN6.out.1
  generalize hnv0 : Value.slice a x.nums.length c = nv0 at *
  have HQ0 : Hid (LineQ w (((w.alloc (.cells #[.string ⟨x.word.toArray⟩, nv0, .string ⟨x.ask.toArray⟩, .string ⟨x.data.toArray⟩] 34)).alloc (.cells #[strV x.word] 9)).iter ⟨need.toArray⟩ 0) need x nv0 0 [x.word] (.slice (some ⟨w.heap.size + 1, 0, none⟩) 1 1)) := Lib.hid (by
    have h1 : (w.alloc (.cells #[.string ⟨x.word.toArray⟩, nv0, .string ⟨x.ask.toArray⟩, .string ⟨x.data.toArray⟩] 34)).heap.size = w.heap.size + 1 := by simp
    have h2 := World.iter_heap ((w.alloc (.cells #[.string ⟨x.word.toArray⟩, nv0, .string ⟨x.ask.toArray⟩, .string ⟨x.data.toArray⟩] 34)).alloc (.cells #[strV x.word] 9)) ⟨need.toArray⟩ 0
    have h3 : ((w.alloc (.cells #[.string ⟨x.word.toArray⟩, nv0, .string ⟨x.ask.toArray⟩, .string ⟨x.data.toArray⟩] 34)).alloc (.cells #[strV x.word] 9)).heap.size = w.heap.size + 2 := by simp
    rw [h3] at h2
    have h4 : Below w.heap.size w ((w.alloc (.cells #[.string ⟨x.word.toArray⟩, nv0, .string ⟨x.ask.toArray⟩, .string ⟨x.data.toArray⟩] 34)).alloc (.cells #[strV x.word] 9)) := ((Below.refl _ _).alloc (Nat.le_refl _) _).alloc (by simp) _
    have h5 := own_one (w.alloc (.cells #[.string ⟨x.word.toArray⟩, nv0, .string ⟨x.ask.toArray⟩, .string ⟨x.data.toArray⟩] 34)) (w.heap.size + 1) x.word (by simp)
    rw [h1] at h5
    exact ⟨h2, ((BoxAt.new w 34 [.string ⟨x.word.toArray⟩, nv0, .string ⟨x.ask.toArray⟩, .string ⟨x.data.toArray⟩]).alloc).alloc, own_kept h5 ((Below.refl _ _).alloc (Nat.le_refl _) _), h4.alloc (by simp; omega) _, by have := (Array.getElem?_eq_some_iff.1 h2).1; omega⟩)
  unfold stpV
  go_enter Tryd.func15, Tryd.ntmps15
  go_wp2_with (first | (go_at_call 24; refine (HND.out _).mono ?_; rintro e w' ⟨rfl, rfl⟩))
  go_loopw [3, 4] (fun v nv wx => ∃ (j : Nat) (acc : List (List UInt8)) (ns : List Int) (vo vn : Value), vo = v ∧ vn = nv ∧ j ≤ need.length ∧ LineQ w wx need x nv0 j acc vo ∧ IntsR .i64 w vn ns ∧ Hid (acc ++ fieldsT (need.drop j) ns x = x.word :: fieldsT need x.nums x) ∧ Hid (numC (need.drop j) ≤ ns.length) ∧ Hid (∀ n ∈ ns, 0 ≤ n ∧ n ≤ 1099511627776) ∧ Hid (acc.length = j + 1)) (fun _ _ wx => need.length - wx.iterPos (w.heap.size + 2))
  case atStart => exact ⟨0, [x.word], x.nums, _, _, rfl, rfl, by omega, HQ0.out, HRR.out, Lib.hid rfl, HC, HBN, Lib.hid rfl⟩
  case round =>
    obtain ⟨j, acc, ns, vo, vn, rfl, rfl, hj, hq, hR, HF, HCN, HM, HAL⟩ := hrel
    have HQ := Lib.hid hq
    have hit := hq.it
    clear hq
    by_cases hlt : j < need.length
    · have hlt' : j < (⟨need.toArray⟩ : ByteArray).size := by rw [size_arr]; exact hlt
      have hgb : (⟨need.toArray⟩ : ByteArray)[j] = need[j] := rfl
      have hmem := HN6.out.2 _ (List.getElem_mem hlt)
      have hc7 : (need[j]'hlt).toNat < 128 := by rcases hmem with h | h | h | h <;> rw [h] <;> decide
      have hnx : ∀ ty, (Instr.next (.pointer (some ⟨w.heap.size + 2, 0, none⟩)) true ty).run Tryd.prog wr = .ok (.tuple #[.bool true, .int .i64 (j : Int), .int .i32 (((need[j]'hlt).toNat : Nat) : Int)]) (wr.iterAt (w.heap.size + 2) ⟨need.toArray⟩ (j + 1)) := fun ty => Lib.run_next_ascii_at (P := Tryd.prog) wr (w.heap.size + 2) ⟨need.toArray⟩ j ty hit hlt' (by rw [hgb]; exact hc7)
      have HQ1 := Lib.hid HQ.out.mid
      have hdn : need.drop j = need[j] :: need.drop (j + 1) := List.drop_eq_getElem_cons hlt
      have hF := HF.out
      have hC := HCN.out
      rw [hdn] at hF hC
      obtain ⟨b0, b1, b2, b3⟩ := HQ1.out.box.cells4
      have hown := HQ1.out.own
      have HIT := Lib.hid hit
      clear hdn hit HF HCN
      generalize wr.iterAt (w.heap.size + 2) ⟨need.toArray⟩ (j + 1) = w1 at *
      rcases hmem with hc | hc | hc | hc
      · rw [hc] at hF hC
        rw [hc] at hnx
        have HF2 : Hid ((acc ++ [x.ask]) ++ fieldsT (need.drop (j + 1)) ns x = x.word :: fieldsT need x.nums x) := Lib.hid (by rw [← hF]; simp [fieldsT])
        have HC2 : Hid (numC (need.drop (j + 1)) ≤ ns.length) := Lib.hid (by rw [numC_87] at hC; exact hC)
        clear hF hC hc hgb hc7
        go_wp2_with (at_builtin; refine wpList_append_own _ rfl _ _ 41 rfl (w.heap.size + 1) 9 i0 (.string ⟨#[]⟩) 1 16 Tryd.underlying41 hi hz0 hz1 hz2 rfl (by decide) _ _ _ rfl (hown.alloc _) ⟨w1.heap.size, 0, none⟩ 1 1 [strV x.ask] rfl rfl ?c1 ?c2 ?c3 ?c4 ?c5 ?_)
        case c1 => exact (cell_one_new _ _ _)
        case c2 => simp [Value.oneCell', strV]
        case c3 => have := HAL.out; unfold maxLen; omega
        case c4 => have := HAL.out; omega
        case c5 => have := HQ1.out.le; simp; omega
        intro v' w2 hown2 hgrow _
        have HQ2 := Lib.hid (HQ1.out.more hgrow hown2)
        clear hown hown2 hgrow HQ1 b0 b1 b2 b3
        go_wp2_with fail
        go_roundw
        case rel => exact ⟨j + 1, acc ++ [x.ask], ns, _, _, rfl, rfl, by omega, HQ2.out, hR, HF2, HC2, HM, Lib.hid (by have := HAL.out; simp; omega)⟩
        case measure => rw [iter_pos HQ2.out.it, iter_pos HIT.out]; omega
      · rw [hc] at hF hC
        rw [hc] at hnx
        have HF2 : Hid ((acc ++ [hexOf x.data]) ++ fieldsT (need.drop (j + 1)) ns x = x.word :: fieldsT need x.nums x) := Lib.hid (by rw [← hF]; simp [fieldsT])
        have HC2 : Hid (numC (need.drop (j + 1)) ≤ ns.length) := Lib.hid (by rw [numC_72] at hC; exact hC)
        have HHX := Lib.hid (fun W => hex_any ⟨x.data.toArray⟩ W (by rw [size_arr]; have := HD.out; omega))
        rw [show (⟨x.data.toArray⟩ : ByteArray).data.toList = x.data from rfl] at HHX
        clear hF hC hc hgb hc7
        go_wp2_with fail
        refine (HHX.out _).mono ?_
        rintro e w3 ⟨rfl, hb3⟩
        have HQ3 := Lib.hid (HQ1.out.below hb3)
        have hown3 := HQ3.out.own
        clear hb3 HHX HQ1 hown b0 b1 b2 b3
        go_wp2_with (at_builtin; refine wpList_append_own _ rfl _ _ 41 rfl (w.heap.size + 1) 9 i0 (.string ⟨#[]⟩) 1 16 Tryd.underlying41 hi hz0 hz1 hz2 rfl (by decide) _ _ _ rfl (hown3.alloc _) ⟨w3.heap.size, 0, none⟩ 1 1 [strV (hexOf x.data)] rfl rfl ?c1 ?c2 ?c3 ?c4 ?c5 ?_)
        case c1 => exact (cell_one_new _ _ _)
        case c2 => simp [Value.oneCell', strV]
        case c3 => have := HAL.out; unfold maxLen; omega
        case c4 => have := HAL.out; omega
        case c5 => have := HQ3.out.le; simp; omega
        intro v' w2 hown2 hgrow _
        have HQ2 := Lib.hid (HQ3.out.more hgrow hown2)
        clear hown3 hown2 hgrow HQ3
        go_wp2_with fail
        go_roundw
        case rel => exact ⟨j + 1, acc ++ [hexOf x.data], ns, _, _, rfl, rfl, by omega, HQ2.out, hR, HF2, HC2, HM, Lib.hid (by have := HAL.out; simp; omega)⟩
        case measure => rw [iter_pos HQ2.out.it, iter_pos HIT.out]; omega
      · rw [hc] at hF hC
        rw [hc] at hnx
        rw [numC_num _ _ (by decide) (by decide)] at hC
        cases ns with
        | nil => simp at hC
        | cons n ns =>
          have HF2 : Hid ((acc ++ [Lib.itoa n]) ++ fieldsT (need.drop (j + 1)) ns x = x.word :: fieldsT need x.nums x) := Lib.hid (by rw [← hF]; simp [fieldsT])
          have HC2 : Hid (numC (need.drop (j + 1)) ≤ ns.length) := Lib.hid (by simp at hC; exact hC)
          have hnr := HM.out n (by simp)
          have HM2 : Hid (∀ n ∈ ns, 0 ≤ n ∧ n ≤ 1099511627776) := Lib.hid (fun k hk => HM.out k (by simp [hk]))
          have HITO := Lib.hid (fun W (h : EnvP W) => itoaL n W (by omega) (by omega) h)
          have HE1 := Lib.hid ((HE.out.below HQ1.out.bel).below (Below.refl _ w1).drew)
          have HQ1D := Lib.hid (HQ1.out.below (Below.refl _ w1).drew)
          have hal := HAL.out
          obtain ⟨nb, no, nk, hnv, hnk, hnr2⟩ := hR.cells (by simp)
          subst hnv
          have h0 := hnr2 0 (by simp)
          simp only [List.length_cons] at hR hnk
          have HR2 : Hid (∃ pa, IntsR .i64 w (.slice (some ⟨nb, pa, none⟩) ns.length (nk - 1)) ns ∧ (pa = if nk = 1 then no else no + 1)) := Lib.hid ⟨_, by have := hR.tail; split <;> simp_all, rfl⟩
          have h1 : w1.cell? ⟨nb, no, none⟩ = some (.int .i64 n) := (HQ1.out.bel.cell (block_lt_of_cell h0)).trans h0
          have hnl1 : (0 : Int) < ((ns.length + 1 : Nat) : Int) := by omega
          have hnl2 : (1 : Int) ≤ (ns.length : Int) + 1 := by omega
          clear hF hC hc hgb hc7 hnr2 h0 hR HM
          simp only [List.length_cons]
          obtain ⟨pa, hpa1, hpa2⟩ := HR2.out
          have HR3 := Lib.hid hpa1
          clear hpa1 HR2
          rcases (by omega : nk = 1 ∨ 1 < nk) with hk1 | hk1
          all_goals
           (first | (subst hk1; obtain rfl : pa = no := hpa2; obtain rfl : ns = [] := List.eq_nil_of_length_eq_zero (by omega)) | (have hk2 : ¬ nk = 1 := (by omega); obtain rfl : pa = no + 1 := (by rw [hpa2, if_neg hk2])))
           try clear hpa2
           go_wp2_with fail
           go_region_law (first | (go_simp; go_at_call 26; refine (HITO.out _ HE1.out).mono ?_; rintro e w3 ⟨rfl, hb3⟩; have HQ3 := Lib.hid (HQ1D.out.below hb3); have hle3 := HQ3.out.le) | (refine step_append_lies _ (by rfl) _ _ _ (by rfl) (w.heap.size + 1) 9 i0 _ 1 16 Tryd.underlying41 hi hz0 hz1 hz2 rfl (by omega) vo acc.length (acc.map strV) (by rfl) ((HQ3.out.own.alloc _).drew) ⟨w3.heap.size, 0, none⟩ 1 1 [strV (Lib.itoa n)] (by rfl) (by rfl) (World.news_of_block (cs := #[strV (Lib.itoa n)]) (t := 9) (fr := (0, 0)) (heap_alloc_new w3 _)) (by simp [Value.oneCell', strV]) (by omega) (by unfold maxLen; omega) (by omega) (by simp; omega) (w3.heap.size + 1) (by simp) ?_; intro gg cap w5 hown5 hgrow hat hlt5))
           all_goals
             have HQ5 := Lib.hid (HQ3.out.more hgrow hown5)
             rw [hal] at HQ5
             clear hgrow hown5 HQ3 HQ1D HQ1
             go_simp
             go_wp2_with fail
             go_roundw
             case rel => exact ⟨j + 1, acc ++ [Lib.itoa n], _, _, _, rfl, rfl, by omega, HQ5.out, HR3.out, HF2, HC2, HM2, Lib.hid (by simp; omega)⟩
             case measure => rw [iter_pos HQ5.out.it, iter_pos HIT.out]; omega
      · rw [hc] at hF hC
        rw [hc] at hnx
        rw [numC_num _ _ (by decide) (by decide)] at hC
        cases ns with
        | nil => simp at hC
        | cons n ns =>
          have HF2 : Hid ((acc ++ [Lib.itoa n]) ++ fieldsT (need.drop (j + 1)) ns x = x.word :: fieldsT need x.nums x) := Lib.hid (by rw [← hF]; simp [fieldsT])
          have HC2 : Hid (numC (need.drop (j + 1)) ≤ ns.length) := Lib.hid (by simp at hC; exact hC)
          have hnr := HM.out n (by simp)
          have HM2 : Hid (∀ n ∈ ns, 0 ≤ n ∧ n ≤ 1099511627776) := Lib.hid (fun k hk => HM.out k (by simp [hk]))
          have HITO := Lib.hid (fun W (h : EnvP W) => itoaL n W (by omega) (by omega) h)
          have HE1 := Lib.hid ((HE.out.below HQ1.out.bel).below (Below.refl _ w1).drew)
          have HQ1D := Lib.hid (HQ1.out.below (Below.refl _ w1).drew)
          have hal := HAL.out
          obtain ⟨nb, no, nk, hnv, hnk, hnr2⟩ := hR.cells (by simp)
          subst hnv
          have h0 := hnr2 0 (by simp)
          simp only [List.length_cons] at hR hnk
          have HR2 : Hid (∃ pa, IntsR .i64 w (.slice (some ⟨nb, pa, none⟩) ns.length (nk - 1)) ns ∧ (pa = if nk = 1 then no else no + 1)) := Lib.hid ⟨_, by have := hR.tail; split <;> simp_all, rfl⟩
          have h1 : w1.cell? ⟨nb, no, none⟩ = some (.int .i64 n) := (HQ1.out.bel.cell (block_lt_of_cell h0)).trans h0
          have hnl1 : (0 : Int) < ((ns.length + 1 : Nat) : Int) := by omega
          have hnl2 : (1 : Int) ≤ (ns.length : Int) + 1 := by omega
          clear hF hC hc hgb hc7 hnr2 h0 hR HM
          simp only [List.length_cons]
          obtain ⟨pa, hpa1, hpa2⟩ := HR2.out
          have HR3 := Lib.hid hpa1
          clear hpa1 HR2
          rcases (by omega : nk = 1 ∨ 1 < nk) with hk1 | hk1
          all_goals
           (first | (subst hk1; obtain rfl : pa = no := hpa2; obtain rfl : ns = [] := List.eq_nil_of_length_eq_zero (by omega)) | (have hk2 : ¬ nk = 1 := (by omega); obtain rfl : pa = no + 1 := (by rw [hpa2, if_neg hk2])))
           try clear hpa2
           go_wp2_with fail
           go_region_law (first | (go_simp; go_at_call 26; refine (HITO.out _ HE1.out).mono ?_; rintro e w3 ⟨rfl, hb3⟩; have HQ3 := Lib.hid (HQ1D.out.below hb3); have hle3 := HQ3.out.le) | (refine step_append_lies _ (by rfl) _ _ _ (by rfl) (w.heap.size + 1) 9 i0 _ 1 16 Tryd.underlying41 hi hz0 hz1 hz2 rfl (by omega) vo acc.length (acc.map strV) (by rfl) ((HQ3.out.own.alloc _).drew) ⟨w3.heap.size, 0, none⟩ 1 1 [strV (Lib.itoa n)] (by rfl) (by rfl) (World.news_of_block (cs := #[strV (Lib.itoa n)]) (t := 9) (fr := (0, 0)) (heap_alloc_new w3 _)) (by simp [Value.oneCell', strV]) (by omega) (by unfold maxLen; omega) (by omega) (by simp; omega) (w3.heap.size + 1) (by simp) ?_; intro gg cap w5 hown5 hgrow hat hlt5))
           all_goals
             have HQ5 := Lib.hid (HQ3.out.more hgrow hown5)
             rw [hal] at HQ5
             clear hgrow hown5 HQ3 HQ1D HQ1
             go_simp
             go_wp2_with fail
             go_roundw
             case rel => exact ⟨j + 1, acc ++ [Lib.itoa n], _, _, _, rfl, rfl, by omega, HQ5.out, HR3.out, HF2, HC2, HM2, Lib.hid (by simp; omega)⟩
             case measure => rw [iter_pos HQ5.out.it, iter_pos HIT.out]; omega
    · have hnx := fun ty => Lib.run_next_end_at (P := Tryd.prog) wr (w.heap.size + 2) ⟨need.toArray⟩ j ty hit (by rw [size_arr]; exact hlt)
      have hF := HF.out
      rw [List.drop_of_length_le (by omega)] at hF
      simp only [fieldsT, List.append_nil] at hF
      have HJ := HLN.out
      rw [← hF] at HJ
      obtain ⟨g, cap, rfl⟩ := own_some HQ.out.own (by have := HAL.out; omega)
      have HJN := Lib.hid (joinL g cap (w.heap.size + 1) acc 32 wr HQ.out.own (by have := HAL.out; omega) (by rw [← HJ]; have := HLL.out; omega))
      rw [← HJ] at HJN
      have HB := Lib.hid HQ.out.bel
      clear hF HJ hit HF HLN
      go_wp2_with fail
      refine HJN.out.mono ?_
      rintro e w2 ⟨rfl, hb2⟩
      have HB2 := Lib.hid (belSeq HB.out hb2)
      clear hb2
      go_wp2_with fail
      go_ret
      exact ⟨rfl, HB2.out⟩
end Go.Proofs.YtgilbdhoddmpbaaDoor
