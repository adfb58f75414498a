/-
  Contracts of strings.Split at one byte, and of trace.nums.
-/
import Derived.Test.YtohenohgceaibaaGreatDoorTrList
import Derived.Test.YtohenohgceaibaaGreatDoorTrNum
import Derived.Test.YtohenohgceaibaaGreatDoorBox
set_option linter.unusedVariables false
set_option linter.unusedSimpArgs false
namespace Go.Proofs.YtohenohgceaibaaGreatDoor
open Go.RowKit

/-- strings.Split at one byte: a new row of the pieces. -/
theorem split_any (s : ByteArray) (c : UInt8) (w : World) (hs : s.size ≤ 1000000) (he : Env w) :
    Calls Tryz.prog 31 #[.string s, .string ⟨#[c]⟩] w fun e w' => e = .returned (.slice (some ⟨w.heap.size, 0, none⟩) (splitBy c s.data.toList).length (splitBy c s.data.toList).length) ∧ w' = w.alloc (.cells ((splitBy c s.data.toList).map strV).toArray 9) := by
  obtain ⟨m, hm⟩ := he.most
  refine (Tryz.strings_Split s ⟨#[c]⟩ m w (by omega) hm (by show 1 ≤ 1; omega)).mono ?_
  rintro e w' ⟨h1, h2⟩
  have hb := splitB_by c s
  have hl : (splitBy c s.data.toList).length = Lib.countB s ⟨#[c]⟩ + 1 := by
    rw [← hb, List.length_map]
    exact Lib.splitB_all ⟨#[c]⟩ (by show 1 ≤ 1; omega) 0 _ s rfl
  have hm2 : (Lib.splitB ⟨#[c]⟩ 0 (Lib.countB s ⟨#[c]⟩) s).map Value.string = (splitBy c s.data.toList).map strV := by
    rw [← hb, List.map_map]
    apply List.map_congr_left
    intro x hx
    show Value.string x = Value.string ⟨x.data.toList.toArray⟩
    rfl
  rw [hl, h1, h2, hm2]
  exact ⟨rfl, rfl⟩
theorem numList_snoc (a : List (List UInt8)) (w : List UInt8) : numList (a ++ [w]) = match numList a, numOf [] w with
    | some l, some v => some (l ++ [v])
    | _, _ => none := by
  induction a with
  | nil => show (match numOf [] w with | none => none | some v => (numList []).map (v :: ·)) = _; simp only [numList]; cases numOf [] w <;> rfl
  | cons x t ih =>
    show (match numOf [] x with | none => none | some v => (numList (t ++ [w])).map (v :: ·)) = match (match numOf [] x with | none => none | some v => (numList t).map (v :: ·)), numOf [] w with | some l, some v => some (l ++ [v]) | _, _ => none
    cases hx : numOf [] x with
    | none => rfl
    | some v =>
      simp only
      rw [ih]
      cases numList t <;> cases numOf [] w <;> rfl
theorem numList_pre (a b : List (List UInt8)) (h : numList a = none) : numList (a ++ b) = none := by
  induction a with
  | nil => cases h
  | cons x t ih =>
    show (match numOf [] x with | none => none | some v => (numList (t ++ b)).map (v :: ·)) = none
    cases hx : numOf [] x with
    | none => rfl
    | some v =>
      simp only
      have : numList t = none := by
        have h' : (match numOf [] x with | none => none | some v => (numList t).map (v :: ·)) = none := h
        rw [hx] at h'
        simpa using h'
      rw [ih this]; rfl
theorem info_num : (Tryz.prog.info? 28).map (fun i => (i.zero, i.size, i.bytes)) = some (some (.int .u32 0), 1, 4) := by kernel_rfl
def NumsEnd (R : Option (List Int)) (w : World) (e : Ending) (w' : World) : Prop :=
  Below w.heap.size w w' ∧ match R with
    | some l => ∃ v, e = .returned (.tuple #[v, .bool true]) ∧ w'.ownsRow w.heap.size 28 1 v l.length (l.map (Value.int .u32))
    | none => e = .returned (.tuple #[.slice none 0 0, .bool false])
theorem nums_ok {R : Option (List Int)} {w w' : World} {e : Ending} {l : List Int} {v : Value} (h : R = some l) (hb : Below w.heap.size w w') (ho : w'.ownsRow w.heap.size 28 1 v l.length (l.map (Value.int .u32))) (he : e = .returned (.tuple #[v, .bool true])) : NumsEnd R w e w' := by
  subst h; exact ⟨hb, v, he, ho⟩
theorem nums_no {R : Option (List Int)} {w w' : World} {e : Ending} (h : R = none) (hb : Below w.heap.size w w') (he : e = .returned (.tuple #[.slice none 0 0, .bool false])) : NumsEnd R w e w' := by
  subst h; exact ⟨hb, he⟩
def NumsRel (w w2 : World) (ws : List (List UInt8)) (acc : List Int) (v : Value) (wx : World) : Prop :=
  wx.ownsRow w.heap.size 28 1 v acc.length (acc.map (Value.int .u32)) ∧ Below w.heap.size w wx ∧ BoxAt wx w2.heap.size 9 (ws.map strV)
set_option maxRecDepth 100000 in
set_option maxHeartbeats 2000000 in
theorem nums_any (s : ByteArray) (w : World) (hs : s.size ≤ 1000000) (he : Env w) : Calls Tryz.prog 49 #[.string s] w (NumsEnd (numsOf s.data.toList) w) := by
  obtain ⟨i0, hi, hz0, hz1, hz2⟩ := info_parts info_num
  have HCP := Lib.hid (fun w => Tryz.strings_CutPrefix s ⟨#[108]⟩ w)
  have hTz : (⟨(Lib.trimPrefix s.data.toList [108]).toArray⟩ : ByteArray).size ≤ 1000000 := by
    rw [size_arr]
    unfold Lib.trimPrefix
    split
    · rw [List.length_drop, size_len]; omega
    · rw [size_len]; omega
  have HE := Lib.hid he
  have HN : Hid (numsOf s.data.toList = if Lib.hasPrefix s.data.toList [108] = true then (if (⟨(Lib.trimPrefix s.data.toList [108]).toArray⟩ : ByteArray).data.toList = [45] then some [] else numList (splitBy 44 (⟨(Lib.trimPrefix s.data.toList [108]).toArray⟩ : ByteArray).data.toList)) else none) := Lib.hid rfl
  have HCP2 : Hid (∀ w, Calls Tryz.prog 50 #[.string s, .string ⟨#[108]⟩] w fun e w' => e = .returned (.tuple #[.string ⟨(Lib.trimPrefix s.data.toList [108]).toArray⟩, .bool (Lib.hasPrefix s.data.toList [108])]) ∧ w' = w) := Lib.hid (fun w => HCP.out w)
  clear HCP he
  generalize numsOf s.data.toList = RN at *
  generalize Lib.hasPrefix s.data.toList [108] = HP at *
  generalize (⟨(Lib.trimPrefix s.data.toList [108]).toArray⟩ : ByteArray) = T at *
  go_enter Tryz.func49, Tryz.ntmps49
  go_wp2_with fail
  refine (HCP2.out _).mono ?_
  rintro e w1 ⟨rfl, hw⟩
  obtain rfl := hw
  cases HP with
  | false =>
    have HR : Hid (RN = none) := Lib.hid (by rw [HN.out, if_neg (by simp)])
    clear HN
    go_wp2_with fail
    go_ret2
    exact nums_no HR.out (Below.refl _ _) rfl
  | true =>
    by_cases h45 : T.data.toList = [45]
    · have HR : Hid (RN = some []) := Lib.hid (by rw [HN.out, if_pos rfl, if_pos h45])
      have hq : (T.toList == [45]) = true := by rw [Lib.toList_data, h45]; rfl
      clear HN h45
      go_wp2_with fail
      go_ret2
      exact nums_ok HR.out (Below.refl _ _) (World.ownsRow_nil _ _ _ _) rfl
    · have HR : Hid (RN = numList (splitBy 44 T.data.toList)) := Lib.hid (by rw [HN.out, if_pos rfl, if_neg h45])
      have hq : (T.toList == [45]) = false := by rw [Lib.toList_data]; exact beq_eq_false_iff_ne.2 h45
      clear HN h45
      have HSP := Lib.hid (split_any T 44 w1 hTz HE.out)
      have hwl : (splitBy 44 T.data.toList).length ≤ 1000001 := by
        rw [splitBy_length]
        have := List.count_le_length (a := (44 : UInt8)) (l := T.data.toList)
        rw [size_len] at this; omega
      have HPL : Hid (∀ x ∈ splitBy 44 T.data.toList, x.length ≤ 1000000) := Lib.hid (fun x hx => by
        have := splitBy_le 44 T.data.toList x hx
        rw [size_len] at this; omega)
      generalize splitBy 44 T.data.toList = ws at *
      go_wp2_with fail
      refine HSP.out.mono ?_
      rintro e w2 ⟨rfl, hw2⟩
      have HR0 := Lib.hid (show NumsRel w1 w1 ws [] (.slice none 0 0) w2 from ⟨World.ownsRow_nil _ _ _ _, by rw [hw2]; exact (Below.refl _ _).alloc (Nat.le_refl _) _, by rw [hw2]; exact BoxAt.new w1 9 (ws.map strV)⟩)
      clear hw2 HSP
      go_wp2_with fail
      go_loopw [5, 25] (fun v i wx => ∃ (j : Nat) (acc : List Int), j ≤ ws.length ∧ i = .int .i64 j ∧ acc.length = j ∧ Hid (numList (ws.take j) = some acc) ∧ NumsRel w1 w1 ws acc v wx) (fun _ i _ => ws.length - (intOf i).toNat)
      case atStart => exact ⟨0, [], by omega, rfl, rfl, Lib.hid rfl, HR0.out⟩
      case round =>
        clear HR0
        obtain ⟨j, acc, hj, rfl, haj, hnl, hown, hbel, hbx⟩ := hrel
        have HAJ := Lib.hid haj
        have HO := Lib.hid hown
        have HB := Lib.hid hbel
        have HX := Lib.hid hbx
        clear haj hown hbel hbx
        by_cases hlt : j < ws.length
        · have hcell : wr.cell? ⟨w1.heap.size, j, none⟩ = some (strV ws[j]) := by
            rw [HX.out.cell]; simp [hlt]
          have hlj := HPL.out ws[j] (List.getElem_mem hlt)
          have HTK : Hid (numList (ws.take (j + 1)) = match numOf [] ws[j] with
            | some v => some (acc ++ [v])
            | none => none) := Lib.hid (by
              rw [List.take_succ_eq_append_getElem hlt, numList_snoc, hnl.out]; cases numOf [] ws[j] <;> rfl)
          have HDR : Hid (numList (ws.take (j + 1)) = none → numList ws = none) := Lib.hid (fun h => by
            have := numList_pre (ws.take (j + 1)) (ws.drop (j + 1)) h
            rwa [List.take_append_drop] at this)
          have HNM := Lib.hid (fun W (h : Env W) => number_any ⟨ws[j].toArray⟩ ⟨#[]⟩ W (by rw [size_arr]; omega) h)
          unfold strV at hcell
          generalize ws[j] = x at *
          go_wp2_with fail
          refine (HNM.out _ (HE.out.below HB.out)).mono ?_
          rintro e w3 ⟨hb3, hpost⟩
          have HB3 := Lib.hid (belSeq HB.out hb3)
          have HO3 := Lib.hid (own_below HO.out hb3)
          have HX3 := Lib.hid (HX.out.below hb3 HX.out.lt)
          clear hb3 HO HB HX
          cases hno : numOf [] x with
          | none =>
            rw [hno] at hpost HTK
            obtain ⟨n, hn1, hn2, rfl⟩ := hpost
            have HRN : Hid (RN = none) := Lib.hid (by rw [HR.out]; exact HDR.out HTK.out)
            clear hno
            go_wp2_with fail
            go_ret2
            exact nums_no HRN.out HB3.out rfl
          | some v =>
            rw [hno] at hpost HTK
            simp only at hpost
            obtain rfl := hpost
            have hv := (numOf_iff [] x v).1 hno
            have HOF : Hid (∀ W, Calls Tryz.prog 48 #[.int .i64 v] W fun e w' => e = .returned (.int .u32 v) ∧ W = w') := Lib.hid (fun W => by
              have := of_any v W
              rwa [show v % 16777216 = v by omega] at this)
            clear hno
            go_wp2_with fail
            refine (HOF.out _).mono ?_
            rintro e w3' ⟨rfl, rfl⟩
            have haj := HAJ.out
            have hown1 := HO3.out
            go_wp2_with (at_builtin; refine wpList_append_own _ rfl _ _ 29 rfl w1.heap.size 28 i0 (.int .u32 0) 1 4 Tryz.underlying29 hi hz0 hz1 hz2 rfl (by decide) _ _ _ rfl (hown1.alloc _) ⟨w3.heap.size, 0, none⟩ 1 1 [.int .u32 v] rfl rfl ?c1 ?c2 ?c3 ?c4 ?c5 ?_)
            case c1 => exact (cell_one_new _ _ _)
            case c2 => simp [Value.oneCell']
            case c3 => unfold maxLen; omega
            case c4 => omega
            case c5 => have := HB3.out.size; simp; omega
            intro v' w4 hown2 hgrow hnil
            have HO4 : Hid (w4.ownsRow w1.heap.size 28 1 v' (acc ++ [v]).length ((acc ++ [v]).map (Value.int .u32))) := Lib.hid (by rw [List.length_append, haj]; simpa using hown2)
            have HB4 : Hid (Below w1.heap.size w1 w4) := Lib.hid ((HB3.out.alloc HB3.out.size _).grown hgrow (by simp; have := HB3.out.size; omega) (fun q hq => (hown1.lt q hq).1))
            have HX4 : Hid (BoxAt w4 w1.heap.size 9 (ws.map strV)) := Lib.hid (HX3.out.alloc.grown hgrow (by
              rcases hown1.2 with ⟨rfl, _⟩ | ⟨g, cap, cur, rfl, _, hg, _⟩
              · simp [Value.ownBlock]
              · simp only [Value.ownBlock, ne_eq, Option.some.injEq]
                intro e
                subst e
                have hh := HX3.out
                unfold BoxAt at hh
                rw [hg] at hh
                simp only [Option.some.injEq, Obj.cells.injEq] at hh
                exact absurd hh.2.1 (by decide)))
            have HAL : Hid ((acc ++ [v]).length = j + 1) := Lib.hid (by simp [haj])
            clear hown1 hown2 hgrow hnil HO3 HB3 HX3 haj
            go_wp2_with fail
            go_roundw
            case rel => exact ⟨j + 1, acc ++ [v], by omega, by go_num, HAL.out, Lib.hid HTK.out, HO4.out, HB4.out, HX4.out⟩
            case measure => simp [intOf]; omega
        · have HRN : Hid (RN = some acc) := Lib.hid (by rw [HR.out, ← hnl.out, List.take_of_length_le (by omega)])
          go_wp2_with fail
          go_ret2
          exact nums_ok HRN.out HB.out HO.out rfl
end Go.Proofs.YtohenohgceaibaaGreatDoor
