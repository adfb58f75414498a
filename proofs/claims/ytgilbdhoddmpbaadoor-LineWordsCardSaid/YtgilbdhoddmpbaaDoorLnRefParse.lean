/-
  The document's Parse (layer 23).
-/
import Derived.Test.YtgilbdhoddmpbaaDoorLnRefOne
import Derived.Deep.AppendLies
set_option linter.unusedVariables false
set_option linter.unusedSimpArgs false
namespace Go.Proofs.YtgilbdhoddmpbaaDoor
open Go.RowKit

/-- A row of steps, of a call's own. -/
structure RStpsAt (w : World) (B : Nat) (v : Value) (xs : List Stp) (nvs : List Value) : Prop where
  len : nvs.length = xs.length
  row : w.ownsRow B 32 4 v xs.length (stpCs xs nvs)
  nums : ∀ j (h : j < xs.length), ∃ nv, nvs[j]? = some nv ∧ w.ownsRow B 3 1 nv xs[j].nums.length (numV xs[j].nums)
theorem RStpsAt.nil (w : World) (B : Nat) : RStpsAt w B (.slice none 0 0) [] [] := ⟨rfl, World.ownsRow_nil _ _ _ _, fun j h => by simp at h⟩
theorem RStpsAt.kept {w w' : World} {B : Nat} {v : Value} {xs : List Stp} {nvs : List Value} {row : Option Nat} (h : RStpsAt w B v xs nvs) (hg : w.grownBy w' row) (hr : ∀ r, row = some r → r < B ∨ ∀ cur T, w.heap[r]? ≠ some (.cells cur T (0, 0))) : RStpsAt w' B v xs nvs :=
  ⟨h.len, row_kept h.row hg (fun r e => (hr r e).imp id (fun k cur => k cur _)), fun j hj => by
    obtain ⟨nv, h1, h2⟩ := h.nums j hj
    exact ⟨nv, h1, row_kept h2 hg (fun r e => (hr r e).imp id (fun k cur => k cur _))⟩⟩
theorem RStpsAt.below {w w' : World} {B : Nat} {v : Value} {xs : List Stp} {nvs : List Value} (h : RStpsAt w B v xs nvs) (hb : Below w.heap.size w w') : RStpsAt w' B v xs nvs :=
  h.kept (grown_of_below hb) (fun r e => by cases e)
theorem RStpsAt.low {w : World} {B C : Nat} {v : Value} {xs : List Stp} {nvs : List Value} (h : RStpsAt w B v xs nvs) (hc : C ≤ B) : RStpsAt w C v xs nvs :=
  ⟨h.len, by
    obtain ⟨h1, h2 | ⟨q, cap, cur, hv, hB, hq, rest⟩⟩ := h.row
    · exact ⟨h1, .inl h2⟩
    · exact ⟨h1, .inr ⟨q, cap, cur, hv, by omega, hq, rest⟩⟩, fun j hj => by
    obtain ⟨nv, h1, h2⟩ := h.nums j hj
    exact ⟨nv, h1, own_low h2 hc⟩⟩
/-- One more step: the row has grown. -/
theorem RStpsAt.snoc {w w' : World} {B : Nat} {v v' nv : Value} {xs : List Stp} {nvs : List Value} {x : Stp} (h : RStpsAt w B v xs nvs) (hx : w.ownsRow B 3 1 nv x.nums.length (numV x.nums)) (hg : w.grownBy w' v.ownBlock)
    (hr : w'.ownsRow B 32 4 v' (xs.length + 1) (stpCs xs nvs ++ stpC x nv)) : RStpsAt w' B v' (xs ++ [x]) (nvs ++ [nv]) := by
  have hty : ∀ r, v.ownBlock = some r → r < B ∨ ∀ cur, w.heap[r]? ≠ some (.cells cur 3 (0, 0)) := fun r e => .inr fun cur hc => by
    rcases h.row.2 with ⟨rfl, _⟩ | ⟨g, cap, cur', rfl, hb, hgb, _⟩
    · simp [Value.ownBlock] at e
    · simp [Value.ownBlock] at e; subst e
      rw [hgb] at hc; simp at hc
  refine ⟨by simp [h.len], by rw [stpCs_snoc _ _ _ _ h.len, List.length_append]; exact hr, fun j hj => ?_⟩
  by_cases hj1 : j < xs.length
  · obtain ⟨u, h1, h2⟩ := h.nums j hj1
    exact ⟨u, by rw [List.getElem?_append_left (by rw [h.len]; exact hj1)]; exact h1, by rw [List.getElem_append_left hj1]; exact row_kept h2 hg hty⟩
  · have hj2 : j = xs.length := by simp at hj; omega
    subst hj2
    exact ⟨nv, by rw [← h.len]; simp, by simp; exact row_kept hx hg hty⟩
theorem RStpsAt.at {w : World} {B : Nat} {v : Value} {xs : List Stp} {nvs : List Value} (h : RStpsAt w B v xs nvs) {g n c : Nat} (hv : v = .slice (some ⟨g, 0, none⟩) n c) {j : Nat} (hj : j < xs.length) : ∃ na nc, StpIn w g (4 * j) xs[j] na nc := by
  obtain ⟨nv, h1, h2⟩ := h.nums j hj
  obtain ⟨na, nc, rfl⟩ := own_form h2
  have hc := @World.ownsRow.cells _ _ _ _ _ _ _ h.row g (by rw [hv]; rfl)
  have key : ∀ i u, i < 4 → (stpC xs[j] (.slice na xs[j].nums.length nc))[i]? = some u → w.cell? ⟨g, 4 * j + i, none⟩ = some u := fun i u hi hu => by
    have := hc (4 * j + i) u (by rw [stpCs_at hj h1 i hi]; exact hu)
    rwa [add_addr] at this
  exact ⟨na, nc, key 0 _ (by omega) rfl, key 1 _ (by omega) rfl, key 2 _ (by omega) rfl, key 3 _ (by omega) rfl, numR h2⟩
/-- How a row of steps is written. -/
theorem RStpsAt.form {w : World} {B : Nat} {v : Value} {xs : List Stp} {nvs : List Value} (h : RStpsAt w B v xs nvs) : ∃ a c, v = .slice a xs.length c ∧ xs.length ≤ c ∧ (0 < xs.length → ∃ g, a = some ⟨g, 0, none⟩ ∧ B ≤ g ∧ g < w.heap.size) := by
  rcases h.row.2 with ⟨rfl, h0⟩ | ⟨g, cap, cur, rfl, hb, hg, hc, _⟩
  · rw [h0]; exact ⟨none, 0, rfl, Nat.le_refl _, fun h => by omega⟩
  · exact ⟨_, cap, rfl, hc, fun _ => ⟨g, rfl, hb, lt_of_block hg⟩⟩
theorem info_rstp : (Tryd.prog.info? 32).map (fun i => (i.zero, i.size, i.bytes)) = some (some (.agg #[.string .empty, .slice none 0 0, .string .empty, .string .empty]), 4, 72) := by kernel_rfl
def RparseEnd (R : List Stp × Nat × Bool) (w : World) (e : Ending) (w' : World) : Prop :=
  Below w.heap.size w w' ∧ ∃ v nvs, e = .returned (.tuple #[v, .int .i64 (R.2.1 : Int), .bool R.2.2]) ∧ RStpsAt w' w.heap.size v R.1 nvs
theorem rparse_no {R : List Stp × Nat × Bool} {w w' : World} {e : Ending} {n : Nat} (h : R = ([], n, false)) (hb : Below w.heap.size w w') (he : e = .returned (.tuple #[.slice none 0 0, .int .i64 (n : Int), .bool false])) : RparseEnd R w e w' := by
  subst h; exact ⟨hb, _, [], he, RStpsAt.nil _ _⟩
theorem rparse_ok {R : List Stp × Nat × Bool} {w w' : World} {e : Ending} {xs : List Stp} {v : Value} {nvs : List Value} (h : R = (xs, 0, true)) (hb : Below w.heap.size w w') (hs : RStpsAt w' w.heap.size v xs nvs) (he : e = .returned (.tuple #[v, .int .i64 0, .bool true])) : RparseEnd R w e w' := by
  subst h; exact ⟨hb, _, nvs, he, hs⟩
theorem row_not {w : World} {B B' E E' sz sz' n n' : Nat} {v : Value} {xs xs' : List Value} {g c : Nat} (h : w.ownsRow B E sz (.slice (some ⟨g, 0, none⟩) n c) n xs) (h' : w.ownsRow B' E' sz' v n' xs') (hE : E ≠ E') : some g ≠ v.ownBlock := fun e => by
  rcases h.2 with ⟨hv, _⟩ | ⟨g1, c1, cur1, hv, _, hg1, _⟩
  · cases hv
  · cases hv
    rcases h'.2 with ⟨rfl, _⟩ | ⟨g2, c2, cur2, rfl, _, hg2, _⟩
    · simp [Value.ownBlock] at e
    · simp [Value.ownBlock] at e; subst e
      rw [hg1] at hg2; simp at hg2; exact hE hg2.2
theorem skip_head {l : List UInt8} (h : skipL l = true) (hp : 0 < l.length) : l[0]'hp = 35 := by
  cases l with
  | nil => simp at hp
  | cons a t => simpa [skipL] using h
theorem skip_of {l : List UInt8} (hp : 0 < l.length) (h : l[0]'hp = 35) : skipL l = true := by
  cases l with
  | nil => simp at hp
  | cons a t => simp at h; simp [skipL, h]
theorem tk_succ {l : List (List UInt8)} {j : Nat} (h : j < l.length) : l.take (j + 1) = l.take j ++ [l[j]] := List.take_succ_eq_append_getElem h
set_option maxRecDepth 100000 in
set_option maxHeartbeats 4000000 in
theorem rparse_any (s : ByteArray) (w : World) (hs : s.size ≤ 100000) :
    Calls Tryd.prog 11 #[.string s] w (RparseEnd (parseL s.data.toList) w) := by
  obtain ⟨i0, hi, hz0, hz1, hz2⟩ := info_parts info_rstp
  have HRES : Hid (parseL s.data.toList = scanL 0 [] (splitBy 10 s.data.toList)) := Lib.hid rfl
  have HSP := Lib.hid (fun W => rsplit_any s 10 W (by omega))
  have hwl : (splitBy 10 s.data.toList).length ≤ 100001 := by
    rw [splitBy_length]
    have := List.count_le_length (a := (10 : UInt8)) (l := s.data.toList)
    rw [size_len] at this; omega
  have HPL : Hid (∀ x ∈ splitBy 10 s.data.toList, x.length ≤ 100000) := Lib.hid (fun x hx => by
    have := splitBy_le 10 s.data.toList x hx
    rw [size_len] at this; omega)
  generalize parseL s.data.toList = RN at *
  generalize splitBy 10 s.data.toList = ws at *
  unfold RsplitEnd at HSP
  rw [show (((10 : UInt8).toNat : Nat) : Int) = 10 from rfl] at HSP
  go_enter Tryd.func11, Tryd.ntmps11
  go_wp2_with fail
  refine (HSP.out _).mono ?_
  rintro e w1 ⟨hb1, g, wc, rfl, ho1⟩
  have hgl := ho1.lt g rfl
  have HB1 := Lib.hid (belSeq ((Below.refl w.heap.size w).alloc (Nat.le_refl _) (.cells #[] 32)) hb1)
  have HO1 : Hid (w1.ownsRow (w.heap.size + 1) 9 1 (.slice (some ⟨g, 0, none⟩) ws.length wc) ws.length (ws.map strV)) := Lib.hid (by simpa using ho1)
  have HST0 : Hid (RStpsAt w1 w.heap.size (.slice (some ⟨w.heap.size, 0, none⟩) 0 0) [] []) := Lib.hid (by
    have h0 := World.ownsRow_made (e := 32) (size := 4) (base := w.heap.size) w #[] 0 (Nat.le_refl _) (by decide) rfl
    exact ⟨rfl, row_kept h0 (grown_of_below hb1) (fun r e => by cases e), fun j h => by simp at h⟩)
  clear hgl hb1 ho1 HSP
  go_wp2_with fail
  go_loopw [5, 14] (fun v i wx => ∃ (j : Nat) (out : List Stp) (nvs : List Value), i = .int .i64 (j : Int) ∧ j ≤ ws.length ∧ Hid (Scd (ws.take j) out) ∧ out.length ≤ 400 ∧ Hid (wx.heap[g]? = w1.heap[g]?) ∧ RStpsAt wx w.heap.size v out nvs ∧ Below w.heap.size w wx) (fun _ i _ => ws.length - (intOf i).toNat)
  case atStart => exact ⟨0, [], [], rfl, by omega, Lib.hid Scd.nil, by simp, Lib.hid rfl, HST0.out, HB1.out⟩
  case round =>
    obtain ⟨j, out, nvs, rfl, hj, HSC, hol, HG, hst, hbel⟩ := hrel
    obtain ⟨va, vc, rfl⟩ := own_form hst.row
    have HST := Lib.hid hst
    have HBL := Lib.hid hbel
    clear hst hbel HST0
    by_cases hlt : j < ws.length
    · have hcell : wr.cell? ⟨g, j, none⟩ = some (.string ⟨(ws[j]).toArray⟩) := by
        rw [World.cell?_of_block HG.out, HO1.out.cellAt j (by omega)]; simp [hlt, strV]
      have hlt1 : (j : Int) < (ws.length : Int) := by omega
      have hxl := HPL.out _ (List.getElem_mem hlt)
      have HTK := Lib.hid (tk_succ hlt)
      have HS : Hid ((⟨(ws[j]).toArray⟩ : ByteArray).data.toList = ws[j]) := Lib.hid rfl
      have HSZ : Hid ((⟨(ws[j]).toArray⟩ : ByteArray).size = (ws[j]).length) := Lib.hid (size_arr _)
      have HGI : Hid (∀ h0 : 0 < (ws[j]).length, (⟨(ws[j]).toArray⟩ : ByteArray)[0]'(by rw [size_arr]; exact h0) = (ws[j])[0]'h0) := Lib.hid (fun _ => rfl)
      have HPF : Hid (ws.take (j + 1) <+: ws) := Lib.hid (List.take_prefix _ _)
      have HLN : Hid ((ws.take j).length = j) := Lib.hid (by rw [List.length_take]; omega)
      have HONE := Lib.hid (fun W => rone_any ⟨(ws[j]).toArray⟩ W (by rw [size_arr]; exact hxl))
      rw [show (⟨(ws[j]).toArray⟩ : ByteArray).data.toList = ws[j] from rfl] at HONE
      rw [HTK.out] at HPF
      by_cases hk : skipL ws[j] = true
      · have HN := Lib.hid (HSC.out.skip hk)
        rw [← HTK.out] at HN
        by_cases hx0 : ws[j] = []
        · have hq : (⟨(ws[j]).toArray⟩ : ByteArray).toList.isEmpty = true := by rw [Lib.toList_data, HS.out, hx0]; rfl
          clear hk hx0 HONE HGI HSZ HS HPF HTK
          generalize (⟨(ws[j]).toArray⟩ : ByteArray) = X at *
          go_wp2_with fail
          go_roundw
          case rel => exact ⟨j + 1, out, nvs, by go_num, by omega, HN, hol, HG, HST.out, HBL.out⟩
          case measure => simp [intOf]; omega
        · have hq : (⟨(ws[j]).toArray⟩ : ByteArray).toList.isEmpty = false := by rw [Lib.toList_data, HS.out]; simpa using hx0
          have hxp : 0 < (ws[j]).length := List.length_pos_iff.2 hx0
          have hxs : 0 < (⟨(ws[j]).toArray⟩ : ByteArray).size := by rw [HSZ.out]; exact hxp
          have h35 : (((⟨(ws[j]).toArray⟩ : ByteArray)[0]'hxs).toNat : Int) == 35 := by
            have h1 := HGI.out hxp
            have h2 : (ws[j])[0]'hxp = 35 := skip_head hk hxp
            rw [h1, h2]; rfl
          clear hk hx0 HONE HGI HSZ HS HPF HTK
          generalize (⟨(ws[j]).toArray⟩ : ByteArray) = X at *
          go_wp2_with fail
          go_roundw
          case rel => exact ⟨j + 1, out, nvs, by go_num, by omega, HN, hol, HG, HST.out, HBL.out⟩
          case measure => simp [intOf]; omega
      · have HSK : Hid (skipL ws[j] = false) := Lib.hid (by simpa using hk)
        have hx0 : ws[j] ≠ [] := fun e => by rw [e] at hk; simp [skipL] at hk
        have hq : (⟨(ws[j]).toArray⟩ : ByteArray).toList.isEmpty = false := by rw [Lib.toList_data, HS.out]; simpa using hx0
        have hxp : 0 < (ws[j]).length := List.length_pos_iff.2 hx0
        have hxs : 0 < (⟨(ws[j]).toArray⟩ : ByteArray).size := by rw [HSZ.out]; exact hxp
        have h35 : ((((⟨(ws[j]).toArray⟩ : ByteArray)[0]'hxs).toNat : Int) == 35) = false := by
          have h1 := HGI.out hxp
          rw [h1]
          exact beq_eq_false_iff_ne.2 (fun e => hk (skip_of hxp (UInt8.toNat_inj.1 (by show _ = 35; omega))))
        have HBADN := Lib.hid (fun hx => (HSC.out.bad HSK.out hx).all HPF.out)
        have HLN2 : Hid ((ws.take j ++ [ws[j]]).length = j + 1) := Lib.hid (by rw [List.length_append, HLN.out]; rfl)
        rw [HLN2.out] at HBADN
        have HSTEP := Lib.hid (fun y hy h4 => HSC.out.step HSK.out (y := y) hy h4)
        rw [← HTK.out] at HSTEP
        clear hk hx0 hxp HGI HSZ HS HPF HTK HSC HLN HLN2
        generalize (⟨(ws[j]).toArray⟩ : ByteArray) = X at *
        generalize ws[j] = x at *
        unfold StepEnd at HONE
        go_wp2_with fail
        refine (HONE.out _).mono ?_
        rintro e w2 ⟨hb2, hpost⟩
        have HST2 := Lib.hid (HST.out.below hb2)
        have HBL2 := Lib.hid (belSeq HBL.out hb2)
        have hgl : g < wr.heap.size := block_lt_of_cell hcell
        have HG2 : Hid (w2.heap[g]? = w1.heap[g]?) := Lib.hid ((hb2.block g hgl).trans HG.out)
        have hgl2 : g < w2.heap.size := by have := hb2.size; omega
        cases hs : stepL x with
        | none =>
          rw [hs] at hpost
          simp only at hpost
          subst hpost
          have HBD : Hid (RN = ([], j + 1, false)) := Lib.hid (by rw [HRES.out]; exact HBADN.out (.inl hs))
          have HBA := Lib.hid (HBL2.out.alloc HBL2.out.size (.cells #[.string ⟨#[]⟩, .slice none 0 0, .string ⟨#[]⟩, .string ⟨#[]⟩] 32))
          clear hs hb2 HONE hcell hgl hgl2
          unfold stpV
          go_wp2_with fail
          go_ret3
          exact rparse_no HBD.out HBA.out rfl
        | some y =>
          rw [hs] at hpost
          obtain ⟨nv, rfl, hnv⟩ := hpost
          have hle2 := HBL.out.size
          have HON : Hid (w2.ownsRow w.heap.size 3 1 nv y.nums.length (numV y.nums)) := Lib.hid (own_low hnv hle2)
          obtain ⟨na, nc, rfl⟩ := own_form hnv
          have HPA := Lib.hid (HST2.out.below ((Below.refl _ w2).alloc (Nat.le_refl _) (.cells #[.string ⟨y.word.toArray⟩, .slice na y.nums.length nc, .string ⟨y.ask.toArray⟩, .string ⟨y.data.toArray⟩] 32)))
          have HSA : Hid (BoxAt (w2.alloc (.cells #[.string ⟨y.word.toArray⟩, .slice na y.nums.length nc, .string ⟨y.ask.toArray⟩, .string ⟨y.data.toArray⟩] 32)) w2.heap.size 32 (stpC y (.slice na y.nums.length nc))) := Lib.hid (BoxAt.new w2 32 (stpC y (.slice na y.nums.length nc)))
          have HOA := Lib.hid (HON.out.alloc (.cells #[.string ⟨y.word.toArray⟩, .slice na y.nums.length nc, .string ⟨y.ask.toArray⟩, .string ⟨y.data.toArray⟩] 32))
          have HBA := Lib.hid (HBL2.out.alloc HBL2.out.size (.cells #[.string ⟨y.word.toArray⟩, .slice na y.nums.length nc, .string ⟨y.ask.toArray⟩, .string ⟨y.data.toArray⟩] 32))
          by_cases h400 : out.length = 400
          · have HBD : Hid (RN = ([], j + 1, false)) := Lib.hid (by rw [HRES.out]; exact HBADN.out (.inr h400))
            have e400 : (399 : Int) < (out.length : Int) := by omega
            clear hs hb2 HONE hcell hgl hgl2 hnv h400
            unfold stpV
            go_wp2_with fail
            go_ret3
            exact rparse_no HBD.out HBA.out rfl
          · have HN := Lib.hid (HSTEP.out y hs h400)
            have e400 : ¬ (399 : Int) < (out.length : Int) := by omega
            have hol4 : out.length < 400 := by omega
            have HROW := Lib.hid HPA.out.row
            obtain ⟨k0, k1, k2, k3⟩ := HSA.out.cells4
            have hz3 : (w2.alloc (.cells #[.string ⟨y.word.toArray⟩, .slice na y.nums.length nc, .string ⟨y.ask.toArray⟩, .string ⟨y.data.toArray⟩] 32)).heap.size = w2.heap.size + 1 := by simp
            have hws2 := HBL2.out.size
            clear hs hb2 HONE hcell hnv h400 HON
            unfold stpV
            go_wp2_with (at_builtin; refine wpList_append_own _ rfl _ _ 27 rfl w.heap.size 32 i0 _ 4 72 Tryd.underlying27 hi hz0 hz1 hz2 rfl (by decide) _ _ _ rfl (HROW.out.alloc _) ⟨w2.heap.size + 1, 0, none⟩ 1 1 (stpC y (.slice na y.nums.length nc)) rfl rfl ?c1 ?c2 ?c3 ?c4 ?c5 ?_)
            case c1 => exact World.news_of_block (cs := #[.string ⟨y.word.toArray⟩, .slice na y.nums.length nc, .string ⟨y.ask.toArray⟩, .string ⟨y.data.toArray⟩]) (t := 32) (fr := (0, 0)) (by rw [← hz3]; exact heap_alloc_new _ _)
            case c2 => simp [stpC, Value.oneCell']
            case c3 => unfold maxLen; omega
            case c4 => omega
            case c5 => simp; omega
            intro v' w4 hown4 hgrow _
            obtain ⟨g', cap', rfl⟩ := ownsRow_succ hown4
            have HN4 : Hid (RStpsAt w4 w.heap.size (.slice (some ⟨g', 0, none⟩) (out.length + 1) cap') (out ++ [y]) (nvs ++ [.slice na y.nums.length nc])) := Lib.hid ((HPA.out.below ((Below.refl _ _).alloc (Nat.le_refl _) _)).snoc (HOA.out.alloc _) hgrow hown4)
            have HB4 : Hid (Below w.heap.size w w4) := Lib.hid ((HBA.out.alloc HBA.out.size _).grown hgrow (by have := (HBA.out.alloc HBA.out.size (.cells #[.string ⟨y.word.toArray⟩, .slice na y.nums.length nc, .string ⟨y.ask.toArray⟩, .string ⟨y.data.toArray⟩] 32)).size; exact this) (fun r e => (HROW.out.lt r e).1))
            have hgne : some g ≠ (Value.slice va out.length vc).ownBlock := by
              have hr1 : w2.ownsRow (w.heap.size + 1) 9 1 (.slice (some ⟨g, 0, none⟩) ws.length wc) ws.length (ws.map strV) := by
                refine ⟨HO1.out.1, ?_⟩
                rcases HO1.out.2 with ⟨h, _⟩ | ⟨g1, c1, cur1, h, hb, hg1, rest⟩
                · cases h
                · cases h
                  exact .inr ⟨g, wc, cur1, rfl, hb, HG2.out.trans hg1, rest⟩
              exact row_not hr1 HST2.out.row (by decide)
            have HG4 : Hid (w4.heap[g]? = w1.heap[g]?) := Lib.hid ((hgrow.block g (by simp; omega) hgne).trans ((Below.heap_alloc _ _ g (by simp; omega)).trans ((Below.heap_alloc _ _ g hgl2).trans HG2.out)))
            clear k0 k1 k2 k3 hown4 hgrow HSA HOA HROW HPA HST2 hgne
            go_wp2_with fail
            go_roundw
            case rel => exact ⟨j + 1, _, _, by go_num, by omega, HN, by simp; omega, HG4, HN4.out, HB4.out⟩
            case measure => simp [intOf]; omega
    · have HD : Hid (RN = (out, 0, true)) := Lib.hid (by
        rw [HRES.out]
        have := HSC.out.all
        rwa [List.take_of_length_le (by omega)] at this)
      go_wp2_with fail
      go_ret3
      exact rparse_ok HD.out HBL.out HST.out rfl
end Go.Proofs.YtgilbdhoddmpbaaDoor
