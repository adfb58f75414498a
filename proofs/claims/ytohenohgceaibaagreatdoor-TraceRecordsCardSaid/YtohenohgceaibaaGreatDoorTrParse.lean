/-
  Contract of trace.Parse, of texts without the word for 'by itself' at its place.
-/
import Derived.Test.YtohenohgceaibaaGreatDoorTrTake
import Derived.Test.YtohenohgceaibaaGreatDoorTrUnit
import Derived.Deep.DeepCutAuto
import Derived.Deep.DrawnRows
import Derived.Deep.RegionHeld3
import Derived.Deep.RegionLawGrows
import Derived.Deep.AppendLies
set_option linter.unusedVariables false
set_option linter.unusedSimpArgs false
namespace Go.Proofs.YtohenohgceaibaaGreatDoor
open Go.RowKit
attribute [local go_sem ↓] Go.wp_at_zero Go.wp_at_succ

def pduP (p : Pd) (lv : Value) : Value := .agg (cellsP p lv).toArray
def ParseEnd (R : Option Pd) (w : World) (e : Ending) (w' : World) : Prop :=
  Below w.heap.size w w' ∧ match R with
    | some p => ∃ lv, e = .returned (.tuple #[pduP p lv, .bool true]) ∧ w'.ownsRow w.heap.size 28 1 lv p.l.length (p.l.map (Value.int .u32))
    | none => e = .returned (.tuple #[pduP ⟨0, 0, 0, 0, 0, [], false, []⟩ (.slice none 0 0), .bool false])
theorem parse_ok {R : Option Pd} {w w' : World} {e : Ending} {p : Pd} {lv : Value} (h : R = some p) (hb : Below w.heap.size w w') (ho : w'.ownsRow w.heap.size 28 1 lv p.l.length (p.l.map (Value.int .u32))) (he : e = .returned (.tuple #[pduP p lv, .bool true])) : ParseEnd R w e w' := by
  subst h; exact ⟨hb, lv, he, ho⟩
theorem parse_no {R : Option Pd} {w w' : World} {e : Ending} (h : R = none) (hb : Below w.heap.size w w') (he : e = .returned (.tuple #[pduP ⟨0, 0, 0, 0, 0, [], false, []⟩ (.slice none 0 0), .bool false])) : ParseEnd R w e w' := by
  subst h; exact ⟨hb, he⟩
/-- Numbers in their bounds. -/
structure Rng (M : Nat) (p : Pd) : Prop where
  sq : -9223372036854775808 ≤ p.sq ∧ p.sq ≤ 9223372036854775807
  n : 0 ≤ p.n ∧ p.n < 16777216
  ps : 0 ≤ p.ps ∧ p.ps < 16777216
  mr : 0 ≤ p.mr ∧ p.mr < 16777216
  l : ∀ x ∈ p.l, 0 ≤ x ∧ x < 16777216
  ll : p.l.length ≤ M + 1
  d : p.d.length ≤ M
theorem unBody_len : ∀ (l r : List UInt8), unBody l = some r → r.length ≤ l.length
  | [], r, h => by simp [unBody] at h; subst h; simp
  | [_], r, h => by simp [unBody] at h
  | a :: b :: t, r, h => by
    simp only [unBody] at h
    split at h
    · cases h
    · obtain ⟨r', hr', rfl⟩ := Option.map_eq_some_iff.1 h
      have := unBody_len t r' hr'
      simp; omega
theorem takeF_rng {M : Nat} {c : UInt8} (hc : c ∈ letters) {w : List UInt8} {p q : Pd} (hw : w.length ≤ M) (hp : Rng M p) (h : takeF c w p = some q) : Rng M q := by
  simp only [letters, List.mem_cons, List.not_mem_nil, or_false] at hc
  rcases hc with rfl | rfl | rfl | rfl | rfl | rfl <;> simp only [takeF] at h <;> simp at h <;> obtain ⟨v, hv, rfl⟩ := h
  · have := (numOf_iff _ _ _).1 hv; exact ⟨by simp only; omega, hp.n, hp.ps, hp.mr, hp.l, hp.ll, hp.d⟩
  · have := (numOf_iff _ _ _).1 hv; exact ⟨hp.sq, this.2, hp.ps, hp.mr, hp.l, hp.ll, hp.d⟩
  · have := (numOf_iff _ _ _).1 hv; exact ⟨hp.sq, hp.n, this.2, hp.mr, hp.l, hp.ll, hp.d⟩
  · have := (numOf_iff _ _ _).1 hv; exact ⟨hp.sq, hp.n, hp.ps, this.2, hp.l, hp.ll, hp.d⟩
  · have h1 := (numsOf_iff _ _).1 hv
    refine ⟨hp.sq, hp.n, hp.ps, hp.mr, h1.2, ?_, hp.d⟩
    show v.length ≤ M + 1
    have h2 : v.length ≤ (listW v).length + 1 := by
      unfold listW
      split
      · rename_i e; subst e; simp
      · rename_i hne
        have h3 := splitBy_length 44 (joinBy 44 (v.map Lib.itoa))
        rw [split_join 44 _ (by simpa using hne) (fun w hw => by
          obtain ⟨x, hx, rfl⟩ := List.mem_map.1 hw
          exact itoa_free x (h1.2 x hx).1 44 (by decide)), List.length_map] at h3
        have h4 := List.count_le_length (a := (44 : UInt8)) (l := joinBy 44 (v.map Lib.itoa))
        omega
    have h5 := congrArg List.length h1.1
    simp at h5
    omega
  · have h1 := (dataOf_iff _ _).1 hv
    refine ⟨hp.sq, hp.n, hp.ps, hp.mr, hp.l, hp.ll, ?_⟩
    show v.length ≤ M
    have h2 : v.length ≤ (hexOf v).length := by
      unfold hexOf
      split
      · rename_i e; subst e; simp
      · rw [hexBody_length]; omega
    have h5 := congrArg List.length h1
    simp at h5
    omega
def WordsR (w : World) (blk : Nat) (ws : List (List UInt8)) : Prop := ∀ j (h : j < ws.length), w.cell? ⟨blk, j, none⟩ = some (strV ws[j])
/-- How the loop over a unit's words stands. -/
structure ParL (w wx : World) (b g blk M : Nat) (need : List UInt8) (ws : List (List UInt8)) (R : Option Pd) (j : Nat) : Prop where
  it : wx.heap[g]? = some (.stringIter ⟨need.toArray⟩ j)
  words : WordsR wx blk ws
  res : BoxAt wx w.heap.size 31 [.int .i64 0, .int .i64 0, .int .u32 0, .int .u32 0, .int .u32 0, .slice none 0 0, .bool false, .string ⟨#[]⟩]
  bel : Below w.heap.size w wx
  bg : b ≠ g
  bb : b ≠ blk
  gb : g ≠ blk
  rb : w.heap.size ≠ b
  rg : w.heap.size ≠ g
  bge : w.heap.size ≤ b
  gge : w.heap.size ≤ g
  st : ∃ p lv, PSt wx w.heap.size b p lv ∧ Rng M p ∧ R = fieldsOf (need.drop j) (ws.tail.drop j) p
theorem WordsR.grown {w w' : World} {blk b : Nat} {ws : List (List UInt8)} (h : WordsR w blk ws) (hg : w.grownBy w' (some b)) (hne : b ≠ blk) : WordsR w' blk ws := fun j hj => by
  have h1 := h j hj
  rw [← h1]
  exact World.cell?_of_block (hg.block blk (block_lt_of_cell h1) (by simpa using Ne.symm hne))
theorem ParL.mid {w wx : World} {b g blk M : Nat} {need : List UInt8} {ws : List (List UInt8)} {R : Option Pd} {j : Nat} (h : ParL w wx b g blk M need ws R j) :
    (wx.iterAt g ⟨need.toArray⟩ (j + 1)).heap[g]? = some (.stringIter ⟨need.toArray⟩ (j + 1)) ∧ WordsR (wx.iterAt g ⟨need.toArray⟩ (j + 1)) blk ws ∧ BoxAt (wx.iterAt g ⟨need.toArray⟩ (j + 1)) w.heap.size 31 [.int .i64 0, .int .i64 0, .int .u32 0, .int .u32 0, .int .u32 0, .slice none 0 0, .bool false, .string ⟨#[]⟩] ∧ Below w.heap.size w (wx.iterAt g ⟨need.toArray⟩ (j + 1)) ∧
      ∀ p lv, PSt wx w.heap.size b p lv → PSt (wx.iterAt g ⟨need.toArray⟩ (j + 1)) w.heap.size b p lv := by
  refine ⟨Lib.iterAt_heap _ _ _ _ _ h.it, fun i hi => ?_, (Lib.iterAt_other _ _ _ _ _ h.rg).trans h.res, Lib.below_iterAt h.bel h.gge _ _, fun p lv hp => ⟨(Lib.iterAt_other _ _ _ _ _ h.bg).trans hp.1, ?_⟩⟩
  · rw [← h.words i hi]
    exact World.cell?_of_block (Lib.iterAt_other _ _ _ _ _ (Ne.symm h.gb))
  · obtain ⟨h1, h2 | ⟨q, cap, cur, hv, hB, hq, rest⟩⟩ := hp.2
    · exact ⟨h1, .inl h2⟩
    · refine ⟨h1, .inr ⟨q, cap, cur, hv, hB, ?_, rest⟩⟩
      rw [Lib.iterAt_other _ _ _ _ _ (fun e => by rw [e, h.it] at hq; cases hq)]
      exact hq
theorem parse_res (ws : List (List UInt8)) : parseWs ws = if kindOf (ws.getD 0 []) = 0 ∨ (restOf (kindOf (ws.getD 0 [])) ws).length ≠ 1 + (hasL (kindOf (ws.getD 0 []))).length then none else
  (fieldsOf (hasL (kindOf (ws.getD 0 []))) (restOf (kindOf (ws.getD 0 [])) ws).tail ⟨kindOf (ws.getD 0 []), 0, 0, 0, 0, [], selfAt (kindOf (ws.getD 0 [])) ws, []⟩).bind fun p => if ckOf p = 0 then some p else none := by
  unfold parseWs
  split
  · rfl
  · cases fieldsOf (hasL (kindOf (ws.getD 0 []))) (restOf (kindOf (ws.getD 0 [])) ws).tail ⟨kindOf (ws.getD 0 []), 0, 0, 0, 0, [], selfAt (kindOf (ws.getD 0 [])) ws, []⟩ <;> rfl
/-- How Parse stands at the loop over the words that its kind needs. -/
structure Par0 (w wx : World) (b blk : Nat) (ws : List (List UInt8)) (k : Int) (sf : Bool) : Prop where
  words : WordsR wx blk ws
  res : BoxAt wx w.heap.size 31 [.int .i64 0, .int .i64 0, .int .u32 0, .int .u32 0, .int .u32 0, .slice none 0 0, .bool false, .string ⟨#[]⟩]
  bel : Below w.heap.size w wx
  bb : b ≠ blk
  rb : w.heap.size < b
  bl : blk < wx.heap.size
  st : BoxAt wx b 31 [.int .i64 k, .int .i64 0, .int .u32 0, .int .u32 0, .int .u32 0, .slice none 0 0, .bool sf, .string ⟨#[]⟩]
def ParMid (w : World) (b : Nat) (k : Int) (self : Bool) (rs : List (List UInt8)) (v : Value) (wx : World) : Prop :=
  ∃ blk cap, v = .slice (some ⟨blk, 0, none⟩) rs.length cap ∧ Par0 w wx b blk rs k self
theorem selfAt_no {k : Int} {ws : List (List UInt8)} (h : k ≠ 3 ∨ ws.length ≠ 4 ∨ ws.getD 2 [] ≠ selfW) : selfAt k ws = false := by
  unfold selfAt
  rcases h with h | h | h
  · rw [decide_eq_false h]; rfl
  · rw [decide_eq_false h]; simp
  · rw [decide_eq_false h]; simp
theorem selfAt_yes {k : Int} {ws : List (List UInt8)} (h1 : k = 3) (h2 : ws.length = 4) (h3 : ws.getD 2 [] = selfW) : selfAt k ws = true := by
  unfold selfAt; rw [decide_eq_true h1, decide_eq_true h2, decide_eq_true h3]; rfl
theorem selfAt_len {k : Int} {ws : List (List UInt8)} (h : selfAt k ws = true) : k = 3 ∧ ws.length = 4 := by
  unfold selfAt at h; simp at h; exact h.1
theorem rest_mem {k : Int} {ws : List (List UInt8)} {M : Nat} (h : ∀ x ∈ ws, x.length ≤ M) : ∀ x ∈ restOf k ws, x.length ≤ M := by
  unfold restOf
  split
  · rename_i hs
    obtain ⟨_, h4⟩ := selfAt_len hs
    match ws, h4 with
    | [a, b, c, d], _ => intro x hx; exact h x (by simp at hx ⊢; rcases hx with e | e | e <;> simp [e])
  · exact h
theorem ParL.next {w wx W1 w2 : World} {b g blk M : Nat} {need : List UInt8} {ws : List (List UInt8)} {R : Option Pd} {j : Nat} {q : Pd} {lv : Value} (h : ParL w wx b g blk M need ws R j) (hit : W1.heap[g]? = some (.stringIter ⟨need.toArray⟩ (j + 1)))
    (hw : WordsR W1 blk ws) (hr : BoxAt W1 w.heap.size 31 [.int .i64 0, .int .i64 0, .int .u32 0, .int .u32 0, .int .u32 0, .slice none 0 0, .bool false, .string ⟨#[]⟩]) (hb : Below w.heap.size w W1) (hg : W1.grownBy w2 (some b))
    (hst : PSt w2 w.heap.size b q lv) (hrng : Rng M q) (hR : R = fieldsOf (need.drop (j + 1)) (ws.tail.drop (j + 1)) q) : ParL w w2 b g blk M need ws R (j + 1) :=
  ⟨(hg.block g (lt_of_block hit) (by simpa using Ne.symm h.bg)).trans hit, hw.grown hg h.bb, hr.grown hg (by simpa using h.rb), hb.grown hg hb.size (fun q hq => by cases hq; exact h.bge), h.bg, h.bb, h.gb, h.rb, h.rg, h.bge, h.gge, q, lv, hst, hrng, hR⟩
theorem bel_set8 {B : Nat} {w wx : World} (h : Below B w wx) (v0 v1 v2 v3 v4 v5 v6 v7 : Value) :
    Below B w ((((((((wx.setCell ⟨B, 0, none⟩ v0).setCell ⟨B, 1, none⟩ v1).setCell ⟨B, 2, none⟩ v2).setCell ⟨B, 3, none⟩ v3).setCell ⟨B, 4, none⟩ v4).setCell ⟨B, 5, none⟩ v5).setCell ⟨B, 6, none⟩ v6).setCell ⟨B, 7, none⟩ v7) :=
  ((((((((h.setCell (p := ⟨B, 0, none⟩) (Nat.le_refl _) _).setCell (p := ⟨B, 1, none⟩) (Nat.le_refl _) _).setCell (p := ⟨B, 2, none⟩) (Nat.le_refl _) _).setCell (p := ⟨B, 3, none⟩) (Nat.le_refl _) _).setCell (p := ⟨B, 4, none⟩) (Nat.le_refl _) _).setCell (p := ⟨B, 5, none⟩) (Nat.le_refl _) _).setCell (p := ⟨B, 6, none⟩) (Nat.le_refl _) _).setCell (p := ⟨B, 7, none⟩) (Nat.le_refl _) _)
theorem own_set8 {w : World} {B b n : Nat} {v : Value} {xs cs : List Value} (h : w.ownsRow B 28 1 v n xs) (hb : BoxAt w b 31 cs) (v0 v1 v2 v3 v4 v5 v6 v7 : Value) :
    ((((((((w.setCell ⟨b, 0, none⟩ v0).setCell ⟨b, 1, none⟩ v1).setCell ⟨b, 2, none⟩ v2).setCell ⟨b, 3, none⟩ v3).setCell ⟨b, 4, none⟩ v4).setCell ⟨b, 5, none⟩ v5).setCell ⟨b, 6, none⟩ v6).setCell ⟨b, 7, none⟩ v7).ownsRow B 28 1 v n xs :=
  own_grown h hb ((((((((grown_set w b 0 v0).trans (grown_set _ b 1 v1)).trans (grown_set _ b 2 v2)).trans (grown_set _ b 3 v3)).trans (grown_set _ b 4 v4)).trans (grown_set _ b 5 v5)).trans (grown_set _ b 6 v6)).trans (grown_set _ b 7 v7))
theorem olds2 {w : World} {B : Nat} {u0 u1 : Value} (h0 : w.cell? ⟨B, 0, none⟩ = some u0) (h1 : w.cell? ⟨B, 1, none⟩ = some u1) : ∀ b, some (⟨B, 0, none⟩ : Addr) = some b → ∀ j u, [u0, u1][j]? = some u → w.cell? (b.add j) = some u := by
  intro b hb j u hu
  cases hb
  match j, hu with
  | 0, hu => cases hu; exact h0
  | 1, hu => cases hu; exact h1
  | n + 2, hu => simp at hu
set_option maxRecDepth 100000 in
set_option maxHeartbeats 4000000 in
theorem parse_txt (s : ByteArray) (w : World) (hs : s.size ≤ 100000) (he : Env w) :
    Calls Tryz.prog 10 #[.string s] w (ParseEnd (parseT s.data.toList) w) := by
  obtain ⟨i0, hi, hz0, hz1, hz2⟩ := info_parts info_str
  have HRES : Hid (parseT s.data.toList = _) := Lib.hid (parse_res (splitBy 32 s.data.toList))
  have HE := Lib.hid he
  have HSP := Lib.hid (fun W h => split_any s 32 W (by omega) h)
  have hwl : (splitBy 32 s.data.toList).length ≤ 100001 := by
    rw [splitBy_length]
    have := List.count_le_length (a := (32 : UInt8)) (l := s.data.toList)
    rw [size_len] at this; omega
  have hwp : 1 ≤ (splitBy 32 s.data.toList).length := by rw [splitBy_length]; omega
  have HPL : Hid (∀ x ∈ splitBy 32 s.data.toList, x.length ≤ 100000) := Lib.hid (fun x hx => by
    have := splitBy_le 32 s.data.toList x hx
    rw [size_len] at this; omega)
  generalize parseT s.data.toList = RN at *
  generalize splitBy 32 s.data.toList = ws at *
  have HKN := Lib.hid (fun W => kind_any ⟨(ws.getD 0 []).toArray⟩ W)
  have hk0 : 0 ≤ kindOf (ws.getD 0 []) ∧ kindOf (ws.getD 0 []) ≤ 15 := by
    by_cases h : kindOf (ws.getD 0 []) = 0
    · omega
    · have := kindOf_pos _ h; omega
  rw [show (⟨(ws.getD 0 []).toArray⟩ : ByteArray).data.toList = ws.getD 0 [] from rfl] at HKN
  clear he
  go_enter Tryz.func10, Tryz.ntmps10
  have HBR0 := Lib.hid (BoxAt.new w 31 [.int .i64 0, .int .i64 0, .int .u32 0, .int .u32 0, .int .u32 0, .slice none 0 0, .bool false, .string ⟨#[]⟩])
  go_wp2_with fail
  refine (HSP.out _ HE.out.alloc).mono ?_
  rintro e w1 ⟨rfl, hw1⟩
  have hw1s : w1.heap.size = w.heap.size + 1 + 1 := by rw [hw1]; simp
  have HBR1 := Lib.hid (show BoxAt w1 w.heap.size 31 [.int .i64 0, .int .i64 0, .int .u32 0, .int .u32 0, .int .u32 0, .slice none 0 0, .bool false, .string ⟨#[]⟩] from by rw [hw1]; exact HBR0.out.alloc)
  have HWB1 := Lib.hid (show BoxAt w1 (w.heap.size + 1) 9 (ws.map strV) from by
    rw [hw1]
    have := BoxAt.new (w.alloc (.cells #[.int .i64 0, .int .i64 0, .int .u32 0, .int .u32 0, .int .u32 0, .slice none 0 0, .bool false, .string ⟨#[]⟩] 31)) 9 (ws.map strV)
    rwa [show (w.alloc (.cells #[.int .i64 0, .int .i64 0, .int .u32 0, .int .u32 0, .int .u32 0, .slice none 0 0, .bool false, .string ⟨#[]⟩] 31)).heap.size = w.heap.size + 1 by simp] at this)
  have HB1 := Lib.hid (show Below w.heap.size w w1 from by rw [hw1]; exact ((Below.refl _ _).alloc (Nat.le_refl _) _).alloc (by simp) _)
  have hc0 : w1.cell? ⟨w.heap.size + 1, 0, none⟩ = some (.string ⟨(ws.getD 0 []).toArray⟩) := by
    rw [HWB1.out.cell]
    cases ws with
    | nil => simp at hwp
    | cons a t => rfl
  clear hw1 HSP HBR0
  generalize hK : kindOf (ws.getD 0 []) = k at *
  clear hK
  have HMW : Hid (@WordsR w1 (w.heap.size + 1) ws) := Lib.hid (fun j hj => by rw [HWB1.out.cell]; simp [hj])
  go_wp2_with fail
  refine (HKN.out _).mono ?_
  rintro e w2 ⟨rfl, hb2⟩
  have hP0 : Par0 w (w2.alloc (.cells #[.int .i64 k, .int .i64 0, .int .u32 0, .int .u32 0, .int .u32 0, .slice none 0 0, .bool false, .string ⟨#[]⟩] 31)) w2.heap.size (w.heap.size + 1) ws k false := by
    have hbl := hb2.alloc hb2.size (.cells #[.int .i64 k, .int .i64 0, .int .u32 0, .int .u32 0, .int .u32 0, .slice none 0 0, .bool false, .string ⟨#[]⟩] 31)
    have hsz := hb2.size
    exact ⟨fun j hj => (hbl.cell (block_lt_of_cell (HMW.out j hj))).trans (HMW.out j hj), HBR1.out.below hbl HBR1.out.lt, belSeq HB1.out hbl, by omega, by omega, by simp; omega, BoxAt.new w2 31 [.int .i64 k, .int .i64 0, .int .u32 0, .int .u32 0, .int .u32 0, .slice none 0 0, .bool false, .string ⟨#[]⟩]⟩
  have HP0 := Lib.hid hP0
  clear hP0 hb2 HMW HB1 HWB1 HBR1 HKN hc0
  go_upto_region 3 with fail
  generalize w2.alloc (.cells #[.int .i64 k, .int .i64 0, .int .u32 0, .int .u32 0, .int .u32 0, .slice none 0 0, .bool false, .string ⟨#[]⟩] 31) = W3 at *
  generalize w2.heap.size = b at *
  obtain ⟨q0, q1, q2, q3, q4, q5, q6, q7⟩ := HP0.out.st.cells8
  go_cut [29] (fun v wx => v = .bool (selfAt k ws) ∧ wx = W3)
  case first =>
    by_cases hk3 : k = 3
    · have e3 : (k == 3) = true := by simpa using hk3
      by_cases hl4 : ws.length = 4
      · have e4 : ((ws.length : Int) == 4) = true := by simp; omega
        have hw2 : W3.cell? ⟨w.heap.size + 1, 2, none⟩ = some (.string ⟨(ws.getD 2 []).toArray⟩) := by
          have := HP0.out.words 2 (by omega)
          rw [this, List.getD_eq_getElem?_getD, List.getElem?_eq_getElem (by omega)]; rfl
        have h2l : (2 : Int) < (ws.length : Int) := by omega
        have HT2 : Hid ((⟨(ws.getD 2 []).toArray⟩ : ByteArray).data.toList = ws.getD 2 []) := Lib.hid rfl
        by_cases hs2 : ws.getD 2 [] = selfW
        · have HF := Lib.hid (selfAt_yes hk3 hl4 hs2)
          have hq : ((⟨(ws.getD 2 []).toArray⟩ : ByteArray).toList == [115, 101, 108, 102]) = true := by rw [Lib.toList_data, HT2.out, hs2]; rfl
          clear hk3 hl4 hs2 HT2
          generalize (⟨(ws.getD 2 []).toArray⟩ : ByteArray) = T2 at *
          go_wp2_with fail
          go_meet
          exact ⟨by rw [HF.out], rfl⟩
        · have HF := Lib.hid (selfAt_no (k := k) (ws := ws) (.inr (.inr hs2)))
          have hq : ((⟨(ws.getD 2 []).toArray⟩ : ByteArray).toList == [115, 101, 108, 102]) = false := by rw [Lib.toList_data, HT2.out]; exact beq_eq_false_iff_ne.2 hs2
          clear hk3 hl4 hs2 HT2
          generalize (⟨(ws.getD 2 []).toArray⟩ : ByteArray) = T2 at *
          go_wp2_with fail
          go_meet
          exact ⟨by rw [HF.out], rfl⟩
      · have e4 : ((ws.length : Int) == 4) = false := beq_eq_false_iff_ne.2 (by omega)
        have HF := Lib.hid (selfAt_no (k := k) (ws := ws) (.inr (.inl hl4)))
        clear hk3 hl4
        go_wp2_with fail
        go_meet
        exact ⟨by rw [HF.out], rfl⟩
    · have e3 : (k == 3) = false := beq_eq_false_iff_ne.2 hk3
      have HF := Lib.hid (selfAt_no (k := k) (ws := ws) (.inl hk3))
      clear hk3
      go_wp2_with fail
      go_meet
      exact ⟨by rw [HF.out], rfl⟩
  case rest =>
  obtain ⟨rfl, rfl⟩ := hcut
  have HRS : Hid ((selfAt k ws = false → restOf k ws = ws) ∧ (selfAt k ws = true → ws.length = 4 ∧ restOf k ws = [ws.getD 0 [], ws.getD 1 [], ws.getD 3 []])) := Lib.hid ⟨fun h => by unfold restOf; rw [h]; rfl, fun h => ⟨(selfAt_len h).2, by unfold restOf; rw [h]; rfl⟩⟩
  have HRL : Hid (∀ x ∈ restOf k ws, x.length ≤ 100000) := Lib.hid (rest_mem HPL.out)
  have hrl : (restOf k ws).length ≤ 100001 := by
    unfold restOf
    split
    · simp
    · exact hwl
  generalize hsf : selfAt k ws = sf at *
  clear hsf
  generalize restOf k ws = rs at *
  go_upto_if 29 with fail
  go_cut [4] (fun v wx => ParMid w b k sf rs v wx)
  case first =>
    cases sf
    · have hrs := HRS.out.1 rfl
      clear HRES HRS
      subst hrs
      go_wp2_with fail
      go_meet
      exact ⟨_, _, rfl, HP0.out⟩
    · obtain ⟨h4, hrs⟩ := HRS.out.2 rfl
      clear HRES HRS
      obtain ⟨a0, a1, a2, a3, hws⟩ : ∃ a0 a1 a2 a3, ws = [a0, a1, a2, a3] := by
        match ws, h4 with
        | [a0, a1, a2, a3], _ => exact ⟨_, _, _, _, rfl⟩
      subst hws
      have hrs2 : rs = [a0, a1, a3] := hrs
      subst hrs2
      clear hrs h4
      obtain ⟨f0, f1, f2, f3, f4, f5, f6, f7⟩ := HP0.out.st.frozs8
      have HP1 : Hid (Par0 w (wc.setCell ⟨b, 6, none⟩ (.bool true)) b (w.heap.size + 1) [a0, a1, a2, a3] k true) := Lib.hid (by
        obtain ⟨h1, h2, h3, h4, h5, h6, h7⟩ := HP0.out
        refine ⟨fun j hj => (World.cell?_setCell_other _ _ _ _ (by first | (simp; done) | (simp; omega))).trans (h1 j hj), h2.other (by first | (simp; done) | (simp; omega)) _, h3.setCell (by first | (simp; done) | (simp; omega)) _, h4, h5, by simpa using h6, ?_⟩
        exact h7.set 6 _)
      go_upto_region 5 with fail
      generalize wc.setCell ⟨b, 6, none⟩ (.bool true) = W4 at *
      have w0 := HP1.out.words 0 (by simp)
      have w1' := HP1.out.words 1 (by simp)
      have w3 := HP1.out.words 3 (by simp)
      simp only [List.getElem_cons_zero, List.getElem_cons_succ] at w0 w1' w3
      unfold strV at w0 w1' w3
      clear q0 q1 q2 q3 q4 q5 q6 q7 f0 f1 f2 f3 f4 f5 f6 f7 HP0
      have HB4 := Lib.hid HP1.out.bel
      have hb4 : w.heap.size + 1 < W4.heap.size := HP1.out.bl
      have HX4 := Lib.hid HP1.out.res
      have HY4 := Lib.hid HP1.out.st
      have hbb := HP1.out.bb
      have hrb := HP1.out.rb
      clear HP1
      have hcl : ∀ o : Obj, ∀ j, (W4.alloc o).cell? ⟨w.heap.size + 1, j, none⟩ = W4.cell? ⟨w.heap.size + 1, j, none⟩ := fun o j => bcell ((Below.refl _ W4).alloc (Nat.le_refl _) o) (w.heap.size + 1) j hb4
      have HCL := Lib.hid hcl
      clear hcl
      go_region_held3 (fun w' => w'.cell? ⟨w.heap.size + 1, 3, none⟩ = some (.string ⟨a3.toArray⟩)) (first | go_keep | exact ((hgrow5.cell_far ⟨w.heap.size + 1, 3, none⟩ (by simp; omega) (by simp)).trans ((HCL.out _ 3).trans w3))) ((refine step_append_grows (by rfl) _ _ _ (by rfl) 9 i0 _ 1 16 Tryz.underlying61 hi hz0 hz1 hz2 rfl (by omega) (some ⟨w.heap.size + 1, 0, none⟩) 2 2 [.string ⟨a0.toArray⟩, .string ⟨a1.toArray⟩] (by rfl) (by simp) (by rfl) (olds2 ((HCL.out _ 0).trans w0) ((HCL.out _ 1).trans w1')) ⟨W4.heap.size, 0, none⟩ 1 1 [.string ⟨a3.toArray⟩] (by rfl) (by rfl) (World.news_of_block (cs := #[.string ⟨a3.toArray⟩]) (t := 9) (fr := (0, 0)) (heap_alloc_new W4 _)) (by simp [Value.oneCell']) (by omega) (by unfold maxLen; omega) (by omega) ?_; intro v5 w5 hown5 hgrow5))
      all_goals
        obtain ⟨g, cap, rfl, hcg, hcl5⟩ := hown5.form (by omega)
        have hbel : Below W4.heap.size W4 w5 := (((Below.refl W4.heap.size W4).alloc (Nat.le_refl _) _).drew).grown hgrow5 (by simp) (fun q hq => by cases hq)
        have hcells := hown5.cells (g := g) rfl
        simp at hcg
        have hP5 : Par0 w w5 b g [a0, a1, a3] k true := by
          refine ⟨fun j hj => ?_, HX4.out.below hbel HX4.out.lt, belSeq HB4.out hbel, by have := HY4.out.lt; omega, hrb, by assumption, HY4.out.below hbel HY4.out.lt⟩
          have := hcells j (strV ([a0, a1, a3][j])) (by
            match j, hj with
            | 0, _ => rfl
            | 1, _ => rfl
            | 2, _ => rfl)
          by_cases hj0 : j = 0
          · subst hj0; simpa [Addr.add] using this
          · simpa [Addr.add, hj0] using this
        have HP5 := Lib.hid hP5
        clear hP5 hbel hcells hcg hown5 hgrow5 HCL
        go_wp2_with fail
        go_meet
        exact ⟨g, cap, rfl, HP5.out⟩
  case rest =>
  obtain ⟨blk, cap, rfl, hp1⟩ := hcut
  have HP1 := Lib.hid hp1
  clear hp1 q0 q1 q2 q3 q4 q5 q6 q7 HP0 HRS
  obtain ⟨q0, q1, q2, q3, q4, q5, q6, q7⟩ := HP1.out.st.cells8
  have HHA := Lib.hid (has_any k)
  have HLT := Lib.hid (has_letters k)
  have hhl := has_le k
  generalize hasL k = need at *
  go_wp2_with fail
  refine (HHA.out _).mono ?_
  rintro e wc' ⟨rfl, rfl⟩
  by_cases hbad : k = 0 ∨ rs.length ≠ 1 + need.length
  · have HR : Hid (RN = none) := Lib.hid (by rw [HRES.out, if_pos hbad])
    obtain ⟨g0, g1, g2, g3, g4, g5, g6, g7⟩ := HP1.out.res.frozs8
    obtain ⟨r0, r1, r2, r3, r4, r5, r6, r7⟩ := HP1.out.res.cells8
    clear HRES
    by_cases hk : k = 0
    · have e0 : (k == 0) = true := by simpa using hk
      clear hbad hk
      go_wp2_with fail
      refine bodyPost_ret (v := .tuple #[pduP ⟨0, 0, 0, 0, 0, [], false, []⟩ (.slice none 0 0), .bool false]) (by unfold pduP cellsP; simp [results, Tryz.results10, go_sem, r0, r1, r2, r3, r4, r5, r6, r7]) rfl (parse_no HR.out ?_ rfl)
      exact bel_set8 HP1.out.bel _ _ _ _ _ _ _ _
    · have e0 : (k == 0) = false := beq_eq_false_iff_ne.2 hk
      have e1 : ((rs.length : Int) != 1 + (need.length : Int)) = true := by simp; omega
      clear hbad hk
      go_wp2_with fail
      refine bodyPost_ret (v := .tuple #[pduP ⟨0, 0, 0, 0, 0, [], false, []⟩ (.slice none 0 0), .bool false]) (by unfold pduP cellsP; simp [results, Tryz.results10, go_sem, r0, r1, r2, r3, r4, r5, r6, r7]) rfl (parse_no HR.out ?_ rfl)
      exact bel_set8 HP1.out.bel _ _ _ _ _ _ _ _
  · have hk0 : k ≠ 0 := fun h => hbad (.inl h)
    have hnl : rs.length = 1 + need.length := Classical.byContradiction fun h => hbad (.inr h)
    have e0 : (k == 0) = false := beq_eq_false_iff_ne.2 hk0
    have e1 : ((rs.length : Int) != 1 + (need.length : Int)) = false := by simp; omega
    have HR : Hid (RN = (fieldsOf need rs.tail ⟨k, 0, 0, 0, 0, [], sf, []⟩).bind fun p => if ckOf p = 0 then some p else none) := Lib.hid (by rw [HRES.out, if_neg hbad])
    clear HRES hbad hk0
    have HNL := Lib.hid hnl
    clear hnl
    have HRS := Lib.hid (show ParL w (wc.iter ⟨need.toArray⟩ 0) b wc.heap.size blk 100000 need rs (fieldsOf need rs.tail ⟨k, 0, 0, 0, 0, [], sf, []⟩) 0 from by
      have h1 := HP1.out
      have h2 := (Below.refl wc.heap.size wc).alloc (Nat.le_refl _) (.stringIter ⟨need.toArray⟩ 0)
      have h3 := h1.st.lt
      exact ⟨World.iter_heap _ _ _, fun j hj => (h2.cell (block_lt_of_cell (h1.words j hj))).trans (h1.words j hj), h1.res.below h2 h1.res.lt, belSeq h1.bel h2, by omega, h1.bb, by have := h1.bl; omega, by have := h1.rb; omega, by have := h1.res.lt; omega, Nat.le_of_lt h1.rb, h1.bel.size,
        ⟨k, 0, 0, 0, 0, [], sf, []⟩, .slice none 0 0, ⟨h1.st.below h2 h3, World.ownsRow_nil _ _ _ _⟩, ⟨by simp, by simp, by simp, by simp, by simp, by simp, by simp⟩, rfl⟩)
    have HEV := Lib.hid (HE.out.below HP1.out.bel)
    generalize fieldsOf need rs.tail ⟨k, 0, 0, 0, 0, [], sf, []⟩ = FR at *
    clear HP1 q1 q2 q3 q4 q5 q6 q7
    go_wp2_with fail
    clear q0
    generalize wc.iter ⟨need.toArray⟩ 0 = W0 at *
    generalize wc.heap.size = g at *
    go_loopw [] (fun wx => ∃ j : Nat, j ≤ need.length ∧ ParL w wx b g blk 100000 need rs FR j) (fun wx => need.length - wx.iterPos g)
    case atStart => exact ⟨0, by omega, HRS.out⟩
    case round =>
      clear HRS HEV
      obtain ⟨j, hj, hpl⟩ := hrel
      have HP := Lib.hid hpl
      clear hpl
      by_cases hlt : j < need.length
      · have hlt' : j < (⟨need.toArray⟩ : ByteArray).size := by rw [size_arr]; exact hlt
        have hgb : (⟨need.toArray⟩ : ByteArray)[j] = need[j] := rfl
        have hmem := HLT.out _ (List.getElem_mem hlt)
        have hc7 : (need[j]'hlt).toNat < 128 := by
          simp only [letters, List.mem_cons, List.not_mem_nil, or_false] at hmem
          rcases hmem with h | h | h | h | h | h <;> rw [h] <;> decide
        have hnx : ∀ ty, (Instr.next (.pointer (some ⟨g, 0, none⟩)) true ty).run Tryz.prog wr = .ok (.tuple #[.bool true, .int .i64 (j : Int), .int .i32 (((need[j]'hlt).toNat : Nat) : Int)]) (wr.iterAt g ⟨need.toArray⟩ (j + 1)) := fun ty => Lib.run_next_ascii_at (P := Tryz.prog) wr g ⟨need.toArray⟩ j ty HP.out.it hlt' (by rw [hgb]; exact hc7)
        obtain ⟨m1, m2, m3, m4, m5⟩ := HP.out.mid
        obtain ⟨p, lv, hst, hrng, hR⟩ := HP.out.st
        have hl1 : 1 + j < rs.length := by have := HNL.out; omega
        have hcell : (wr.iterAt g ⟨need.toArray⟩ (j + 1)).cell? ⟨blk, 1 + j, none⟩ = some (.string ⟨(rs[1 + j]).toArray⟩) := m2 (1 + j) hl1
        have hxl := HRL.out _ (List.getElem_mem hl1)
        have hdn : need.drop j = need[j] :: need.drop (j + 1) := List.drop_eq_getElem_cons hlt
        have hdr : rs.tail.drop j = rs[1 + j] :: rs.tail.drop (j + 1) := by
          rw [List.drop_eq_getElem_cons (by rw [List.length_tail]; omega)]
          congr 1
          rw [List.getElem_tail]
          congr 1; omega
        rw [hdn, hdr] at hR
        simp only [fieldsOf] at hR
        have HR2 := Lib.hid hR
        have HTK := Lib.hid (take_any need[j] hmem p lv b w.heap.size ⟨(rs[1 + j]).toArray⟩ _ (by rw [size_arr]; omega) (HE.out.below m4) (m5 p lv hst) m4.size)
        have HRN := Lib.hid hrng
        have HM1 := Lib.hid m1
        have HM2 := Lib.hid m2
        have HM3 := Lib.hid m3
        have HM4 := Lib.hid m4
        have HMEM := Lib.hid hmem
        rw [show (⟨(rs[1 + j]).toArray⟩ : ByteArray).data.toList = rs[1 + j] from rfl] at HTK
        clear hgb hc7 m1 m2 m3 m4 m5 hst hrng hR hdn hdr hmem
        generalize need[j] = c at *
        generalize rs[1 + j] = x at *
        generalize wr.iterAt g ⟨need.toArray⟩ (j + 1) = W1 at *
        have hl1' : (1 : Int) + (j : Int) < (rs.length : Int) := by omega
        go_wp2_with fail
        refine HTK.out.mono ?_
        rintro e w2 ⟨hg2, hpost⟩
        have HG2 := Lib.hid hg2
        clear hg2 hcell HTK
        cases htf : takeF c x p with
        | none =>
          rw [htf] at hpost HR2
          simp only at hpost
          subst hpost
          have HRN2 : Hid (RN = none) := Lib.hid (by rw [HR.out, HR2.out]; rfl)
          have HX2 := Lib.hid (HM3.out.grown HG2.out (by simpa using HP.out.rb))
          have HB2 := Lib.hid (HM4.out.grown HG2.out HM4.out.size (fun q hq => by cases hq; exact HP.out.bge))
          obtain ⟨r0, r1, r2, r3, r4, r5, r6, r7⟩ := HX2.out.cells8
          obtain ⟨g0, g1, g2, g3, g4, g5, g6, g7⟩ := HX2.out.frozs8
          clear htf HR2 HR HG2 HM1 HM2 HM3 HM4 HP
          go_wp2_with fail
          refine bodyPost_ret (v := .tuple #[pduP ⟨0, 0, 0, 0, 0, [], false, []⟩ (.slice none 0 0), .bool false]) (by unfold pduP cellsP; simp [results, Tryz.results10, go_sem, r0, r1, r2, r3, r4, r5, r6, r7]) rfl (parse_no HRN2.out ?_ rfl)
          exact bel_set8 HB2.out _ _ _ _ _ _ _ _
        | some q =>
          rw [htf] at hpost HR2
          obtain ⟨rfl, lv2, hst2⟩ := hpost
          have HN2 := Lib.hid (HP.out.next HM1.out HM2.out HM3.out HM4.out HG2.out hst2 (takeF_rng HMEM.out hxl HRN.out htf) HR2.out)
          have HIT := Lib.hid HP.out.it
          clear htf hst2 HR2 HG2 HM1 HM2 HM3 HM4 HP
          go_wp2_with fail
          go_roundw
          case rel => exact ⟨j + 1, by omega, HN2.out⟩
          case measure => rw [iterPos_of HN2.out.it, iterPos_of HIT.out]; omega
      · have hnx := fun ty => Lib.run_next_end_at (P := Tryz.prog) wr g ⟨need.toArray⟩ j ty HP.out.it (by rw [size_arr]; exact hlt)
        obtain ⟨p, lv, hst, hrng, hR⟩ := HP.out.st
        rw [List.drop_of_length_le (by omega)] at hR
        have hR2 : FR = some p := by rw [hR]; simp [fieldsOf]
        have HR2 : Hid (RN = if ckOf p = 0 then some p else none) := Lib.hid (by rw [HR.out, hR2]; rfl)
        clear hR hR2 HR
        obtain ⟨k1, sq, n, ps, mr, l, self, d⟩ := p
        obtain ⟨hsq, hn, hps, hmr, hl, hll, hd⟩ := hrng
        simp only at hsq hn hps hmr hl hll hd
        have HO := Lib.hid hst.2
        have HX := Lib.hid hst.1
        unfold cellsP at HX
        simp only at HO HX
        have HI := Lib.hid (IntsR.of_owns HO.out (by omega))
        obtain ⟨al, cl', rfl, _, _, _⟩ := HI.out.len
        have HCK := Lib.hid (check_any k1 sq n ps mr (.slice al l.length cl') l self ⟨d.toArray⟩ wr (by omega) (by omega) (by omega) HI.out (fun x hx => by have := hl x hx; omega) (by rw [size_arr]; omega) (by omega))
        have HB := Lib.hid HP.out.bel
        have HRS2 := Lib.hid HP.out.res
        have hbge := HP.out.bge
        have hckd : checkOf k1 sq n ps mr l self (⟨d.toArray⟩ : ByteArray).size = ckOf ⟨k1, sq, n, ps, mr, l, self, d⟩ := by unfold ckOf; rw [size_arr]
        rw [hckd] at HCK
        unfold pduV at HCK
        have HDD : Hid ((⟨d.toArray⟩ : ByteArray) = ⟨d.toArray⟩) := Lib.hid rfl
        generalize hC : ckOf ⟨k1, sq, n, ps, mr, l, self, d⟩ = C at *
        clear hst hckd hC hl HP HLT
        obtain ⟨p0, p1, p2, p3, p4, p5, p6, p7⟩ := HX.out.cells8
        clear HDD
        go_wp2_with fail
        refine HCK.out.mono ?_
        rintro e w3 ⟨rfl, hb3⟩
        have HX3 := Lib.hid (HX.out.below hb3 HX.out.lt)
        have HO3 := Lib.hid (own_below HO.out hb3)
        have HB3 := Lib.hid (belSeq HB.out hb3)
        have HRS3 := Lib.hid (HRS2.out.below hb3 HRS2.out.lt)
        clear hb3 HX HO HB HRS2 HI HCK p0 p1 p2 p3 p4 p5 p6 p7
        obtain ⟨p0, p1, p2, p3, p4, p5, p6, p7⟩ := HX3.out.cells8
        obtain ⟨r0, r1, r2, r3, r4, r5, r6, r7⟩ := HRS3.out.cells8
        obtain ⟨g0, g1, g2, g3, g4, g5, g6, g7⟩ := HRS3.out.frozs8
        by_cases hC : C = 0
        · subst hC
          have HRN2 : Hid (RN = some ⟨k1, sq, n, ps, mr, l, self, d⟩) := Lib.hid (by rw [HR2.out, if_pos rfl])
          clear HR2
          go_wp2_with fail
          refine bodyPost_ret (v := .tuple #[pduP ⟨k1, sq, n, ps, mr, l, self, d⟩ (.slice al l.length cl'), .bool true]) (by unfold pduP cellsP; simp [results, Tryz.results10, go_sem, r0, r1, r2, r3, r4, r5, r6, r7]) rfl (parse_ok HRN2.out (bel_set8 HB3.out _ _ _ _ _ _ _ _) ?_ rfl)
          exact own_set8 HO3.out HRS3.out _ _ _ _ _ _ _ _
        · have HRN2 : Hid (RN = none) := Lib.hid (by rw [HR2.out, if_neg hC])
          have hC2 : (C != 0) = true := by simpa using hC
          clear HR2 hC
          go_wp2_with fail
          refine bodyPost_ret (v := .tuple #[pduP ⟨0, 0, 0, 0, 0, [], false, []⟩ (.slice none 0 0), .bool false]) (by unfold pduP cellsP; simp [results, Tryz.results10, go_sem, r0, r1, r2, r3, r4, r5, r6, r7]) rfl (parse_no HRN2.out ?_ rfl)
          exact bel_set8 HB3.out _ _ _ _ _ _ _ _
end Go.Proofs.YtohenohgceaibaaGreatDoor
