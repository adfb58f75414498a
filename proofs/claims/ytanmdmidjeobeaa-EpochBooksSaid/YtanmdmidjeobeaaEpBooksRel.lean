/-
  The loop's relation of the statement EpochBooks, and what each round leaves.
-/
import Derived.Test.YtanmdmidjeobeaaEpGrid
set_option linter.unusedVariables false
set_option linter.unusedSimpArgs false
namespace Go.Proofs.Ytanmdmidjeobeaa
open Go.RowKit

def BkRel (w : World) (B bS bG : Nat) (ns : List Nt) (i : Value) (wr : World) : Prop :=
  ∃ (k : Nat) (n : Nat → Nat) (X : Nat → Nat → List ByteArray) (V : Nat → Value) (R : Nat → Nat → Value) (F : Nat → Prop), k ≤ ns.length ∧ k ≤ 100 ∧ i = .int .i64 k ∧ Hid (Book wr B B (foldN (ns.take k)) F) ∧ Hid (GridR wr B n X V R) ∧
    Hid (BoxAt wr bS 29 [V 0, V 1]) ∧ Hid (BoxAt wr bG 29 [V 2, V 3]) ∧ Hid (∀ x, F x → w.heap.size ≤ x ∧ x < wr.heap.size ∧ x ≠ bS ∧ x ≠ bG ∧ ¬ GFoot n V R x) ∧ Hid (Cont n X (foldN (ns.take k))) ∧ Hid (Below w.heap.size w wr)

/-- What stands behind Add, ahead of the lists' turn. -/
structure MidB (w w6 : World) (B bS bG : Nat) (ns : List Nt) (k : Nat) (n : Nat → Nat) (X : Nat → Nat → List ByteArray) (V : Nat → Value) (R : Nat → Nat → Value) (F6 : Nat → Prop) (h h' : Held) : Prop where
  hk : k < ns.length
  hk100 : k < 100
  fold : foldN (ns.take (k + 1)) = h'
  book : Book w6 B B h' F6
  far : ∀ x, F6 x → w.heap.size ≤ x ∧ x ≠ bS ∧ x ≠ bG ∧ ¬ GFoot n V R x
  grid : GridR w6 B n X V R
  boxS : BoxAt w6 bS 29 [V 0, V 1]
  boxG : BoxAt w6 bG 29 [V 2, V 3]
  cont : Cont n X h
  bel : Below w.heap.size w w6
  hB : w.heap.size ≤ B
  hS : w.heap.size ≤ bS
  hG : w.heap.size ≤ bG
  hSG : bS ≠ bG

theorem MidB.close {w w6 wz : World} {B bS bG k : Nat} {ns : List Nt} {n n' : Nat → Nat} {X X' : Nat → Nat → List ByteArray} {V V' : Nat → Value} {R R' : Nat → Nat → Value} {F6 : Nat → Prop} {h h' : Held} (m : MidB w w6 B bS bG ns k n X V R F6 h h')
    (hfr : Fr (fun x => x = bS ∨ x = bG ∨ GFoot n V R x) w6 wz) (hgrid : GridR wz B n' X' V' R') (hfoot : ∀ x, GFoot n' V' R' x → GFoot n V R x ∨ w6.heap.size ≤ x) (hS : BoxAt wz bS 29 [V' 0, V' 1]) (hG : BoxAt wz bG 29 [V' 2, V' 3])
    (hcont : Cont n' X' h') : BkRel w B bS bG ns (.int .i64 ((k : Int) + 1)) wz := by
  refine ⟨k + 1, n', X', V', R', fun x => F6 x ∧ x < w6.heap.size, m.hk, m.hk100, by simp, Lib.hid ?_, Lib.hid hgrid, Lib.hid hS, Lib.hid hG, Lib.hid (fun x hx => ?_), Lib.hid (by rw [m.fold]; exact hcont), Lib.hid (below_fr m.bel hfr (fun x hx => ?_))⟩
  · rw [m.fold]
    refine (m.book.mono (F' := fun x => F6 x ∧ x < w6.heap.size) (fun x _ h1 h2 => ⟨h2, h1⟩)).fr hfr (fun x hx => ?_)
    obtain ⟨a, b, c, d⟩ := m.far x hx.1
    rintro (y | y | y)
    · exact b y
    · exact c y
    · exact d y
  · obtain ⟨a, b, c, d⟩ := m.far x hx.1
    have := hfr.size
    refine ⟨a, by omega, b, c, fun y => ?_⟩
    rcases hfoot x y with z | z
    · exact d z
    · have := hx.2; omega
  · rcases hx with y | y | y
    · have := m.hS; omega
    · have := m.hG; omega
    · have := (m.grid.lt y).1; have := m.hB; omega
theorem MidB.same {w w6 wz : World} {B bS bG k : Nat} {ns : List Nt} {n : Nat → Nat} {X : Nat → Nat → List ByteArray} {V : Nat → Value} {R : Nat → Nat → Value} {F6 : Nat → Prop} {h h' : Held} (m : MidB w w6 B bS bG ns k n X V R F6 h h')
    (hb : Below w6.heap.size w6 wz) (he : h' = h) : BkRel w B bS bG ns (.int .i64 ((k : Int) + 1)) wz :=
  m.close (Fr.of_below hb) (m.grid.below hb) (fun _ hx => Or.inl hx) (m.boxS.below hb m.boxS.lt) (m.boxG.below hb m.boxG.lt) (by rw [he]; exact m.cont)

theorem box_set (V : Nat → Value) (e : Nat) (he : e < 2) (v : Value) : [V 0, V 1].set e v = [updV V e v 0, updV V e v 1] := by
  have h : e = 0 ∨ e = 1 := by omega
  rcases h with rfl | rfl <;> simp [updV]
theorem box_set2 (V : Nat → Value) (e : Nat) (he : e < 2) (v : Value) : [V 2, V 3].set e v = [updV V (2 + e) v 2, updV V (2 + e) v 3] := by
  have h : e = 0 ∨ e = 1 := by omega
  rcases h with rfl | rfl <;> simp [updV]
theorem own_box {w : World} {B : Nat} {s : Nat} {v : Value} {n : Nat} {xs : List Value} {b : Nat} {E T : TypeId} {cs : List Value} (h : w.ownsRow B E s v n xs) (hb : BoxAt w b T cs) (hne : T ≠ E) : some b ≠ v.ownBlock := Ne.symm (own_block h hb hne)

/-- A new row on each side. -/
theorem MidB.beg {w w6 W w7 W' w8 : World} {B bS bG k e g1 g2 cap1 cap2 : Nat} {ns : List Nt} {n : Nat → Nat} {X : Nat → Nat → List ByteArray} {V : Nat → Value} {R : Nat → Nat → Value} {F6 : Nat → Prop} {h h' : Held} (m : MidB w w6 B bS bG ns k n X V R F6 h h') (he : e < 2)
    (hh : h' = updH h e (h e ++ [([], [])])) (hWa : Below w6.heap.size w6 W) (hg1 : W.grownBy w7 (V e).ownBlock) (hown1 : w7.ownsRow B 45 1 (.slice (some ⟨g1, 0, none⟩) (n e + 1) cap1) (n e + 1) ((List.range (n e)).map (R e) ++ [.slice none 0 0]))
    (hat1 : (V e).ownBlock = some g1 ∨ g1 = W.heap.size) (hWb : Below w7.heap.size w7 W') (hg2 : W'.grownBy w8 (V (2 + e)).ownBlock)
    (hown2 : w8.ownsRow B 45 1 (.slice (some ⟨g2, 0, none⟩) (n (2 + e) + 1) cap2) (n (2 + e) + 1) ((List.range (n (2 + e))).map (R (2 + e)) ++ [.slice none 0 0])) (hat2 : (V (2 + e)).ownBlock = some g2 ∨ g2 = W'.heap.size) :
    BkRel w B bS bG ns (.int .i64 ((k : Int) + 1)) ((w8.setCell ⟨bS, e, none⟩ (.slice (some ⟨g1, 0, none⟩) (n e + 1) cap1)).setCell ⟨bG, e, none⟩ (.slice (some ⟨g2, 0, none⟩) (n (2 + e) + 1) cap2)) := by
  have hne : ¬ (2 + e = e) := by omega
  have hgr0 := m.grid.below hWa
  have hgr1 := (hgr0.push (show e < 4 by omega) hown1 hg1 hat1).below hWb
  have eN : updN n e (n e + 1) (2 + e) = n (2 + e) := by simp [updN]
  have eV : updV V e (.slice (some ⟨g1, 0, none⟩) (n e + 1) cap1) (2 + e) = V (2 + e) := by simp [updV]
  have eR : (List.range (n (2 + e))).map (updX R e (n e) (.slice none 0 0) (2 + e)) = (List.range (n (2 + e))).map (R (2 + e)) := range_congr (fun j _ => by unfold updX; rw [if_neg (fun x => hne x.1)])
  have hgr2 := hgr1.push (i := 2 + e) (g := g2) (cap := cap2) (w1 := w8) (by omega) (by rw [eN, eR]; exact hown2) (by rw [eV]; exact hg2) (by rw [eV]; exact hat2)
  rw [eN] at hgr2
  -- the two blocks
  have bS0 := m.boxS.below hWa m.boxS.lt
  have bG0 := m.boxG.below hWa m.boxG.lt
  have bS1 := (bS0.grown hg1 (own_box (hgr0.rows e (by omega)) bS0 arr_ne_ss)).below hWb (by have := hg1.size; have := bS0.lt; omega)
  have bG1 := (bG0.grown hg1 (own_box (hgr0.rows e (by omega)) bG0 arr_ne_ss)).below hWb (by have := hg1.size; have := bG0.lt; omega)
  have hrow2 := hgr1.rows (2 + e) (by omega)
  rw [eV] at hrow2
  have bS2 := bS1.grown hg2 (own_box hrow2 bS1 arr_ne_ss)
  have bG2 := bG1.grown hg2 (own_box hrow2 bG1 arr_ne_ss)
  have bS3 := bS2.set e (.slice (some ⟨g1, 0, none⟩) (n e + 1) cap1)
  have bG3 := bG2.other (a := ⟨bS, e, none⟩) (Ne.symm m.hSG) (.slice (some ⟨g1, 0, none⟩) (n e + 1) cap1)
  have bS4 := bS3.other (a := ⟨bG, e, none⟩) m.hSG (.slice (some ⟨g2, 0, none⟩) (n (2 + e) + 1) cap2)
  have bG4 := bG3.set e (.slice (some ⟨g2, 0, none⟩) (n (2 + e) + 1) cap2)
  have hgr3 := (hgr2.other bS2 (j := e) (.slice (some ⟨g1, 0, none⟩) (n e + 1) cap1)).other bG3 (j := e) (.slice (some ⟨g2, 0, none⟩) (n (2 + e) + 1) cap2)
  refine m.close ?_ hgr3 (fun x hx => ?_) ?_ ?_ ?_
  · refine Fr.trans (Fr.trans (Fr.trans (Fr.trans (Fr.trans (Fr.of_below hWa) (Fr.grown (F := fun x => (V e).ownBlock = some x) hg1 (fun k hk => hk)) ?_) (Fr.of_below (F := fun _ => False) hWb) (fun _ h => h.elim)) (Fr.grown (F := fun x => (V (2 + e)).ownBlock = some x) hg2 (fun k hk => hk)) ?_) (Fr.setCell (F := fun x => x = bS) _ _ _ rfl) ?_) (Fr.setCell (F := fun x => x = bG) _ _ _ rfl) ?_
    · exact fun x hx => Or.inl (Or.inr (Or.inr (Or.inl ⟨e, by omega, hx⟩)))
    · exact fun x hx => Or.inl (Or.inr (Or.inr (Or.inl ⟨2 + e, by omega, hx⟩)))
    · exact fun x hx => Or.inl (Or.inl hx)
    · exact fun x hx => Or.inl (Or.inr (Or.inl hx))
  · have s1 := hWa.size
    have s2 := hg1.size
    have s3 := hWb.size
    have n1 : (V e).ownBlock = some g1 ∨ w6.heap.size ≤ g1 := by rcases hat1 with y | y; exact Or.inl y; right; omega
    have n2 : (V (2 + e)).ownBlock = some g2 ∨ w6.heap.size ≤ g2 := by rcases hat2 with y | y; exact Or.inl y; right; omega
    rcases hx with ⟨i, hi, hx⟩ | ⟨i, j, hi, hj, hx⟩
    · unfold updV at hx
      split at hx
      · have : g2 = x := by simpa [Value.ownBlock] using hx
        subst this
        rcases n2 with y | y
        · exact Or.inl (Or.inl ⟨2 + e, by omega, y⟩)
        · exact Or.inr y
      · split at hx
        · have : g1 = x := by simpa [Value.ownBlock] using hx
          subst this
          rcases n1 with y | y
          · exact Or.inl (Or.inl ⟨e, by omega, y⟩)
          · exact Or.inr y
        · exact Or.inl (Or.inl ⟨i, hi, hx⟩)
    · unfold updX at hx
      split at hx
      · simp [Value.ownBlock] at hx
      · split at hx
        · simp [Value.ownBlock] at hx
        · rename_i h1 h2
          refine Or.inl (Or.inr ⟨i, j, hi, ?_, hx⟩)
          unfold updN at hj
          split at hj
          · rename_i y; subst y
            have : j ≠ n (2 + e) := fun z => h1 ⟨rfl, z⟩
            omega
          · split at hj
            · rename_i y; subst y
              have : j ≠ n i := fun z => h2 ⟨rfl, z⟩
              omega
            · exact hj
  · rw [box_set V e he] at bS4
    have a0 : ¬ (0 = 2 + e) := by omega
    have a1 : ¬ (1 = 2 + e) := by omega
    simpa [updV, a0, a1] using bS4
  · rw [box_set2 V e he] at bG4
    have a0 : ¬ (2 = e) := by omega
    have a1 : ¬ (3 = e) := by omega
    simpa [updV, a0, a1] using bG4
  · rw [hh]
    have := m.cont.push e he
    rw [eN] at this
    exact this

/-- A text more on one side. -/
theorem MidB.txt {w w6 W w7 : World} {B bS bG k e j gr c g cap : Nat} {ns : List Nt} {n : Nat → Nat} {X : Nat → Nat → List ByteArray} {V : Nat → Value} {R : Nat → Nat → Value} {F6 : Nat → Prop} {h h' : Held} {d : ByteArray} (q : Bool) (m : MidB w w6 B bS bG ns k n X V R F6 h h') (he : e < 2) (hn : n e = j + 1) (hi : n (2 * qn q + e) = j + 1)
    (hh : h' = updH h e (addLast q d (h e))) (hV : V (2 * qn q + e) = .slice (some ⟨gr, 0, none⟩) (j + 1) c) (hWa : Below w6.heap.size w6 W)
    (hown : w7.ownsRow B 9 1 (.slice (some ⟨g, 0, none⟩) ((X (2 * qn q + e) j).length + 1) cap) ((X (2 * qn q + e) j).length + 1) ((X (2 * qn q + e) j).map Value.string ++ [.string d]))
    (hg : W.grownBy w7 (R (2 * qn q + e) j).ownBlock) (hat : (R (2 * qn q + e) j).ownBlock = some g ∨ g = W.heap.size) :
    BkRel w B bS bG ns (.int .i64 ((k : Int) + 1)) (w7.setCell ⟨gr, j, none⟩ (.slice (some ⟨g, 0, none⟩) ((X (2 * qn q + e) j).length + 1) cap)) := by
  have hi4 : 2 * qn q + e < 4 := by unfold qn; split <;> omega
  have hgr0 := m.grid.below hWa
  have hgr1 := hgr0.text (j := j) hi4 (by omega) (by rw [hV, hi]) hown hg hat
  have bS0 := m.boxS.below hWa m.boxS.lt
  have bG0 := m.boxG.below hWa m.boxG.lt
  have bS1 := bS0.grown hg (own_box (hgr0.strs _ hi4 j (by omega)) bS0 arr_ne_str)
  have bG1 := bG0.grown hg (own_box (hgr0.strs _ hi4 j (by omega)) bG0 arr_ne_str)
  have hVr := hgr0.rows _ hi4
  have hgS : bS ≠ gr := fun x => by
    have := own_block hVr bS0 arr_ne_ss
    rw [hV] at this
    exact this (by rw [x]; rfl)
  have hgG : bG ≠ gr := fun x => by
    have := own_block hVr bG0 arr_ne_ss
    rw [hV] at this
    exact this (by rw [x]; rfl)
  refine m.close ?_ hgr1 (fun x hx => ?_) (bS1.other hgS _) (bG1.other hgG _) ?_
  · refine Fr.trans (Fr.trans (Fr.of_below hWa) (Fr.grown (F := fun x => (R (2 * qn q + e) j).ownBlock = some x) hg (fun k hk => hk)) ?_) (Fr.setCell (F := fun x => x = gr) _ _ _ rfl) ?_
    · exact fun x hx => Or.inl (Or.inr (Or.inr (Or.inr ⟨_, j, hi4, by omega, hx⟩)))
    · exact fun x hx => Or.inl (Or.inr (Or.inr (Or.inl ⟨_, hi4, by rw [hV, hx]; rfl⟩)))
  · have s1 := hWa.size
    rcases hx with hx | ⟨i, j', hi', hj, hx⟩
    · exact Or.inl (Or.inl hx)
    · unfold updX at hx
      split at hx
      · have : g = x := by simpa [Value.ownBlock] using hx
        subst this
        rcases hat with y | y
        · exact Or.inl (Or.inr ⟨_, j, hi4, by omega, y⟩)
        · right; omega
      · exact Or.inl (Or.inr ⟨i, j', hi', hj, hx⟩)
  · rw [hh]
    exact m.cont.text e j he q d hn
end Go.Proofs.Ytanmdmidjeobeaa
