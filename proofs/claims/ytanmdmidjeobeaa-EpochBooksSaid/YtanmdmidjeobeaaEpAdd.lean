/-
  Contract of Book.Add.
-/
import Derived.Test.YtanmdmidjeobeaaEpBook
import Derived.Test.YtanmdmidjeobeaaBigStruct
import Derived.Deep.RegionLaw
import Derived.BigRegion
import Derived.Deep.DeepCutAuto
set_option linter.unusedVariables false
set_option linter.unusedSimpArgs false
namespace Go.Proofs.Ytanmdmidjeobeaa
open Go.RowKit

/-- A record in short: End, Kind, Signal.Kind, Signal.Data, Request.Kind, Request.Data; all else is zero. -/
structure Rc where
  en : Int
  kind : Int
  sk : Int
  sd : ByteArray
  rk : Int
  rd : ByteArray
def Rc.cells (r : Rc) : List Value := (recCells r.en r.kind r.sk r.sd r.rk r.rd).toList

/-- What a book holds, and what it holds behind a record. -/
abbrev Held := Nat → List (List ByteArray × List ByteArray)
def heldOf (n : Nat → Nat) (X : Nat → Nat → Bool → List ByteArray) : Held := fun e => (List.range (n e)).map fun j => (X e j false, X e j true)
def updH (h : Held) (e : Nat) (l : List (List ByteArray × List ByteArray)) : Held := fun e' => if e' = e then l else h e'
def addLast (q : Bool) (d : ByteArray) (l : List (List ByteArray × List ByteArray)) : List (List ByteArray × List ByteArray) := match l.getLast? with
  | none => l
  | some x => l.dropLast ++ [if q then (x.1, x.2 ++ [d]) else (x.1 ++ [d], x.2)]
def begH (h : Held) (r : Rc) : Held := if begB r.kind r.sk r.rk then updH h r.en.toNat (h r.en.toNat ++ [([], [])]) else h
def datH (h : Held) (r : Rc) : Held :=
  if r.kind = 6 ∧ r.rk = 7 then updH h r.en.toNat (addLast false r.rd (h r.en.toNat)) else
  if r.kind = 5 ∧ r.sk = 8 then updH h r.en.toNat (addLast true r.sd (h r.en.toNat)) else h
def stepRec (h : Held) (r : Rc) : Held := if r.en < 0 ∨ 2 ≤ r.en then h else datH (begH h r) r

theorem held_begin (n : Nat → Nat) (X : Nat → Nat → Bool → List ByteArray) (e : Nat) : heldOf (updN n e (n e + 1)) (updR X e (n e) []) = updH (heldOf n X) e (heldOf n X e ++ [([], [])]) := by
  funext e'
  unfold heldOf updH updN
  by_cases h : e' = e
  · subst h
    simp only [if_true]
    rw [List.range_succ, List.map_append]
    congr 1
    · refine List.map_congr_left (fun j hj => ?_)
      have : j ≠ n e' := by have := List.mem_range.1 hj; omega
      simp [updR, this]
    · simp [updR]
  · simp only [if_neg h]
    refine List.map_congr_left (fun j hj => ?_)
    simp [updR, h]
theorem held_data (n : Nat → Nat) (X : Nat → Nat → Bool → List ByteArray) (e m : Nat) (q : Bool) (d : ByteArray) (hm : n e = m + 1) : heldOf n (updQ X e m q (X e m q ++ [d])) = updH (heldOf n X) e (addLast q d (heldOf n X e)) := by
  funext e'
  unfold heldOf updH
  by_cases h : e' = e
  · subst h
    simp only [if_true]
    rw [hm, List.range_succ, List.map_append, List.map_append]
    unfold addLast
    simp only [List.map_cons, List.map_nil, List.getLast?_concat, List.dropLast_concat]
    congr 1
    · refine List.map_congr_left (fun j hj => ?_)
      have : j ≠ m := by have := List.mem_range.1 hj; omega
      simp [updQ, this]
    · cases q <;> simp [updQ]
  · simp only [if_neg h]
    refine List.map_congr_left (fun j hj => ?_)
    simp [updQ, h]
theorem held_nil (n : Nat → Nat) (X : Nat → Nat → Bool → List ByteArray) (e : Nat) (q : Bool) (d : ByteArray) (hm : n e = 0) : updH (heldOf n X) e (addLast q d (heldOf n X e)) = heldOf n X := by
  funext e'
  unfold updH
  by_cases h : e' = e
  · subst h
    simp [heldOf, hm, addLast]
  · simp [h]
theorem datH_nil (n : Nat → Nat) (X : Nat → Nat → Bool → List ByteArray) (r : Rc) (hm : n r.en.toNat = 0) : datH (heldOf n X) r = heldOf n X := by
  unfold datH
  split
  · exact held_nil _ _ _ _ _ hm
  · split
    · exact held_nil _ _ _ _ _ hm
    · rfl

/-- A record that lies at a place. -/
structure RecAt (w : World) (b o : Nat) (r : Rc) : Prop where
  c0 : w.cell? ⟨b, o, none⟩ = some (.int .i64 r.en)
  c1 : w.cell? ⟨b, o + 1, none⟩ = some (.int .i64 r.kind)
  c2 : w.cell? ⟨b, o + 2, none⟩ = some (.int .i64 0)
  c3 : w.cell? ⟨b, o + 3, none⟩ = some (.int .i64 0)
  c4 : w.cell? ⟨b, o + 4, none⟩ = some (.int .u32 0)
  c5 : w.cell? ⟨b, o + 5, none⟩ = some (.int .u32 0)
  c6 : w.cell? ⟨b, o + 6, none⟩ = some (.int .u32 0)
  c7 : w.cell? ⟨b, o + 7, none⟩ = some (.slice none 0 0)
  c8 : w.cell? ⟨b, o + 8, none⟩ = some (.bool false)
  c9 : w.cell? ⟨b, o + 9, none⟩ = some (.string ⟨#[]⟩)
  c10 : w.cell? ⟨b, o + 10, none⟩ = some (.int .i64 r.sk)
  c11 : w.cell? ⟨b, o + 11, none⟩ = some (.string r.sd)
  c12 : w.cell? ⟨b, o + 12, none⟩ = some (.bool false)
  c13 : w.cell? ⟨b, o + 13, none⟩ = some (.int .u8 0)
  c14 : w.cell? ⟨b, o + 14, none⟩ = some (.int .i64 0)
  c15 : w.cell? ⟨b, o + 15, none⟩ = some (.int .i64 r.rk)
  c16 : w.cell? ⟨b, o + 16, none⟩ = some (.string r.rd)
  c17 : w.cell? ⟨b, o + 17, none⟩ = some (.int .i64 0)
theorem RecAt.fr {F : Nat → Prop} {w w' : World} {b o : Nat} {r : Rc} (h : RecAt w b o r) (hf : Fr F w w') (hn : ¬ F b) : RecAt w' b o r :=
  ⟨hf.cell h.c0 hn, hf.cell h.c1 hn, hf.cell h.c2 hn, hf.cell h.c3 hn, hf.cell h.c4 hn, hf.cell h.c5 hn, hf.cell h.c6 hn, hf.cell h.c7 hn, hf.cell h.c8 hn, hf.cell h.c9 hn, hf.cell h.c10 hn, hf.cell h.c11 hn, hf.cell h.c12 hn, hf.cell h.c13 hn, hf.cell h.c14 hn, hf.cell h.c15 hn, hf.cell h.c16 hn, hf.cell h.c17 hn⟩
theorem RecAt.range {w : World} {b o : Nat} {r : Rc} (h : RecAt w b o r) : w.rangeAt b o r.cells := by
  intro j v hv
  match j, hv with
  | 0, hv => cases hv; exact h.c0
  | 1, hv => cases hv; exact h.c1
  | 2, hv => cases hv; exact h.c2
  | 3, hv => cases hv; exact h.c3
  | 4, hv => cases hv; exact h.c4
  | 5, hv => cases hv; exact h.c5
  | 6, hv => cases hv; exact h.c6
  | 7, hv => cases hv; exact h.c7
  | 8, hv => cases hv; exact h.c8
  | 9, hv => cases hv; exact h.c9
  | 10, hv => cases hv; exact h.c10
  | 11, hv => cases hv; exact h.c11
  | 12, hv => cases hv; exact h.c12
  | 13, hv => cases hv; exact h.c13
  | 14, hv => cases hv; exact h.c14
  | 15, hv => cases hv; exact h.c15
  | 16, hv => cases hv; exact h.c16
  | 17, hv => cases hv; exact h.c17
  | n + 18, hv => exact absurd hv (by simp [Rc.cells, recCells])
theorem rec_info : (Try.prog.info? 43).map (·.size) = some 18 := by kernel_rfl
theorem recs_one (r : Rc) : (#[.int .i64 r.en, .int .i64 r.kind, .int .i64 0, .int .i64 0, .int .u32 0, .int .u32 0, .int .u32 0, .slice none 0 0, .bool false, .string ⟨#[]⟩, .int .i64 r.sk, .string r.sd, .bool false, .int .u8 0, .int .i64 0, .int .i64 r.rk, .string r.rd, .int .i64 0] : Array Value).all (·.oneCell') = true := all_oneCell_toArray (cs := [.int .i64 r.en, .int .i64 r.kind, .int .i64 0, .int .i64 0, .int .u32 0, .int .u32 0, .int .u32 0, .slice none 0 0, .bool false, .string ⟨#[]⟩, .int .i64 r.sk, .string r.sd, .bool false, .int .u8 0, .int .i64 0, .int .i64 r.rk, .string r.rd, .int .i64 0]) (by simp [Value.oneCell'])
/-- A slice of records. -/
def RecsR (w : World) (v : Value) (rs : List Rc) : Prop :=
  ∃ b c, v = .slice (some ⟨b, 0, none⟩) rs.length c ∧ ∀ j (h : j < rs.length), RecAt w b (j * 18) rs[j]

def AddPost (w : World) (B b : Nat) (n : Nat → Nat) (X : Nat → Nat → Bool → List ByteArray) (V : Nat → Value) (R : Nat → Nat → Bool → Value) (rs : List Rc) (e : Ending) (w' : World) : Prop :=
  e = .returned (.tuple #[]) ∧ ∃ n' X' V' R', BookAt w' B b n' X' V' R' ∧ heldOf n' X' = rs.foldl stepRec (heldOf n X) ∧ Fr (Foot b n V R) w w' ∧ ∀ k, Foot b n' V' R' k → Foot b n V R k ∨ w.heap.size ≤ k

def AddRel (w : World) (B b : Nat) (n : Nat → Nat) (X : Nat → Nat → Bool → List ByteArray) (V : Nat → Value) (R : Nat → Nat → Bool → Value) (rs : List Rc) (i : Value) (wr : World) : Prop :=
  ∃ (k : Nat) (n' : Nat → Nat) (X' : Nat → Nat → Bool → List ByteArray) (V' : Nat → Value) (R' : Nat → Nat → Bool → Value), k ≤ rs.length ∧ i = .int .i64 k ∧ BookAt wr B b n' X' V' R' ∧
      Hid (heldOf n' X' = (rs.take k).foldl stepRec (heldOf n X)) ∧ Fr (Foot b n V R) w wr ∧ Hid (∀ x, Foot b n' V' R' x → Foot b n V R x ∨ w.heap.size ≤ x) ∧
      Hid (∀ e, e < 2 → n' e + (rs.length - k) ≤ 100000) ∧ Hid (∀ e j q, e < 2 → j < n' e → (X' e j q).length + (rs.length - k) ≤ 100000)

theorem info_ep : (Try.prog.info? 49).map (fun i => (i.zero, i.size, i.bytes)) = some (some (.agg #[.slice none 0 0, .slice none 0 0]), 2, 48) := by kernel_rfl
theorem info_str : (Try.prog.info? 9).map (fun i => (i.zero, i.size, i.bytes)) = some (some (.string ⟨#[]⟩), 1, 16) := by kernel_rfl
theorem BookAt.cell {w : World} {B b : Nat} {n : Nat → Nat} {X : Nat → Nat → Bool → List ByteArray} {V : Nat → Value} {R : Nat → Nat → Bool → Value} (h : BookAt w B b n X V R) {e : Nat} (he : e < 2) : w.cell? ⟨b, e, none⟩ = some (V e) := by
  rw [cell_of_row _ _ _ _ _ _ h.block]
  have h2 : e = 0 ∨ e = 1 := by omega
  rcases h2 with rfl | rfl <;> rfl
theorem BookAt.frozen {w : World} {B b : Nat} {n : Nat → Nat} {X : Nat → Nat → Bool → List ByteArray} {V : Nat → Value} {R : Nat → Nat → Bool → Value} (h : BookAt w B b n X V R) (e : Nat) : w.frozen? ⟨b, e, none⟩ = false := frozen_of_row w b e _ _ h.block


theorem BookAt.row {w : World} {B b : Nat} {n : Nat → Nat} {X : Nat → Nat → Bool → List ByteArray} {V : Nat → Value} {R : Nat → Nat → Bool → Value} (h : BookAt w B b n X V R) {e m : Nat} (he : e < 2) (hm : n e = m + 1) :
    ∃ g cap, V e = .slice (some ⟨g, 0, none⟩) (m + 1) cap ∧ B ≤ g ∧ (∀ j, j < n e → ∀ q, w.cell? ⟨g, j * 2 + qn q, none⟩ = some (R e j q)) ∧ ∀ o, w.frozen? ⟨g, o, none⟩ = false := by
  have ho := h.rows e he
  obtain ⟨g, cap, hv, hb, _⟩ := ho.form (by omega)
  refine ⟨g, cap, by rw [hv, hm], hb, fun j hj q => ?_, fun o => by rw [hv] at ho; exact ho.frozenAt o⟩
  have := ho.cells (g := g) (by rw [hv]; rfl) (j * 2 + qn q) (R e j q) (by
    have := flatN_get (n e) (R e) j hj
    cases q
    · exact this.1
    · exact this.2)
  rw [Addr.add_lit, Nat.zero_add] at this
  exact this
theorem BookAt.none_row {w : World} {B b : Nat} {n : Nat → Nat} {X : Nat → Nat → Bool → List ByteArray} {V : Nat → Value} {R : Nat → Nat → Bool → Value} (h : BookAt w B b n X V R) {e : Nat} (he : e < 2) (hm : n e = 0) : ∃ a c, V e = .slice a 0 c := by
  rcases (h.rows e he).2 with ⟨hv, _⟩ | ⟨g, cap, cur, hv, _⟩
  · exact ⟨_, _, hv⟩
  · exact ⟨_, _, by rw [hv, hm]⟩

/-- Behind 'if begins': the book with the new epoch, where one begins; the record's cells. -/
def MidRel (wr wx : World) (B b : Nat) (n : Nat → Nat) (X : Nat → Nat → Bool → List ByteArray) (V : Nat → Value) (R : Nat → Nat → Bool → Value) (r : Rc) (N : Nat) : Prop :=
  ∃ n1 X1 V1 R1, BookAt wx B b n1 X1 V1 R1 ∧ Hid (heldOf n1 X1 = begH (heldOf n X) r) ∧ Fr (Foot b n V R) wr wx ∧ Hid (∀ x, Foot b n1 V1 R1 x → (Foot b n V R x ∨ wr.heap.size ≤ x) ∧ x ≠ wr.heap.size) ∧
    Hid (∀ e, e < 2 → n1 e ≤ n e + 1) ∧ Hid (∀ e j q, e < 2 → j < n1 e → (X1 e j q).length ≤ N) ∧ wr.heap.size < wx.heap.size ∧ RecAt wx wr.heap.size 0 r
theorem mid_beg {wr w1 w2 : World} {B b e g cap N : Nat} {n : Nat → Nat} {X : Nat → Nat → Bool → List ByteArray} {V : Nat → Value} {R : Nat → Nat → Bool → Value} {o o1 : Obj} {r : Rc} (hbk0 : BookAt wr B b n X V R) (hen : r.en = (e : Int)) (he : e < 2) (hbeg : begB r.kind r.sk r.rk = true)
    (hb1 : Below (wr.alloc o1).heap.size (wr.alloc o1) w1) (hra : RecAt (wr.alloc o1) wr.heap.size 0 r)
    (hown : w2.ownsRow B 49 2 (.slice (some ⟨g, 0, none⟩) (n e + 1) cap) (n e + 1) (flatN (n e) (R e) ++ [.slice none 0 0, .slice none 0 0]))
    (hg : (w1.alloc o).drew.grownBy w2 (V e).ownBlock) (hat : (V e).ownBlock = some g ∨ g = w1.heap.size + 1) (hN : ∀ e j q, e < 2 → j < n e → (X e j q).length ≤ N) :
    MidRel wr (w2.setCell ⟨b, e, none⟩ (.slice (some ⟨g, 0, none⟩) (n e + 1) cap)) B b n X V R r N := by
  have hz1 := hb1.size
  simp at hz1
  have hwr1 : Below wr.heap.size wr w1 := belAlloc hb1 (by simp)
  have hbk := hbk0.keep hwr1
  have hW : Below w1.heap.size w1 (w1.alloc o).drew := ((Below.refl _ _).alloc (Nat.le_refl _) o).drew
  have hlt : b < w1.heap.size := (Array.getElem?_eq_some_iff.1 hbk.block).1
  have hlt0 : b < wr.heap.size := (Array.getElem?_eq_some_iff.1 hbk0.block).1
  have hB := hbk.hB
  have hVlt : ∀ k, (V e).ownBlock = some k → k < wr.heap.size := fun k hk => ((hbk0.rows e he).lt k hk).2
  have hFg : Fr (fun x => x = b ∨ (V e).ownBlock = some x) w1 (w2.setCell ⟨b, e, none⟩ (.slice (some ⟨g, 0, none⟩) (n e + 1) cap)) :=
    Fr.trans (Fr.trans (Fr.of_below hW) (Fr.grown (F := fun x => (V e).ownBlock = some x) hg (fun k hk => hk)) (fun x hx => Or.inl (Or.inr hx))) (Fr.setCell (F := fun x => x = b) _ _ _ rfl) (fun x hx => Or.inl (Or.inl hx))
  have hen2 : r.en.toNat = e := by omega
  refine ⟨_, _, _, _, BookAt.begin hbk he hW (by simp; omega) hown hg (by simpa using hat), Lib.hid ?_, ?_, Lib.hid (fun x hx => ?_), Lib.hid (fun e' he' => ?_), Lib.hid (fun e' j q he' hj => ?_), ?_, ?_⟩
  · unfold begH; rw [if_pos hbeg, hen2]; exact held_begin n X e
  · refine Fr.trans (Fr.of_below hwr1) (hFg.mono (F' := Foot b n V R) (fun k hk => ?_)) (fun x hx => Or.inl hx)
    rcases hk with hk | hk
    · exact Or.inl hk
    · exact Or.inr (Or.inl ⟨e, he, hk⟩)
  · have hgn : (V e).ownBlock = some g ∨ wr.heap.size < g := by
      rcases hat with h | h
      · exact Or.inl h
      · right; omega
    have hold : Foot b n V R x → (Foot b n V R x ∨ wr.heap.size ≤ x) ∧ x ≠ wr.heap.size := fun h => ⟨Or.inl h, by
      rcases h with h | ⟨e', he', h⟩ | ⟨e', j, q, he', hj, h⟩
      · omega
      · have := ((hbk0.rows e' he').lt x h).2; omega
      · have := ((hbk0.strs e' he' j hj q).lt x h).2; omega⟩
    rcases hx with hx | ⟨e', he', hx⟩ | ⟨e', j, q, he', hj, hx⟩
    · exact hold (Or.inl hx)
    · unfold updV at hx
      split at hx
      · have hgx : g = x := by simpa [Value.ownBlock] using hx
        subst hgx
        rcases hgn with h | h
        · exact hold (Or.inr (Or.inl ⟨e, he, h⟩))
        · exact ⟨Or.inr (by omega), by omega⟩
      · exact hold (Or.inr (Or.inl ⟨e', he', hx⟩))
    · unfold updR at hx
      split at hx
      · simp [Value.ownBlock] at hx
      · rename_i hne
        refine hold (Or.inr (Or.inr ⟨e', j, q, he', ?_, hx⟩))
        unfold updN at hj
        split at hj
        · rename_i h; subst h
          have : j ≠ n e' := fun y => hne ⟨rfl, y⟩
          omega
        · exact hj
  · unfold updN; split
    · rename_i h; subst h; exact Nat.le_refl _
    · omega
  · unfold updR
    split
    · simp
    · rename_i hne
      refine hN e' j q he' ?_
      unfold updN at hj
      split at hj
      · rename_i h; subst h
        have : j ≠ n e' := fun y => hne ⟨rfl, y⟩
        omega
      · exact hj
  · have := hFg.size; omega
  · have h2 : RecAt w1 wr.heap.size 0 r := hra.fr (F := fun _ => False) ⟨hb1.os, hb1.tape, hb1.output, hb1.size, fun k hk _ => hb1.block k hk⟩ (fun h => h)
    refine h2.fr hFg (fun h => ?_)
    rcases h with h | h
    · omega
    · have := hVlt _ h; omega
theorem mid_same {wr w1 : World} {B b N : Nat} {n : Nat → Nat} {X : Nat → Nat → Bool → List ByteArray} {V : Nat → Value} {R : Nat → Nat → Bool → Value} {o1 : Obj} {r : Rc} (hbk0 : BookAt wr B b n X V R) (hbeg : begB r.kind r.sk r.rk = false)
    (hb1 : Below (wr.alloc o1).heap.size (wr.alloc o1) w1) (hra : RecAt (wr.alloc o1) wr.heap.size 0 r) (hN : ∀ e j q, e < 2 → j < n e → (X e j q).length ≤ N) :
    MidRel wr w1 B b n X V R r N := by
  have hz1 := hb1.size
  simp at hz1
  have hwr1 : Below wr.heap.size wr w1 := belAlloc hb1 (by simp)
  have hlt0 : b < wr.heap.size := (Array.getElem?_eq_some_iff.1 hbk0.block).1
  refine ⟨n, X, V, R, hbk0.keep hwr1, Lib.hid (by unfold begH; rw [hbeg]; rfl), Fr.of_below hwr1, Lib.hid (fun x h => ⟨Or.inl h, ?_⟩), Lib.hid (fun e he => by omega), Lib.hid hN, by omega,
    hra.fr (F := fun _ => False) ⟨hb1.os, hb1.tape, hb1.output, hb1.size, fun k hk _ => hb1.block k hk⟩ (fun h => h)⟩
  rcases h with h | ⟨e', he', h⟩ | ⟨e', j, q, he', hj, h⟩
  · omega
  · have := ((hbk0.rows e' he').lt x h).2; omega
  · have := ((hbk0.strs e' he' j hj q).lt x h).2; omega

/-- The loop's relation closes, behind a round. -/
theorem AddRel.step {w wr W' : World} {B b : Nat} {n n' n'' : Nat → Nat} {X X' X'' : Nat → Nat → Bool → List ByteArray} {V V' V'' : Nat → Value} {R R' R'' : Nat → Nat → Bool → Value} {rs : List Rc} {k : Nat} {r : Rc} (hk : k < rs.length)
    (HL : (rs.take (k + 1)).foldl stepRec (heldOf n X) = stepRec (heldOf n' X') r) (hbk : BookAt W' B b n'' X'' V'' R'') (hheld : heldOf n'' X'' = stepRec (heldOf n' X') r) (hfr : Fr (Foot b n V R) w wr)
    (hft : ∀ x, Foot b n' V' R' x → Foot b n V R x ∨ w.heap.size ≤ x) (hfr2 : Fr (Foot b n' V' R') wr W') (hft2 : ∀ x, Foot b n'' V'' R'' x → Foot b n' V' R' x ∨ wr.heap.size ≤ x)
    (hs1 : ∀ e, e < 2 → n'' e + (rs.length - (k + 1)) ≤ 100000) (hs2 : ∀ e j q, e < 2 → j < n'' e → (X'' e j q).length + (rs.length - (k + 1)) ≤ 100000) :
    AddRel w B b n X V R rs (.int .i64 ((k : Int) + 1)) W' := by
  refine ⟨k + 1, n'', X'', V'', R'', hk, by simp, hbk, Lib.hid (hheld.trans HL.symm), hfr.trans hfr2 hft, Lib.hid (fun x hx => ?_), Lib.hid hs1, Lib.hid hs2⟩
  rcases hft2 x hx with h | h
  · exact hft x h
  · right; have := hfr.size; omega

/-- What the rest of a round leaves: the book with the text, where one came. -/
def EndRel (wx w' : World) (B b : Nat) (n1 : Nat → Nat) (X1 : Nat → Nat → Bool → List ByteArray) (V1 : Nat → Value) (R1 : Nat → Nat → Bool → Value) (r : Rc) : Prop :=
  ∃ X2 R2, BookAt w' B b n1 X2 V1 R2 ∧ heldOf n1 X2 = datH (heldOf n1 X1) r ∧ Fr (Foot b n1 V1 R1) wx w' ∧ (∀ x, Foot b n1 V1 R2 x → Foot b n1 V1 R1 x ∨ wx.heap.size ≤ x) ∧ (∀ e j q, e < 2 → j < n1 e → (X2 e j q).length ≤ (X1 e j q).length + 1)
theorem end_same {wx w' : World} {B b : Nat} {n1 : Nat → Nat} {X1 : Nat → Nat → Bool → List ByteArray} {V1 : Nat → Value} {R1 : Nat → Nat → Bool → Value} {r : Rc} (h : BookAt wx B b n1 X1 V1 R1) (hb : Below wx.heap.size wx w') (hd : datH (heldOf n1 X1) r = heldOf n1 X1) : EndRel wx w' B b n1 X1 V1 R1 r :=
  ⟨X1, R1, h.keep hb, hd.symm, Fr.of_below hb, fun _ hx => Or.inl hx, fun _ _ _ _ _ => Nat.le_succ _⟩
theorem end_data {wx W w1 : World} {B b e m g c gr cap : Nat} {n : Nat → Nat} {X : Nat → Nat → Bool → List ByteArray} {V : Nat → Value} {R : Nat → Nat → Bool → Value} {r : Rc} {q : Bool} {d : ByteArray} (hbk : BookAt wx B b n X V R) (he : e < 2) (hm : n e = m + 1)
    (hV : V e = .slice (some ⟨g, 0, none⟩) (m + 1) c) (hW : Below wx.heap.size wx W) (hWs : wx.heap.size ≤ W.heap.size) (hown : w1.ownsRow B 9 1 (.slice (some ⟨gr, 0, none⟩) ((X e m q).length + 1) cap) ((X e m q).length + 1) ((X e m q).map Value.string ++ [.string d]))
    (hg : W.grownBy w1 (R e m q).ownBlock) (hat : (R e m q).ownBlock = some gr ∨ gr = W.heap.size) (hd : datH (heldOf n X) r = updH (heldOf n X) e (addLast q d (heldOf n X e))) :
    EndRel wx (w1.setCell ⟨g, m * 2 + qn q, none⟩ (.slice (some ⟨gr, 0, none⟩) ((X e m q).length + 1) cap)) B b n X V R r := by
  refine ⟨_, _, BookAt.data hbk he (j := m) (by omega) (by rw [hV, hm]) hW hown hg hat, by rw [hd]; exact held_data n X e m q d hm, ?_, fun x hx => ?_, fun e' j q' he' hj => ?_⟩
  · refine Fr.trans (Fr.trans (Fr.of_below hW) (Fr.grown (F := fun x => (R e m q).ownBlock = some x) hg (fun k hk => hk)) (fun x hx => Or.inl (Or.inr (Or.inr ⟨e, m, q, he, by omega, hx⟩)))) (Fr.setCell (F := fun x => x = g) _ _ _ rfl) (fun x hx => Or.inl ?_)
    subst hx
    exact Or.inr (Or.inl ⟨e, he, by rw [hV]; rfl⟩)
  · rcases hx with hx | ⟨e', he', hx⟩ | ⟨e', j, q', he', hj, hx⟩
    · exact Or.inl (Or.inl hx)
    · exact Or.inl (Or.inr (Or.inl ⟨e', he', hx⟩))
    · unfold updQ at hx
      split at hx
      · have hgx : gr = x := by simpa [Value.ownBlock] using hx
        subst hgx
        rcases hat with h | h
        · exact Or.inl (Or.inr (Or.inr ⟨e, m, q, he, by omega, h⟩))
        · right; omega
      · exact Or.inl (Or.inr (Or.inr ⟨e', j, q', he', hj, hx⟩))
  · unfold updQ
    split
    · rename_i h; obtain ⟨rfl, rfl, rfl⟩ := h; simp
    · omega
theorem AddRel.close {w wr wx W' : World} {B b : Nat} {n n' n1 : Nat → Nat} {X X' X1 : Nat → Nat → Bool → List ByteArray} {V V' V1 : Nat → Value} {R R' R1 : Nat → Nat → Bool → Value} {rs : List Rc} {k : Nat} {r : Rc} (hk : k < rs.length) (hen : ¬ (r.en < 0 ∨ 2 ≤ r.en))
    (HL : (rs.take (k + 1)).foldl stepRec (heldOf n X) = stepRec (heldOf n' X') r) (hfr : Fr (Foot b n V R) w wr) (hft : ∀ x, Foot b n' V' R' x → Foot b n V R x ∨ w.heap.size ≤ x)
    (hh1 : heldOf n1 X1 = begH (heldOf n' X') r) (hfr1 : Fr (Foot b n' V' R') wr wx) (hft1 : ∀ x, Foot b n1 V1 R1 x → (Foot b n' V' R' x ∨ wr.heap.size ≤ x) ∧ x ≠ wr.heap.size) (hn1 : ∀ e, e < 2 → n1 e ≤ n' e + 1) (hx1 : ∀ e j q, e < 2 → j < n1 e → (X1 e j q).length ≤ 100000 - (rs.length - k))
    (hs1 : ∀ e, e < 2 → n' e + (rs.length - k) ≤ 100000) (hrl : rs.length ≤ 100000) (h : EndRel wx W' B b n1 X1 V1 R1 r) :
    AddRel w B b n X V R rs (.int .i64 ((k : Int) + 1)) W' := by
  obtain ⟨X2, R2, hbk2, hh2, hfr2, hft2, hx2⟩ := h
  refine AddRel.step hk HL hbk2 ?_ hfr hft (hfr1.trans hfr2 (fun x hx => (hft1 x hx).1)) (fun x hx => ?_) (fun e he => ?_) (fun e j q he hj => ?_)
  · rw [hh2, hh1]; unfold stepRec; rw [if_neg hen]
  · rcases hft2 x hx with h | h
    · exact (hft1 x h).1
    · right; have := hfr1.size; omega
  · have := hn1 e he; have := hs1 e he; omega
  · have := hx2 e j q he hj; have := hx1 e j q he hj; omega

set_option maxHeartbeats 4000000 in
set_option maxRecDepth 100000 in
theorem add_any (v : Value) (rs : List Rc) (B b : Nat) (n : Nat → Nat) (X : Nat → Nat → Bool → List ByteArray) (V : Nat → Value) (R : Nat → Nat → Bool → Value) (w : World) (hbook : BookAt w B b n X V R) (hrs : RecsR w v rs)
    (hfar : ∀ rb, v.ownBlock = some rb → ¬ Foot b n V R rb) (hsz : ∀ e, e < 2 → n e + rs.length ≤ 100000) (hsz2 : ∀ e j q, e < 2 → j < n e → (X e j q).length + rs.length ≤ 100000) (hBw : B ≤ w.heap.size) :
    Calls Try.prog 8 #[.pointer (some ⟨b, 0, none⟩), v] w (AddPost w B b n X V R rs) := by
  obtain ⟨rb, rc, rfl, hcell⟩ := hrs
  have HC := Lib.hid hcell
  have hrl : rs.length ≤ 100000 := by have := hsz 0 (by omega); omega
  have hfar2 : ¬ Foot b n V R rb := hfar rb rfl
  clear hcell hfar
  obtain ⟨i0, hi, hz0, hz1, hz2⟩ := info_parts info_ep
  obtain ⟨i9, hi9, hz90, hz91, hz92⟩ := info_parts info_str
  go_enter Try.func8, Try.ntmps8
  go_wp2_with fail
  go_loopw [9] (AddRel w B b n X V R rs) (fun i _ => rs.length - (intOf i).toNat)
  case atStart => exact ⟨0, n, X, V, R, Nat.zero_le _, rfl, hbook, Lib.hid rfl, Fr.refl _ _, Lib.hid (fun x hx => Or.inl hx), Lib.hid hsz, Lib.hid hsz2⟩
  case round =>
    obtain ⟨k, n', X', V', R', hk, rfl, hbk, hab, hfr, hft, hs1, hs2⟩ := hrel
    by_cases hlt : k < rs.length
    · have hlast : (rs.take (k + 1)).foldl stepRec (heldOf n X) = stepRec ((rs.take k).foldl stepRec (heldOf n X)) rs[k] := by
        rw [List.take_succ_eq_append_getElem hlt, List.foldl_append]; rfl
      rw [← hab.out] at hlast
      have HL := Lib.hid hlast
      clear hlast
      have hra := (HC.out k hlt).fr hfr hfar2
      generalize rs[k] = r at *
      have hrg := Lib.hid hra.range
      clear hra
      by_cases hen : r.en < 0 ∨ 2 ≤ r.en
      · have hst : stepRec (heldOf n' X') r = heldOf n' X' := by unfold stepRec; rw [if_pos hen]
        replace hst := Lib.hid hst
        rcases hen with hen | hen
        all_goals
          go_wp2_with (first | (refine wpList_load_mid rfl 43 (.tmp 11) rfl rb (k * 18) (by rfl) [.int .i64 r.en, .int .i64 r.kind, .int .i64 0, .int .i64 0, .int .u32 0, .int .u32 0, .int .u32 0, .slice none 0 0, .bool false, .string ⟨#[]⟩, .int .i64 r.sk, .string r.sd, .bool false, .int .u8 0, .int .i64 0, .int .i64 r.rk, .string r.rd, .int .i64 0] _ hrg.out Try.underlying43 rfl rec_info ?_) | (refine wpList_store_new rfl 43 (.tmp 5) (.tmp 12) rfl wr.heap.size 43 _ #[.int .i64 r.en, .int .i64 r.kind, .int .i64 0, .int .i64 0, .int .u32 0, .int .u32 0, .int .u32 0, .slice none 0 0, .bool false, .string ⟨#[]⟩, .int .i64 r.sk, .string r.sd, .bool false, .int .u8 0, .int .i64 0, .int .i64 r.rk, .string r.rd, .int .i64 0] rfl (by rfl) (by rfl) rfl rec_info (recs_one r) ?_))
          exact ⟨AddRel.step hlt HL.out (hbk.keep ((Below.refl _ _).alloc (Nat.le_refl _) _)) hst.out.symm hfr hft.out (Fr.of_below ((Below.refl _ _).alloc (Nat.le_refl _) _)) (fun x hx => Or.inl hx) (fun e he => by have := hs1.out e he; omega) (fun e j q he hj => by have := hs2.out e j q he hj; omega), by simp [intOf]; omega⟩
      · obtain ⟨en, kd, sk, sd, rk, rd⟩ := r
        simp only at hen
        have HEN := Lib.hid hen
        obtain ⟨e, rfl⟩ := Int.eq_ofNat_of_zero_le (show 0 ≤ en by omega)
        have he2 : e < 2 := by omega
        have hbox : Hid ((wr.alloc (.cells #[.int .i64 (e : Int), .int .i64 kd, .int .i64 0, .int .i64 0, .int .u32 0, .int .u32 0, .int .u32 0, .slice none 0 0, .bool false, .string ⟨#[]⟩, .int .i64 sk, .string sd, .bool false, .int .u8 0, .int .i64 0, .int .i64 rk, .string rd, .int .i64 0] 43)).rangeAt wr.heap.size 0 [.int .i64 (e : Int), .int .i64 kd, .int .i64 0, .int .i64 0, .int .u32 0, .int .u32 0, .int .u32 0, .slice none 0 0, .bool false, .string ⟨#[]⟩, .int .i64 sk, .string sd, .bool false, .int .u8 0, .int .i64 0, .int .i64 rk, .string rd, .int .i64 0]) := Lib.hid (fun j v hv => by
          rw [Nat.zero_add, cell_of_row _ _ _ _ _ _ (heap_alloc_new wr _)]
          simpa using hv)
        have HRA : Hid (RecAt (wr.alloc (.cells #[.int .i64 (e : Int), .int .i64 kd, .int .i64 0, .int .i64 0, .int .u32 0, .int .u32 0, .int .u32 0, .slice none 0 0, .bool false, .string ⟨#[]⟩, .int .i64 sk, .string sd, .bool false, .int .u8 0, .int .i64 0, .int .i64 rk, .string rd, .int .i64 0] 43)) wr.heap.size 0 ⟨(e : Int), kd, sk, sd, rk, rd⟩) := by
          have h2 := hbox.out
          refine Lib.hid ⟨?_, ?_, ?_, ?_, ?_, ?_, ?_, ?_, ?_, ?_, ?_, ?_, ?_, ?_, ?_, ?_, ?_, ?_⟩
          · exact h2 0 _ rfl
          · exact h2 1 _ rfl
          · exact h2 2 _ rfl
          · exact h2 3 _ rfl
          · exact h2 4 _ rfl
          · exact h2 5 _ rfl
          · exact h2 6 _ rfl
          · exact h2 7 _ rfl
          · exact h2 8 _ rfl
          · exact h2 9 _ rfl
          · exact h2 10 _ rfl
          · exact h2 11 _ rfl
          · exact h2 12 _ rfl
          · exact h2 13 _ rfl
          · exact h2 14 _ rfl
          · exact h2 15 _ rfl
          · exact h2 16 _ rfl
          · exact h2 17 _ rfl
        have HN : Hid (∀ e j q, e < 2 → j < n' e → (X' e j q).length ≤ 100000 - (rs.length - k)) := Lib.hid (fun e j q he hj => by have := hs2.out e j q he hj; omega)
        have HBEG : Hid (∀ W : World, Calls Try.prog 15 #[.agg #[.int .i64 (e : Int), .int .i64 kd, .int .i64 0, .int .i64 0, .int .u32 0, .int .u32 0, .int .u32 0, .slice none 0 0, .bool false, .string ⟨#[]⟩, .int .i64 sk, .string sd, .bool false, .int .u8 0, .int .i64 0, .int .i64 rk, .string rd, .int .i64 0]] W fun e w' => e = .returned (.bool (begB kd sk rk)) ∧ Below W.heap.size W w') := Lib.hid (fun W => begins_any (e : Int) kd sk sd rk rd W)
        go_upto_if 22 with (first | (refine wpList_load_mid rfl 43 (.tmp 11) rfl rb (k * 18) (by rfl) [.int .i64 (e : Int), .int .i64 kd, .int .i64 0, .int .i64 0, .int .u32 0, .int .u32 0, .int .u32 0, .slice none 0 0, .bool false, .string ⟨#[]⟩, .int .i64 sk, .string sd, .bool false, .int .u8 0, .int .i64 0, .int .i64 rk, .string rd, .int .i64 0] _ hrg.out Try.underlying43 rfl rec_info ?_) | (refine wpList_store_new rfl 43 (.tmp 5) (.tmp 12) rfl wr.heap.size 43 _ #[.int .i64 (e : Int), .int .i64 kd, .int .i64 0, .int .i64 0, .int .u32 0, .int .u32 0, .int .u32 0, .slice none 0 0, .bool false, .string ⟨#[]⟩, .int .i64 sk, .string sd, .bool false, .int .u8 0, .int .i64 0, .int .i64 rk, .string rd, .int .i64 0] rfl (by rfl) (by rfl) rfl rec_info (recs_one ⟨(e : Int), kd, sk, sd, rk, rd⟩) ?_) | (refine wpList_load_mid rfl 43 (.tmp 5) rfl wr.heap.size 0 (by rfl) [.int .i64 (e : Int), .int .i64 kd, .int .i64 0, .int .i64 0, .int .u32 0, .int .u32 0, .int .u32 0, .slice none 0 0, .bool false, .string ⟨#[]⟩, .int .i64 sk, .string sd, .bool false, .int .u8 0, .int .i64 0, .int .i64 rk, .string rd, .int .i64 0] _ (hbox.out) Try.underlying43 rfl rec_info ?_) | (go_at_call 15; (with_reducible refine (HBEG.out _).mono ?_); rintro e1 w1 ⟨rfl, hb1⟩))
        go_cut [] (fun wx => MidRel wr wx B b n' X' V' R' ⟨(e : Int), kd, sk, sd, rk, rd⟩ (100000 - (rs.length - k)))
        case first =>
          cases hbeg : begB kd sk rk with
          | true =>
            have hbel1 : Below wr.heap.size wr w1 := belAlloc hb1 (by simp)
            have hbk1 := hbk.keep hbel1
            have hce : w1.cell? ⟨wr.heap.size, 0, none⟩ = some (.int .i64 (e : Int)) := by
              rw [bcell hb1 _ _ (by simp)]; simp
            have hcv := hbk1.cell he2
            have hfz := hbk1.frozen e
            have hown := hbk1.rows e he2
            have hn1 : n' e ≤ 100000 := by have := hs1.out e he2; omega
            have hBw1 : B ≤ w1.heap.size := by have := hbel1.size; have := hfr.size; omega
            have hlb : b < w1.heap.size := (Array.getElem?_eq_some_iff.1 hbk1.block).1
            have hlx : wr.heap.size < w1.heap.size := by have := hb1.size; simp at this; omega
            have hne1 : (V' e).ownBlock ≠ some b := own_block hown hbk1.block book_ne_ep
            have hne2 : (V' e).ownBlock ≠ some wr.heap.size := by
              intro hx
              have := ((hbk.rows e he2).lt _ hx).2
              omega
            have hbx : b ≠ wr.heap.size := by
              have := (Array.getElem?_eq_some_iff.1 hbk.block).1; omega
            have he0 : (0 : Int) ≤ (e : Int) := Int.natCast_nonneg _
            have he1 : (e : Int) < 2 := by omega
            have hfzn : ∀ o, (w1.alloc o).frozen? ⟨b, e, none⟩ = false := fun o => (bfroz ((Below.refl _ w1).alloc (Nat.le_refl _) o) b e hlb).trans hfz
            have HBG := Lib.hid hbeg
            clear hbeg
            go_wp2_with fail
            go_region_law (first | ((refine step_append_lies _ (by rfl) _ _ _ (by rfl) B 49 i0 _ 2 48 Try.underlying24 hi hz0 hz1 hz2 rfl (by omega) (V' e) (n' e) (flatN (n' e) (R' e)) (by rfl) ((hown.alloc _).drew) ⟨w1.heap.size, 0, none⟩ 1 1 [.slice none 0 0, .slice none 0 0] (by rfl) (by rfl) (World.news_of_block (cs := #[.slice none 0 0, .slice none 0 0]) (t := 49) (fr := (0, 0)) (heap_alloc_new w1 _)) (by simp [Value.oneCell']) (by omega) (by unfold maxLen; omega) (by omega) (by simp; omega) (w1.heap.size + 1) (by simp) ?_; intro gg cap w2 hown2 hgrow hat hlt2; have hw2e : w2.cell? ⟨wr.heap.size, 0, none⟩ = some (.int .i64 (e : Int)) := (hgrow.cell_far ⟨wr.heap.size, 0, none⟩ (by simp; omega) (Ne.symm hne2)).trans ((bcell ((Below.refl _ w1).alloc (Nat.le_refl _) _) wr.heap.size 0 hlx).trans hce); have hw2c : w2.cell? ⟨b, e, none⟩ = some (V' e) := (hgrow.cell_far ⟨b, e, none⟩ (by simp; omega) (Ne.symm hne1)).trans ((bcell ((Below.refl _ w1).alloc (Nat.le_refl _) _) b e hlb).trans hcv); have hw2f : w2.frozen? ⟨b, e, none⟩ = false := (hgrow.frozen_far ⟨b, e, none⟩ (by simp; omega) (Ne.symm hne1)).trans (hfzn _))) | fail)
            all_goals
              go_wp2_with fail
              go_meet
              exact mid_beg hbk rfl he2 HBG.out hb1 HRA.out hown2 hgrow hat HN.out
          | false =>
            have HBG := Lib.hid hbeg
            go_wp2_with fail
            go_meet
            exact mid_same hbk HBG.out hb1 HRA.out HN.out
        case rest =>
          obtain ⟨n1, X1, V1, R1, hbk1, hh1, hfr1, hft1, hn1, hx1, hlx, hr1⟩ := hcut
          have z0 := hr1.c0
          have z1 := hr1.c1
          have z10 := hr1.c10
          have z11 := hr1.c11
          have z15 := hr1.c15
          have z16 := hr1.c16
          simp only [Nat.zero_add] at z0 z1 z10 z11 z15 z16
          have HR1 := Lib.hid hr1
          clear hr1
          have HCL : Hid (∀ W', EndRel wc W' B b n1 X1 V1 R1 ⟨(e : Int), kd, sk, sd, rk, rd⟩ → AddRel w B b n X V R rs (.int .i64 ((k : Int) + 1)) W') := Lib.hid (fun W' h => AddRel.close hlt HEN.out HL.out hfr hft.out hh1.out hfr1 hft1.out hn1.out hx1.out hs1.out hrl h)
          have hcv := hbk1.cell he2
          have he0 : (0 : Int) ≤ (e : Int) := Int.natCast_nonneg _
          have he1 : (e : Int) < 2 := by omega
          have hen1 : n1 e ≤ 100000 := by have := hn1.out e he2; have := hs1.out e he2; omega
          have HHY : Hid (heldOf n1 X1 = heldOf n1 X1) := Lib.hid rfl
          by_cases hz : n1 e = 0
          · obtain ⟨a0, c0, hV0⟩ := hbk1.none_row he2 hz
            rw [hV0] at hcv
            have HEND : Hid (∀ W', Below wc.heap.size wc W' → EndRel wc W' B b n1 X1 V1 R1 ⟨(e : Int), kd, sk, sd, rk, rd⟩) := Lib.hid (fun W' hb => end_same hbk1 hb (datH_nil n1 X1 _ (by simpa using hz)))
            clear hz hV0
            go_wp2_with fail
            go_quiet ((go_at_call 16; exact Calls.quiet_of_same ((lastOf_nil _ _ _).mono fun _ _ ⟨h1, h2⟩ => ⟨h1, h2.symm⟩)))
            go_wp2_with fail
            exact ⟨HCL.out _ (HEND.out _ (below_drewN (Below.refl _ _) _)), by simp [intOf]; omega⟩
          · obtain ⟨m, hm⟩ := Nat.exists_eq_succ_of_ne_zero hz
            have hm : n1 e = m + 1 := hm
            obtain ⟨g, cap, hVg, hgB, hgc, hgf⟩ := hbk1.row he2 hm
            rw [hVg] at hcv
            have HM := Lib.hid hm
            have hmb : m ≤ 100000 := by omega
            have HVG := Lib.hid hVg
            have q0 := hgc m (by omega) false
            have q1 := hgc m (by omega) true
            simp only [qn, Bool.false_eq_true, if_false, if_true, Nat.add_zero] at q0 q1
            clear hz hm hVg hgc hen1
            have HLS : Hid (∀ W : World, Calls Try.prog 16 #[.slice (some ⟨g, 0, none⟩) (m + 1) cap] W fun e w' => e = .returned (.pointer (some ⟨g, m * 2, none⟩)) ∧ w' = W) := Lib.hid (fun W => (lastOf_some g m cap W (by omega)).mono fun _ _ ⟨h1, h2⟩ => ⟨h1, h2.symm⟩)
            go_wp2_with fail
            go_quiet ((go_at_call 16; exact Calls.quiet_of_same (HLS.out _)))
            generalize hWq : wc.drewN _ = wq
            have HWq : Hid (Below wc.heap.size wc wq) := Lib.hid (hWq ▸ below_drewN (Below.refl _ _) _)
            have y1 : wq.cell? ⟨wr.heap.size, 1, none⟩ = some (.int .i64 kd) := (bcell HWq.out _ _ hlx).trans z1
            have y10 : wq.cell? ⟨wr.heap.size, 10, none⟩ = some (.int .i64 sk) := (bcell HWq.out _ _ hlx).trans z10
            have y11 : wq.cell? ⟨wr.heap.size, 11, none⟩ = some (.string sd) := (bcell HWq.out _ _ hlx).trans z11
            have y15 : wq.cell? ⟨wr.heap.size, 15, none⟩ = some (.int .i64 rk) := (bcell HWq.out _ _ hlx).trans z15
            have y16 : wq.cell? ⟨wr.heap.size, 16, none⟩ = some (.string rd) := (bcell HWq.out _ _ hlx).trans z16
            have hgl : g < wc.heap.size := block_lt_of_cell q0
            have p0 : wq.cell? ⟨g, m * 2, none⟩ = some (R1 e m false) := (bcell HWq.out _ _ hgl).trans q0
            have p1 : wq.cell? ⟨g, m * 2 + 1, none⟩ = some (R1 e m true) := (bcell HWq.out _ _ hgl).trans q1
            have hgq : g < wq.heap.size := block_lt_of_cell p0
            have hlq : wr.heap.size < wq.heap.size := block_lt_of_cell y1
            have hBq : B ≤ wq.heap.size := by have := HWq.out.size; have := hfr.size; omega
            have hfq : ∀ o, wq.frozen? ⟨g, o, none⟩ = false := fun o => (bfroz HWq.out g o hgl).trans (hgf o)
            have hfzn : ∀ o j, (wq.alloc o).frozen? ⟨g, j, none⟩ = false := fun o j => (bfroz ((Below.refl _ wq).alloc (Nat.le_refl _) o) g j hgq).trans (hfq j)
            clear z0 z1 z10 z11 z15 z16 q0 q1 hgf hcv HLS hWq
            by_cases hA : kd = 6 ∧ rk = 7
            · obtain ⟨rfl, rfl⟩ := hA
              have hs0 := own_below (hbk1.strs e he2 m (by have := HM.out; omega) false) HWq.out
              have hxl : (X1 e m false).length ≤ 100000 := by have := hx1.out e m false he2 (by have := HM.out; omega); omega
              have hne : (R1 e m false).ownBlock ≠ some g := by
                have hh := own_types (hbk1.strs e he2 m (by have := HM.out; omega) false) (hbk1.rows e he2) (Ne.symm ep_ne_str)
                rw [HVG.out] at hh
                rcases hh with x | x
                · rw [x]; simp
                · exact x
              have HEND : Hid (∀ (W w2 : World) (gr cap2 : Nat), Below wc.heap.size wc W → wc.heap.size ≤ W.heap.size → w2.ownsRow B 9 1 (.slice (some ⟨gr, 0, none⟩) ((X1 e m false).length + 1) cap2) ((X1 e m false).length + 1) ((X1 e m false).map Value.string ++ [.string rd]) → W.grownBy w2 (R1 e m false).ownBlock → ((R1 e m false).ownBlock = some gr ∨ gr = W.heap.size) →
                  EndRel wc (w2.setCell ⟨g, m * 2, none⟩ (.slice (some ⟨gr, 0, none⟩) ((X1 e m false).length + 1) cap2)) B b n1 X1 V1 R1 ⟨(e : Int), 6, sk, sd, 7, rd⟩) := Lib.hid (fun W w2 gr cap2 h1 h2 h3 h4 h5 => end_data (q := false) hbk1 he2 HM.out HVG.out h1 h2 h3 h4 h5 (by unfold datH; rw [if_pos ⟨rfl, rfl⟩]; rfl))
              go_wp2_with fail
              go_region_law (first | ((refine step_append_lies _ (by rfl) _ _ _ (by rfl) B 9 i9 _ 1 16 Try.underlying45 hi9 hz90 hz91 hz92 rfl (by omega) (R1 e m false) (X1 e m false).length ((X1 e m false).map Value.string) (by rfl) ((hs0.alloc _).drew) ⟨wq.heap.size, 0, none⟩ 1 1 [.string rd] (by rfl) (by rfl) (World.news_of_block (cs := #[.string rd]) (t := 9) (fr := (0, 0)) (heap_alloc_new wq _)) (by simp [Value.oneCell']) (by omega) (by unfold maxLen; omega) (by omega) (by simp; omega) (wq.heap.size + 1) (by simp) ?_; intro gg cap2 w2 hown2 hgrow hat hlt2; have hw2a : w2.cell? ⟨g, m * 2, none⟩ = some (R1 e m false) := (hgrow.cell_far ⟨g, m * 2, none⟩ (by simp; omega) (Ne.symm hne)).trans ((bcell ((Below.refl _ wq).alloc (Nat.le_refl _) _) g (m * 2) hgq).trans p0); have hw2f : w2.frozen? ⟨g, m * 2, none⟩ = false := (hgrow.frozen_far ⟨g, m * 2, none⟩ (by simp; omega) (Ne.symm hne)).trans (hfzn _ _))) | fail)
              all_goals
                go_wp2_with fail
                exact ⟨HCL.out _ (HEND.out _ w2 gg cap2 (((HWq.out.alloc HWq.out.size _)).drew) (by have := HWq.out.size; simp; omega) hown2 hgrow (by simpa using hat)), by simp [intOf]; omega⟩
            by_cases hB : kd = 5 ∧ sk = 8
            · obtain ⟨rfl, rfl⟩ := hB
              have hs0 := own_below (hbk1.strs e he2 m (by have := HM.out; omega) true) HWq.out
              have hxl : (X1 e m true).length ≤ 100000 := by have := hx1.out e m true he2 (by have := HM.out; omega); omega
              have hne : (R1 e m true).ownBlock ≠ some g := by
                have hh := own_types (hbk1.strs e he2 m (by have := HM.out; omega) true) (hbk1.rows e he2) (Ne.symm ep_ne_str)
                rw [HVG.out] at hh
                rcases hh with x | x
                · rw [x]; simp
                · exact x
              have HEND : Hid (∀ (W w2 : World) (gr cap2 : Nat), Below wc.heap.size wc W → wc.heap.size ≤ W.heap.size → w2.ownsRow B 9 1 (.slice (some ⟨gr, 0, none⟩) ((X1 e m true).length + 1) cap2) ((X1 e m true).length + 1) ((X1 e m true).map Value.string ++ [.string sd]) → W.grownBy w2 (R1 e m true).ownBlock → ((R1 e m true).ownBlock = some gr ∨ gr = W.heap.size) →
                  EndRel wc (w2.setCell ⟨g, m * 2 + 1, none⟩ (.slice (some ⟨gr, 0, none⟩) ((X1 e m true).length + 1) cap2)) B b n1 X1 V1 R1 ⟨(e : Int), 5, 8, sd, rk, rd⟩) := Lib.hid (fun W w2 gr cap2 h1 h2 h3 h4 h5 => end_data (q := true) hbk1 he2 HM.out HVG.out h1 h2 h3 h4 h5 (by unfold datH; rw [if_neg (fun h => absurd h.1 (show ¬ (5 : Int) = 6 by decide)), if_pos ⟨rfl, rfl⟩]; rfl))
              go_wp2_with fail
              go_region_law (first | ((refine step_append_lies _ (by rfl) _ _ _ (by rfl) B 9 i9 _ 1 16 Try.underlying45 hi9 hz90 hz91 hz92 rfl (by omega) (R1 e m true) (X1 e m true).length ((X1 e m true).map Value.string) (by rfl) ((hs0.alloc _).drew) ⟨wq.heap.size, 0, none⟩ 1 1 [.string sd] (by rfl) (by rfl) (World.news_of_block (cs := #[.string sd]) (t := 9) (fr := (0, 0)) (heap_alloc_new wq _)) (by simp [Value.oneCell']) (by omega) (by unfold maxLen; omega) (by omega) (by simp; omega) (wq.heap.size + 1) (by simp) ?_; intro gg cap2 w2 hown2 hgrow hat hlt2; have hw2a : w2.cell? ⟨g, m * 2 + 1, none⟩ = some (R1 e m true) := (hgrow.cell_far ⟨g, m * 2 + 1, none⟩ (by simp; omega) (Ne.symm hne)).trans ((bcell ((Below.refl _ wq).alloc (Nat.le_refl _) _) g (m * 2 + 1) hgq).trans p1); have hw2f : w2.frozen? ⟨g, m * 2 + 1, none⟩ = false := (hgrow.frozen_far ⟨g, m * 2 + 1, none⟩ (by simp; omega) (Ne.symm hne)).trans (hfzn _ _))) | fail)
              all_goals
                go_wp2_with fail
                exact ⟨HCL.out _ (HEND.out _ w2 gg cap2 (((HWq.out.alloc HWq.out.size _)).drew) (by have := HWq.out.size; simp; omega) hown2 hgrow (by simpa using hat)), by simp [intOf]; omega⟩
            have HEND : Hid (∀ W', Below wc.heap.size wc W' → EndRel wc W' B b n1 X1 V1 R1 ⟨(e : Int), kd, sk, sd, rk, rd⟩) := Lib.hid (fun W' hb => end_same hbk1 hb (by unfold datH; rw [if_neg hA, if_neg hB]))
            by_cases h6 : kd = 6
            · subst h6
              have h7 : (rk == 7) = false := beq_eq_false_iff_ne.2 (fun h => hA ⟨rfl, h⟩)
              clear hA hB
              go_wp2_with fail
              exact ⟨HCL.out _ (HEND.out _ HWq.out), by simp [intOf]; omega⟩
            · have h6b : (kd == 6) = false := beq_eq_false_iff_ne.2 h6
              by_cases h5 : kd = 5
              · subst h5
                have h8 : (sk == 8) = false := beq_eq_false_iff_ne.2 (fun h => hB ⟨rfl, h⟩)
                clear hA hB
                go_wp2_with fail
                exact ⟨HCL.out _ (HEND.out _ HWq.out), by simp [intOf]; omega⟩
              · have h5b : (kd == 5) = false := beq_eq_false_iff_ne.2 h5
                clear hA hB
                go_wp2_with fail
                exact ⟨HCL.out _ (HEND.out _ HWq.out), by simp [intOf]; omega⟩
    · have HF : Hid (heldOf n' X' = rs.foldl stepRec (heldOf n X)) := Lib.hid (by rw [hab.out, List.take_of_length_le (by omega)])
      go_wp2_with fail
      go_end0
      exact ⟨rfl, n', X', V', R', hbk, HF.out, hfr, hft.out⟩
end Go.Proofs.Ytanmdmidjeobeaa
