/-
  What the statements' helpers of layer 6 leave: Few and Own together.
-/
import Derived.Test.YtohenohgceaibaaGreatDoorPduFew
import Derived.Test.YtohenohgceaibaaGreatDoorPduOwn
set_option linter.unusedVariables false
set_option linter.unusedSimpArgs false
namespace Go.Proofs.YtohenohgceaibaaGreatDoor
open Go.RowKit

theorem cl_all (l : List Int) : ∀ x ∈ (l.take 140).map cl, 0 ≤ x ∧ x < 4294967296 := by
  intro x hx
  obtain ⟨y, _, rfl⟩ := List.mem_map.1 hx
  exact cl_in y
theorem cl_ids (l : List Int) (h : ∀ x ∈ l, 0 ≤ x ∧ x < 4294967296) : l.map cl = l := by
  induction l with
  | nil => rfl
  | cons a t ih => rw [List.map_cons, cl_id (h a (by simp)).1 (h a (by simp)).2, ih (fun x hx => h x (by simp [hx]))]
theorem cutB_size (m : Nat) (d : ByteArray) : (cutB m d).size ≤ m := by
  unfold cutB; rw [size_arr]; exact List.length_take_le _ _
/-- The same; the list lies in a row of the call's own. -/
theorem own_few2 (k sq n ps mr : Int) (lv : Value) (l : List Int) (self : Bool) (d : ByteArray) (w : World) (hn : 0 ≤ n ∧ n < 4294967296) (hps : 0 ≤ ps ∧ ps < 4294967296) (hmr : 0 ≤ mr ∧ mr < 4294967296)
    (hl : IntsR .i64 w lv l) (hlen : l.length ≤ 1000000) (hll : ∀ x ∈ l, 0 ≤ x ∧ x < 4294967296) :
    Calls Tryz.prog 7 #[refV k sq n ps mr lv self d] w (fun e w' => ∃ lv', e = .returned (pduV k sq n ps mr lv' self d) ∧ w'.ownsRow w.heap.size 28 1 lv' l.length (l.map (Value.int .u32)) ∧ Below w.heap.size w w') := by
  refine (own_any k sq n ps mr lv l self d w hl hlen).mono ?_
  rintro e w' ⟨lv', rfl, hI, hb, ho⟩
  rw [cl_id hn.1 hn.2, cl_id hps.1 hps.2, cl_id hmr.1 hmr.2]
  rw [cl_ids l hll] at ho
  exact ⟨lv', rfl, ho, hb⟩
theorem belSeq2 {w w1 w2 : World} (h : Below w.heap.size w w1) (k : Below w1.heap.size w1 w2) : Below w.heap.size w w2 := belSeq h k
/-- Own at what Few leaves. -/
theorem own_few (k sq n ps mr : Int) (lv : Value) (l : List Int) (self : Bool) (d : ByteArray) (w : World) (hn : 0 ≤ n ∧ n < 4294967296) (hps : 0 ≤ ps ∧ ps < 4294967296) (hmr : 0 ≤ mr ∧ mr < 4294967296)
    (hl : IntsR .i64 w lv l) (hlen : l.length ≤ 1000000) (hll : ∀ x ∈ l, 0 ≤ x ∧ x < 4294967296) :
    Calls Tryz.prog 7 #[refV k sq n ps mr lv self d] w (fun e w' => ∃ lv', e = .returned (pduV k sq n ps mr lv' self d) ∧ IntsR .u32 w' lv' l ∧ Below w.heap.size w w') := by
  refine (own_any k sq n ps mr lv l self d w hl hlen).mono ?_
  rintro e w' ⟨lv', rfl, hI, hb, -⟩
  rw [cl_id hn.1 hn.2, cl_id hps.1 hps.2, cl_id hmr.1 hmr.2]
  rw [cl_ids l hll] at hI
  exact ⟨lv', rfl, hI, hb⟩

/-- Few, its result written out. -/
theorem few_out (k sq n ps mr : Int) (lv : Value) (l : List Int) (self : Bool) (d : ByteArray) (hd : d.size ≤ maxLen) (w : World) (hl : IntsR .i64 w lv l) :
    Calls Tryz.prog 6 #[.agg #[.int .i64 k, .int .i64 sq, .int .i64 n, .int .i64 ps, .int .i64 mr, lv, .bool self, .string d]] w (fun e w' => ∃ a c, e = .returned (.agg #[.int .i64 k, .int .i64 sq, .int .i64 (cl n), .int .i64 (cl ps), .int .i64 (cl mr), .slice a ((l.take 140).map cl).length c, .bool self, .string (cutB 210 d)]) ∧ w'.ownsRow w.heap.size 3 1 (.slice a ((l.take 140).map cl).length c) ((l.take 140).map cl).length (((l.take 140).map cl).map (Value.int .i64)) ∧ Below w.heap.size w w') := by
  refine (few_any k sq n ps mr lv l self d w hl hd).mono ?_
  rintro e w' ⟨lv', rfl, ho, hb⟩
  obtain ⟨a, c, rfl, _, _, _⟩ := (IntsR.of_owns ho (by simp; omega)).len
  exact ⟨a, c, rfl, ho, hb⟩
end Go.Proofs.YtohenohgceaibaaGreatDoor
