/-
  The law LinkRests, at any world.
-/
import Derived.Test.YtkabaecoamilnaaGreatDoorCMAwake2
import Derived.Test.YtkabaecoamilnaaGreatDoorCMTicks
set_option linter.unusedVariables false
set_option linter.unusedSimpArgs false
namespace Go.Proofs.YtkabaecoamilnaaGreatDoor
open Go AX Go.RowKit
theorem rests_any (w : World) (a0 a1 a2 a3 a4 a5 b0 b1 b2 b3 b4 b5 room ticks : Int) (xa xb : Value) (ha : Tick w xa) (hb : Tick w xb) :
    Calls Tryz.prog 3 #[.agg #[.int .i64 a0, .int .i64 a1, .int .i64 a2, .int .i64 a3, .int .i64 a4, .int .i64 a5, xa, .int .i64 b0, .int .i64 b1, .int .i64 b2, .int .i64 b3, .int .i64 b4, .int .i64 b5, xb, .int .i64 room], .int .i64 ticks] w fun e w' => e = .returned (.bool true) ∧ Below w.heap.size w w' := by
  obtain ⟨la, ka, fa, za, la1, ka1, ra, va, qa⟩ := nums_rows ha
  obtain ⟨lb, kb, fb, zb, lb1, kb1, rb, vb, qb⟩ := nums_rows hb
  have hA : ∀ i r, la[i]? = some r → (la ++ lb)[0 + i]? = some r := fun i r h => by
    rw [Nat.zero_add, List.getElem?_append_left (List.getElem?_eq_some_iff.1 h).1]; exact h
  have hB : ∀ i r, lb[i]? = some r → (la ++ lb)[la.length + i]? = some r := fun i r h => by
    rw [List.getElem?_append_right (by omega), Nat.add_sub_cancel_left]; exact h
  have hw : WR Tryz.prog (rowsR (la ++ lb)) (rowsH (la ++ lb)) w := rows_wr (fun r h => (List.mem_append.1 h).elim (fun h => (ra r h).1) fun h => (rb r h).1) (fun r h => (List.mem_append.1 h).elim (fun h => (ra r h).2) fun h => (rb r h).2)
  have hlen : (la ++ lb).length ≤ 2 := by rw [List.length_append]; omega
  have sv : ∀ n : Int, VR (rowsR (la ++ lb)) (.int .i64 n) (.int .i64 n) := fun n => .int _ _
  have hargs : VA (rowsR (la ++ lb)) #[.agg ((AnyR.mk a0 a1 a2 a3 a4 a5 (fa 0) ka).cells ++ ((AnyR.mk b0 b1 b2 b3 b4 b5 (fb la.length) kb).cells ++ [Value.int .i64 room])).toArray, .int .i64 ticks]
      #[.agg #[.int .i64 a0, .int .i64 a1, .int .i64 a2, .int .i64 a3, .int .i64 a4, .int .i64 a5, xa, .int .i64 b0, .int .i64 b1, .int .i64 b2, .int .i64 b3, .int .i64 b4, .int .i64 b5, xb, .int .i64 room], .int .i64 ticks] := by
    refine (VL.cons (VR.mkAgg ?_) (VL.one (sv _))).array
    exact (VL.cons (sv _) (VL.cons (sv _) (VL.cons (sv _) (VL.cons (sv _) (VL.cons (sv _) (VL.cons (sv _) (VL.cons (va _ _ hA) (VL.cons (sv _) (VL.cons (sv _) (VL.cons (sv _) (VL.cons (sv _) (VL.cons (sv _) (VL.cons (sv _) (VL.cons (vb _ _ hB) (VL.one (sv _)))))))))))))))).array
  have mx : ∀ k, k ≤ maxLen → k < 9223372036854775808 := fun k h => by unfold maxLen at h; omega
  refine run_true (calls_ok 61) hw hargs (F := AX.all) (G := AX.all) hlen ?_
  exact rests_wp (s := 2) E1_bare 53 (AnyR.mk a0 a1 a2 a3 a4 a5 (fa 0) ka) (AnyR.mk b0 b1 b2 b3 b4 b5 (fb la.length) kb) room ticks awake_ok (mx _ ka1) (mx _ kb1) (qa _ _ _ hA (by omega)) (qb _ _ _ hB (by rw [List.length_append] at hlen; omega)) (fun _ _ => ⟨trivial, trivial⟩) (rows_bd hlen) fun _ _ => rfl
end Go.Proofs.YtkabaecoamilnaaGreatDoor
