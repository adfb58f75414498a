/-
  The law LinkConfigs, at any world.
-/
import Derived.Test.YtnimgpfgfohdoaaGreatMAwake
set_option linter.unusedVariables false
set_option linter.unusedSimpArgs false
namespace Go.Proofs.YtnimgpfgfohdoaaGreat
open Go AX Go.RowKit
/-- A slice of numbers that came in. -/
def Tick (w : World) (x : Value) : Prop := x = .slice none 0 0 ∨ (∃ a, x = .slice (some a) 0 0) ∨
  ∃ b o len cap, ∃ zs : List Int, x = .slice (some ⟨b, o, none⟩) len cap ∧ len ≤ cap ∧ 0 < cap ∧ cap ≤ maxLen ∧ zs.length = cap ∧ ∀ i, i < cap → w.cell? ⟨b, o + i, none⟩ = some (.int .i64 (zs.getD i 0))
theorem int_sz : szOf Tryz.prog 3 = some 1 := by kernel_rfl
/-- The executor's slice for one that came in: the rows that it wants. -/
theorem tick_rows {w : World} {x : Value} (h : Tick w x) : ∃ (l : List Row) (k : Nat) (f : Nat → Option Addr), l.length ≤ 1 ∧
    (∀ r, r ∈ l → (szOf Tryz.prog r.T = some 1 ∧ ∀ (i : Nat) v, r.cs[i]? = some v → simpleV v = true ∧ w.cell? ⟨r.blk, r.off + i, none⟩ = some v) ∧ r.cs ≠ []) ∧
    (∀ (L : List Row) (j : Nat), (∀ i r, l[i]? = some r → L[j + i]? = some r) → VR (rowsR L) (.slice (f j) k k) x) ∧
    (k = 5 → ∃ c0 c1 c2 c3 c4, l.length = 1 ∧ ∀ (L : List Row) (j : Nat), (∀ i r, l[i]? = some r → L[j + i]? = some r) → f j = some ⟨j, 0, none⟩ ∧ Five (rowsH L) j 0 c0 c1 c2 c3 c4) := by
  rcases h with rfl | ⟨a, rfl⟩ | ⟨b, o, len, cap, zs, rfl, hl, hc, hm, hz, hr⟩
  · exact ⟨[], 0, fun _ => none, by simp, by simp, fun _ _ _ => .sliceNil, fun h => by cases h⟩
  · exact ⟨[], 0, fun _ => some ⟨0, 0, none⟩, by simp, by simp, fun _ _ _ => .slice0, fun h => by cases h⟩
  · refine ⟨[⟨b, o, 3, zs.map (Value.int .i64)⟩], len, fun j => some ⟨j, 0, none⟩, by simp, ?_, fun L j hL => ?_, fun h5 => ?_⟩
    · intro r hrm
      simp only [List.mem_singleton] at hrm
      subst hrm
      refine ⟨⟨int_sz, fun i v hi => ?_⟩, by intro e; have := congrArg List.length e; rw [List.length_map, List.length_nil] at this; omega⟩
      rw [List.getElem?_map] at hi
      cases hzi : zs[i]? with
      | none => rw [hzi] at hi; cases hi
      | some z =>
        rw [hzi] at hi
        simp only [Option.map_some, Option.some.injEq] at hi
        subst hi
        have hlt := (List.getElem?_eq_some_iff.1 hzi).1
        refine ⟨rfl, ?_⟩
        have := hr i (by omega)
        rw [List.getD_eq_getElem?_getD, hzi] at this
        exact this
    · have hj := hL 0 _ rfl
      refine VR.slice (im := ⟨b, o, (zs.map (Value.int .i64)).length, 1⟩) ?_ hl (by show 0 + cap * 1 ≤ (zs.map (Value.int .i64)).length; rw [List.length_map]; omega) hm
      have hj' : L[j]? = some ⟨b, o, 3, zs.map (Value.int .i64)⟩ := by simpa using hj
      simp [rowsR, hj']
    · subst h5
      have hlen : 5 ≤ zs.length := by omega
      match zs, hlen, hz, hr with
      | c0 :: c1 :: c2 :: c3 :: c4 :: r, _, _, _ =>
        refine ⟨c0, c1, c2, c3, c4, rfl, fun L j hL => ⟨rfl, ?_⟩⟩
        have hj := hL 0 _ rfl
        have hj' : L[j]? = some ⟨b, o, 3, (c0 :: c1 :: c2 :: c3 :: c4 :: r).map (Value.int .i64)⟩ := by simpa using hj
        exact ⟨(c0 :: c1 :: c2 :: c3 :: c4 :: r).map (Value.int .i64), 3, false, by simp only [rowsH, hj'], rfl, rfl, rfl, rfl, rfl⟩
def AX.all : Nat → Prop := fun _ => True
theorem configs_any (w : World) (a0 a1 a2 a3 a4 a5 b0 b1 b2 b3 b4 b5 room : Int) (xa xb : Value) (ha : Tick w xa) (hb : Tick w xb) :
    Calls Tryz.prog 3 #[.agg #[.int .i64 a0, .int .i64 a1, .int .i64 a2, .int .i64 a3, .int .i64 a4, .int .i64 a5, xa, .int .i64 b0, .int .i64 b1, .int .i64 b2, .int .i64 b3, .int .i64 b4, .int .i64 b5, xb, .int .i64 room]] w fun e w' => e = .returned (.bool true) ∧ Below w.heap.size w w' := by
  obtain ⟨la, ka, fa, la1, ra, va, qa⟩ := tick_rows ha
  obtain ⟨lb, kb, fb, lb1, rb, vb, qb⟩ := tick_rows hb
  have hA : ∀ i r, la[i]? = some r → (la ++ lb)[0 + i]? = some r := fun i r h => by
    rw [Nat.zero_add, List.getElem?_append_left (List.getElem?_eq_some_iff.1 h).1]; exact h
  have hB : ∀ i r, lb[i]? = some r → (la ++ lb)[la.length + i]? = some r := fun i r h => by
    rw [List.getElem?_append_right (by omega), Nat.add_sub_cancel_left]; exact h
  have hw : WR Tryz.prog (rowsR (la ++ lb)) (rowsH (la ++ lb)) w := rows_wr (fun r h => (List.mem_append.1 h).elim (fun h => (ra r h).1) fun h => (rb r h).1) (fun r h => (List.mem_append.1 h).elim (fun h => (ra r h).2) fun h => (rb r h).2)
  have hlen : (la ++ lb).length ≤ 2 := by rw [List.length_append]; omega
  have hta : ∃ c0 c1 c2 c3 c4, (ka = 5 → la.length = 1 ∧ fa 0 = some ⟨0, 0, none⟩ ∧ Five (rowsH (la ++ lb)) 0 0 c0 c1 c2 c3 c4) ∧ (ka ≠ 5 → c0 = 3 ∧ c1 = 2 ∧ c2 = 5 ∧ c3 = 9 ∧ c4 = 4) := by
    by_cases h5 : ka = 5
    · obtain ⟨c0, c1, c2, c3, c4, h1, h2⟩ := qa h5
      exact ⟨c0, c1, c2, c3, c4, fun _ => ⟨h1, h2 _ _ hA⟩, fun h => absurd h5 h⟩
    · exact ⟨3, 2, 5, 9, 4, fun h => absurd h h5, fun _ => ⟨rfl, rfl, rfl, rfl, rfl⟩⟩
  have htb : ∃ c0 c1 c2 c3 c4, (kb = 5 → lb.length = 1 ∧ fb la.length = some ⟨la.length, 0, none⟩ ∧ Five (rowsH (la ++ lb)) la.length 0 c0 c1 c2 c3 c4) ∧ (kb ≠ 5 → c0 = 3 ∧ c1 = 2 ∧ c2 = 5 ∧ c3 = 9 ∧ c4 = 4) := by
    by_cases h5 : kb = 5
    · obtain ⟨c0, c1, c2, c3, c4, h1, h2⟩ := qb h5
      exact ⟨c0, c1, c2, c3, c4, fun _ => ⟨h1, h2 _ _ hB⟩, fun h => absurd h5 h⟩
    · exact ⟨3, 2, 5, 9, 4, fun h => absurd h h5, fun _ => ⟨rfl, rfl, rfl, rfl, rfl⟩⟩
  obtain ⟨c0, c1, c2, c3, c4, t1, t2⟩ := hta
  obtain ⟨d0, d1, d2, d3, d4, u1, u2⟩ := htb
  have sv : ∀ n : Int, VR (rowsR (la ++ lb)) (.int .i64 n) (.int .i64 n) := fun n => .int _ _
  have hargs : VA (rowsR (la ++ lb)) #[.agg (tickCells ⟨a0, a1, a2, a3, a4, a5, c0, c1, c2, c3, c4⟩ (fa 0) ka ++ (tickCells ⟨b0, b1, b2, b3, b4, b5, d0, d1, d2, d3, d4⟩ (fb la.length) kb ++ [Value.int .i64 room])).toArray]
      #[.agg #[.int .i64 a0, .int .i64 a1, .int .i64 a2, .int .i64 a3, .int .i64 a4, .int .i64 a5, xa, .int .i64 b0, .int .i64 b1, .int .i64 b2, .int .i64 b3, .int .i64 b4, .int .i64 b5, xb, .int .i64 room]] := by
    refine (VL.one (VR.mkAgg ?_)).array
    exact (VL.cons (sv _) (VL.cons (sv _) (VL.cons (sv _) (VL.cons (sv _) (VL.cons (sv _) (VL.cons (sv _) (VL.cons (va _ _ hA) (VL.cons (sv _) (VL.cons (sv _) (VL.cons (sv _) (VL.cons (sv _) (VL.cons (sv _) (VL.cons (sv _) (VL.cons (vb _ _ hB) (VL.one (sv _)))))))))))))))).array
  refine run_true (calls_ok 61) hw hargs (F := AX.all) (G := AX.all) hlen ?_
  refine configs_wp (s := 2) E1_bare 56 ⟨⟨a0, a1, a2, a3, a4, a5, c0, c1, c2, c3, c4⟩, ⟨b0, b1, b2, b3, b4, b5, d0, d1, d2, d3, d4⟩, room⟩ awake_ok (fun _ _ => ⟨trivial, trivial⟩) (rows_bd hlen) (fun h => ?_) (fun h => ?_) t2 u2 (fun _ _ => rfl)
  · obtain ⟨h1, h2, h3⟩ := t1 h
    exact ⟨0, 0, h2, h3, by omega, trivial⟩
  · obtain ⟨h1, h2, h3⟩ := u1 h
    exact ⟨la.length, 0, h2, h3, by omega, trivial⟩
end Go.Proofs.YtnimgpfgfohdoaaGreat
