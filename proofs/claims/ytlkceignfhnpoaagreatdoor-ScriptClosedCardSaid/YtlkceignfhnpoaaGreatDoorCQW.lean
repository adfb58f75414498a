/-
  The law ScriptClosed, at any world.
  A slice of ints that came in, opened as IntsR.
  A slice of numbers that came in, opened.
-/
import Derived.Test.YtlkceignfhnpoaaGreatDoorCQV
import Derived.Test.YtlkceignfhnpoaaGreatDoorCQF
import Derived.Test.YtlkceignfhnpoaaGreatDoorIntsR
import Derived.Test.YtlkceignfhnpoaaGreatDoorLaw
import Derived.ChangeSlices
import Derived.DataReads
set_option linter.unusedVariables false
set_option linter.unusedSimpArgs false
section
namespace Go.Proofs.YtlkceignfhnpoaaGreatDoor
open Go AX Go.RowKit
/-- A slice of numbers that came in. -/
def Tick (w : World) (x : Value) : Prop := x = .slice none 0 0 ∨ (∃ a, x = .slice (some a) 0 0) ∨
  ∃ b o len cap, ∃ zs : List Int, x = .slice (some ⟨b, o, none⟩) len cap ∧ len ≤ cap ∧ 0 < cap ∧ cap ≤ maxLen ∧ zs.length = cap ∧ ∀ i, i < cap → w.cell? ⟨b, o + i, none⟩ = some (.int .i64 (zs.getD i 0))
theorem int_sz : szOf Tryz.prog 3 = some 1 := by kernel_rfl
def AX.all : Nat → Prop := fun _ => True
/-- The executor's slice for one that came in: the rows that it wants. -/
theorem nums_rowsI {w : World} {x : Value} (h : Tick w x) : ∃ (l : List Row) (k : Nat) (f : Nat → Option Addr) (z : Nat → Int), l.length ≤ 1 ∧ k ≤ maxLen ∧
    (∀ r, r ∈ l → (szOf Tryz.prog r.T = some 1 ∧ ∀ (i : Nat) v, r.cs[i]? = some v → simpleV v = true ∧ w.cell? ⟨r.blk, r.off + i, none⟩ = some v) ∧ r.cs ≠ []) ∧
    (∀ (L : List Row) (j : Nat), (∀ i r, l[i]? = some r → L[j + i]? = some r) → VR (rowsR L) (.slice (f j) k k) x) ∧
    (∀ (L : List Row) (j s : Nat), (∀ i r, l[i]? = some r → L[j + i]? = some r) → j + l.length ≤ s → NumsI AX.all (rowsH L) s (f j) k z) := by
  rcases h with rfl | ⟨a, rfl⟩ | ⟨b, o, len, cap, zs, rfl, hl, hc, hm, hz, hr⟩
  · exact ⟨[], 0, fun _ => none, fun _ => 0, by simp, by simp, by simp, fun _ _ _ => .sliceNil, fun _ _ _ _ _ => .inl rfl⟩
  · exact ⟨[], 0, fun _ => some ⟨0, 0, none⟩, fun _ => 0, by simp, by simp, by simp, fun _ _ _ => .slice0, fun _ _ _ _ _ => .inl rfl⟩
  · refine ⟨[⟨b, o, 3, zs.map (Value.int .i64)⟩], len, fun j => some ⟨j, 0, none⟩, fun i => zs.getD i 0, by simp, by omega, ?_, fun L j hL => ?_, fun L j s hL hs => ?_⟩
    · intro r hrm
      simp only [List.mem_singleton] at hrm
      subst hrm
      refine ⟨⟨int_sz, fun i v hi => ?_⟩, by intro e; have := congrArg List.length e; rw [List.length_map, List.length_nil] at this; omega⟩
      rw [List.getElem?_map] at hi
      cases hzi : zs[i]? with
      | none => rw [hzi] at hi; cases hi
      | some z =>
        rw [hzi] at hi
        simp only [Option.map_some, Option.some.injEq] at hi
        subst hi
        have hlt := (List.getElem?_eq_some_iff.1 hzi).1
        refine ⟨rfl, ?_⟩
        have := hr i (by omega)
        rw [List.getD_eq_getElem?_getD, hzi] at this
        exact this
    · have hj := hL 0 _ rfl
      refine VR.slice (im := ⟨b, o, (zs.map (Value.int .i64)).length, 1⟩) ?_ hl (by show 0 + cap * 1 ≤ (zs.map (Value.int .i64)).length; rw [List.length_map]; omega) hm
      have hj' : L[j]? = some ⟨b, o, 3, zs.map (Value.int .i64)⟩ := by simpa using hj
      simp [rowsR, hj']
    · have hj := hL 0 _ rfl
      have hj' : L[j]? = some ⟨b, o, 3, zs.map (Value.int .i64)⟩ := by simpa using hj
      refine .inr ⟨j, 0, zs.map (Value.int .i64), 3, false, rfl, trivial, by simp at hs; omega, by simp only [rowsH, hj'], fun i hi => ?_⟩
      show (zs.map (Value.int .i64))[0 + i]? = some (.int .i64 (zs.getD i 0))
      rw [Nat.zero_add, List.getElem?_map, List.getD_eq_getElem?_getD, List.getElem?_eq_getElem (by omega)]
      rfl
theorem awake_ok : Awake24 E5 60 3 := by
  intro F G H Q hN hB h
  have hy := awake_yes
  unfold yes at hy
  cases hr : awakeRun with
  | none => rw [hr] at hy; cases hy
  | some o =>
    rw [hr] at hy
    dsimp only at hy
    split at hy
    · rename_i hv
      simp only [Bool.and_eq_true, List.all_eq_true] at hy
      obtain ⟨hD, hW⟩ := hy
      have hl := (calm E5_bare 60).ls 7 #[]
      obtain ⟨o2, e2, v2, s2, d2, w2, _, k2⟩ := (hl.loc _ _ _ hr).sees H (fun b hb => by
        have hb3 : 3 ≤ b := by
          rcases hb with hb | hb
          · exact Nat.le_of_ble_eq_true (hD b hb)
          · exact hb.1
        exact hB b hb3)
      have up := (hl.loc _ _ _ e2).up
      refine ⟨o2, e2, fun b hb => (hN b ?_).1, fun b hb => (hN b ?_).2, ?_⟩
      · rw [d2] at hb; exact Nat.le_of_ble_eq_true (hD b hb)
      · rw [w2] at hb; exact Nat.le_of_ble_eq_true (hW b hb)
      · rw [v2, hv]
        refine h _ _ ⟨up, fun k hk _ => k2 k ?_⟩
        rintro (hw | hw)
        · have := Nat.le_of_ble_eq_true (hW k hw); omega
        · omega
    · cases hy
theorem closed_any (w : World) (he : EnvOK w) (t : ByteArray) (xa : Value) (ha : Tick w xa) :
    Calls Tryz.prog 3 #[.string t, xa] w fun e w' => e = .returned (.bool true) ∧ Below w.heap.size w w' := by
  obtain ⟨la, ka, fa, za, la1, ka1, ra, va, qa⟩ := nums_rowsI ha
  have hA : ∀ i r, la[i]? = some r → la[0 + i]? = some r := fun i r h => by rw [Nat.zero_add]; exact h
  have hw : WR Tryz.prog (rowsR la) (rowsH la) w := rows_wr he (fun r h => (ra r h).1) (fun r h => (ra r h).2)
  have hargs : VA (rowsR la) #[.string t, .slice (fa 0) ka ka] #[.string t, xa] := (VL.cons (.string t) (VL.one (va la 0 hA))).array
  refine run_true (calls_ok5 61) hw hargs (F := AX.all) (G := AX.all) (s := 3) (by omega) ?_
  exact closed_law_wp E5_bare E5_parse E5_itoa 53 t awake_ok (by unfold maxLen at ka1; omega) (qa la 0 3 hA (by omega)) (fun _ _ => ⟨trivial, trivial⟩) (rows_bd (by omega)) fun _ _ => rfl
end Go.Proofs.YtlkceignfhnpoaaGreatDoor
end
section
namespace Go.Proofs.YtlkceignfhnpoaaGreatDoor
open Go.ChangeShapes Go.WideShapes Go.ChangeAt Go.RowKit

theorem ints_of_trod {H : Type} {enc : TypeId × Value → H} {P : Program} {w : World} {t e : TypeId} {k : IntKind} {fuel : Nat} {cs : List Value} {x : DataW H × List MemPlace} (ht : P.underlying t = some (.slice e)) (he : P.underlying e = some (.int k)) (hc : P.cellsOf e = 1)
    (h : DataW.trod enc P w 0 (fun _ => true) true fuel t cs = some x) :
    ∃ v l, cs = [v] ∧ IntsR k w v l ∧ ∀ n ∈ l, (Lit.int k n).wf = true := by
  rcases open_ints ht he hc h with ⟨hcs, hx⟩ | ⟨a, len, cap, zs, hcs, _, hl, hm, hz, hx, hcell, hwz⟩
  · exact ⟨_, [], hcs, IntsR.nil k w, fun n h => by cases h⟩
  · simp only [if_true] at hz
    have hll : (zs.take len).length = len := by simp; omega
    refine ⟨_, zs.take len, hcs, ?_, fun n hn => hwz n (List.mem_of_mem_take hn)⟩
    refine ⟨some a, cap, by rw [hll], by omega, by unfold maxLen at hm; omega, fun hc0 => ?_, ?_⟩
    · have h0 := hcell 0 (by omega)
      have hs : a.spot = none := World.cell?_spot (by simpa [Addr.add] using h0)
      exact ⟨a.block, a.off, by cases a; simp_all⟩
    · rintro b o hbo j hj
      cases hbo
      have hjl : j < zs.length := by omega
      have h0 := hcell j hjl
      have e1 : (zs.take len).getD j 0 = zs.getD j 0 := by
        rw [hll] at hj
        simp [List.getD_eq_getElem?_getD, hj]
      rw [e1]
      by_cases hj0 : j = 0
      · subst hj0; simpa [Addr.add] using h0
      · simpa [Addr.add, hj0] using h0
end Go.Proofs.YtlkceignfhnpoaaGreatDoor
end
section
namespace Go.Proofs.YtlkceignfhnpoaaGreatDoor
open Go.ChangeShapes Go.WideShapes Go.ChangeAt Go.RowKit
section
variable {H : Type} {enc : TypeId × Value → H} {w : World}
theorem tick_of_trod {fuel : Nat} {c : Value} {x : DataW H × List MemPlace} (h : DataW.trod enc Tryz.prog w 0 (fun _ => true) true fuel 22 [c] = some x) : Tick w c := by
  rcases open_ints Tryz.underlying22 Tryz.underlying3 (by kernel_rfl) h with ⟨hcs, hx⟩ | ⟨a, len, cap, zs, hcs, _, hl, hm, hz, hx, hcell, hwz⟩
  · simp at hcs; exact .inl hcs
  · simp at hcs
    subst hcs
    simp only [if_true] at hz
    by_cases hc : cap = 0
    · subst hc
      obtain rfl : len = 0 := by omega
      exact .inr (.inl ⟨a, rfl⟩)
    · have h0 := hcell 0 (by omega)
      have hs : a.spot = none := World.cell?_spot (by simpa [Addr.add] using h0)
      obtain ⟨ab, ao, asp⟩ := a
      dsimp only at hs
      subst hs
      refine .inr (.inr ⟨ab, ao, len, cap, zs, rfl, hl, by omega, hm, hz, fun i hi => ?_⟩)
      have := hcell i (by omega)
      by_cases hi0 : i = 0
      · subst hi0
        simpa [Addr.add] using this
      · simpa [Addr.add, hi0] using this
end
end Go.Proofs.YtlkceignfhnpoaaGreatDoor
end
