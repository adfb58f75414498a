/-
  Steps of a script that came of line.Parse: rows that nobody writes.
  The steps of a text, few and small, as the law takes them.
  The law ScriptClosed, by the executor.
-/
import Derived.Test.YtlkceignfhnpoaaGreatDoorCQS
import Derived.Test.YtlkceignfhnpoaaGreatDoorCQN
import Derived.Test.YtlkceignfhnpoaaGreatDoorCTab
import Derived.Test.YtlkceignfhnpoaaGreatDoorCMScript0
set_option linter.unusedVariables false
set_option linter.unusedSimpArgs false
section
namespace Go.Proofs.YtlkceignfhnpoaaGreatDoor
open Go AX
/-- Numbers in a row. -/
def NumF (l : List Int) : Obj where
  p v H D := (l = [] ∧ v = nilS) ∨ (l ≠ [] ∧ ∃ b wr, v = .slice (some ⟨b, 0, none⟩) l.length l.length ∧ H b = some (.cells (numCs l) 3 wr) ∧ D b)
  loc := by
    rintro v H H' D (h | ⟨h1, b, wr, h2, h3, h4⟩) k
    · exact .inl h
    · exact .inr ⟨h1, b, wr, h2, (k b h4).trans h3, h4⟩
/-- The rows of steps. -/
def StepRow (W : Wd) (xs : List Stp) (nvs : List Value) : Prop := nvs.length = xs.length ∧ ∀ j (h : j < xs.length), ∃ nv, nvs[j]? = some nv ∧ Fz W nv (NumF xs[j].nums)
section
variable {F G : Nat → Prop} {H H' : AH} {s s' : Nat} {W : Wd} {P : List Own}
/-- What is new is frozen. -/
theorem St.frz (S : St F G H s W P) (hs : s ≤ s') (hb : Bd H' s') (hk : ∀ b, b < s → H' b = H b) : W.le ⟨fun b => W.Z b ∨ (s ≤ b ∧ b < s'), H'⟩ ∧ St F G H' s' ⟨fun b => W.Z b ∨ (s ≤ b ∧ b < s'), H'⟩ P := by
  obtain ⟨D, hD, q⟩ := S.hold
  refine ⟨fun b hb => ⟨.inl hb, (hk b (S.froz b hb).1).trans (S.froz b hb).2.2⟩, hb, S.new.up hs, fun b h => ?_, D, hD.loc fun b hb => hk b (q b hb).1, fun b hb => ?_⟩
  · rcases h with h | h
    · have := S.froz b h; exact ⟨by omega, this.2.1, rfl⟩
    · exact ⟨h.2, (S.new b h.1).1, rfl⟩
  · have := q b hb
    refine ⟨by omega, this.2.1, this.2.2.1, ?_⟩
    rintro (h | h)
    · exact this.2.2.2 h
    · omega
theorem nums_wp {l : List Int} {Q : Value → AH → Nat → Prop} (S : St F G H s W P) (h : ∀ H' s' W' v, W.le W' → Fz W' v (NumF l) → St F G H' s' W' P → Q v H' s') : Wp F G (numsX l) H s Q := by
  unfold numsX
  split
  · rename_i hl
    rw [wp_ret]
    exact h _ _ W _ (Wd.le.refl W) ⟨fun _ => False, .inl ⟨hl, rfl⟩, fun _ h => h.elim⟩ S
  · rename_i hl
    rw [wp_bind, wp_new, wp_ret]
    obtain ⟨a, b⟩ := S.frz (Nat.le_succ s) S.bd.new (fun b hb => upd_ne _ (some (.cells (numCs l) 3 false)) (by omega))
    exact h _ _ _ _ a ⟨fun b => b = s, .inr ⟨hl, s, false, rfl, upd_same _ _ _, rfl⟩, fun b hb => .inr (by omega)⟩ b
theorem rows_wp : ∀ (xs : List Stp) {Q : List Value → AH → Nat → Prop} {H : AH} {s : Nat} {W : Wd} (S : St F G H s W P) (h : ∀ H' s' W' nvs, W.le W' → StepRow W' xs nvs → St F G H' s' W' P → Q nvs H' s'), Wp F G (rowsX xs) H s Q
  | [], Q, H, s, W, S, h => by
    unfold rowsX
    rw [wp_ret]
    exact h _ _ W _ (Wd.le.refl W) ⟨rfl, fun j hj => by simp at hj⟩ S
  | x :: r, Q, H, s, W, S, h => by
    unfold rowsX
    rw [wp_bind]
    refine nums_wp S fun H1 s1 W1 v1 l1 f1 S1 => ?_
    rw [wp_bind]
    refine rows_wp r S1 fun H2 s2 W2 nvs l2 f2 S2 => ?_
    rw [wp_ret]
    refine h _ _ W2 _ (l1.trans l2) ⟨by simp [f2.1], fun j hj => ?_⟩ S2
    cases j with
    | zero => exact ⟨v1, rfl, f1.up l2⟩
    | succ j =>
      obtain ⟨nv, a, b⟩ := f2.2 j (by simpa using hj)
      exact ⟨nv, by simpa using a, by simpa using b⟩
/-- A row of steps that nobody writes. -/
def StepF (W : Wd) (xs : List Stp) (v : Value) : Prop := (xs = [] ∧ v = nilS) ∨ (xs ≠ [] ∧ ∃ b nvs, v = .slice (some ⟨b, 0, none⟩) xs.length xs.length ∧ W.Z b ∧ W.H b = some (.cells (stepCs xs nvs) 31 false) ∧ StepRow W xs nvs)
theorem StepRow.up {W W' : Wd} {xs : List Stp} {nvs : List Value} (h : StepRow W xs nvs) (k : W.le W') : StepRow W' xs nvs := ⟨h.1, fun j hj => by
  obtain ⟨nv, a, b⟩ := h.2 j hj
  exact ⟨nv, a, b.up k⟩⟩
theorem StepF.up {W W' : Wd} {xs : List Stp} {v : Value} (h : StepF W xs v) (k : W.le W') : StepF W' xs v := by
  rcases h with h | ⟨h, b, nvs, h1, h2, h3, h4⟩
  · exact .inl h
  · exact .inr ⟨h, b, nvs, h1, (k b h2).1, (k b h2).2.trans h3, h4.up k⟩
theorem steps_wp (xs : List Stp) {Q : Value → AH → Nat → Prop} (S : St F G H s W P) (h : ∀ H' s' W' v, W.le W' → StepF W' xs v → St F G H' s' W' P → Q v H' s') : Wp F G (stepsX xs) H s Q := by
  unfold stepsX
  rw [wp_bind]
  refine rows_wp xs S fun H1 s1 W1 nvs l1 f1 S1 => ?_
  split
  · rename_i hl
    rw [wp_ret]
    exact h _ _ W1 _ l1 (.inl ⟨hl, rfl⟩) S1
  · rename_i hl
    rw [wp_bind, wp_new, wp_ret]
    obtain ⟨a, b⟩ := S1.frz (Nat.le_succ s1) S1.bd.new (fun b hb => upd_ne _ (some (.cells (stepCs xs nvs) 31 false)) (by omega))
    exact h _ _ _ _ (l1.trans a) (.inr ⟨hl, s1, nvs, rfl, .inr ⟨Nat.le_refl _, Nat.lt_succ_self _⟩, upd_same _ _ _, f1.up a⟩) b
theorem lparse_wp {E : FuncId → Option (Array Value → AX Value)} (hP : E 18 = some parseX) (n : Nat) (t : ByteArray) (ht : t.size ≤ 100000) {Q : Value → AH → Nat → Prop} (S : St F G H s W P)
    (h : ∀ H' s' W' v, W.le W' → StepF W' (parseL t.data.toList).1 v → St F G H' s' W' P → Q (.tuple #[v, .int .i64 ((parseL t.data.toList).2.1 : Int), .bool (parseL t.data.toList).2.2]) H' s') : Wp F G (aCall Tryz.prog E (n + 1) 18 #[.string t]) H s Q := by
  unfold aCall
  rw [hP]
  show Wp F G (parseX #[.string t]) H s Q
  have e : parseX #[.string t] = AX.bind (stepsX (parseL t.data.toList).1) fun v => AX.ret (.tuple #[v, .int .i64 ((parseL t.data.toList).2.1 : Int), .bool (parseL t.data.toList).2.2]) := if_pos ht
  rw [e, wp_bind]
  refine steps_wp _ S fun H1 s1 W1 v l1 f1 S1 => ?_
  rw [wp_ret]
  exact h _ _ _ _ l1 f1 S1
end
end Go.Proofs.YtlkceignfhnpoaaGreatDoor
end
section
namespace Go.Proofs.YtlkceignfhnpoaaGreatDoor
open Go AX
theorem flat_at4 : ∀ (rows : List (List Value)) (k i : Nat), (∀ r, r ∈ rows → r.length = k) → (h : i < rows.length) → (rows.flatten.drop (i * k)).take k = rows[i] ∧ i * k + k ≤ rows.flatten.length
  | [], k, i, _, h => by simp at h
  | r :: t, k, 0, hk, h => by
    have := hk r (by simp)
    refine ⟨?_, ?_⟩
    · simp [List.take_append, this]
    · simp; omega
  | r :: t, k, i + 1, hk, h => by
    have hr := hk r (by simp)
    obtain ⟨a, b⟩ := flat_at4 t k i (fun x hx => hk x (by simp [hx])) (by simpa using h)
    have e : (i + 1) * k = r.length + i * k := by rw [hr, Nat.add_mul, Nat.one_mul, Nat.add_comm]
    refine ⟨?_, ?_⟩
    · rw [List.flatten_cons, e, List.drop_length_add_append]
      simpa using a
    · rw [List.flatten_cons, List.length_append, e]; omega
theorem zip_get {xs : List Stp} {nvs : List Value} {i : Nat} {nv : Value} (hi : i < xs.length) (h : nvs[i]? = some nv) (hl : nvs.length = xs.length) : ∃ hj : i < (List.zipWith stepC xs nvs).length, (List.zipWith stepC xs nvs)[i] = stepC xs[i] nv := by
  refine ⟨by simp; omega, ?_⟩
  have : nvs[i]'(by omega) = nv := by
    rw [List.getElem?_eq_getElem (by omega)] at h
    exact Option.some.inj h
  simp [this]
theorem zip_four {xs : List Stp} {nvs : List Value} : ∀ r, r ∈ List.zipWith stepC xs nvs → r.length = 4 := fun r hr => by
  obtain ⟨i, hi, rfl⟩ := List.getElem_of_mem hr
  simp [stepC]
section
variable {E : FuncId → Option (Array Value → AX Value)} {F G : Nat → Prop} {H : AH} {s b w : Nat} {Q : Value → AH → Nat → Prop} {W : Wd} {R P : List Own} {v : Value} {xs : List Stp}
theorem StepF.shape (f : StepF W xs v) : ∃ a, v = .slice a xs.length xs.length := by
  rcases f with ⟨rfl, rfl⟩ | ⟨_, b, nvs, rfl, _⟩
  · exact ⟨none, rfl⟩
  · exact ⟨_, rfl⟩
theorem StepF.row {a : Option Addr} {l m : Nat} (S : St F G H s W P) (f : StepF W xs (.slice a l m)) {i : Nat} (hi : i < xs.length) : ∃ d cs nv, a = some ⟨d, 0, none⟩ ∧ H d = some (.cells cs 31 false) ∧ F d ∧ d < s ∧ i * 4 + 4 ≤ cs.length ∧ (cs.drop (i * 4)).take 4 = stepC xs[i] nv ∧ Fz W nv (NumF xs[i].nums) := by
  rcases f with ⟨rfl, _⟩ | ⟨_, b, nvs, e, h1, h2, h3⟩
  · simp at hi
  · cases e
    obtain ⟨nv, e1, e2⟩ := h3.2 i hi
    obtain ⟨q1, q2, q3⟩ := S.froz b h1
    obtain ⟨hj, e3⟩ := zip_get hi e1 h3.1
    obtain ⟨e4, e5⟩ := flat_at4 (List.zipWith stepC xs nvs) 4 i zip_four hj
    exact ⟨b, _, nv, rfl, q3.trans h2, q2, q1, e5, e4.trans e3, e2⟩
theorem NumF.at {l : List Int} {nv : Value} (S : St F G H s W P) (f : Fz W nv (NumF l)) : (l = [] ∧ nv = nilS) ∨ (l ≠ [] ∧ ∃ d wr, nv = .slice (some ⟨d, 0, none⟩) l.length l.length ∧ H d = some (.cells (numCs l) 3 wr) ∧ F d ∧ d < s) := by
  refine S.fask f ?_
  rintro D (h | ⟨h1, b, wr, h2, h3, h4⟩) q
  · exact .inl h
  · exact .inr ⟨h1, b, wr, h2, h3, (q b h4).2, (q b h4).1⟩
theorem NumF.shape {l : List Int} {nv : Value} (f : Fz W nv (NumF l)) : ∃ a, nv = .slice a l.length l.length := by
  obtain ⟨D, (⟨rfl, rfl⟩ | ⟨_, b, wr, rfl, _⟩), _⟩ := f
  · exact ⟨none, rfl⟩
  · exact ⟨_, rfl⟩
/-- A row of one's own numbers is frozen. -/
theorem St.numF {cs : List Value} {l : List Int} (S : St F G H s W P) (hl : l ≠ []) (hc : cs = numCs l) : ∃ W', W.le W' ∧ Fz W' (.slice (some ⟨s, 0, none⟩) l.length l.length) (NumF l) ∧ St F G (upd H s (some (.cells cs 3 true))) (s + 1) W' P := by
  obtain ⟨a, b⟩ := S.frz (Nat.le_succ s) S.bd.new (fun b hb => upd_ne _ (some (.cells cs 3 true)) (by omega))
  exact ⟨_, a, ⟨fun b => b = s, .inr ⟨hl, s, true, rfl, by rw [hc]; exact upd_same _ _ _, rfl⟩, fun b hb => .inr (by omega)⟩, b⟩
set_option maxRecDepth 10000
set_option maxHeartbeats 1000000
/-- Rows of steps of one's own; their numbers lie in rows that nobody writes. -/
def StepsR (W : Wd) (xs : List Stp) (rows : List (List Value)) : Prop := ∃ nvs, StepRow W xs nvs ∧ rows = List.zipWith stepC xs nvs
theorem StepsR.up {W W' : Wd} {xs : List Stp} {rows : List (List Value)} (h : StepsR W xs rows) (k : W.le W') : StepsR W' xs rows := by
  obtain ⟨nvs, a, b⟩ := h
  exact ⟨nvs, a.up k, b⟩
theorem StepsR.len {rows : List (List Value)} (h : StepsR W xs rows) : rows.length = xs.length := by
  obtain ⟨nvs, a, rfl⟩ := h
  simp [a.1]
theorem StepsR.snoc {rows : List (List Value)} (h : StepsR W xs rows) {x : Stp} {nv : Value} (f : Fz W nv (NumF x.nums)) : StepsR W (xs ++ [x]) (rows ++ [stepC x nv]) := by
  obtain ⟨nvs, a, rfl⟩ := h
  refine ⟨nvs ++ [nv], ⟨by simp [a.1], fun j hj => ?_⟩, by rw [List.zipWith_append a.1.symm]; rfl⟩
  by_cases hj1 : j < xs.length
  · obtain ⟨u, h1, h2⟩ := a.2 j hj1
    exact ⟨u, by rw [List.getElem?_append_left (by rw [a.1]; exact hj1)]; exact h1, by rw [List.getElem_append_left hj1]; exact h2⟩
  · have hj2 : j = xs.length := by simp at hj; omega
    subst hj2
    exact ⟨nv, by rw [← a.1]; simp, by simp; exact f⟩
theorem few_nil (m : Nat) : fewS m [] = [] := by simp [fewS]
theorem few_zero (xs : List Stp) : fewS 0 xs = [] := by simp [fewS]
theorem StepsR.nil (W : Wd) : StepsR W [] [] := ⟨[], ⟨rfl, fun j hj => by simp at hj⟩, rfl⟩
theorem few_snoc {i : Nat} (xs : List Stp) (h : i < xs.length) : fewS (i + 1) xs = fewS i xs ++ [smallS xs[i]] := by
  unfold fewS
  rw [List.take_add_one, List.getElem?_eq_getElem h, Option.toList_some, List.map_append]
  rfl
theorem few_len {m : Nat} (xs : List Stp) (h : m ≤ xs.length) : (fewS m xs).length = m := by
  unfold fewS; simp; omega
theorem small_nums {x : Stp} (h : StpOK x) (hw : x.word = tickW ∨ x.word = [115, 101, 116, 116, 108, 101]) : ∃ n, x.nums = [n] := by
  obtain ⟨need, h1, h2⟩ := h.need
  have e : need = [78] := by
    rcases hw with hw | hw
    · rw [hw] at h1
      have : needOf tickW = some [78] := need_tick
      rw [this] at h1; cases h1; rfl
    · rw [hw] at h1
      have : needOf [115, 101, 116, 116, 108, 101] = some [78] := by decide +kernel
      rw [this] at h1; cases h1; rfl
  rw [e] at h2
  exact List.length_eq_one_iff.1 h2
theorem few_wp (hE : Bare E) (hP : E 18 = some parseX) (n : Nat) (t : ByteArray) (ht : t.size ≤ 100000) (m : Nat) (hm : m ≤ 1000) (S : St F G H s W P)
    (h : ∀ H' s' W' a l k rows, W.le W' → StepsR W' (fewS m (parseL t.data.toList).1) rows → St F G H' s' W' (⟨.slice a l k, RowsO 31 4 rows⟩ :: P) → Q (.tuple #[.slice a l k, .bool (parseL t.data.toList).2.2]) H' s') : Wp F G (aCall Tryz.prog E (n + 2) 9 #[.string t, .int .i64 (m : Nat)]) H s Q := by
  refine enter (calm hE _) [] (hE.no _ (by decide)) Tryz.func9 Tryz.ntmps9 (by unfold Tryz.f9; rfl) (by unfold Tryz.f9; rfl) (by kernel_rfl) ?_
  simp
  refine lparse_wp hP _ t ht S fun H1 s1 W1 v1 l1 f1 S1 => ?_
  have hp1 := parse_nums t.data.toList
  have hp2 := parse_few t.data.toList
  cases hk : (parseL t.data.toList).2.2
  · simp
    have e0 : (parseL t.data.toList).1 = [] := scan_bad _ _ _ _ (parseL t.data.toList).2.1 (by rw [← hk]; rfl)
    rw [hk, e0] at h
    rw [few_nil] at h
    exact h _ _ W1 none 0 0 [] l1 (StepsR.nil _) (S1.nilr _ _)
  rw [hk] at h
  generalize (parseL t.data.toList).1 = xs at *
  generalize (parseL t.data.toList).2.1 = kn at *
  obtain ⟨a1, rfl⟩ := f1.shape
  simp
  refine wp_loop (fun kk tm H' s' => ∃ i W' vo rows, W1.le W' ∧ i ≤ xs.length ∧ i ≤ m ∧ kk = xs.length - i ∧ tm.size = 51 ∧ bot tm 1 = .int .i64 (m : Nat) ∧ bot tm 9 = vo ∧ bot tm 20 = .slice a1 xs.length xs.length ∧ bot tm 21 = .int .i64 xs.length ∧ bot tm 22 = .int .i64 (i : Nat) ∧ StepsR W' (fewS i xs) rows ∧ St F G H' s' W' (⟨vo, RowsO 31 4 rows⟩ :: P)) (k := xs.length) (by unfold LF; omega) ⟨0, W1, nilS, [], Wd.le.refl _, by simp, by simp, by simp, by simp, by simp, by simp, by simp, by simp, by simp, (by rw [few_zero]; exact StepsR.nil _), S1.nilr _ _⟩ ?_
  rintro kk tm H2 s2 ⟨i, W2, vo, rows, l2, hi, him, rfl, hz, t1, t9, t20, t21, t22, hR, S2⟩
  rw [show tm = mkT tm [] from rfl]
  have fin : ∀ j, fewS m xs = fewS j xs → StepsR W2 (fewS j xs) rows → ∃ a l k, vo = .slice a l k ∧ Q (.tuple #[vo, .bool true]) H2 s2 := fun j e hR' => by
    obtain ⟨a, l, k, rfl⟩ := S2.rsl
    exact ⟨a, l, k, rfl, h _ _ W2 a l k rows (l1.trans l2) (by rw [e]; exact hR') S2⟩
  simp [hz, t1, t9, t20, t21, t22]
  split
  · rename_i hlt
    obtain ⟨d, cs, nv, rfl, kd, fd, ld, ho, hcs, fnv⟩ := (f1.up l2).row S2 hlt
    have hs2 := S2.new s2 (Nat.le_refl _)
    obtain ⟨an, rfl⟩ := NumF.shape fnv
    obtain ⟨vo1, vo2, vo3, rfl⟩ := S2.rsl
    simp [hz, t1, t9, t20, t21, t22, hlt, kd, fd, ho, hcs, stepC, hs2]
    obtain ⟨avo, hvo⟩ := S2.rln
    have hvl := hR.len
    rw [few_len xs hi] at hvl
    have hv2 : vo2 = i := by cases hvo; exact hvl
    subst hv2
    by_cases him2 : vo2 = m
    · subst him2
      simp
      exact h _ _ W2 _ _ _ rows (l1.trans l2) hR (S2.skip _)
    have him3 : ¬ ((vo2 : Int) = (m : Int)) := by omega
    have hxo := hp1 xs[vo2] (List.getElem_mem hlt)
    have hsn := few_snoc xs hlt
    have hw : IntKind.i64.wrap ((vo2 : Int) + 1) = ((vo2 + 1 : Nat) : Int) := by
      have : IntKind.i64.wrap ((vo2 : Int) + 1) = (vo2 : Int) + 1 := wrap64_small (by omega) (by omega)
      rw [this]; omega
    generalize xs[vo2] = x at *
    by_cases hww : x.word = tickW ∨ x.word = [115, 101, 116, 116, 108, 101]
    · have hsm : smallS x = { x with nums := [min (x.nums.headD 0) 60] } := if_pos hww
      obtain ⟨k0, hk0⟩ := small_nums hxo hww
      rw [hk0] at fnv hsm
      rcases NumF.at S2 fnv with ⟨h1, _⟩ | ⟨_, dn, wrn, e1, kn, fn, ln⟩
      · cases h1
      cases e1
      have kns : s2 ≠ dn := by omega
      have hk2 : numCs [k0] = [Value.int .i64 k0] := rfl
      rcases hww with w1 | w1
      · have w1' : x.word = [116, 105, 99, 107] := w1
        simp [-wp_append, him3, w1', hs2, hz, t1, t9, t20, t21, t22, hk0, upd_ne, show dn ≠ s2 by omega, kn, fn, hk2]
        replace w1 := w1'
        have SA := S2.alloc [.string ⟨#[116, 105, 99, 107]⟩, .slice (some ⟨dn, 0, none⟩) 1 1, .string ⟨x.ask.toArray⟩, .string ⟨x.data.toArray⟩] 31
        obtain ⟨W3, l3, fN, SB⟩ := SA.numF (cs := [.int .i64 (min k0 60)]) (l := [min k0 60]) (by simp) rfl
        have SC := SB.set [.string ⟨#[116, 105, 99, 107]⟩, .slice (some ⟨s2 + 1, 0, none⟩) 1 1, .string ⟨x.ask.toArray⟩, .string ⟨x.data.toArray⟩]
        refine St.append (((SC.forget (ptr s2)).rnewN (T := 31) (n := 4) [[.string ⟨#[116, 105, 99, 107]⟩, .slice (some ⟨s2 + 1, 0, none⟩) 1 1, .string ⟨x.ask.toArray⟩, .string ⟨x.data.toArray⟩]] 1 rfl (by simp) rfl).at2 (k1 := .slice vo1 vo2 vo3) (k2 := .slice (some ⟨s2 + 1 + 1, 0, none⟩) 1 1)) (y := 72) (by kernel_rfl) (by rw [hvl]; simp; omega) fun H3 s3 a3 q3 m3 S3 => ?_
        simp [hz, t1, t9, t20, t21, t22]
        have hR3 := (hR.up l3).snoc (x := { x with nums := [min k0 60] }) fN
        rw [hsm] at hsn
        refine ⟨xs.length - (vo2 + 1), by omega, vo2 + 1, W3, l2.trans l3, by omega, by omega, rfl, hw, _, by rw [hsn]; exact hR3, ?_⟩
        have e3 : stepC { x with nums := [min k0 60] } (.slice (some ⟨s2 + 1, 0, none⟩) 1 1) = [.string ⟨#[116, 105, 99, 107]⟩, .slice (some ⟨s2 + 1, 0, none⟩) 1 1, .string ⟨x.ask.toArray⟩, .string ⟨x.data.toArray⟩] := by simp [stepC, w1]
        have S4 := S3.forget (.slice (some ⟨s2 + 1 + 1, 0, none⟩) 1 1)
        rw [← e3] at S4
        exact S4
      · have w2 : ¬ ([115, 101, 116, 116, 108, 101] : List UInt8) = [116, 105, 99, 107] := by decide
        simp [-wp_append, him3, w1, w2, hs2, hz, t1, t9, t20, t21, t22, hk0, upd_ne, show dn ≠ s2 by omega, kn, fn, hk2]
        have SA := S2.alloc [.string ⟨#[115, 101, 116, 116, 108, 101]⟩, .slice (some ⟨dn, 0, none⟩) 1 1, .string ⟨x.ask.toArray⟩, .string ⟨x.data.toArray⟩] 31
        obtain ⟨W3, l3, fN, SB⟩ := SA.numF (cs := [.int .i64 (min k0 60)]) (l := [min k0 60]) (by simp) rfl
        have SC := SB.set [.string ⟨#[115, 101, 116, 116, 108, 101]⟩, .slice (some ⟨s2 + 1, 0, none⟩) 1 1, .string ⟨x.ask.toArray⟩, .string ⟨x.data.toArray⟩]
        refine St.append (((SC.forget (ptr s2)).rnewN (T := 31) (n := 4) [[.string ⟨#[115, 101, 116, 116, 108, 101]⟩, .slice (some ⟨s2 + 1, 0, none⟩) 1 1, .string ⟨x.ask.toArray⟩, .string ⟨x.data.toArray⟩]] 1 rfl (by simp) rfl).at2 (k1 := .slice vo1 vo2 vo3) (k2 := .slice (some ⟨s2 + 1 + 1, 0, none⟩) 1 1)) (y := 72) (by kernel_rfl) (by rw [hvl]; simp; omega) fun H3 s3 a3 q3 m3 S3 => ?_
        simp [hz, t1, t9, t20, t21, t22]
        have hR3 := (hR.up l3).snoc (x := { x with nums := [min k0 60] }) fN
        rw [hsm] at hsn
        refine ⟨xs.length - (vo2 + 1), by omega, vo2 + 1, W3, l2.trans l3, by omega, by omega, rfl, hw, _, by rw [hsn]; exact hR3, ?_⟩
        have e3 : stepC { x with nums := [min k0 60] } (.slice (some ⟨s2 + 1, 0, none⟩) 1 1) = [.string ⟨#[115, 101, 116, 116, 108, 101]⟩, .slice (some ⟨s2 + 1, 0, none⟩) 1 1, .string ⟨x.ask.toArray⟩, .string ⟨x.data.toArray⟩] := by simp [stepC, w1]
        have S4 := S3.forget (.slice (some ⟨s2 + 1 + 1, 0, none⟩) 1 1)
        rw [← e3] at S4
        exact S4
    · have hsm : smallS x = x := if_neg hww
      have w1 : ¬ x.word = [116, 105, 99, 107] := fun e => hww (.inl e)
      have w2 : ¬ x.word = [115, 101, 116, 116, 108, 101] := fun e => hww (.inr e)
      simp [-wp_append, him3, w1, w2, hs2, hz, t1, t9, t20, t21, t22]
      refine St.append (((S2.skip _).rnewN (T := 31) (n := 4) [stepC x (.slice an x.nums.length x.nums.length)] 1 rfl (by simp [stepC]) rfl).at2 (k1 := .slice vo1 vo2 vo3) (k2 := .slice (some ⟨s2 + 1, 0, none⟩) 1 1)) (y := 72) (by kernel_rfl) (by rw [hvl]; simp; omega) fun H3 s3 a3 l3 m3 S3 => ?_
      simp [hz, t1, t9, t20, t21, t22]
      rw [hsm] at hsn
      exact ⟨xs.length - (vo2 + 1), by omega, vo2 + 1, W2, l2, by omega, by omega, rfl, hw, _, (by rw [hsn]; exact hR.snoc fnv), S3.forget (.slice (some ⟨s2 + 1, 0, none⟩) 1 1)⟩
  · rename_i hge
    have e1 : fewS m xs = fewS i xs := by
      unfold fewS
      rw [List.take_of_length_le (by omega), List.take_of_length_le (by omega)]
    obtain ⟨a, l, k, rfl, hq⟩ := fin i e1 hR
    exact hq
end
end Go.Proofs.YtlkceignfhnpoaaGreatDoor
end
section
namespace Go.Proofs.YtlkceignfhnpoaaGreatDoor
open Go AX
section
variable {E : FuncId → Option (Array Value → AX Value)} {F G : Nat → Prop} {H : AH} {s b w : Nat} {Q : Value → AH → Nat → Prop} {W : Wd} {R P : List Own} {v : Value} {xs : List Stp}
set_option maxRecDepth 10000
set_option maxHeartbeats 4000000
/-- The law's awake, as it is run. -/
def Awake24 (E : FuncId → Option (Array Value → AX Value)) (n s : Nat) : Prop := ∀ (F G : Nat → Prop) (H : AH) (Q : Value → AH → Nat → Prop), New F G s → Bd H s → (∀ H' s', Fr [] H s H' s' → Q (.bool true) H' s') → Wp F G (aCall Tryz.prog E (n) 7 #[]) H s Q
/-- Numbers that came in. -/
def NumsI (F : Nat → Prop) (H : AH) (s : Nat) (a : Option Addr) (k : Nat) (z : Nat → Int) : Prop := k = 0 ∨ ∃ d o cs T wr, a = some ⟨d, o, none⟩ ∧ F d ∧ d < s ∧ H d = some (.cells cs T wr) ∧ ∀ i, i < k → cs[o + i]? = some (.int .i64 (z i))
theorem NumsI.keep {H' : AH} {s' : Nat} {a : Option Addr} {k : Nat} {z : Nat → Int} (h : NumsI F H s a k z) (hs : s ≤ s') (f : ∀ d, d < s → F d → H' d = H d) : NumsI F H' s' a k z := by
  rcases h with h | ⟨d, o, cs, T, wr, h1, h2, h3, h4, h5⟩
  · exact .inl h
  · exact .inr ⟨d, o, cs, T, wr, h1, h2, by omega, (f d h3 h2).trans h4, h5⟩
theorem NumsI.fz {H' : AH} {s' : Nat} {a : Option Addr} {k : Nat} {z : Nat → Int} (h : NumsI F H s a k z) (S : St F G H' s' W P) (le : (Go.Proofs.YtlkceignfhnpoaaGreatDoor.lent F H s).le W) : NumsI F H' s' a k z := by
  rcases h with h | ⟨d, o, cs, T, wr, h1, h2, h3, h4, h5⟩
  · exact .inl h
  · obtain ⟨g1, g2⟩ := le d ⟨h3, h2⟩
    obtain ⟨e1, e2, e3⟩ := S.froz d g1
    exact .inr ⟨d, o, cs, T, wr, h1, h2, e1, (e3.trans g2).trans h4, h5⟩
/-- A number that came in, cut to what it may be. -/
def clampI (k : Nat) (z : Nat → Int) (i : Nat) : Int := if i < k then max 0 (min (z i) 1099511627776) else 0
theorem St.start (hN : New F G s) (hB : Bd H s) : St F G H s (Go.Proofs.YtlkceignfhnpoaaGreatDoor.lent F H s) [] := ⟨hB, hN, fun b h => ⟨h.1, h.2, rfl⟩, fun _ => False, fun _ h => h, fun _ h => h.elim⟩
theorem StepsR.at {rows : List (List Value)} (h : StepsR W xs rows) {i : Nat} (hi : i < rows.length) : ∃ x nv, rows[i] = stepC x nv ∧ xs[i]? = some x ∧ Fz W nv (NumF x.nums) := by
  have hl := h.len
  obtain ⟨nvs, a, rfl⟩ := h
  have hx : i < xs.length := by omega
  obtain ⟨nv, e1, e2⟩ := a.2 i hx
  obtain ⟨hj, e3⟩ := zip_get hx e1 a.1
  exact ⟨xs[i], nv, e3, List.getElem?_eq_getElem hx, e2⟩
theorem fits_iff (m0 m1 m2 m3 m4 m5 : Int) : (cfgLS m0 m1 m2 m3 m4 m5 4 3 6 12 5).fits = true ↔ (1 ≤ m0 ∧ m0 ≤ 64 ∧ 1 ≤ m1 ∧ m1 ≤ 64 ∧ 1 ≤ m2 ∧ m2 ≤ 256 ∧ 1 ≤ m3 ∧ m3 ≤ 256 ∧ 1 ≤ m4 ∧ m4 ≤ 256 ∧ m5 % 4294967296 < 16777216) := by
  have hp : paceOK 4 3 6 12 5 = true := by decide
  have e : (cfgLS m0 m1 m2 m3 m4 m5 4 3 6 12 5).fits = ((inB 3 16 && (inB m0 64 && (inB m2 256 && (inB 8 64 && (inB m3 256 && (decide (m5 % 4294967296 = m5 % 4294967296 % 16777216) && paceOK 4 3 6 12 5)))))) && ((inB 3 16 && (inB m1 64 && (inB m2 256 && (inB 8 64 && (inB m3 256 && (decide (m5 % 4294967296 = m5 % 4294967296 % 16777216) && paceOK 4 3 6 12 5)))))) && (decide (m5 % 4294967296 = m5 % 4294967296) && (decide (1 ≤ m4) && decide (m4 ≤ 256))))) := rfl
  rw [e, hp]
  simp [inB]
  omega
theorem closed_law_wp (hE : Bare E) (hP : E 18 = some parseX) (hI : E 23 = some itoaX) (n : Nat) (t : ByteArray) {a : Option Addr} {k : Nat} {z : Nat → Int} (hA : Awake24 E (n + 7) s) (hk : k < 9223372036854775808) (hz : NumsI F H s a k z) (hN : New F G s) (hB : Bd H s) (h : ∀ H' s', Q (.bool true) H' s') : Wp F G (aCall Tryz.prog E (n + 8) 3 #[.string t, .slice a k k]) H s Q := by
  refine enter (calm hE _) [] (hE.no _ (by decide)) Tryz.func3 Tryz.ntmps3 (by unfold Tryz.f3; rfl) (by unfold Tryz.f3; rfl) (by kernel_rfl) ?_
  simp
  refine wp_bd ((calm hE _).ls _ _) hB ?_
  refine hA _ _ _ _ hN hB fun H1 s1 f1 u1 b1 => ?_
  simp
  refine cut_wp hE _ t 1500 ?_
  have hcs := cutB_size t 1500
  simp
  have S1 : St F G H1 s1 (lent F H1 s1) [] := St.start (hN.up u1) b1
  have z1 : NumsI F H1 s1 a k z := hz.keep u1 (fun d hd _ => f1.keep d hd (by simp))
  generalize cutB t 1500 = t1 at *
  refine few_wp hE hP _ t1 (by omega) 20 (by decide) S1 fun H2 s2 W2 a2 l2 m2 rows le2 hR S2 => ?_
  obtain ⟨ok, hok⟩ : ∃ ok, ok = (parseL t1.data.toList).2.2 := ⟨_, rfl⟩
  obtain ⟨xs, hxs⟩ : ∃ xs, xs = fewS 20 (parseL t1.data.toList).1 := ⟨_, rfl⟩
  have hno : ok = false → xs = [] := fun e => by
    have e0 : (parseL t1.data.toList).1 = [] := scan_bad (splitBy 10 t1.data.toList) 0 [] _ (parseL t1.data.toList).2.1 (by rw [← e, hok]; rfl)
    rw [hxs, e0, few_nil]
  have hxl : xs.length ≤ 20 := by rw [hxs]; unfold fewS; simp; omega
  rw [← hok]
  rw [← hxs] at hR
  clear hok hxs
  simp
  refine snew_wp hE _ S2 fun H3 s3 w bk S3 => ?_
  simp
  have hrl := hR.len
  obtain ⟨ar, hv⟩ := S2.rln
  cases hv
  refine wp_loop (fun kk tm H' s' => ∃ i, i ≤ xs.length ∧ kk = xs.length - i ∧ tm.size = 162 ∧ bot tm 1 = .slice a k k ∧ bot tm 6 = .bool ok ∧ bot tm 7 = ptr w ∧ bot tm 26 = .slice a2 rows.length rows.length ∧ bot tm 27 = .int .i64 rows.length ∧ bot tm 28 = .int .i64 (i : Nat) ∧ St F G H' s' W2 (⟨ptr w, CellsO (worldC nilP (ptr bk) 4 3 6 12 5) 58⟩ :: ⟨.slice a2 rows.length rows.length, RowsO 31 4 rows⟩ :: [])) (k := xs.length) (by unfold LF; omega) ⟨0, by simp, by simp, by simp, by simp, by simp, by simp, by simp, by simp, by simp, (S3.forget (ptr bk))⟩ ?_
  rintro kk tm H4 s4 ⟨i, hi, rfl, hz0, q1, q6, q7, q26, q27, q28, S4⟩
  rw [show tm = mkT tm [] from rfl]
  simp [hz0, q1, q6, q7, q26, q27, q28]
  split
  · rename_i hlt
    have hok : ok = true := by
      cases e : ok
      · have := hno e
        rw [this] at hrl; simp at hrl; rw [hrl] at hlt; simp at hlt
      · rfl
    obtain ⟨x, nv, hrow, hx, fnv⟩ := hR.at hlt
    obtain ⟨an, rfl⟩ := NumF.shape fnv
    obtain ⟨d, o, cs, rfl, kd, fd, gd, ld, ho, hcs⟩ := (S4.front (.slice a2 rows.length rows.length)).row hlt
    rw [hrow] at hcs
    have hs4 := S4.new s4 (Nat.le_refl _)
    subst hok
    have hw : IntKind.i64.wrap ((i : Int) + 1) = ((i + 1 : Nat) : Int) := by
      have : IntKind.i64.wrap ((i : Int) + 1) = (i : Int) + 1 := wrap64_small (by omega) (by omega)
      rw [this]; omega
    have hix : i < xs.length := by omega
    by_cases wl : x.word = [108, 105, 110, 107]
    · simp [hz0, q1, q6, q7, q26, q27, q28, hlt, kd, fd, ho, hcs, stepC, hs4, wl]
      exact ⟨xs.length - (i + 1), by omega, i + 1, by omega, rfl, hw, S4.skip _⟩
    by_cases wt : x.word = [116, 105, 99, 107, 115]
    · simp [hz0, q1, q6, q7, q26, q27, q28, hlt, kd, fd, ho, hcs, stepC, hs4, wl, wt]
      exact ⟨xs.length - (i + 1), by omega, i + 1, by omega, rfl, hw, S4.skip _⟩
    simp [hz0, q1, q6, q7, q26, q27, q28, hlt, kd, fd, ho, hcs, stepC, hs4, wl, wt]
    refine closed_wp hE _ (by rw [Lib.toList_data]; simpa using wt) (by rw [Lib.toList_data]; simpa using wl) (S4.skip _) fun H5 s5 S5 => ?_
    simp [closedT, hz0, q1, q6, q7, q26, q27, q28]
    refine wlink_wp hE _ S5 ?_
    simp [hz0, q1, q6, q7, q26, q27, q28]
    exact ⟨xs.length - (i + 1), by omega, i + 1, by omega, rfl, hw, S5⟩
  · rename_i hge
    have S5 := (S4.forget (.slice a2 rows.length rows.length))
    have z4 : NumsI F H4 s4 a k z := z1.fz S4 le2
    have S6 := S5.alloc [.int .i64 0, .int .i64 0, .int .i64 0, .int .i64 0, .int .i64 0, .int .i64 0] 3
    refine wp_loop (fun kk tm H' s' => ∃ i l, i ≤ 6 ∧ kk = 6 - i ∧ tm.size = 162 ∧ bot tm 1 = .slice a k k ∧ bot tm 7 = ptr w ∧ bot tm 10 = .slice (some ⟨s4, 0, none⟩) 6 6 ∧ bot tm 56 = .int .i64 6 ∧ bot tm 57 = .int .i64 (i : Nat) ∧ l.length = 6 ∧ (∀ j, j < 6 → l[j]? = some (if j < i then clampI k z j else 0)) ∧ St F G H' s' W2 (⟨ptr s4, CellsO (numCs l) 3⟩ :: ⟨ptr w, CellsO (worldC nilP (ptr bk) 4 3 6 12 5) 58⟩ :: [])) (k := 6) (by unfold LF; omega) ⟨0, [0, 0, 0, 0, 0, 0], by simp, by simp, by simp [hz0], by simp [hz0, q1], by simp [hz0, q7], by simp [hz0], by simp [hz0], by simp [hz0], by simp, (fun j hj => by
      have : j = 0 ∨ j = 1 ∨ j = 2 ∨ j = 3 ∨ j = 4 ∨ j = 5 := by omega
      rcases this with rfl | rfl | rfl | rfl | rfl | rfl <;> rfl), S6⟩ ?_
    rintro kk tm H5 s5 ⟨i, l, hi, rfl, hz0, q1, q7, q10, q56, q57, hll, hl, S7⟩
    rw [show tm = mkT tm [] from rfl]
    obtain ⟨kn, fn, gn, ln⟩ := S7.cell
    have hcl : (numCs l).length = 6 := by simp [numCs, hll]
    simp [hz0, q1, q7, q10, q56, q57]
    split
    · rename_i hlt6
      have hw : IntKind.i64.wrap ((i : Int) + 1) = ((i + 1 : Nat) : Int) := by
        have : IntKind.i64.wrap ((i : Int) + 1) = (i : Int) + 1 := wrap64_small (by omega) (by omega)
        rw [this]; omega
      by_cases hik : i < k
      · have hcz : clampI k z i = max 0 (min (z i) 1099511627776) := if_pos hik
        rcases z1.fz S7 le2 with h0 | ⟨d, o, cs, T, wr, rfl, fd, ld, kd, hcs⟩
        · omega
        simp [hz0, q1, q7, q10, q56, q57, hlt6, hik, kd, fd, hcs i hik, kn, fn, gn, hcl]
        have hset : (numCs l).set i (Value.int .i64 (max 0 (min (z i) 1099511627776))) = numCs (l.set i (clampI k z i)) := by rw [hcz]; simp [numCs, List.map_set]
        have S8 := S7.set ((numCs l).set i (Value.int .i64 (max 0 (min (z i) 1099511627776))))
        rw [hset] at S8 ⊢
        refine ⟨by omega, 6 - (i + 1), by omega, i + 1, by omega, rfl, hw, l.set i (clampI k z i), by simp [hll], fun j hj => ?_, S8⟩
        rw [List.getElem?_set]
        by_cases hje : i = j
        · subst hje; simp [hll, hlt6]; omega
        · rw [if_neg hje, hl j hj]
          by_cases hji : j < i
          · simp [hji, show j < i + 1 by omega]
          · simp [hji, show ¬ j < i + 1 by omega]
      · have hcz : clampI k z i = 0 := if_neg hik
        simp [hz0, q1, q7, q10, q56, q57, hlt6, hik]
        refine ⟨6 - (i + 1), by omega, i + 1, by omega, rfl, hw, l, hll, fun j hj => ?_, S7⟩
        rw [hl j hj]
        by_cases hji : j < i
        · simp [hji, show j < i + 1 by omega]
        · by_cases hje : j = i
          · subst hje; simp [hcz]
          · simp [hji, show ¬ j < i + 1 by omega]
    · rename_i hge6
      obtain rfl : i = 6 := by omega
      match l, hll with
      | [m0, m1, m2, m3, m4, m5], _ =>
      have kn' : H5 s4 = some (.cells [.int .i64 m0, .int .i64 m1, .int .i64 m2, .int .i64 m3, .int .i64 m4, .int .i64 m5] 3 true) := kn
      have hsix : Six H5 s4 m0 m1 m2 m3 m4 m5 := ⟨_, _, kn'⟩
      have SW := S7.front (ptr w)
      have hu5 : IntKind.i64.wrap (IntKind.u32.wrap m5) = m5 % 4294967296 := by
        have e : IntKind.u32.wrap m5 = m5 % 4294967296 := rfl
        rw [e]; exact wrap64_small (by omega) (by omega)
      by_cases hm : (cfgLS m0 m1 m2 m3 m4 m5 4 3 6 12 5).fits = true
      · obtain ⟨c0, c1, c2, c3, c4, c5, c6, c7, c8, c9, ca⟩ := (fits_iff m0 m1 m2 m3 m4 m5).1 hm
        simp [hz0, q1, q7, q10, q56, q57, kn', fn, hu5, c0, c1, c2, c3, c4, c5, c6, c7, c8, c9, ca]
        refine dolink_wp hE hI _ SW hsix ⟨ln, fn⟩ (fun _ H6 s6 lk b' S8 => ?_) (fun hf => by rw [hm] at hf; cases hf)
        simp [okT, hz0, q1, q7, q10, q56, q57]
        refine wlink_wp hE _ S8 ?_
        simp [hz0]
        exact h _ _
      · have hm2 : (cfgLS m0 m1 m2 m3 m4 m5 4 3 6 12 5).fits = false := by simpa using hm
        have hno : ¬ (1 ≤ m0 ∧ m0 ≤ 64 ∧ 1 ≤ m1 ∧ m1 ≤ 64 ∧ 1 ≤ m2 ∧ m2 ≤ 256 ∧ 1 ≤ m3 ∧ m3 ≤ 256 ∧ 1 ≤ m4 ∧ m4 ≤ 256 ∧ m5 % 4294967296 < 16777216) := fun e => hm ((fits_iff m0 m1 m2 m3 m4 m5).2 e)
        by_cases c0 : 1 ≤ m0
        rotate_left
        · simp [hz0, q1, q7, q10, q56, q57, kn', fn, hu5, c0]
          refine dolink_wp hE hI _ SW hsix ⟨ln, fn⟩ (fun hf => by rw [hm2] at hf; cases hf) (fun _ H6 s6 S8 => ?_)
          simp [code1T, hz0, q1, q7, q10, q56, q57]
          refine wlink_wp hE _ S8 ?_
          simp [hz0]
          exact h _ _
        by_cases c1 : m0 ≤ 64
        rotate_left
        · simp [hz0, q1, q7, q10, q56, q57, kn', fn, hu5, c0, c1]
          refine dolink_wp hE hI _ SW hsix ⟨ln, fn⟩ (fun hf => by rw [hm2] at hf; cases hf) (fun _ H6 s6 S8 => ?_)
          simp [code1T, hz0, q1, q7, q10, q56, q57]
          refine wlink_wp hE _ S8 ?_
          simp [hz0]
          exact h _ _
        by_cases c2 : 1 ≤ m1
        rotate_left
        · simp [hz0, q1, q7, q10, q56, q57, kn', fn, hu5, c0, c1, c2]
          refine dolink_wp hE hI _ SW hsix ⟨ln, fn⟩ (fun hf => by rw [hm2] at hf; cases hf) (fun _ H6 s6 S8 => ?_)
          simp [code1T, hz0, q1, q7, q10, q56, q57]
          refine wlink_wp hE _ S8 ?_
          simp [hz0]
          exact h _ _
        by_cases c3 : m1 ≤ 64
        rotate_left
        · simp [hz0, q1, q7, q10, q56, q57, kn', fn, hu5, c0, c1, c2, c3]
          refine dolink_wp hE hI _ SW hsix ⟨ln, fn⟩ (fun hf => by rw [hm2] at hf; cases hf) (fun _ H6 s6 S8 => ?_)
          simp [code1T, hz0, q1, q7, q10, q56, q57]
          refine wlink_wp hE _ S8 ?_
          simp [hz0]
          exact h _ _
        by_cases c4 : 1 ≤ m2
        rotate_left
        · simp [hz0, q1, q7, q10, q56, q57, kn', fn, hu5, c0, c1, c2, c3, c4]
          refine dolink_wp hE hI _ SW hsix ⟨ln, fn⟩ (fun hf => by rw [hm2] at hf; cases hf) (fun _ H6 s6 S8 => ?_)
          simp [code1T, hz0, q1, q7, q10, q56, q57]
          refine wlink_wp hE _ S8 ?_
          simp [hz0]
          exact h _ _
        by_cases c5 : m2 ≤ 256
        rotate_left
        · simp [hz0, q1, q7, q10, q56, q57, kn', fn, hu5, c0, c1, c2, c3, c4, c5]
          refine dolink_wp hE hI _ SW hsix ⟨ln, fn⟩ (fun hf => by rw [hm2] at hf; cases hf) (fun _ H6 s6 S8 => ?_)
          simp [code1T, hz0, q1, q7, q10, q56, q57]
          refine wlink_wp hE _ S8 ?_
          simp [hz0]
          exact h _ _
        by_cases c6 : 1 ≤ m3
        rotate_left
        · simp [hz0, q1, q7, q10, q56, q57, kn', fn, hu5, c0, c1, c2, c3, c4, c5, c6]
          refine dolink_wp hE hI _ SW hsix ⟨ln, fn⟩ (fun hf => by rw [hm2] at hf; cases hf) (fun _ H6 s6 S8 => ?_)
          simp [code1T, hz0, q1, q7, q10, q56, q57]
          refine wlink_wp hE _ S8 ?_
          simp [hz0]
          exact h _ _
        by_cases c7 : m3 ≤ 256
        rotate_left
        · simp [hz0, q1, q7, q10, q56, q57, kn', fn, hu5, c0, c1, c2, c3, c4, c5, c6, c7]
          refine dolink_wp hE hI _ SW hsix ⟨ln, fn⟩ (fun hf => by rw [hm2] at hf; cases hf) (fun _ H6 s6 S8 => ?_)
          simp [code1T, hz0, q1, q7, q10, q56, q57]
          refine wlink_wp hE _ S8 ?_
          simp [hz0]
          exact h _ _
        by_cases c8 : 1 ≤ m4
        rotate_left
        · simp [hz0, q1, q7, q10, q56, q57, kn', fn, hu5, c0, c1, c2, c3, c4, c5, c6, c7, c8]
          refine dolink_wp hE hI _ SW hsix ⟨ln, fn⟩ (fun hf => by rw [hm2] at hf; cases hf) (fun _ H6 s6 S8 => ?_)
          simp [code1T, hz0, q1, q7, q10, q56, q57]
          refine wlink_wp hE _ S8 ?_
          simp [hz0]
          exact h _ _
        by_cases c9 : m4 ≤ 256
        rotate_left
        · simp [hz0, q1, q7, q10, q56, q57, kn', fn, hu5, c0, c1, c2, c3, c4, c5, c6, c7, c8, c9]
          refine dolink_wp hE hI _ SW hsix ⟨ln, fn⟩ (fun hf => by rw [hm2] at hf; cases hf) (fun _ H6 s6 S8 => ?_)
          simp [code1T, hz0, q1, q7, q10, q56, q57]
          refine wlink_wp hE _ S8 ?_
          simp [hz0]
          exact h _ _
        by_cases c10 : m5 % 4294967296 < 16777216
        rotate_left
        · simp [hz0, q1, q7, q10, q56, q57, kn', fn, hu5, c0, c1, c2, c3, c4, c5, c6, c7, c8, c9, c10]
          refine dolink_wp hE hI _ SW hsix ⟨ln, fn⟩ (fun hf => by rw [hm2] at hf; cases hf) (fun _ H6 s6 S8 => ?_)
          simp [code1T, hz0, q1, q7, q10, q56, q57]
          refine wlink_wp hE _ S8 ?_
          simp [hz0]
          exact h _ _
        exact absurd ⟨c0, c1, c2, c3, c4, c5, c6, c7, c8, c9, c10⟩ hno
end
end Go.Proofs.YtlkceignfhnpoaaGreatDoor
end
