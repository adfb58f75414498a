/-
  Rules for appends, slices of slices, maps.
-/
import Derived.Test.YtlkceignfhnpoaaGreatDoorCAy6
set_option linter.unusedVariables false
set_option linter.unusedSimpArgs false
namespace Go.Proofs.YtlkceignfhnpoaaGreatDoor
open Go AX
section
variable {P : Program} {F G : Nat → Prop} {H : AH} {s : Nat} {T : TypeId}
theorem wp_readN {b o n : Nat} {Q : List Value → AH → Nat → Prop} : Wp F G (readN b o n) H s Q = (match H b with | some (.cells cs _ _) => F b ∧ (if o + n ≤ cs.length then Q ((cs.drop o).take n) H s else False) | _ => False) := by
  unfold readN
  simp only [wp_bind, wp_cells, wp_ite, wp_ret, wp_fail]
  cases H b with
  | none => rfl
  | some x =>
    cases x with
    | cells cs T wr => rfl
    | map kv => rfl
theorem sc_nil {size n c : Nat} {Q : List Value → AH → Nat → Prop} : Wp F G (sliceCells size (.slice none n c)) H s Q = Q [] H s := by unfold sliceCells; rw [wp_ret]
theorem sc_some {size b o n c : Nat} {Q : List Value → AH → Nat → Prop} : Wp F G (sliceCells size (.slice (some ⟨b, o, none⟩) n c)) H s Q = if n = 0 then Q [] H s else (match H b with | some (.cells cs _ _) => F b ∧ (if o + n * size ≤ cs.length then Q ((cs.drop o).take (n * size)) H s else False) | _ => False) := by
  unfold sliceCells
  rw [wp_ite, wp_ret, wp_readN]
/-- Where an append puts things. -/
def ApTo (F G : Nat → Prop) (e : TypeId) (size n m : Nat) (base : Option Addr) (news : List Value) (H : AH) (s : Nat) (Q : Value → AH → Nat → Prop) : Prop :=
  match base with
  | none => if n = 0 then Q (.slice (some ⟨s, 0, none⟩) m m) (upd H s (some (.cells news e true))) (s + 1) else False
  | some ⟨b, o, none⟩ => (match H b with | some (.cells cs T' wr) => F b ∧ (if wr = true ∧ T' = e ∧ o + n * size ≤ cs.length then G b ∧ Q (.slice (some ⟨s, 0, none⟩) (n + m) (n + m)) (upd (upd H b none) s (some (.cells ((cs.drop o).take (n * size) ++ news) e true))) (s + 1) else False) | _ => False)
  | _ => False
theorem wp_append {base bx : Option Addr} {n cap m cx : Nat} {Q : Value → AH → Nat → Prop} (hi : (apInfo P T).isSome = true) : Wp F G (aAppend P T T (.slice base n cap) (.slice bx m cx)) H s Q = (match apInfo P T with | some (e, size, by_) => if m = 0 then Q (.slice base n cap) H s else if (n + m) * by_ ≤ 140737488355328 ∧ n + m ≤ 9223372036854775807 then Wp F G (sliceCells size (.slice bx m cx)) H s (fun news H' s' => ApTo F G e size n m base news H' s' Q) else False | none => False) := by
  cases h : apInfo P T with
  | none => rw [h] at hi; cases hi
  | some q =>
    obtain ⟨e, size, by_⟩ := q
    unfold apInfo at h
    unfold aAppend
    cases he : elemT P T with
    | none => rw [he] at h; cases h
    | some e' =>
      rw [he] at h
      dsimp only at h ⊢
      cases hs : szOf P e' with
      | none => rw [hs] at h; cases h
      | some sz =>
        cases hz : zeroOf P e' with
        | none => rw [hs, hz] at h; cases h
        | some z =>
          cases hy : bytesOfT P e' with
          | none => rw [hs, hz, hy] at h; cases h
          | some y =>
            rw [hs, hz, hy] at h
            dsimp only at h ⊢
            split at h
            · rename_i hc
              simp only [Option.some.injEq, Prod.mk.injEq] at h
              obtain ⟨rfl, rfl, rfl⟩ := h
              obtain ⟨hc, hne⟩ := hc
              simp only [ne_eq, not_true_eq_false, false_or, hne, Bool.false_eq_true, if_false, hc, and_true, wp_ite, wp_ret, wp_fail, wp_bind]
              congr 2
              refine wp_same fun news H' s' => ?_
              unfold ApTo
              cases base with
              | none => simp only [wp_ite, wp_bind, wp_new, wp_ret, wp_fail]
              | some a =>
                obtain ⟨b, o, k⟩ := a
                cases k with
                | none =>
                  simp only [wp_bind, wp_cells]
                  cases H' b with
                  | none => rfl
                  | some x =>
                    cases x with
                    | cells cs T wr =>
                      simp only [wp_ite, wp_bind, wp_set, wp_new, wp_ret, wp_fail]
                      by_cases hF : F b
                      · simp [hF]
                      · simp [hF]
                    | map kv => rfl
                | some k => simp only [wp_fail]
            · cases h
end
/-- New places are free to be read and written. -/
def New (F G : Nat → Prop) (s : Nat) : Prop := ∀ k, s ≤ k → F k ∧ G k
theorem New.up {F G : Nat → Prop} {s s' : Nat} (h : New F G s) (hs : s ≤ s') : New F G s' := fun k hk => h k (Nat.le_trans hs hk)
/-- Nothing that was there was turned, but for own blocks. -/
structure Fr (own : List Nat) (H : AH) (s : Nat) (H' : AH) (s' : Nat) : Prop where
  up : s ≤ s'
  keep : ∀ k, k < s → k ∉ own → H' k = H k
theorem Fr.refl (own : List Nat) (H : AH) (s : Nat) : Fr own H s H s := ⟨Nat.le_refl _, fun _ _ _ => rfl⟩
theorem Fr.new {own : List Nat} {H H' : AH} {s s' : Nat} (h : Fr own H s H' s') {x : Option AB} : Fr own H s (upd H' s' x) (s' + 1) := ⟨Nat.le_succ_of_le h.up, fun k hk ho => (upd_ne _ _ (by have := h.up; omega)).trans (h.keep k hk ho)⟩
theorem Fr.own {own : List Nat} {H H' : AH} {s s' : Nat} (h : Fr own H s H' s') {b : Nat} {x : Option AB} (hb : b ∈ own) : Fr own H s (upd H' b x) s' := ⟨h.up, fun k hk ho => (upd_ne _ _ (fun e => ho (by rw [e]; exact hb))).trans (h.keep k hk ho)⟩
theorem Fr.made {own : List Nat} {H H' : AH} {s s' : Nat} (h : Fr own H s H' s') {b : Nat} {x : Option AB} (hb : s ≤ b) : Fr own H s (upd H' b x) s' := ⟨h.up, fun k hk ho => (upd_ne _ _ (by omega)).trans (h.keep k hk ho)⟩
theorem Fr.trans {own : List Nat} {H H1 H2 : AH} {s s1 s2 : Nat} (h : Fr own H s H1 s1) (k : Fr own H1 s1 H2 s2) : Fr own H s H2 s2 := ⟨Nat.le_trans h.up k.up, fun x hx ho => (k.keep x (Nat.lt_of_lt_of_le hx h.up) ho).trans (h.keep x hx ho)⟩
theorem Fr.wide {own own' : List Nat} {H H' : AH} {s s' : Nat} (h : Fr own H s H' s') (hw : ∀ b, b ∈ own → b < s → b ∈ own') : Fr own' H s H' s' := ⟨h.up, fun x hx ho => h.keep x hx (fun hm => ho (hw x hm hx))⟩
attribute [simp] wp_readN sc_nil sc_some ApTo wp_append
end Go.Proofs.YtlkceignfhnpoaaGreatDoor
