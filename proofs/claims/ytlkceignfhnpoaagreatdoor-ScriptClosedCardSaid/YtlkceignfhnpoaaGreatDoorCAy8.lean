/-
  Rules for parts of slices, for new slices, for maps.
-/
import Derived.Test.YtlkceignfhnpoaaGreatDoorCAy7
set_option linter.unusedVariables false
set_option linter.unusedSimpArgs false
namespace Go.Proofs.YtlkceignfhnpoaaGreatDoor
open Go AX
section
variable {P : Program} {F G : Nat → Prop} {H : AH} {s : Nat} {T : TypeId}
/-- A part of a slice. -/
def SlTo (P : Program) (F : Nat → Prop) (a : Option Addr) (size : Nat) (l h : Int) (H : AH) (s : Nat) (Q : Value → AH → Nat → Prop) : Prop :=
  match a with
  | none => Q (.slice none 0 0) H s
  | some ⟨b, o, none⟩ => (match H b with | some (.cells cs T' wr) => F b ∧ (if szOf P T' = some size then Q (.slice (some ⟨b, o + l.toNat * size, none⟩) (h.toNat - l.toNat) (h.toNat - l.toNat)) H s else False) | _ => False)
  | _ => False
theorem wp_slice {a : Option Addr} {len cap : Nat} {lo hi : Option Value} {Q : Value → AH → Nat → Prop} : Wp F G (aSlice P T (.slice a len cap) lo hi none) H s Q = (match elemT P T with | some e => (match szOf P e, intO lo 0, intO hi len with | some size, some l, some h => if 0 ≤ l ∧ l ≤ h ∧ h ≤ len then SlTo P F a size l h H s Q else False | _, _, _ => False) | none => False) := by
  unfold aSlice
  dsimp only
  cases elemT P T with
  | none => exact wp_fail
  | some e =>
    dsimp only
    cases szOf P e with
    | none => exact wp_fail
    | some size =>
      cases intO lo 0 with
      | none => exact wp_fail
      | some l =>
        cases intO hi len with
        | none => exact wp_fail
        | some h =>
          dsimp only
          rw [wp_ite, wp_fail]
          congr 1
          unfold SlTo
          cases a with
          | none => exact wp_ret
          | some a =>
            obtain ⟨b, o, k⟩ := a
            cases k with
            | some k => exact wp_fail
            | none =>
              simp only [wp_bind, wp_cells, wp_ite, wp_ret, wp_fail]
              cases H b with
              | none => rfl
              | some x =>
                cases x with
                | cells cs T wr => rfl
                | map kv => rfl
/-- What a look into a map gives. -/
def look (z : Value) (ok : Bool) (r : Option Value) : Value :=
  match r with
  | some v => if ok = true then .tuple #[v, .bool true] else v
  | none => if ok = true then .tuple #[z, .bool false] else z
theorem wp_lookup {kt et : TypeId} {z : Value} {m : Option Nat} {k : Value} {ok : Bool} {Q : Value → AH → Nat → Prop} (hm : mapT P T = some (kt, et)) (hz : zeroOf P et = some z) (hk : keyOK P kt k = true) : Wp F G (aLookup P T (.map m) k ok) H s Q = (match m with | none => Q (look z ok none) H s | some b => (match H b with | some (.map kv) => F b ∧ (if kv.all (fun p => keyOK P kt p.1) = true then Q (look z ok (findK k kv)) H s else False) | _ => False)) := by
  unfold aLookup
  rw [hm]
  dsimp only
  rw [if_pos hk]
  cases m with
  | none =>
    dsimp only
    rw [hz]
    exact wp_ret
  | some b =>
    simp only [wp_bind, wp_entries]
    cases H b with
    | none => rfl
    | some x =>
      cases x with
      | cells cs T wr => rfl
      | map kv =>
        dsimp only
        rw [wp_ite, wp_fail, hz]
        congr 2
        cases findK k kv with
        | none => exact wp_ret
        | some v => exact wp_ret
theorem wp_mapUpdate {kt et : TypeId} {b : Nat} {k v : Value} {Q : Value → AH → Nat → Prop} (hm : mapT P T = some (kt, et)) (hk : keyOK P kt k = true) : Wp F G (aMapUpdate P T (.map (some b)) k v) H s Q = (match H b with | some (.map kv) => F b ∧ (if kv.all (fun p => keyOK P kt p.1) = true then G b ∧ Q undef (upd H b (some (.map (putK k v kv)))) s else False) | _ => False) := by
  unfold aMapUpdate
  rw [hm]
  dsimp only
  rw [if_pos hk]
  simp only [wp_bind, wp_entries]
  cases H b with
  | none => rfl
  | some x =>
    cases x with
    | cells cs T wr => rfl
    | map kv =>
      dsimp only
      simp only [wp_ite, wp_bind, wp_set, wp_ret, wp_fail]
      by_cases hF : F b <;> simp [hF]
theorem wp_delete {kt et : TypeId} {b : Nat} {k : Value} {Q : Value → AH → Nat → Prop} (hm : mapT P T = some (kt, et)) (hk : keyOK P kt k = true) : Wp F G (aDelete P T (.map (some b)) k) H s Q = (match H b with | some (.map kv) => F b ∧ (if kv.all (fun p => keyOK P kt p.1) = true then G b ∧ Q (.tuple #[]) (upd H b (some (.map (delK k kv)))) s else False) | _ => False) := by
  unfold aDelete
  rw [hm]
  dsimp only
  rw [if_pos hk]
  simp only [wp_bind, wp_entries]
  cases H b with
  | none => rfl
  | some x =>
    cases x with
    | cells cs T wr => rfl
    | map kv =>
      dsimp only
      simp only [wp_ite, wp_bind, wp_set, wp_ret, wp_fail]
      by_cases hF : F b <;> simp [hF]
end
attribute [simp] wp_slice SlTo
end Go.Proofs.YtlkceignfhnpoaaGreatDoor
