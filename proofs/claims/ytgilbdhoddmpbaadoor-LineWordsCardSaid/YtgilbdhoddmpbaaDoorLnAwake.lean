/-
  A row of steps, cell by cell; what the statements on lines call first.
-/
import Derived.Test.YtgilbdhoddmpbaaDoorLnParse
import Derived.Deep.QuietTactic
import Derived.BigQuiet
set_option linter.unusedVariables false
set_option linter.unusedSimpArgs false
namespace Go.Proofs.YtgilbdhoddmpbaaDoor
open Go.RowKit

theorem add_addr (g k : Nat) : (⟨g, 0, none⟩ : Addr).add k = ⟨g, k, none⟩ := by unfold Addr.add; split <;> simp_all
theorem flat4 {α : Type} : ∀ (L : List (List α)) (h : ∀ l ∈ L, l.length = 4) (j i : Nat) (hi : i < 4), L.flatten[4 * j + i]? = (L[j]?).bind (·[i]?)
  | [], _, j, i, _ => by simp
  | l :: t, h, 0, i, hi => by
    have hl := h l (by simp)
    rw [List.flatten_cons, List.getElem?_append_left (by omega)]; simp
  | l :: t, h, j + 1, i, hi => by
    have hl := h l (by simp)
    rw [List.flatten_cons, List.getElem?_append_right (by omega), show 4 * (j + 1) + i - l.length = 4 * j + i by omega, flat4 t (fun x hx => h x (by simp [hx])) j i hi]; simp
theorem stpCs_at {xs : List Stp} {nvs : List Value} {j : Nat} (h : j < xs.length) {nv : Value} (hn : nvs[j]? = some nv) (i : Nat) (hi : i < 4) : (stpCs xs nvs)[4 * j + i]? = (stpC xs[j] nv)[i]? := by
  unfold stpCs
  rw [flat4 _ (fun l hl => by
    obtain ⟨k, hk⟩ := List.getElem?_of_mem hl
    rw [List.getElem?_zipWith] at hk
    cases hx : xs[k]? with
    | none => rw [hx] at hk; cases hk
    | some x => cases hv : nvs[k]? with
      | none => rw [hx, hv] at hk; cases hk
      | some v => rw [hx, hv] at hk; cases hk; rfl) j i hi, List.getElem?_zipWith, List.getElem?_eq_getElem h, hn]
  rfl
/-- One step of a row. -/
structure StpIn (w : World) (g o : Nat) (x : Stp) (na : Option Addr) (nc : Nat) : Prop where
  c0 : w.cell? ⟨g, o, none⟩ = some (.string ⟨x.word.toArray⟩)
  c1 : w.cell? ⟨g, o + 1, none⟩ = some (.slice na x.nums.length nc)
  c2 : w.cell? ⟨g, o + 2, none⟩ = some (.string ⟨x.ask.toArray⟩)
  c3 : w.cell? ⟨g, o + 3, none⟩ = some (.string ⟨x.data.toArray⟩)
  nums : IntsR .i64 w (.slice na x.nums.length nc) x.nums
theorem numR {w : World} {B : Nat} {nv : Value} {l : List Int} (h : w.ownsRow B 3 1 nv l.length (numV l)) : IntsR .i64 w nv l := by
  refine IntsR.of_owns h ?_
  rcases h.2 with ⟨_, h0⟩ | ⟨_, cap, _, _, _, _, h1, h2, _⟩
  · omega
  · unfold maxLen at h2; omega
theorem StpsAt.at {w : World} {B : Nat} {v : Value} {xs : List Stp} {nvs : List Value} (h : StpsAt w B v xs nvs) {g n c : Nat} (hv : v = .slice (some ⟨g, 0, none⟩) n c) {j : Nat} (hj : j < xs.length) : ∃ na nc, StpIn w g (4 * j) xs[j] na nc := by
  obtain ⟨nv, h1, h2⟩ := h.nums j hj
  obtain ⟨na, nc, rfl⟩ := own_form h2
  have hc := @World.ownsRow.cells _ _ _ _ _ _ _ h.row g (by rw [hv]; rfl)
  have key : ∀ i u, i < 4 → (stpC xs[j] (.slice na xs[j].nums.length nc))[i]? = some u → w.cell? ⟨g, 4 * j + i, none⟩ = some u := fun i u hi hu => by
    have := hc (4 * j + i) u (by rw [stpCs_at hj h1 i hi]; exact hu)
    rwa [add_addr] at this
  exact ⟨na, nc, key 0 _ (by omega) rfl, key 1 _ (by omega) rfl, key 2 _ (by omega) rfl, key 3 _ (by omega) rfl, numR h2⟩
/-- How a row of steps is written. -/
theorem StpsAt.form {w : World} {B : Nat} {v : Value} {xs : List Stp} {nvs : List Value} (h : StpsAt w B v xs nvs) : ∃ a c, v = .slice a xs.length c ∧ xs.length ≤ c ∧ (0 < xs.length → ∃ g, a = some ⟨g, 0, none⟩ ∧ B ≤ g ∧ g < w.heap.size) := by
  rcases h.row.2 with ⟨rfl, h0⟩ | ⟨g, cap, cur, rfl, hb, hg, hc, _⟩
  · rw [h0]; exact ⟨none, 0, rfl, Nat.le_refl _, fun h => by omega⟩
  · exact ⟨_, cap, rfl, hc, fun _ => ⟨g, rfl, hb, lt_of_block hg⟩⟩
theorem StpIn.below {w w' : World} {g o : Nat} {x : Stp} {na : Option Addr} {nc : Nat} (h : StpIn w g o x na nc) (hb : Below w.heap.size w w') : StpIn w' g o x na nc :=
  have k := fun {i v} (hc : w.cell? ⟨g, i, none⟩ = some v) => (hb.cell (block_lt_of_cell hc)).trans hc
  ⟨k h.c0, k h.c1, k h.c2, k h.c3, h.nums.below hb (Nat.le_refl _)⟩
theorem parse_in (s : ByteArray) (w : World) (hs : s.size ≤ 100000) (he : EnvM w) (xs : List Stp) (n : Nat) (ok : Bool) (hp : parseL s.data.toList = (xs, n, ok)) :
    Calls Tryd.prog 10 #[.string s] w fun e w' => ∃ a c nvs, e = .returned (.tuple #[.slice a xs.length c, .int .i64 (n : Int), .bool ok]) ∧ StpsAt w' w.heap.size (.slice a xs.length c) xs nvs ∧ xs.length ≤ c ∧ Below w.heap.size w w' := by
  refine (lparse_any s w hs he).mono ?_
  rintro e w' ⟨hb, v, nvs, he, hst⟩
  rw [hp] at he hst
  obtain ⟨a, c, rfl, h1, h2⟩ := hst.form
  exact ⟨a, c, nvs, he, hst, h1, hb⟩
set_option maxRecDepth 100000 in
set_option maxHeartbeats 2000000 in
theorem awake23 (w : World) (he : EnvM w) : Calls Tryd.prog 8 #[] w fun e w' => e = .returned (.bool true) ∧ Below w.heap.size w w' := by
  have HPA := Lib.hid (parse_in ⟨#[97, 115, 107, 32, 48, 32, 100, 97, 116, 97, 32, 54, 49, 54, 50]⟩ w (by decide) he _ _ _ woke_parse)
  have HKD := Lib.hid (fun W => lkind_any ⟨#[114, 101, 116, 114, 105, 101, 118, 101]⟩ W)
  have hk11 : askOf (⟨#[114, 101, 116, 114, 105, 101, 118, 101]⟩ : ByteArray).data.toList = 11 := by rfl
  rw [hk11] at HKD
  clear hk11 he
  go_enter Tryd.func8, Tryd.ntmps8
  go_wp2_with fail
  refine HPA.out.mono ?_
  rintro e w1 ⟨a, c, nvs, rfl, hst, hc, hb⟩
  obtain ⟨a', c', hv, hc', hg⟩ := hst.form
  obtain ⟨g, ha, hBg, hgl⟩ := hg (by simp)
  cases hv
  subst ha
  obtain ⟨na, nc, hin⟩ := hst.at rfl (j := 0) (by simp)
  have c1 := hin.c1
  have c2 := hin.c2
  have c3 := hin.c3
  simp only [Nat.mul_zero, Nat.zero_add, List.getElem_cons_zero, List.length_singleton] at c1 c2 c3
  have HB := Lib.hid hb
  simp only [List.length_singleton] at *
  clear hst hin hb HPA
  go_wp2_with (first | (go_at_call 16; refine (HKD.out _).mono ?_; rintro e w' ⟨rfl, rfl⟩))
  go_ret
  exact ⟨rfl, HB.out⟩
end Go.Proofs.YtgilbdhoddmpbaaDoor
