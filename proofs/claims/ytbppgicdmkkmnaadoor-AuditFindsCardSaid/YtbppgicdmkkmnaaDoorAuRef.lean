/-
  Contract of audit.refused.
-/
import Derived.Test.YtbppgicdmkkmnaaDoorAuRec
import Derived.Lib.QuietBelow
set_option linter.unusedVariables false
set_option linter.unusedSimpArgs false
namespace Go.Proofs.YtbppgicdmkkmnaaDoor
open Go.RowKit

/-- A record. -/
structure RecS where
  en : Int
  kd : Int
  k : Int
  n : Int
  mr : Int
  la : Option Addr
  ll : Nat
  lc : Nat
  sk : Int
  sc : Int
  rk : Int
def RecS.cells (r : RecS) : List Value := recC r.en r.kd r.k r.n r.mr (.slice r.la r.ll r.lc) r.sk r.sc r.rk
/-- A row of records. -/
def RecsAt (w : World) (g : Nat) (rs : List RecS) : Prop := BoxAt w g 36 (rs.flatMap RecS.cells)
theorem flat18 {α : Type} : ∀ (L : List (List α)) (h : ∀ l ∈ L, l.length = 18) (j i : Nat) (hi : i < 18), L.flatten[j * 18 + i]? = (L[j]?).bind (·[i]?)
  | [], _, j, i, _ => by simp
  | l :: t, h, 0, i, hi => by
    have hl := h l (by simp)
    rw [List.flatten_cons, List.getElem?_append_left (by omega)]; simp
  | l :: t, h, j + 1, i, hi => by
    have hl := h l (by simp)
    rw [List.flatten_cons, List.getElem?_append_right (by omega), show (j + 1) * 18 + i - l.length = j * 18 + i by omega, flat18 t (fun x hx => h x (by simp [hx])) j i hi]; simp
theorem RecsAt.range {w : World} {g : Nat} {rs : List RecS} (h : RecsAt w g rs) {j : Nat} (hj : j < rs.length) : w.rangeAt g (j * 18) rs[j].cells := fun i v hv => by
  have hi : i < 18 := by
    have := (List.getElem?_eq_some_iff.1 hv).1
    simpa [RecS.cells, recC] using this
  have h1 := BoxAt.cell h (j * 18 + i)
  rw [h1, List.flatMap_def, flat18 _ (fun l hl => by
    obtain ⟨r, _, rfl⟩ := List.mem_map.1 hl
    rfl) j i hi, List.getElem?_map, List.getElem?_eq_getElem hj]
  exact hv
theorem RecsAt.below {w w' : World} {g : Nat} {rs : List RecS} (h : RecsAt w g rs) (hb : Below w.heap.size w w') : RecsAt w' g rs := BoxAt.below h hb (BoxAt.lt h)
theorem RecsAt.keep {B : Nat} {w w' : World} {g : Nat} {rs : List RecS} (h : RecsAt w g rs) (hk : KeepA B w w') : RecsAt w' g rs := hk.box h (by decide) (by decide)
def refusedB (rs : List RecS) (i : Nat) : Bool := match rs[i]?, rs[i + 1]? with
  | some r0, some r => decide (r.en = r0.en ∧ r.kd = 5 ∧ r.sk = 12 ∧ (r.sc = 82 ∨ r.sc = 83 ∨ r.sc = 84))
  | _, _ => false
set_option maxRecDepth 100000 in
set_option maxHeartbeats 4000000 in
theorem refused_any (g c i : Nat) (rs : List RecS) (w : World) (h : RecsAt w g rs) (hi : i < rs.length) (hl : rs.length ≤ 1000000) :
    Calls Tryd.prog 21 #[.slice (some ⟨g, 0, none⟩) rs.length c, .int .i64 (i : Int)] w fun e w' => e = .returned (.bool (refusedB rs i)) ∧ Below w.heap.size w w' := by
  by_cases hlt : i + 1 < rs.length
  · have hlt1 : ¬ (rs.length : Int) ≤ (i : Int) + 1 := by omega
    have hlt2 : (i : Int) < (rs.length : Int) := by omega
    have hlt3 : (i : Int) + 1 < (rs.length : Int) := by omega
    have hto : ((i : Int) + 1).toNat = i + 1 := by omega
    have hge : (0 : Int) ≤ (i : Int) + 1 := by omega
    have hw1 : IntKind.i64.wrap ((i : Int) + 1) = (i : Int) + 1 := by rw [IntKind.wrap_i64]; omega
    have HR0 := Lib.hid (h.range hlt)
    have c0 := h.range hi 0 _ rfl
    rw [Nat.add_zero] at c0
    have hR : refusedB rs i = decide (rs[i + 1].en = rs[i].en ∧ rs[i + 1].kd = 5 ∧ rs[i + 1].sk = 12 ∧ (rs[i + 1].sc = 82 ∨ rs[i + 1].sc = 83 ∨ rs[i + 1].sc = 84)) := by
      unfold refusedB; rw [List.getElem?_eq_getElem hi, List.getElem?_eq_getElem hlt]
    generalize rs[i + 1] = r1 at *
    generalize rs[i].en = en0 at *
    obtain ⟨en, kd, k, n, mr, la, ll, lc, sk, sc, rk⟩ := r1
    simp only at hR
    generalize refusedB rs i = R at *
    unfold RecS.cells recC at HR0
    have hb := (Below.refl w.heap.size w).alloc (Nat.le_refl _) (.cells #[.int .i64 en, .int .i64 kd, .int .i64 k, .int .i64 0, .int .u32 n, .int .u32 0, .int .u32 mr, .slice la ll lc, .bool false, .string ⟨#[]⟩, .int .i64 sk, .string ⟨#[]⟩, .bool false, .int .u8 sc, .int .i64 0, .int .i64 rk, .string ⟨#[]⟩, .int .i64 0] 36)
    have HB := Lib.hid hb
    have HX := Lib.hid (BoxAt.new w 36 [.int .i64 en, .int .i64 kd, .int .i64 k, .int .i64 0, .int .u32 n, .int .u32 0, .int .u32 mr, .slice la ll lc, .bool false, .string ⟨#[]⟩, .int .i64 sk, .string ⟨#[]⟩, .bool false, .int .u8 sc, .int .i64 0, .int .i64 rk, .string ⟨#[]⟩, .int .i64 0])
    have c0' := (hb.cell (block_lt_of_cell c0)).trans c0
    have hls : ∀ o, w.cell? ⟨g, o, none⟩ = w.cell? ⟨g, o, none⟩ := fun _ => rfl
    clear hb h hls
    go_enter Tryd.func21, Tryd.ntmps21
    go_upto_region 4 with (first | (refine wpList_load_mid rfl 36 (.tmp 15) rfl g ((i + 1) * 18) (by rfl) [.int .i64 en, .int .i64 kd, .int .i64 k, .int .i64 0, .int .u32 n, .int .u32 0, .int .u32 mr, .slice la ll lc, .bool false, .string ⟨#[]⟩, .int .i64 sk, .string ⟨#[]⟩, .bool false, .int .u8 sc, .int .i64 0, .int .i64 rk, .string ⟨#[]⟩, .int .i64 0] _ HR0.out Tryd.underlying36 rfl rec_info ?_) | (refine wpList_store_new rfl 36 (.tmp 5) (.tmp 16) rfl w.heap.size 36 _ #[.int .i64 en, .int .i64 kd, .int .i64 k, .int .i64 0, .int .u32 n, .int .u32 0, .int .u32 mr, .slice la ll lc, .bool false, .string ⟨#[]⟩, .int .i64 sk, .string ⟨#[]⟩, .bool false, .int .u8 sc, .int .i64 0, .int .i64 rk, .string ⟨#[]⟩, .int .i64 0] rfl (by rfl) (by rfl) rfl rec_info (rec_one en kd k n mr la ll lc sk sc rk) ?_))
    generalize w.alloc (.cells #[.int .i64 en, .int .i64 kd, .int .i64 k, .int .i64 0, .int .u32 n, .int .u32 0, .int .u32 mr, .slice la ll lc, .bool false, .string ⟨#[]⟩, .int .i64 sk, .string ⟨#[]⟩, .bool false, .int .u8 sc, .int .i64 0, .int .i64 rk, .string ⟨#[]⟩, .int .i64 0] 36) = W at *
    have d0 := HX.out.cell 0
    have d1 := HX.out.cell 1
    have d10 := HX.out.cell 10
    have d13 := HX.out.cell 13
    simp only [List.getElem?_cons_succ, List.getElem?_cons_zero] at d0 d1 d10 d13
    generalize hbx : w.heap.size = bx at *
    have HZ := Lib.hid hbx
    clear hbx
    have HC : ((en == en0) = false ∧ R = false) ∨ (en = en0 ∧ (kd == 5) = false ∧ R = false) ∨ (en = en0 ∧ kd = 5 ∧ (sk == 12) = false ∧ R = false) ∨ (en = en0 ∧ kd = 5 ∧ sk = 12 ∧ sc = 82 ∧ R = true) ∨ (en = en0 ∧ kd = 5 ∧ sk = 12 ∧ sc = 83 ∧ R = true) ∨ (en = en0 ∧ kd = 5 ∧ sk = 12 ∧ sc = 84 ∧ R = true) ∨ (en = en0 ∧ kd = 5 ∧ sk = 12 ∧ (sc == 82) = false ∧ (sc == 83) = false ∧ (sc == 84) = false ∧ R = false) := by
      rw [hR]
      by_cases q1 : en = en0
      · by_cases q2 : kd = 5
        · by_cases q3 : sk = 12
          · by_cases q4 : sc = 82
            · simp [q1, q2, q3, q4]
            · by_cases q5 : sc = 83
              · simp [q1, q2, q3, q4, q5]
              · by_cases q6 : sc = 84
                · simp [q1, q2, q3, q4, q5, q6]
                · simp [q1, q2, q3, q4, q5, q6]
          · simp [q1, q2, q3]
        · simp [q1, q2]
      · simp [q1]
    clear hR HR0 HX c0
    rcases HC with ⟨q1, rfl⟩ | ⟨rfl, q2, rfl⟩ | ⟨rfl, rfl, q3, rfl⟩ | ⟨rfl, rfl, rfl, rfl, rfl⟩ | ⟨rfl, rfl, rfl, rfl, rfl⟩ | ⟨rfl, rfl, rfl, rfl, rfl⟩ | ⟨rfl, rfl, rfl, q4, q5, q6, rfl⟩
    all_goals
      go_upto_region 5 with fail
      go_big_quiet (fail)
      go_wp2_with fail
      go_ret
      exact ⟨rfl, by rw [HZ.out]; exact below_drewN HB.out _⟩
  · have hlt1 : (rs.length : Int) ≤ (i : Int) + 1 := by omega
    have hw1 : IntKind.i64.wrap ((i : Int) + 1) = (i : Int) + 1 := by rw [IntKind.wrap_i64]; omega
    have hR : refusedB rs i = false := by
      unfold refusedB
      rw [List.getElem?_eq_getElem hi, List.getElem?_eq_none (by omega)]
    rw [hR]
    clear h hi hR
    go_enter Tryd.func21, Tryd.ntmps21
    go_wp2_with fail
    go_ret
    exact ⟨rfl, Below.refl _ _⟩
end Go.Proofs.YtbppgicdmkkmnaaDoor
