/-
  The walk of the statement EventData.
-/
import Derived.Test.YtfjnpneopaljjaaDoorAwake10
import Derived.Test.YtfjnpneopaljjaaDoorBits
import Derived.Laws.BytesArg
import Derived.Laws.IdiomStrings
import Derived.Laws.OwnMore
set_option linter.unusedVariables false
set_option linter.unusedSimpArgs false
namespace Go.Proofs.YtfjnpneopaljjaaDoor
open Go.RowKit

theorem info_u8 : (Tryd.prog.info? 5).map (fun i => (i.zero, i.size, i.bytes)) = some (some (.int .u8 0), 1, 1) := by kernel_rfl
theorem make_bytes (m : Nat) (hm : m ≤ 1000000) (u : World) : (Instr.makeSlice 38 (.int .i64 (m : Int)) (.int .i64 (m : Int))).run Tryd.prog u =
      .ok (.slice (some ⟨u.heap.size, 0, none⟩) m m) (u.alloc (.cells (madeCells #[.int .u8 0] m) 5)) := by
  obtain ⟨i0, hi, hz0, hz1, hz2⟩ := info_parts info_u8
  have h := run_make (P := Tryd.prog) u 38 5 i0 (.int .u8 0) Tryd.underlying38 hi hz0 .i64 .i64 (m : Int) (m : Int) (by omega) (Int.le_refl _) (by rw [hz2]; omega) (by omega)
  simpa [hz1, Value.cells] using h
theorem conv_made (w : World) (b m : Nat) (hb : w.heap.size = b) :
    (convert 38 9 (.slice (some ⟨b, 0, none⟩) m m)).run Tryd.prog (w.alloc (.cells (madeCells #[.int .u8 0] m) 5)) = .ok (.string ⟨(List.replicate m 0).toArray⟩) (w.alloc (.cells (madeCells #[.int .u8 0] m) 5)) := by
  subst hb
  have := (run_convert_bytes_arg (w.alloc (.cells (madeCells #[.int .u8 0] m) 5)) 38 5 Tryd.underlying38 Tryd.underlying5 w.heap.size 0 m m (List.replicate m 0) (by simp) ?_) 9 Tryd.underlying9
  · rw [this]; congr 2; simp [strOfNums]
  · intro i hi
    rw [Nat.zero_add, World.cell?_alloc_mark, ← Array.getElem?_toList, toList_madeCells_one]
    simp [hi]

set_option maxHeartbeats 4000000 in
theorem eventData_walk (kind n : Int) (q m : Nat) (hk : kind % 256 % 9 = q) (hq : q < 9) (hn : max 0 (min n 300) = (m : Int)) (hm : m ≤ 300) (w : World) (hL : Laid w) :
    Calls Tryd.prog 7 #[.int .i64 kind, .int .i64 n] w fun e w' => e = .returned (.bool true) ∧ Below w.heap.size w w' := by
  have hmk := fun u => make_bytes m (by omega) u
  have hcv := conv_made
  have hsz : (⟨(List.replicate m 0).toArray⟩ : ByteArray).size = m := by rw [size_arr]; simp
  have HC : Hid (reqCheck ((q : Int) + 1) (⟨(List.replicate m 0).toArray⟩ : ByteArray).size 0 = reqCheck ((q : Int) + 1) m 0) := Lib.hid (by rw [hsz])
  have hs2 : (⟨(List.replicate m 0).toArray⟩ : ByteArray).size ≤ maxLen := by rw [hsz]; unfold maxLen; omega
  clear hsz
  generalize hstr : (⟨(List.replicate m 0).toArray⟩ : ByteArray) = s at *
  have HS := Lib.hid hstr; clear hstr
  have hcv2 : ∀ (w : World) (b : Nat), w.heap.size = b → (convert 38 9 (.slice (some ⟨b, 0, none⟩) m m)).run Tryd.prog (w.alloc (.cells (madeCells #[.int .u8 0] m) 5)) = .ok (.string s) (w.alloc (.cells (madeCells #[.int .u8 0] m) 5)) := by
    intro w b hb; rw [← HS.out]; exact hcv w b m hb
  clear hcv
  have hq9 : q = 0 ∨ q = 1 ∨ q = 2 ∨ q = 3 ∨ q = 4 ∨ q = 5 ∨ q = 6 ∨ q = 7 ∨ q = 8 := by omega
  clear hq
  by_cases hle : m ≤ reqMost ((q : Int) + 1)
  · have hres : reqCheck ((q : Int) + 1) m 0 = 0 := by
      rcases hq9 with rfl | rfl | rfl | rfl | rfl | rfl | rfl | rfl | rfl <;> simp [reqMost] at hle <;> simp [reqCheck, reqMost] <;> omega
    rw [hres] at HC
    clear hres
    rcases hq9 with rfl | rfl | rfl | rfl | rfl | rfl | rfl | rfl | rfl
    · have hle2 : m ≤ 64 := by simpa [reqMost] using hle
      clear hle
      simp at HC
      go_enter Tryd.func7, Tryd.ntmps7
      go_wp2_with fail
      refine (awake_any _ hL).mono ?_
      rintro e w1 ⟨rfl, hb1⟩
      go_wp2_with fail
      refine (check_any _ _ _ _ hs2).mono ?_
      rintro e w3 ⟨rfl, hb3⟩
      rw [HC.out]
      go_wp2_with fail
      go_ret
      exact ⟨ret_bool (by first | rfl | (simp; omega)), belSeq hb1 (belAlloc (belAlloc (belAlloc hb3 (by simp)) (by simp)) (by simp))⟩
    · have hle2 : m ≤ 0 := Nat.le_of_eq (by simpa [reqMost] using hle)
      clear hle
      simp at HC
      go_enter Tryd.func7, Tryd.ntmps7
      go_wp2_with fail
      refine (awake_any _ hL).mono ?_
      rintro e w1 ⟨rfl, hb1⟩
      go_wp2_with fail
      refine (check_any _ _ _ _ hs2).mono ?_
      rintro e w3 ⟨rfl, hb3⟩
      rw [HC.out]
      go_wp2_with fail
      go_ret
      exact ⟨ret_bool (by first | rfl | (simp; omega)), belSeq hb1 (belAlloc (belAlloc (belAlloc hb3 (by simp)) (by simp)) (by simp))⟩
    · have hle2 : m ≤ 64 := by simpa [reqMost] using hle
      clear hle
      simp at HC
      go_enter Tryd.func7, Tryd.ntmps7
      go_wp2_with fail
      refine (awake_any _ hL).mono ?_
      rintro e w1 ⟨rfl, hb1⟩
      go_wp2_with fail
      refine (check_any _ _ _ _ hs2).mono ?_
      rintro e w3 ⟨rfl, hb3⟩
      rw [HC.out]
      go_wp2_with fail
      go_ret
      exact ⟨ret_bool (by first | rfl | (simp; omega)), belSeq hb1 (belAlloc (belAlloc (belAlloc hb3 (by simp)) (by simp)) (by simp))⟩
    · have hle2 : m ≤ 64 := by simpa [reqMost] using hle
      clear hle
      simp at HC
      go_enter Tryd.func7, Tryd.ntmps7
      go_wp2_with fail
      refine (awake_any _ hL).mono ?_
      rintro e w1 ⟨rfl, hb1⟩
      go_wp2_with fail
      refine (check_any _ _ _ _ hs2).mono ?_
      rintro e w3 ⟨rfl, hb3⟩
      rw [HC.out]
      go_wp2_with fail
      go_ret
      exact ⟨ret_bool (by first | rfl | (simp; omega)), belSeq hb1 (belAlloc (belAlloc (belAlloc hb3 (by simp)) (by simp)) (by simp))⟩
    · have hle2 : m ≤ 0 := Nat.le_of_eq (by simpa [reqMost] using hle)
      clear hle
      simp at HC
      go_enter Tryd.func7, Tryd.ntmps7
      go_wp2_with fail
      refine (awake_any _ hL).mono ?_
      rintro e w1 ⟨rfl, hb1⟩
      go_wp2_with fail
      refine (check_any _ _ _ _ hs2).mono ?_
      rintro e w3 ⟨rfl, hb3⟩
      rw [HC.out]
      go_wp2_with fail
      go_ret
      exact ⟨ret_bool (by first | rfl | (simp; omega)), belSeq hb1 (belAlloc (belAlloc (belAlloc hb3 (by simp)) (by simp)) (by simp))⟩
    · have hle2 : m ≤ 0 := Nat.le_of_eq (by simpa [reqMost] using hle)
      clear hle
      simp at HC
      go_enter Tryd.func7, Tryd.ntmps7
      go_wp2_with fail
      refine (awake_any _ hL).mono ?_
      rintro e w1 ⟨rfl, hb1⟩
      go_wp2_with fail
      refine (check_any _ _ _ _ hs2).mono ?_
      rintro e w3 ⟨rfl, hb3⟩
      rw [HC.out]
      go_wp2_with fail
      go_ret
      exact ⟨ret_bool (by first | rfl | (simp; omega)), belSeq hb1 (belAlloc (belAlloc (belAlloc hb3 (by simp)) (by simp)) (by simp))⟩
    · have hle2 : m ≤ 200 := by simpa [reqMost] using hle
      clear hle
      simp at HC
      go_enter Tryd.func7, Tryd.ntmps7
      go_wp2_with fail
      refine (awake_any _ hL).mono ?_
      rintro e w1 ⟨rfl, hb1⟩
      go_wp2_with fail
      refine (check_any _ _ _ _ hs2).mono ?_
      rintro e w3 ⟨rfl, hb3⟩
      rw [HC.out]
      go_wp2_with fail
      go_ret
      exact ⟨ret_bool (by first | rfl | (simp; omega)), belSeq hb1 (belAlloc (belAlloc (belAlloc hb3 (by simp)) (by simp)) (by simp))⟩
    · have hle2 : m ≤ 200 := by simpa [reqMost] using hle
      clear hle
      simp at HC
      go_enter Tryd.func7, Tryd.ntmps7
      go_wp2_with fail
      refine (awake_any _ hL).mono ?_
      rintro e w1 ⟨rfl, hb1⟩
      go_wp2_with fail
      refine (check_any _ _ _ _ hs2).mono ?_
      rintro e w3 ⟨rfl, hb3⟩
      rw [HC.out]
      go_wp2_with fail
      go_ret
      exact ⟨ret_bool (by first | rfl | (simp; omega)), belSeq hb1 (belAlloc (belAlloc (belAlloc hb3 (by simp)) (by simp)) (by simp))⟩
    · have hle2 : m ≤ 200 := by simpa [reqMost] using hle
      clear hle
      simp at HC
      go_enter Tryd.func7, Tryd.ntmps7
      go_wp2_with fail
      refine (awake_any _ hL).mono ?_
      rintro e w1 ⟨rfl, hb1⟩
      go_wp2_with fail
      refine (check_any _ _ _ _ hs2).mono ?_
      rintro e w3 ⟨rfl, hb3⟩
      rw [HC.out]
      go_wp2_with fail
      go_ret
      exact ⟨ret_bool (by first | rfl | (simp; omega)), belSeq hb1 (belAlloc (belAlloc (belAlloc hb3 (by simp)) (by simp)) (by simp))⟩
  · have hres : reqCheck ((q : Int) + 1) m 0 = if reqMost ((q : Int) + 1) = 0 then 1 else 6 := by
      rcases hq9 with rfl | rfl | rfl | rfl | rfl | rfl | rfl | rfl | rfl <;> simp [reqMost] at hle <;> simp [reqCheck, reqMost] <;> omega
    rw [hres] at HC
    clear hres
    rcases hq9 with rfl | rfl | rfl | rfl | rfl | rfl | rfl | rfl | rfl
    · have hle2 : 64 < m := by simpa [reqMost] using hle
      clear hle
      simp [reqMost] at HC
      go_enter Tryd.func7, Tryd.ntmps7
      go_wp2_with fail
      refine (awake_any _ hL).mono ?_
      rintro e w1 ⟨rfl, hb1⟩
      go_wp2_with fail
      refine (check_any _ _ _ _ hs2).mono ?_
      rintro e w3 ⟨rfl, hb3⟩
      rw [HC.out]
      go_wp2_with fail
      go_ret
      exact ⟨ret_bool (by first | rfl | (simp; omega)), belSeq hb1 (belAlloc (belAlloc (belAlloc hb3 (by simp)) (by simp)) (by simp))⟩
    · have hle2 : 0 < m := Nat.pos_of_ne_zero (by simpa [reqMost] using hle)
      clear hle
      simp [reqMost] at HC
      go_enter Tryd.func7, Tryd.ntmps7
      go_wp2_with fail
      refine (awake_any _ hL).mono ?_
      rintro e w1 ⟨rfl, hb1⟩
      go_wp2_with fail
      refine (check_any _ _ _ _ hs2).mono ?_
      rintro e w3 ⟨rfl, hb3⟩
      rw [HC.out]
      go_wp2_with fail
      go_ret
      exact ⟨ret_bool (by first | rfl | (simp; omega)), belSeq hb1 (belAlloc (belAlloc (belAlloc hb3 (by simp)) (by simp)) (by simp))⟩
    · have hle2 : 64 < m := by simpa [reqMost] using hle
      clear hle
      simp [reqMost] at HC
      go_enter Tryd.func7, Tryd.ntmps7
      go_wp2_with fail
      refine (awake_any _ hL).mono ?_
      rintro e w1 ⟨rfl, hb1⟩
      go_wp2_with fail
      refine (check_any _ _ _ _ hs2).mono ?_
      rintro e w3 ⟨rfl, hb3⟩
      rw [HC.out]
      go_wp2_with fail
      go_ret
      exact ⟨ret_bool (by first | rfl | (simp; omega)), belSeq hb1 (belAlloc (belAlloc (belAlloc hb3 (by simp)) (by simp)) (by simp))⟩
    · have hle2 : 64 < m := by simpa [reqMost] using hle
      clear hle
      simp [reqMost] at HC
      go_enter Tryd.func7, Tryd.ntmps7
      go_wp2_with fail
      refine (awake_any _ hL).mono ?_
      rintro e w1 ⟨rfl, hb1⟩
      go_wp2_with fail
      refine (check_any _ _ _ _ hs2).mono ?_
      rintro e w3 ⟨rfl, hb3⟩
      rw [HC.out]
      go_wp2_with fail
      go_ret
      exact ⟨ret_bool (by first | rfl | (simp; omega)), belSeq hb1 (belAlloc (belAlloc (belAlloc hb3 (by simp)) (by simp)) (by simp))⟩
    · have hle2 : 0 < m := Nat.pos_of_ne_zero (by simpa [reqMost] using hle)
      clear hle
      simp [reqMost] at HC
      go_enter Tryd.func7, Tryd.ntmps7
      go_wp2_with fail
      refine (awake_any _ hL).mono ?_
      rintro e w1 ⟨rfl, hb1⟩
      go_wp2_with fail
      refine (check_any _ _ _ _ hs2).mono ?_
      rintro e w3 ⟨rfl, hb3⟩
      rw [HC.out]
      go_wp2_with fail
      go_ret
      exact ⟨ret_bool (by first | rfl | (simp; omega)), belSeq hb1 (belAlloc (belAlloc (belAlloc hb3 (by simp)) (by simp)) (by simp))⟩
    · have hle2 : 0 < m := Nat.pos_of_ne_zero (by simpa [reqMost] using hle)
      clear hle
      simp [reqMost] at HC
      go_enter Tryd.func7, Tryd.ntmps7
      go_wp2_with fail
      refine (awake_any _ hL).mono ?_
      rintro e w1 ⟨rfl, hb1⟩
      go_wp2_with fail
      refine (check_any _ _ _ _ hs2).mono ?_
      rintro e w3 ⟨rfl, hb3⟩
      rw [HC.out]
      go_wp2_with fail
      go_ret
      exact ⟨ret_bool (by first | rfl | (simp; omega)), belSeq hb1 (belAlloc (belAlloc (belAlloc hb3 (by simp)) (by simp)) (by simp))⟩
    · have hle2 : 200 < m := by simpa [reqMost] using hle
      clear hle
      simp [reqMost] at HC
      go_enter Tryd.func7, Tryd.ntmps7
      go_wp2_with fail
      refine (awake_any _ hL).mono ?_
      rintro e w1 ⟨rfl, hb1⟩
      go_wp2_with fail
      refine (check_any _ _ _ _ hs2).mono ?_
      rintro e w3 ⟨rfl, hb3⟩
      rw [HC.out]
      go_wp2_with fail
      go_ret
      exact ⟨ret_bool (by first | rfl | (simp; omega)), belSeq hb1 (belAlloc (belAlloc (belAlloc hb3 (by simp)) (by simp)) (by simp))⟩
    · have hle2 : 200 < m := by simpa [reqMost] using hle
      clear hle
      simp [reqMost] at HC
      go_enter Tryd.func7, Tryd.ntmps7
      go_wp2_with fail
      refine (awake_any _ hL).mono ?_
      rintro e w1 ⟨rfl, hb1⟩
      go_wp2_with fail
      refine (check_any _ _ _ _ hs2).mono ?_
      rintro e w3 ⟨rfl, hb3⟩
      rw [HC.out]
      go_wp2_with fail
      go_ret
      exact ⟨ret_bool (by first | rfl | (simp; omega)), belSeq hb1 (belAlloc (belAlloc (belAlloc hb3 (by simp)) (by simp)) (by simp))⟩
    · have hle2 : 200 < m := by simpa [reqMost] using hle
      clear hle
      simp [reqMost] at HC
      go_enter Tryd.func7, Tryd.ntmps7
      go_wp2_with fail
      refine (awake_any _ hL).mono ?_
      rintro e w1 ⟨rfl, hb1⟩
      go_wp2_with fail
      refine (check_any _ _ _ _ hs2).mono ?_
      rintro e w3 ⟨rfl, hb3⟩
      rw [HC.out]
      go_wp2_with fail
      go_ret
      exact ⟨ret_bool (by first | rfl | (simp; omega)), belSeq hb1 (belAlloc (belAlloc (belAlloc hb3 (by simp)) (by simp)) (by simp))⟩

theorem eventData_any (kind n : Int) (w : World) (hL : Laid w) :
    Calls Tryd.prog 7 #[.int .i64 kind, .int .i64 n] w fun e w' => e = .returned (.bool true) ∧ Below w.heap.size w w' := by
  obtain ⟨q, hq⟩ := Int.eq_ofNat_of_zero_le (show 0 ≤ kind % 256 % 9 by omega)
  obtain ⟨m, hm⟩ := Int.eq_ofNat_of_zero_le (show 0 ≤ max 0 (min n 300) by omega)
  exact eventData_walk kind n q m hq (by omega) hm (by omega) w hL
end Go.Proofs.YtfjnpneopaljjaaDoor
