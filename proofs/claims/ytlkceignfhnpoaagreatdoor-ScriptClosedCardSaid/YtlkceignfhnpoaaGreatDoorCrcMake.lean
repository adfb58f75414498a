/-
  Contract of crc.Make.
-/
import Derived.Test.YtlkceignfhnpoaaGreatDoorRows
import Derived.Test.YtlkceignfhnpoaaGreatDoorCommon
import Derived.Test.YtlkceignfhnpoaaGreatDoorBox
import Derived.Test.YtlkceignfhnpoaaGreatDoorPlainCrc
import Derived.Deep.MidRow
import Derived.Laws.Rows
import Derived.Laws.BitsAllLaws
import Derived.Lib.Hide
import Derived.Outline
import Derived.Deep.Light
set_option linter.unusedVariables false
set_option linter.unusedSimpArgs false
namespace Go.Proofs.YtlkceignfhnpoaaGreatDoor
open Go.RowKit

/-- The table, its first i places made. -/
def tabUpto (i : Nat) : List Value := (List.range 256).map fun m => if m < i then Value.int .u32 (tabAt m).toNat else Value.int .u32 0
theorem tabUpto_length (i : Nat) : (tabUpto i).length = 256 := by simp [tabUpto]
theorem tabUpto_get (i m : Nat) (h : m < 256) : (tabUpto i)[m]? = some (if m < i then Value.int .u32 (tabAt m).toNat else Value.int .u32 0) := by simp [tabUpto, h]
theorem tabUpto_step (i : Nat) (h : i < 256) : (tabUpto i).set i (Value.int .u32 (tabAt i).toNat) = tabUpto (i + 1) := by
  apply List.ext_getElem?
  intro m
  by_cases hm : m < 256
  · by_cases hi : i = m
    · subst hi
      rw [List.getElem?_set_self (by rw [tabUpto_length]; exact h), tabUpto_get _ _ hm, if_pos (by omega)]
    · rw [List.getElem?_set_ne hi, tabUpto_get _ _ hm, tabUpto_get _ _ hm]
      by_cases h1 : m < i
      · rw [if_pos h1, if_pos (by omega)]
      · rw [if_neg h1, if_neg (by omega)]
  · rw [List.getElem?_eq_none (by rw [List.length_set, tabUpto_length]; omega), List.getElem?_eq_none (by rw [tabUpto_length]; omega)]
def tabCells : List Value := (List.range 256).map fun i => Value.int .u32 (tabAt i).toNat
theorem tabUpto_end : tabUpto 256 = tabCells := by
  unfold tabUpto tabCells
  apply List.map_congr_left
  intro m hm
  rw [if_pos (List.mem_range.1 hm)]
theorem zero_tab : Tryz.zeroCells197 = (tabUpto 0).toArray := by kernel_rfl
theorem st_num (x : BitVec 32) : bits .xor .u32 ((x.toNat : Int) * 2 % 4294967296) (79764919 * ((x.toNat : Int) / 2147483648)) = ((st x).toNat : Int) := by
  have hx := x.isLt
  rw [show (x.toNat : Int) * 2 % 4294967296 = ((x.toNat * 2 % 4294967296 : Nat) : Int) by omega, show 79764919 * ((x.toNat : Int) / 2147483648) = ((79764919 * (x.toNat / 2147483648) : Nat) : Int) by omega,
    u32_xor_nat _ _ (by omega) (by omega)]
  congr 1
  unfold st
  rw [BitVec.toNat_xor, BitVec.toNat_shiftLeft, Nat.shiftLeft_eq, BitVec.msb_eq_decide]
  by_cases h : 2147483648 ≤ x.toNat
  · rw [show x.toNat / 2147483648 = 1 by omega, decide_eq_true (by simpa using h), if_pos rfl]; rfl
  · rw [show x.toNat / 2147483648 = 0 by omega, decide_eq_false (by simpa using h), if_neg (by simp)]; rfl
theorem topB_num (k : Nat) (h : k < 256) : ((topB k).toNat : Int) = (k : Int) * 16777216 := by
  unfold topB
  rw [BitVec.toNat_ofNat, Nat.mod_eq_of_lt (by omega)]
  omega
theorem BoxAt.setCells {b : Nat} {T : TypeId} : ∀ (vs pre post : List Value) (w : World), post.length = vs.length → BoxAt w b T (pre ++ post) → BoxAt (w.setCells b pre.length vs) b T (pre ++ vs)
  | [], pre, post, w, h, hb => by
    have : post = [] := List.eq_nil_of_length_eq_zero (by simpa using h)
    subst this; exact hb
  | v :: vs, pre, [], w, h, hb => by simp at h
  | v :: vs, pre, p :: post, w, h, hb => by
    have h1 := hb.set pre.length v
    have e1 : (pre ++ p :: post).set pre.length v = (pre ++ [v]) ++ post := by simp
    rw [e1] at h1
    have h2 := BoxAt.setCells vs (pre ++ [v]) post _ (by simpa using h) h1
    show BoxAt ((w.setCell ⟨b, pre.length, none⟩ v).setCells b (pre.length + 1) vs) b T _
    have e : pre.length + 1 = (pre ++ [v]).length := by simp
    rw [e]
    simpa using h2
theorem Below.setCells {B b : Nat} {w0 : World} (hb : B ≤ b) : ∀ (vs : List Value) (o : Nat) (w : World), Below B w0 w → Below B w0 (w.setCells b o vs)
  | [], _, _, h => h
  | v :: vs, o, w, h => Below.setCells hb vs (o + 1) _ (h.setCell hb v)
theorem tab_size : (Tryz.prog.info? 197).map (·.size) = some 256 := by kernel_rfl
theorem tabCells_size : tabCells.toArray.size = 256 := by simp [tabCells]
theorem tabCells_one : tabCells.toArray.all (·.oneCell') = true := all_oneCell_toArray (by
  intro v hv
  obtain ⟨i, _, rfl⟩ := List.mem_map.1 hv
  rfl)
theorem stN_succ : ∀ (n : Nat) (x : BitVec 32), stN (n + 1) x = st (stN n x)
  | 0, _ => rfl
  | n + 1, x => stN_succ n (st x)

set_option maxRecDepth 100000 in
set_option maxHeartbeats 1000000 in
theorem make_any (w : World) : Calls Tryz.prog 108 #[] w fun e w' => e = .returned (.agg tabCells.toArray) ∧ Below w.heap.size w w' := by
  go_enter Tryz.func108, Tryz.ntmps108
  have HB0 : Hid (BoxAt ((w.alloc (.cells Tryz.zeroCells197 197)).alloc (.cells Tryz.zeroCells197 197)) (w.heap.size + 1) 197 (tabUpto 0)) := Lib.hid (by
    rw [zero_tab]; exact BoxAt.newAt (by simp) _ _)
  have HR0 : Hid (BoxAt ((w.alloc (.cells Tryz.zeroCells197 197)).alloc (.cells Tryz.zeroCells197 197)) w.heap.size 197 (tabUpto 0)) := Lib.hid (by
    rw [zero_tab]; exact (BoxAt.new _ _ _).alloc)
  have HE0 : Hid (Below w.heap.size w ((w.alloc (.cells Tryz.zeroCells197 197)).alloc (.cells Tryz.zeroCells197 197))) := Lib.hid (((Below.refl _ _).alloc (Nat.le_refl _) _).alloc (by simp) _)
  go_wp2_with fail
  generalize (w.alloc (.cells Tryz.zeroCells197 197)).alloc (.cells Tryz.zeroCells197 197) = W0 at *
  go_loopw [5, 2, 3, 4, 11] (fun i _ _ _ _ wx => ∃ k : Nat, k ≤ 256 ∧ i = .int .i64 k ∧ BoxAt wx (w.heap.size + 1) 197 (tabUpto k) ∧ BoxAt wx w.heap.size 197 (tabUpto 0) ∧ Below w.heap.size w wx) (fun i _ _ _ _ _ => 256 - (intOf i).toNat)
  case atStart => exact ⟨0, by omega, rfl, HB0.out, HR0.out, HE0.out⟩
  case round =>
    obtain ⟨k, hk, rfl, hbox, hres, hbel⟩ := hrel
    have HBX := Lib.hid hbox
    have HRS := Lib.hid hres
    have HE := Lib.hid hbel
    clear hbox hres hbel HB0 HR0 HE0
    by_cases hlt : k < 256
    · obtain ⟨wo, rfl⟩ : ∃ wo : World, wo = wr := ⟨_, rfl⟩
      go_wp2_with fail
      go_loop [3, 11, 4] (fun x j _ => ∃ n : Nat, n ≤ 8 ∧ j = .int .i64 n ∧ x = .int .u32 ((stN n (topB k)).toNat : Int)) (fun _ j _ => 8 - (intOf j).toNat)
      case atStart => exact ⟨0, by omega, rfl, congrArg (Value.int .u32) (topB_num k hlt).symm⟩
      case round =>
        obtain ⟨n, hn, rfl, rfl⟩ := hrel
        by_cases hlt2 : n < 8
        · have hy := (stN n (topB k)).isLt
          have HN : Hid (bits .xor .u32 (((stN n (topB k)).toNat : Int) * 2 % 4294967296) (79764919 * (((stN n (topB k)).toNat : Int) / 2147483648)) = ((stN (n + 1) (topB k)).toNat : Int)) := Lib.hid (by rw [st_num, stN_succ])
          generalize hyy : (stN n (topB k)).toNat = y at *
          clear hyy
          go_wp2_with fail
          go_round
          case rel => exact ⟨n + 1, by omega, by go_num, congrArg (Value.int .u32) HN.out⟩
          case measure => go_light; simp [intOf]; omega
        · obtain rfl : n = 8 := by omega
          have hc : wo.cell? ⟨w.heap.size + 1, k, none⟩ = some (.int .u32 0) := by rw [HBX.out.cell, tabUpto_get _ _ hlt, if_neg (by omega)]
          have hf := HBX.out.froz k
          have HT : Hid (stN 8 (topB k) = tabAt k) := Lib.hid rfl
          rw [HT.out]
          have hk0 : (0 : Int) ≤ (k : Int) := by omega
          have hk1 : (k : Int) < 256 := by omega
          have HS := Lib.hid (tabUpto_step k hlt)
          generalize hty : ((tabAt k).toNat : Int) = ty at *
          have HTY := Lib.hid hty
          clear hty
          go_wp2_with fail
          go_roundw
          case rel =>
            refine ⟨k + 1, by omega, by go_num, ?_, HRS.out.other (by simp) _, HE.out.setCell (by simp) _⟩
            have h := HBX.out.set k (.int .u32 ty)
            rw [HS.out] at h
            exact h
          case measure => go_light; simp [intOf]; omega
    · obtain rfl : k = 256 := by omega
      rw [tabUpto_end] at HBX
      have hth : wr.there w.heap.size 0 tabCells.toArray.size := by
        intro j hj
        rw [tabCells_size] at hj
        refine ⟨?_, HRS.out.froz _⟩
        rw [HRS.out.cell, tabUpto_get _ _ (by omega)]
        rfl
      have hsz : (Tryz.prog.info? 197).map (·.size) = some tabCells.toArray.size := by rw [tabCells_size]; exact tab_size
      go_wp2_with (first | (refine wpList_load_row rfl 197 _ rfl (w.heap.size + 1) rfl 197 tabCells.toArray (0, 0) _ HBX.out Tryz.underlying197 rfl hsz ?_) | (refine wpList_store_mid rfl 197 _ _ rfl w.heap.size 0 tabCells.toArray rfl rfl hth hsz tabCells_one ?_))
      have hbx := BoxAt.setCells (b := w.heap.size) (T := 197) tabCells [] (tabUpto 0) wr (by rw [tabUpto_length]; simp [tabCells]) HRS.out
      exact bodyPost_ret (v := .agg tabCells.toArray) (results_cell_row Tryz.results108 _ _ w.heap.size 197 tabCells.toArray (0, 0) _ rfl hbx Tryz.underlying197 rfl hsz) rfl ⟨rfl, Below.setCells (Nat.le_refl _) _ _ _ HE.out⟩
end Go.Proofs.YtlkceignfhnpoaaGreatDoor
