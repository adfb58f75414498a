/-
  Contracts of crc.Table.Fits and frame.Parse.
-/
import Derived.Test.YtdggnpecbdnkeaaDoorFrBytes
import Derived.Test.YtdggnpecbdnkeaaDoorBits
import Derived.Deep.RegionWith
import Derived.Deep.RegionHeld3
set_option linter.unusedVariables false
set_option linter.unusedSimpArgs false
namespace Go.Proofs.YtdggnpecbdnkeaaDoor
open Go.RowKit

def fitsB (l : List UInt8) : Bool := decide (4 ≤ l.length) && decide (be4 (sumOf (l.take (l.length - 4))).toNat = l.drop (l.length - 4))
set_option maxRecDepth 100000 in
set_option maxHeartbeats 1000000 in
theorem fits_any (tb : Nat) (s : ByteArray) (w : World) (ht : TabAt w tb) (hs : s.size ≤ 100000) :
    Calls Tryd.prog 39 #[.pointer (some ⟨tb, 0, none⟩), .string s] w fun e w' => e = .returned (.bool (fitsB s.data.toList)) ∧ Below w.heap.size w w' := by
  have HT := Lib.hid ht
  have htl := ht.lt
  clear ht
  have HF : Hid (fitsB s.data.toList = (decide (4 ≤ s.size) && decide (be4 (sumOf (s.data.toList.take (s.size - 4))).toNat = s.data.toList.drop (s.size - 4)))) := Lib.hid (by unfold fitsB; rw [size_len])
  generalize fitsB s.data.toList = R at *
  by_cases h4 : s.size < 4
  · have hd : decide (0 ≤ (s.size : Int) - 4) = false := decide_eq_false (by omega)
    have hd2 : decide (4 ≤ (s.size : Int)) = false := decide_eq_false (by omega)
    go_enter Tryd.func39, Tryd.ntmps39
    go_wp2_with fail
    go_quiet (fail)
    go_wp2_with fail
    go_ret
    exact ⟨ret_bool (by rw [HF.out, decide_eq_false (by omega)]; rfl), below_drewN (Below.refl _ _) _⟩
  · have hd : decide (0 ≤ (s.size : Int) - 4) = true := decide_eq_true (by omega)
    obtain ⟨n, hn⟩ : ∃ n, n = s.size - 4 := ⟨_, rfl⟩
    have hn1 : (s.size : Int) - 4 = (n : Int) := by omega
    have hn2 : n ≤ s.size := by omega
    have HN := Lib.hid hn
    have q1 : (0 : Int) ≤ (n : Int) := by omega
    have q2 : (n : Int) ≤ (s.size : Int) := by omega
    rw [← hn] at HF
    have HPR : Hid ((s.extract 0 n).data.toList = s.data.toList.take n) := Lib.hid (by simp)
    have HSU : Hid ((s.extract n s.size).data.toList = s.data.toList.drop n) := Lib.hid (by
      rw [show (s.extract n s.size).data.toList = List.take (s.size - n) (List.drop n s.data.toList) by simp]
      exact List.take_of_length_le (by rw [List.length_drop, size_len]; exact Nat.le_refl _))
    have hpz : (s.extract 0 n).size ≤ 100000 := by rw [← size_len, HPR.out, List.length_take]; omega
    have HBA := Lib.hid (Below.refl w.heap.size w)
    clear hn hd
    have hsl := (sumOf (s.data.toList.take n)).isLt
    have HSUM : Hid (∀ (W : World) (b : Nat), Below w.heap.size w W → W.cell? ⟨b, 0, none⟩ = some (.string (s.extract 0 n)) → Calls Tryd.prog 62 #[.pointer (some ⟨tb, 0, none⟩), .slice (some ⟨b, 0, none⟩) 1 1] W fun e w' => e = .returned (.int .u32 ((sumOf (s.data.toList.take n)).toNat : Int)) ∧ Below W.heap.size W w') := Lib.hid (fun W b hb hc => by
      have := sum_one tb b (s.extract 0 n) W (HT.out.below hb htl) hc hpz
      rw [HPR.out] at this; exact this)
    generalize (sumOf (s.data.toList.take n)).toNat = sm at *
    go_enter Tryd.func39, Tryd.ntmps39
    go_wp2_with fail
    have HS2 : Hid (Calls Tryd.prog 62 #[.pointer (some ⟨tb, 0, none⟩), .slice (some ⟨w.heap.size, 0, none⟩) 1 1] (w.alloc (.cells #[.string (s.extract 0 n)] 9)).drew fun e w' => e = .returned (.int .u32 (sm : Int)) ∧ Below w.heap.size w w') := Lib.hid ((HSUM.out _ w.heap.size (((Below.refl w.heap.size w).alloc (Nat.le_refl _) _).drew) (by simp)).mono fun e w' ⟨h1, h2⟩ => ⟨h1, (((Below.refl w.heap.size w).alloc (Nat.le_refl _) _).drew).trans (h2.mono (by simp))⟩)
    have HF4 := Lib.hid (crcfour_any sm hsl)
    clear HSUM HT
    go_region_held3 (fun _ => True) (trivial) (first | ((go_at_call 62; (with_reducible refine HS2.out.mono ?_); rintro e w1 ⟨rfl, hb1⟩; have HB1 := Lib.hid hb1; clear hb1)) | ((go_at_call 61; (with_reducible refine (HF4.out _).mono ?_); rintro e w2 ⟨rfl, hb2⟩; have HB2 := Lib.hid (belSeq HB1.out hb2); clear hb2)))
    all_goals
      go_wp2_with fail
      go_ret
      refine ⟨ret_bool ?_, HB2.out⟩
      rw [HF.out, decide_eq_true (by omega), Bool.true_and, Lib.toList_data, HSU.out]
      rw [Bool.eq_iff_iff]; simp

/-- What bytes are, as a frame: its user, its data, what is wrong. -/
def frParse (l : List UInt8) : UInt8 × List UInt8 × Int :=
  if l.length = 0 ∨ l.length % 48 ≠ 0 then (0, [], 5) else if fitsB l = false then (0, [], 4)
  else if cellsOf (((l.getD (l.length - 8 + 2) 0).toNat * 256 + (l.getD (l.length - 8 + 3) 0).toNat : Nat) : Int) * 48 ≠ (l.length : Int) then (0, [], 5)
  else if l.getD (l.length - 8 + 1) 0 ≠ 0 ∨ Lib.trimB ((l.take (l.length - 8)).drop ((l.getD (l.length - 8 + 2) 0).toNat * 256 + (l.getD (l.length - 8 + 3) 0).toNat)) 0 ≠ [] then (0, [], 3)
  else (l.getD (l.length - 8) 0, l.take ((l.getD (l.length - 8 + 2) 0).toNat * 256 + (l.getD (l.length - 8 + 3) 0).toNat), 0)
def frV (r : UInt8 × List UInt8 × Int) : Value := .tuple #[.agg #[.int .u8 (r.1.toNat : Int), .string ⟨r.2.1.toArray⟩], .int .i64 r.2.2]
theorem getB' (s : ByteArray) (i : Nat) (h : i < s.size) : s[i] = s.data.toList.getD i 0 := by
  have : i < s.data.toList.length := by rw [size_len]; exact h
  rw [List.getD_eq_getElem?_getD, List.getElem?_eq_getElem this]
  rfl

set_option maxRecDepth 100000 in
set_option maxHeartbeats 2000000 in
theorem frParse_len (tb : Nat) (s : ByteArray) (w : World) (hs : s.size ≤ 100000) (h : s.size = 0 ∨ s.size % 48 ≠ 0) :
    Calls Tryd.prog 17 #[.pointer (some ⟨tb, 0, none⟩), .string s] w fun e w' => e = .returned (frV (0, [], 5)) ∧ Below w.heap.size w w' := by
  by_cases h0 : s.size = 0
  · have he := empty_bool h0
    go_enter Tryd.func17, Tryd.ntmps17
    go_wp2_with fail
    exact bodyPost_ret (v := frV (0, [], 5)) (by unfold frV; simp [results, Tryd.results17, go_sem]) rfl ⟨rfl, (Below.refl _ _).alloc (Nat.le_refl _) _⟩
  · have he := full_bool h0
    have hm : ((s.size : Int) % 48 != 0) = true := by simp; omega
    go_enter Tryd.func17, Tryd.ntmps17
    go_wp2_with fail
    exact bodyPost_ret (v := frV (0, [], 5)) (by unfold frV; simp [results, Tryd.results17, go_sem]) rfl ⟨rfl, (Below.refl _ _).alloc (Nat.le_refl _) _⟩
set_option maxRecDepth 100000 in
set_option maxHeartbeats 2000000 in
theorem frParse_sum (tb : Nat) (s : ByteArray) (w : World) (ht : TabAt w tb) (hs : s.size ≤ 100000) (h0 : s.size ≠ 0) (h1 : s.size % 48 = 0) (hf : fitsB s.data.toList = false) :
    Calls Tryd.prog 17 #[.pointer (some ⟨tb, 0, none⟩), .string s] w fun e w' => e = .returned (frV (0, [], 4)) ∧ Below w.heap.size w w' := by
  have HFT := Lib.hid (fits_any tb s _ (ht.below ((Below.refl w.heap.size w).alloc (Nat.le_refl _) (.cells #[.int .u8 0, .string ⟨#[]⟩] 31)) ht.lt) hs)
  rw [hf] at HFT
  have he := full_bool h0
  have hm : ((s.size : Int) % 48 != 0) = false := by simp; omega
  clear ht hf h0 h1
  have HBX := Lib.hid (BoxAt.new w 31 [.int .u8 0, .string ⟨#[]⟩])
  go_enter Tryd.func17, Tryd.ntmps17
  go_wp2_with fail
  refine HFT.out.mono ?_
  rintro e w1 ⟨rfl, hb⟩
  have hbx := HBX.out.below hb (by simp)
  obtain ⟨q0, q1⟩ := hbx.cells2
  obtain ⟨f0, f1⟩ := hbx.frozs2
  have HB := Lib.hid (belAlloc hb (by simp))
  clear hb hbx
  go_wp2_with fail
  exact bodyPost_ret (v := frV (0, [], 4)) (by unfold frV; simp [results, Tryd.results17, go_sem, q0, q1]) rfl ⟨rfl, (HB.out.setCell (Nat.le_refl _) _).setCell (Nat.le_refl _) _⟩

set_option maxRecDepth 100000 in
set_option maxHeartbeats 4000000 in
theorem frParse_rest (tb : Nat) (s : ByteArray) (w : World) (ht : TabAt w tb) (hs : s.size ≤ 100000) (h0 : s.size ≠ 0) (h1 : s.size % 48 = 0) (hf : fitsB s.data.toList = true) :
    Calls Tryd.prog 17 #[.pointer (some ⟨tb, 0, none⟩), .string s] w fun e w' => e = .returned (frV (frParse s.data.toList)) ∧ Below w.heap.size w w' := by
  have HFT := Lib.hid (fits_any tb s _ (ht.below ((Below.refl w.heap.size w).alloc (Nat.le_refl _) (.cells #[.int .u8 0, .string ⟨#[]⟩] 31)) ht.lt) hs)
  rw [hf] at HFT
  have he := full_bool h0
  have hm : ((s.size : Int) % 48 != 0) = false := by simp; omega
  obtain ⟨a, hb8, hb9⟩ : ∃ a, a + 8 ≤ s.size ∧ s.size ≤ a + 8 := ⟨s.size - 8, by omega, by omega⟩
  have hda := fun i (h : i < s.size) => (getB' s i h).symm
  have hu := s[a].toNat_lt
  have hv := s[a + 1].toNat_lt
  have hx := s[a + 2].toNat_lt
  have hy := s[a + 3].toNat_lt
  have HF : Hid (frParse s.data.toList = if cellsOf ((s[a + 2].toNat * 256 + s[a + 3].toNat : Nat) : Int) * 48 ≠ (s.size : Int) then (0, [], 5) else if s[a + 1] ≠ 0 ∨ Lib.trimB ((s.data.toList.take a).drop (s[a + 2].toNat * 256 + s[a + 3].toNat)) 0 ≠ [] then (0, [], 3) else (s[a], s.data.toList.take (s[a + 2].toNat * 256 + s[a + 3].toNat), 0)) := Lib.hid (by
    unfold frParse
    rw [size_len, if_neg (by omega), if_neg (by simp [hf]), show s.size - 8 = a by omega, hda _ (by omega), hda _ (by omega), hda _ (by omega), hda _ (by omega)])
  generalize frParse s.data.toList = FR at *
  have hor : bits .or .i64 ((s[a + 2].toNat : Int) * 256) (s[a + 3].toNat : Int) = ((s[a + 2].toNat * 256 + s[a + 3].toNat : Nat) : Int) := by
    rw [or_i64 8 (by decide) _ _ (by omega) (by omega) (by omega) (by omega) (by omega) (by omega)]; omega
  have hnb : s[a + 2].toNat * 256 + s[a + 3].toNat ≤ 65535 := by omega
  generalize hn : s[a + 2].toNat * 256 + s[a + 3].toNat = n at *
  clear hn hda ht hf h0
  have HBX := Lib.hid (BoxAt.new w 31 [.int .u8 0, .string ⟨#[]⟩])
  have ha1 : (s.size : Int) - 8 = (a : Int) := by omega
  have hal : a ≤ 100000 := by omega
  go_enter Tryd.func17, Tryd.ntmps17
  go_wp2_with fail
  refine HFT.out.mono ?_
  rintro e w1 ⟨rfl, hb⟩
  have HBX1 := Lib.hid (HBX.out.below hb (by simp))
  have HB := Lib.hid (belAlloc hb (by simp))
  clear hb HBX HFT
  go_wp2_with fail
  have t2 : IntKind.i64.wrap ((a : Int) + 2) = (a : Int) + 2 := IntWalk.i64_in _ (by omega)
  have t3 : IntKind.i64.wrap ((a : Int) + 3) = (a : Int) + 3 := IntWalk.i64_in _ (by omega)
  have n2 : ((a : Int) + 2).toNat = a + 2 := by omega
  have n3 : ((a : Int) + 3).toNat = a + 3 := by omega
  have z2 : (0 : Int) ≤ (a : Int) + 2 := by omega
  have z3 : (0 : Int) ≤ (a : Int) + 3 := by omega
  have l2 : (a : Int) + 2 < (s.size : Int) := by omega
  have l3 : (a : Int) + 3 < (s.size : Int) := by omega
  go_quiet (fail)
  try clear t2
  try clear t3
  have hcb : cellsOf (n : Int) ≤ 2000 ∧ 0 ≤ cellsOf (n : Int) := by unfold cellsOf; rw [if_neg (by omega)]; omega
  have hcn : cellsOf (n : Int) * 48 = (s.size : Int) → n ≤ a := by unfold cellsOf; rw [if_neg (by omega)]; omega
  have HB1 := Lib.hid (below_drewN HB.out nq)
  have HBX2 := Lib.hid (show BoxAt (w1.drewN nq) w.heap.size 31 [.int .u8 0, .string ⟨#[]⟩] from HBX1.out)
  clear HB HBX1 hor
  go_wp2_with fail
  refine (cells_any (n : Int) (by omega) _).mono ?_
  rintro e w2 ⟨rfl, rfl⟩
  generalize cellsOf (n : Int) = cc at *
  generalize w1.drewN nq = W at *
  obtain ⟨q0, q1⟩ := HBX2.out.cells2
  obtain ⟨f0, f1⟩ := HBX2.out.frozs2
  by_cases hc : cc * 48 = (s.size : Int)
  case neg =>
    have hc2 : (cc * 48 != (s.size : Int)) = true := by simpa using hc
    have HFF : Hid (FR = (0, [], 5)) := Lib.hid (by rw [HF.out, if_pos hc])
    clear hc HF hcn
    go_wp2_with fail
    exact bodyPost_ret (v := frV (0, [], 5)) (by unfold frV; simp [results, Tryd.results17, go_sem, q0, q1]) rfl ⟨by rw [HFF.out], (HB1.out.setCell (Nat.le_refl _) _).setCell (Nat.le_refl _) _⟩
  have hna := hcn hc
  have hc2 : (cc * 48 != (s.size : Int)) = false := by simpa using hc
  have HF2 : Hid (FR = if s[a + 1] ≠ 0 ∨ Lib.trimB ((s.data.toList.take a).drop n) 0 ≠ [] then (0, [], 3) else (s[a], s.data.toList.take n, 0)) := Lib.hid (by rw [HF.out, if_neg (by simpa using hc)])
  clear hc HF hcn
  by_cases h1' : s[a + 1] = 0
  case neg =>
    have hv1 : (((s[a + 1].toNat : Nat) : Int) != 0) = true := by
      simp only [bne_iff_ne, ne_eq]
      intro h
      exact h1' (UInt8.toNat_inj.1 (by simpa using h))
    have HFF : Hid (FR = (0, [], 3)) := Lib.hid (by rw [HF2.out, if_pos (Or.inl h1')])
    clear h1' HF2
    go_wp2_with fail
    exact bodyPost_ret (v := frV (0, [], 3)) (by unfold frV; simp [results, Tryd.results17, go_sem, q0, q1]) rfl ⟨by rw [HFF.out], (HB1.out.setCell (Nat.le_refl _) _).setCell (Nat.le_refl _) _⟩
  have hv1 : (((s[a + 1].toNat : Nat) : Int) != 0) = false := by rw [h1']; rfl
  have HF3 : Hid (FR = if Lib.trimB ((s.data.toList.take a).drop n) 0 ≠ [] then (0, [], 3) else (s[a], s.data.toList.take n, 0)) := Lib.hid (by
    rw [HF2.out]
    by_cases h : Lib.trimB ((s.data.toList.take a).drop n) 0 ≠ []
    · rw [if_pos (Or.inr h), if_pos h]
    · rw [if_neg (by simp [h1'] at h ⊢; exact h), if_neg h])
  clear h1' HF2
  have HTR : Hid (∀ w : World, Calls Tryd.prog 40 #[.string (s.extract n a), .string ⟨#[0]⟩] w fun e w' => e = .returned (.string ⟨(Lib.trimB ((s.data.toList.take a).drop n) 0).toArray⟩) ∧ Below w.heap.size w w') := Lib.hid (fun w => by
    have e : (s.extract n a).data.toList = (s.data.toList.take a).drop n := by simp [List.drop_take]
    have h := Tryd.strings_Trim_one (s.extract n a) 0 (by decide) w (by rw [← size_len, e, List.length_drop, List.length_take]; omega)
    rw [e] at h
    exact h.mono fun e w' ⟨h1, h2⟩ => ⟨h1, by rcases h2 with rfl | rfl; · exact Below.refl _ _
                                              · exact (Below.refl _ _).drew⟩)
  generalize hTB : Lib.trimB ((s.data.toList.take a).drop n) 0 = TB at *
  clear hTB
  go_wp2_with fail
  refine (HTR.out _).mono ?_
  rintro e w3 ⟨rfl, hb3⟩
  have HB3 := Lib.hid (belSeq HB1.out hb3)
  have hbx3 := HBX2.out.below hb3 HBX2.out.lt
  clear q0 q1 f0 f1 HTR
  obtain ⟨q0, q1⟩ := hbx3.cells2
  obtain ⟨f0, f1⟩ := hbx3.frozs2
  clear hb3 HB1 HBX2 hbx3
  by_cases hTn : TB = []
  case neg =>
    have HFF : Hid (FR = (0, [], 3)) := Lib.hid (by rw [HF3.out, if_pos hTn])
    have hte := full_bool (s := ⟨TB.toArray⟩) (by rw [size_arr]; intro h; exact hTn (List.eq_nil_of_length_eq_zero h))
    clear hTn HF3
    generalize (⟨TB.toArray⟩ : ByteArray) = TS at *
    go_wp2_with fail
    exact bodyPost_ret (v := frV (0, [], 3)) (by unfold frV; simp [results, Tryd.results17, go_sem, q0, q1]) rfl ⟨by rw [HFF.out], (HB3.out.setCell (Nat.le_refl _) _).setCell (Nat.le_refl _) _⟩
  subst hTn
  have HFF : Hid (FR = (s[a], s.data.toList.take n, 0)) := Lib.hid (by rw [HF3.out, if_neg (by simp)])
  have HEX : Hid (s.extract 0 n = ⟨(s.data.toList.take n).toArray⟩) := Lib.hid (str_eq (by simp))
  clear HF3
  have za : (0 : Int) ≤ (a : Int) := by omega
  have zb : (a : Int) < (s.size : Int) := by omega
  have zc : (0 : Int) ≤ (n : Int) := by omega
  have zd : (n : Int) ≤ (s.size : Int) := by omega
  go_upto_region 11 with fail
  refine wp_region_tail_below 7 (by kernel_rfl) (by kernel_rfl) ?_
  simp only [List.take_succ_cons, List.take_zero, List.drop_succ_cons, List.drop_zero]
  repeat (quiet_step (fail))
  refine wpQuiet_nil ?_
  intro _ hw'
  obtain ⟨⟨dq, osq⟩, hw''⟩ := hw'
  subst hw''
  have hW8 := below_regrown w3 dq osq
  generalize Sort.grow (redrawn w3 dq) osq = w8 at *
  have HB8 := Lib.hid (belSeq HB3.out hW8)
  have hl0 := block_lt_of_cell q0
  have q0' := (bcell hW8 _ _ hl0).trans q0
  have q1' := (bcell hW8 _ _ hl0).trans q1
  have f0' := (bfroz hW8 _ _ hl0).trans f0
  have f1' := (bfroz hW8 _ _ hl0).trans f1
  clear hW8 q0 q1 f0 f1
  rw [HEX.out]
  go_wp2_with fail
  exact bodyPost_ret (v := frV (s[a], s.data.toList.take n, 0)) (by unfold frV; simp [results, Tryd.results17, go_sem, q0', q1']) rfl ⟨by rw [HFF.out], (HB8.out.setCell (Nat.le_refl _) _).setCell (Nat.le_refl _) _⟩
theorem frParse_any (tb : Nat) (s : ByteArray) (w : World) (ht : TabAt w tb) (hs : s.size ≤ 100000) :
    Calls Tryd.prog 17 #[.pointer (some ⟨tb, 0, none⟩), .string s] w fun e w' => e = .returned (frV (frParse s.data.toList)) ∧ Below w.heap.size w w' := by
  by_cases h : s.size = 0 ∨ s.size % 48 ≠ 0
  · rw [show frParse s.data.toList = (0, [], 5) from by unfold frParse; rw [size_len, if_pos h]]
    exact frParse_len tb s w hs h
  · cases hf : fitsB s.data.toList with
    | false =>
      rw [show frParse s.data.toList = (0, [], 4) from by unfold frParse; rw [size_len, if_neg h, if_pos hf]]
      exact frParse_sum tb s w ht hs (by omega) (by omega) hf
    | true => exact frParse_rest tb s w ht hs (by omega) (by omega) hf
end Go.Proofs.YtdggnpecbdnkeaaDoor
