/-
  Frames come back, plainly.
-/
import Derived.Test.YtdggnpecbdnkeaaDoorFrParse
set_option linter.unusedVariables false
set_option linter.unusedSimpArgs false
namespace Go.Proofs.YtdggnpecbdnkeaaDoor

theorem repeat_rep' (j : Nat) : Lib.repeatL ([0] : List UInt8) j = List.replicate j 0 := by
  induction j with
  | zero => rfl
  | succ m ih => rw [show Lib.repeatL ([0] : List UInt8) (m + 1) = [0] ++ Lib.repeatL [0] m from rfl, ih]; rfl
theorem sealOf_length (l : List UInt8) : (sealOf l).length = l.length + 4 := by unfold sealOf; rw [List.length_append, be4_length]
theorem fits_seal (l : List UInt8) : fitsB (sealOf l) = true := by
  unfold fitsB
  rw [sealOf_length, Nat.add_sub_cancel, decide_eq_true (by omega), Bool.true_and]
  apply decide_eq_true
  unfold sealOf
  rw [List.take_left, List.drop_left]
theorem frBody_length (u : UInt8) (d : List UInt8) : (frBody u d).length = d.length + frPad d.length + 4 := by
  unfold frBody
  simp only [List.length_append, Lib.repeatL_length, List.length_cons, List.length_nil]
  omega
theorem frameOf_length (u : UInt8) (d : List UInt8) : (frameOf u d).length = ((d.length + 7) / 48 + 1) * 48 := by
  unfold frameOf
  rw [sealOf_length, frBody_length]
  unfold frPad
  omega
theorem frameOf_split (u : UInt8) (d : List UInt8) : frameOf u d = d ++ (List.replicate (frPad d.length) 0 ++ (u :: 0 :: (d.length / 256).toUInt8 :: d.length.toUInt8 :: be4 (sumOf (frBody u d)).toNat)) := by
  unfold frameOf sealOf
  conv => lhs; arg 1; unfold frBody
  rw [repeat_rep']
  simp
theorem getD_right (a b : List UInt8) (i : Nat) : (a ++ b).getD (a.length + i) 0 = b.getD i 0 := by
  rw [List.getD_eq_getElem?_getD, List.getElem?_append_right (by omega), Nat.add_sub_cancel_left, ← List.getD_eq_getElem?_getD]
theorem drop_zeros : ∀ k : Nat, (List.replicate k (0 : UInt8)).dropWhile (· == 0) = []
  | 0 => rfl
  | k + 1 => by rw [List.replicate_succ]; simp [List.dropWhile_cons]
theorem trim_zeros (k : Nat) : Lib.trimB (List.replicate k 0) 0 = [] := by
  unfold Lib.trimB Lib.trimRightB
  rw [List.reverse_replicate, drop_zeros]; rfl
theorem frParse_back (u : UInt8) (d : List UInt8) (hd : d.length ≤ 65535) : frParse (frameOf u d) = (u, d, 0) := by
  have hl := frameOf_length u d
  have hp : frPad d.length = ((d.length + 7) / 48 + 1) * 48 - 8 - d.length := rfl
  have hat : (frameOf u d).length - 8 = d.length + frPad d.length := by rw [hl, hp]; omega
  have hg : ∀ i, (frameOf u d).getD ((frameOf u d).length - 8 + i) 0 = (u :: 0 :: (d.length / 256).toUInt8 :: d.length.toUInt8 :: be4 (sumOf (frBody u d)).toNat).getD i 0 := fun i => by
    rw [hat, frameOf_split, Nat.add_assoc, getD_right]
    have := getD_right (List.replicate (frPad d.length) 0) (u :: 0 :: (d.length / 256).toUInt8 :: d.length.toUInt8 :: be4 (sumOf (frBody u d)).toNat) i
    rwa [List.length_replicate] at this
  have g0 := hg 0
  have g1 := hg 1
  have g2 := hg 2
  have g3 := hg 3
  have hn : ((d.length / 256).toUInt8.toNat * 256 + d.length.toUInt8.toNat) = d.length := by
    simp only [Nat.toUInt8, UInt8.toNat_ofNat']
    omega
  simp only [Nat.add_zero, List.getD_cons_zero, List.getD_cons_succ] at g0 g1 g2 g3
  unfold frParse
  rw [if_neg (by rw [hl]; omega), if_neg (by unfold frameOf; rw [fits_seal]; simp), g2, g3, hn, if_neg (by rw [hl]; unfold cellsOf; rw [if_neg (by omega)]; first | (simp; done) | (simp; omega)), g1, g0, hat]
  have e1 : ((frameOf u d).take (d.length + frPad d.length)).drop d.length = List.replicate (frPad d.length) 0 := by
    rw [frameOf_split, ← List.append_assoc, List.take_left' (by simp), List.drop_left]
  rw [e1, trim_zeros, if_neg (by simp)]
  have e2 : (frameOf u d).take d.length = d := by rw [frameOf_split, List.take_left]
  rw [e2]
theorem frameOf_inj {u v : UInt8} {a b : List UInt8} (ha : a.length ≤ 65535) (hb : b.length ≤ 65535) (h : frameOf u a = frameOf v b) : u = v ∧ a = b := by
  have h1 := frParse_back u a ha
  rw [h, frParse_back v b hb] at h1
  simp only [Prod.mk.injEq] at h1
  exact ⟨h1.1.symm, h1.2.1.symm⟩
end Go.Proofs.YtdggnpecbdnkeaaDoor
