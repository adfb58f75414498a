/-
  AuditFinds' two closures: each makes a record.
-/
import Derived.Test.YtbppgicdmkkmnaaDoorAuRef
import Derived.Test.YtbppgicdmkkmnaaDoorQTail
import Derived.Test.YtbppgicdmkkmnaaDoorOrdersMid
import Derived.Deep.DeepCutAuto
import Derived.Outline
set_option linter.unusedVariables false
set_option linter.unusedSimpArgs false
namespace Go.Proofs.YtbppgicdmkkmnaaDoor
open Go.RowKit

def RecEnd (cs : List Value) (w : World) (e : Ending) (w' : World) : Prop := e = .returned (.agg cs.toArray) ∧ Below w.heap.size w w'
set_option maxRecDepth 100000 in
set_option maxHeartbeats 2000000 in
theorem sd_rec (i k : Int) (bE bS : Nat) (w : World) (hE : BoxAt w bE 3 [.int .i64 i]) (hS : BoxAt w bS 24 [.int .u32 16777213]) :
    Calls Tryd.prog 7 #[.int .i64 k, .pointer (some ⟨bE, 0, none⟩), .pointer (some ⟨bS, 0, none⟩)] w (RecEnd [.int .i64 i, .int .i64 1, .int .i64 8, .int .i64 0, .int .u32 ((16777213 + k) % 16777216), .int .u32 0, .int .u32 0, .slice none 0 0, .bool false, .string ⟨#[]⟩, .int .i64 0, .string ⟨#[]⟩, .bool false, .int .u8 0, .int .i64 0, .int .i64 0, .string ⟨#[]⟩, .int .i64 0] w) := by
  have HE := Lib.hid hE
  have HS := Lib.hid hS
  clear hE hS
  go_enter Tryd.func7, Tryd.ntmps7
  go_wp2_with fail
  refine region_gen (fun W => BoxAt W w.heap.size 36 [.int .i64 0, .int .i64 0, .int .i64 0, .int .i64 0, .int .u32 0, .int .u32 0, .int .u32 0, .slice none 0 0, .bool false, .string ⟨#[]⟩, .int .i64 0, .string ⟨#[]⟩, .bool false, .int .u8 0, .int .i64 0, .int .i64 0, .string ⟨#[]⟩, .int .i64 0] ∧ BoxAt W bE 3 [.int .i64 i] ∧ BoxAt W bS 24 [.int .u32 16777213] ∧ Below w.heap.size w W) ⟨BoxAt.new w _ [.int .i64 0, .int .i64 0, .int .i64 0, .int .i64 0, .int .u32 0, .int .u32 0, .int .u32 0, .slice none 0 0, .bool false, .string ⟨#[]⟩, .int .i64 0, .string ⟨#[]⟩, .bool false, .int .u8 0, .int .i64 0, .int .i64 0, .string ⟨#[]⟩, .int .i64 0], HE.out.alloc, HS.out.alloc, (Below.refl _ _).alloc (Nat.le_refl _) _⟩ ?_
  rintro W ⟨hbx, he, hs, hB⟩
  have HX := Lib.hid hbx
  have HB := Lib.hid hB
  have k0 := cell_regrown he.cells1
  have k1 := cell_regrown hs.cells1
  have cA := fun dd os => Calls.regrown_of (Calls.same_below (add_num 16777213 k (Sort.grow (redrawn W dd) os)))
  clear hbx he hs hB HE HS
  refine wp_region_tail_below 6 (by kernel_rfl) (by kernel_rfl) ?_
  simp only [List.take_succ_cons, List.take_zero, List.drop_succ_cons, List.drop_zero]
  repeat (quiet_step (with_reducible exact cA _ _))
  refine wpQuiet_nil ?_
  intro _ hw'
  obtain ⟨⟨dq, osq⟩, hw''⟩ := hw'
  subst hw''
  have hW2 := below_regrown W dq osq
  generalize Sort.grow (redrawn W dq) osq = w2 at *
  have HX2 := Lib.hid (HX.out.below hW2 HX.out.lt)
  have HB2 := Lib.hid (belSeq HB.out hW2)
  clear k0 k1 cA HX HB hW2
  have hth : w2.there w.heap.size 0 18 := HX2.out.there (Nat.le_refl _)
  go_wp2_with (refine wpList_store_mid rfl 36 _ _ rfl w.heap.size 0 #[.int .i64 i, .int .i64 1, .int .i64 8, .int .i64 0, .int .u32 ((16777213 + k) % 16777216), .int .u32 0, .int .u32 0, .slice none 0 0, .bool false, .string ⟨#[]⟩, .int .i64 0, .string ⟨#[]⟩, .bool false, .int .u8 0, .int .i64 0, .int .i64 0, .string ⟨#[]⟩, .int .i64 0] rfl rfl hth rec_info (rec_one _ _ _ _ _ _ _ _ _ _ _) ?_)
  have hbx := HX2.out.setWhole (vs := [.int .i64 i, .int .i64 1, .int .i64 8, .int .i64 0, .int .u32 ((16777213 + k) % 16777216), .int .u32 0, .int .u32 0, .slice none 0 0, .bool false, .string ⟨#[]⟩, .int .i64 0, .string ⟨#[]⟩, .bool false, .int .u8 0, .int .i64 0, .int .i64 0, .string ⟨#[]⟩, .int .i64 0]) rfl
  exact bodyPost_ret (v := .agg #[.int .i64 i, .int .i64 1, .int .i64 8, .int .i64 0, .int .u32 ((16777213 + k) % 16777216), .int .u32 0, .int .u32 0, .slice none 0 0, .bool false, .string ⟨#[]⟩, .int .i64 0, .string ⟨#[]⟩, .bool false, .int .u8 0, .int .i64 0, .int .i64 0, .string ⟨#[]⟩, .int .i64 0]) (results_cell_row Tryd.results7 _ _ w.heap.size 36 #[.int .i64 i, .int .i64 1, .int .i64 8, .int .i64 0, .int .u32 ((16777213 + k) % 16777216), .int .u32 0, .int .u32 0, .slice none 0 0, .bool false, .string ⟨#[]⟩, .int .i64 0, .string ⟨#[]⟩, .bool false, .int .u8 0, .int .i64 0, .int .i64 0, .string ⟨#[]⟩, .int .i64 0] (0, 0) _ rfl hbx Tryd.underlying36 rfl rec_info) rfl ⟨rfl, bel_setCells _ _ (Nat.le_refl _) _ _ _ _ HB2.out⟩
set_option maxRecDepth 100000 in
set_option maxHeartbeats 2000000 in
theorem came_rec (i p n mr : Int) (la : Option Addr) (ll lc : Nat) (bE : Nat) (w : World) (hE : BoxAt w bE 3 [.int .i64 i]) :
    Calls Tryd.prog 9 #[.agg #[.int .i64 p, .int .i64 0, .int .u32 n, .int .u32 0, .int .u32 mr, .slice la ll lc, .bool false, .string ⟨#[]⟩], .pointer (some ⟨bE, 0, none⟩)] w (RecEnd [.int .i64 i, .int .i64 2, .int .i64 p, .int .i64 0, .int .u32 n, .int .u32 0, .int .u32 mr, .slice la ll lc, .bool false, .string ⟨#[]⟩, .int .i64 0, .string ⟨#[]⟩, .bool false, .int .u8 0, .int .i64 0, .int .i64 0, .string ⟨#[]⟩, .int .i64 0] w) := by
  have HE := Lib.hid hE
  clear hE
  go_enter Tryd.func9, Tryd.ntmps9
  go_upto_region 1 with fail
  refine region_gen (fun W => BoxAt W w.heap.size 30 [.int .i64 p, .int .i64 0, .int .u32 n, .int .u32 0, .int .u32 mr, .slice la ll lc, .bool false, .string ⟨#[]⟩] ∧ BoxAt W (w.heap.size + 1) 36 [.int .i64 0, .int .i64 0, .int .i64 0, .int .i64 0, .int .u32 0, .int .u32 0, .int .u32 0, .slice none 0 0, .bool false, .string ⟨#[]⟩, .int .i64 0, .string ⟨#[]⟩, .bool false, .int .u8 0, .int .i64 0, .int .i64 0, .string ⟨#[]⟩, .int .i64 0] ∧ BoxAt W bE 3 [.int .i64 i] ∧ Below w.heap.size w W) ⟨(BoxAt.new w _ [.int .i64 p, .int .i64 0, .int .u32 n, .int .u32 0, .int .u32 mr, .slice la ll lc, .bool false, .string ⟨#[]⟩]).alloc, BoxAt.newAt (by simp) _ [.int .i64 0, .int .i64 0, .int .i64 0, .int .i64 0, .int .u32 0, .int .u32 0, .int .u32 0, .slice none 0 0, .bool false, .string ⟨#[]⟩, .int .i64 0, .string ⟨#[]⟩, .bool false, .int .u8 0, .int .i64 0, .int .i64 0, .string ⟨#[]⟩, .int .i64 0], HE.out.alloc.alloc, ((Below.refl _ _).alloc (Nat.le_refl _) _).alloc (by simp) _⟩ ?_
  rintro W ⟨hpx, hbx, he, hB⟩
  have HX := Lib.hid hbx
  have HB := Lib.hid hB
  have k0 := he.cells1
  obtain ⟨q0, q1, q2, q3, q4, q5, q6, q7⟩ := hpx.cells8
  clear hbx he hB HE hpx
  have hth : W.there (w.heap.size + 1) 0 18 := HX.out.there (Nat.le_refl _)
  go_wp2_with (refine wpList_store_mid rfl 36 _ _ rfl (w.heap.size + 1) 0 #[.int .i64 i, .int .i64 2, .int .i64 p, .int .i64 0, .int .u32 n, .int .u32 0, .int .u32 mr, .slice la ll lc, .bool false, .string ⟨#[]⟩, .int .i64 0, .string ⟨#[]⟩, .bool false, .int .u8 0, .int .i64 0, .int .i64 0, .string ⟨#[]⟩, .int .i64 0] rfl rfl hth rec_info (rec_one _ _ _ _ _ _ _ _ _ _ _) ?_)
  have hbx := HX.out.setWhole (vs := [.int .i64 i, .int .i64 2, .int .i64 p, .int .i64 0, .int .u32 n, .int .u32 0, .int .u32 mr, .slice la ll lc, .bool false, .string ⟨#[]⟩, .int .i64 0, .string ⟨#[]⟩, .bool false, .int .u8 0, .int .i64 0, .int .i64 0, .string ⟨#[]⟩, .int .i64 0]) rfl
  exact bodyPost_ret (v := .agg #[.int .i64 i, .int .i64 2, .int .i64 p, .int .i64 0, .int .u32 n, .int .u32 0, .int .u32 mr, .slice la ll lc, .bool false, .string ⟨#[]⟩, .int .i64 0, .string ⟨#[]⟩, .bool false, .int .u8 0, .int .i64 0, .int .i64 0, .string ⟨#[]⟩, .int .i64 0]) (results_cell_row Tryd.results9 _ _ (w.heap.size + 1) 36 #[.int .i64 i, .int .i64 2, .int .i64 p, .int .i64 0, .int .u32 n, .int .u32 0, .int .u32 mr, .slice la ll lc, .bool false, .string ⟨#[]⟩, .int .i64 0, .string ⟨#[]⟩, .bool false, .int .u8 0, .int .i64 0, .int .i64 0, .string ⟨#[]⟩, .int .i64 0] (0, 0) _ rfl hbx Tryd.underlying36 rfl rec_info) rfl ⟨rfl, bel_setCells _ _ (Nat.le_succ _) _ _ _ _ HB.out⟩
end Go.Proofs.YtbppgicdmkkmnaaDoor
