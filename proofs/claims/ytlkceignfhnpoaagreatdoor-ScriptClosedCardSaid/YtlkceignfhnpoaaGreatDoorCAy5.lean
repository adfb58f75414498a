/-
  Rules for operations: what they do.
-/
import Derived.Test.YtlkceignfhnpoaaGreatDoorCQY
set_option linter.unusedVariables false
set_option linter.unusedSimpArgs false
namespace Go.Proofs.YtlkceignfhnpoaaGreatDoor
open Go AX
universe u
section
variable {P : Program} {F G : Nat → Prop} {H : AH} {s : Nat} {T : TypeId} {ox oy : Operand}
theorem n_ptr (a : Addr) : aNilCheck (.pointer (some a)) = ret (.pointer (some a)) := Eq.trans rfl rfl
theorem n_func (f : FuncId) (fs cs : Array Value) : aNilCheck (.func (.func f) fs cs) = ret (.func (.func f) fs cs) := Eq.trans rfl rfl
section
variable {k : IntKind} {x y : Int}
theorem b_add : aBin P .add T ox oy (.int k x) (.int k y) = ret (.int k (k.wrap (x + y))) := by simp [aBin, flat, scalar, ofStat, eqGuard, binOp, Op.intArith, Bind.bind, pure, Sem.bind, stat]
theorem b_sub : aBin P .sub T ox oy (.int k x) (.int k y) = ret (.int k (k.wrap (x - y))) := by simp [aBin, flat, scalar, ofStat, eqGuard, binOp, Op.intArith, Bind.bind, pure, Sem.bind, stat]
theorem b_mul : aBin P .mul T ox oy (.int k x) (.int k y) = ret (.int k (k.wrap (x * y))) := by simp [aBin, flat, scalar, ofStat, eqGuard, binOp, Op.intArith, Bind.bind, pure, Sem.bind, stat]
theorem b_lss : aBin P .lss T ox oy (.int k x) (.int k y) = ret (.bool (decide (x < y))) := by simp [aBin, flat, scalar, ofStat, eqGuard, binOp, Op.intCmp, Bind.bind, pure, Sem.bind, stat]
theorem b_leq : aBin P .leq T ox oy (.int k x) (.int k y) = ret (.bool (decide (x ≤ y))) := by simp [aBin, flat, scalar, ofStat, eqGuard, binOp, Op.intCmp, Bind.bind, pure, Sem.bind, stat]
theorem b_gtr : aBin P .gtr T ox oy (.int k x) (.int k y) = ret (.bool (decide (x > y))) := by simp [aBin, flat, scalar, ofStat, eqGuard, binOp, Op.intCmp, Bind.bind, pure, Sem.bind, stat]
theorem b_geq : aBin P .geq T ox oy (.int k x) (.int k y) = ret (.bool (decide (x ≥ y))) := by simp [aBin, flat, scalar, ofStat, eqGuard, binOp, Op.intCmp, Bind.bind, pure, Sem.bind, stat]
theorem b_eql : aBin P .eql T ox oy (.int k x) (.int k y) = ret (.bool (decide (x = y))) := by
  have : (x == y) = decide (x = y) := by rw [Bool.eq_iff_iff]; simp
  simp [aBin, flat, scalar, ofStat, eqGuard, binOp, Op.intCmp, Bind.bind, pure, Sem.bind, stat, this]
theorem b_neq : aBin P .neq T ox oy (.int k x) (.int k y) = ret (.bool (!decide (x = y))) := by
  have : (x != y) = !decide (x = y) := by rw [Bool.eq_iff_iff]; simp
  simp [aBin, flat, scalar, ofStat, eqGuard, binOp, Op.intCmp, Bind.bind, pure, Sem.bind, stat, this]
theorem b_rem (hy : y ≠ 0) : aBin P .rem T ox oy (.int k x) (.int k y) = ret (.int k (x.tmod y)) := by simp [aBin, flat, scalar, ofStat, eqGuard, binOp, Op.intDiv, Bind.bind, pure, Sem.bind, stat, hy]
theorem b_and : aBin P .and T ox oy (.int k x) (.int k y) = ret (.int k (k.wrap (BitVec.ofInt k.bits x &&& BitVec.ofInt k.bits y).toNat)) := by simp [aBin, flat, scalar, ofStat, eqGuard, binOp, Op.intBits, Bind.bind, pure, Sem.bind, stat]
end
theorem b_seql {a b : ByteArray} : aBin P .eql T ox oy (.string a) (.string b) = ret (.bool (a.toList == b.toList)) := by simp [aBin, flat, scalar, ofStat, eqGuard, binOp, Op.stringOp, Bind.bind, pure, Sem.bind, stat]
theorem b_sneq {a b : ByteArray} : aBin P .neq T ox oy (.string a) (.string b) = ret (.bool !(a.toList == b.toList)) := by simp [aBin, flat, scalar, ofStat, eqGuard, binOp, Op.stringOp, Bind.bind, pure, Sem.bind, stat]
theorem b_peql {a b : Option Addr} (h : isPtrT P T = true) (h2 : (a.isNone || b.isNone) = true) : aBin P .eql T ox oy (.pointer a) (.pointer b) = ret (.bool (a.isNone && b.isNone)) := by simp [aBin, flat, scalar, h, h2]
theorem b_pneq {a b : Option Addr} (h : isPtrT P T = true) (h2 : (a.isNone || b.isNone) = true) : aBin P .neq T ox oy (.pointer a) (.pointer b) = ret (.bool (!(a.isNone && b.isNone))) := by simp [aBin, flat, scalar, h, h2]
theorem b_sleql {a b : Option Addr} {n c n' c' : Nat} (h : (elemT P T).isSome = true) (h2 : (a.isNone || b.isNone) = true) : aBin P .eql T ox oy (.slice a n c) (.slice b n' c') = ret (.bool (a.isNone && b.isNone)) := by simp [aBin, flat, scalar, h, h2]
theorem b_slneq {a b : Option Addr} {n c n' c' : Nat} (h : (elemT P T).isSome = true) (h2 : (a.isNone || b.isNone) = true) : aBin P .neq T ox oy (.slice a n c) (.slice b n' c') = ret (.bool (!(a.isNone && b.isNone))) := by simp [aBin, flat, scalar, h, h2]
theorem u_not {b : Bool} : ofStat P (Op.unary .not (.bool b)) = ret (.bool !b) := by simp [ofStat, Op.unary, pure, stat, flat, scalar]
theorem u_neg {k : IntKind} {n : Int} : ofStat P (Op.unary .neg (.int k n)) = ret (.int k (k.wrap (0 - n))) := by simp [ofStat, Op.unary, Op.intArith, pure, stat, flat, scalar]
theorem fl_int (k : IntKind) (n : Int) : flat (.int k n) = true := Eq.trans rfl rfl
theorem fl_bool (b : Bool) : flat (.bool b) = true := Eq.trans rfl rfl
theorem fl_str (s : ByteArray) : flat (.string s) = true := Eq.trans rfl rfl
theorem c_int {a b : TypeId} {k k' : IntKind} {n : Int} (ha : (P.underlying a).isSome = true) (hb : P.underlying b = some (.int k')) : ofStat P (convert a b (.int k n)) = ret (.int k' (k'.wrap n)) := by
  obtain ⟨u, hu⟩ := Option.isSome_iff_exists.1 ha
  unfold ofStat convert
  simp [Bind.bind, pure, Sem.bind, stat, underlying, program, hu, hb, Conv.intToInt, flat, scalar]
/-- Loads and stores. -/
theorem l_one {b o : Nat} {Q : Value → AH → Nat → Prop} (h : aggB P T = some false) : Wp F G (aLoad P T (.pointer (some ⟨b, o, none⟩))) H s Q = (match H b with | some (.cells cs _ _) => F b ∧ (match cs[o]? with | some v => Q v H s | none => False) | _ => False) := by
  unfold aLoad
  simp only [h, wp_bind, wp_cells, wp_opt]
  cases H b with
  | none => rfl
  | some x =>
    cases x with
    | cells cs T wr => dsimp only; cases cs[o]? <;> rfl
    | map kv => rfl
theorem l_agg {b o n : Nat} {Q : Value → AH → Nat → Prop} (h : aggB P T = some true) (hn : szOf P T = some n) : Wp F G (aLoad P T (.pointer (some ⟨b, o, none⟩))) H s Q = (match H b with | some (.cells cs _ _) => F b ∧ (if o + n ≤ cs.length then Q (.agg ((cs.drop o).take n).toArray) H s else False) | _ => False) := by
  unfold aLoad
  simp only [h, hn, wp_bind, readN, wp_cells, wp_ite, wp_ret, wp_fail]
  cases H b with
  | none => rfl
  | some x =>
    cases x with
    | cells cs T wr => dsimp only
    | map kv => rfl
theorem st_any {b o : Nat} {v : Value} {Q : Value → AH → Nat → Prop} (h : szOf P T = some v.cells.size) (h1 : v.cells.toList.all oneV = true) : Wp F G (aStore P T (.pointer (some ⟨b, o, none⟩)) v) H s Q = (match H b with | some (.cells cs T' wr) => F b ∧ (if wr = true ∧ o + v.cells.size ≤ cs.length then F b ∧ G b ∧ Q undef (upd H b (some (.cells (setL cs o v.cells.toList) T' true))) s else False) | _ => False) := by
  unfold aStore
  simp only [h, h1, and_self, if_true, wp_bind, wp_cells, wp_ite, wp_ret, wp_fail, wp_set]
  cases H b with
  | none => rfl
  | some x =>
    cases x with
    | cells cs T wr => dsimp only
    | map kv => rfl
theorem nw_c {cs : List Value} {Q : Value → AH → Nat → Prop} (h : cs.all oneV = true) : Wp F G (newC T cs) H s Q = Q (.pointer (some ⟨s, 0, none⟩)) (upd H s (some (.cells cs T true))) (s + 1) := by
  unfold newC
  simp only [h, if_true, wp_bind, wp_new, wp_ret]
theorem ce_int (k : IntKind) (n : Int) : (Value.int k n).cells = #[.int k n] := Eq.trans rfl rfl
theorem ce_bool (b : Bool) : (Value.bool b).cells = #[.bool b] := Eq.trans rfl rfl
theorem ce_str (b : ByteArray) : (Value.string b).cells = #[.string b] := Eq.trans rfl rfl
theorem ce_ptr (b : Option Addr) : (Value.pointer b).cells = #[.pointer b] := Eq.trans rfl rfl
theorem ce_map (b : Option Nat) : (Value.map b).cells = #[.map b] := Eq.trans rfl rfl
theorem ce_slice (b : Option Addr) (n c : Nat) : (Value.slice b n c).cells = #[.slice b n c] := Eq.trans rfl rfl
theorem ce_agg (cs : Array Value) : (Value.agg cs).cells = cs := Eq.trans rfl rfl
/-- Lengths. -/
theorem ln_slice {e : TypeId} {a : Option Addr} {n c : Nat} (h : P.underlying T = some (.slice e)) : aLen P T (.slice a n c) = ret (.int .i64 n) := by simp [aLen, h]
theorem ln_str {b : ByteArray} (h : P.underlying T = some .string) : aLen P T (.string b) = ret (.int .i64 b.size) := by simp [aLen, h]
theorem bi_len {v : Value} : aBuiltin P .len #[T] #[v] = aLen P T v := Eq.trans rfl rfl
theorem bi_append {t2 : TypeId} {v x : Value} : aBuiltin P .append #[T, t2] #[v, x] = aAppend P T t2 v x := Eq.trans rfl rfl
theorem bi_min {ts : Array TypeId} {k : IntKind} {x y : Int} : aBuiltin P .min ts #[.int k x, .int k y] = ret (.int k (min x y)) := by
  have e : (if y < x then y else x) = min x y := by omega
  unfold aBuiltin
  simp [flat, scalar, ofStat, Builtin.min_, Builtin.min2, Bind.bind, pure, Sem.bind, stat, e]
theorem bi_max {ts : Array TypeId} {k : IntKind} {x y : Int} : aBuiltin P .max ts #[.int k x, .int k y] = ret (.int k (max x y)) := by
  have e : (if x < y then y else x) = max x y := by omega
  have e' : (if y > x then y else x) = max x y := by omega
  unfold aBuiltin
  simp [flat, scalar, ofStat, Builtin.max_, Builtin.max2, Bind.bind, pure, Sem.bind, stat, e, e']
theorem wrap64_small {x : Int} (h1 : -9223372036854775808 ≤ x) (h2 : x < 9223372036854775808) : IntKind.i64.wrap x = x := by
  unfold IntKind.wrap
  simp [IntKind.signed, IntKind.bits]
  omega
/-- Results. -/
theorem wp_rl_nil {tm : Array Value} {Q : List Value → AH → Nat → Prop} : Wp F G (aResList P tm []) H s Q = Q [] H s := by unfold aResList; rw [wp_ret]
theorem wp_rl_tmp {tm : Array Value} {t : Tmp} {r : List ResultVar} {Q : List Value → AH → Nat → Prop} : Wp F G (aResList P tm (.tmp t :: r)) H s Q = Wp F G (aResList P tm r) H s (fun vs H' s' => Q (evalA tm (.tmp t) :: vs) H' s') := by
  conv => lhs; unfold aResList
  rw [wp_bind]
  exact wp_same fun vs H' s' => wp_ret
theorem wp_rl_cell {tm : Array Value} {a : Tmp} {t : TypeId} {r : List ResultVar} {Q : List Value → AH → Nat → Prop} : Wp F G (aResList P tm (.cell a t :: r)) H s Q = Wp F G (aLoad P t (evalA tm (.tmp a))) H s (fun v H' s' => Wp F G (aResList P tm r) H' s' (fun vs H'' s'' => Q (v :: vs) H'' s'')) := by
  conv => lhs; unfold aResList
  rw [wp_bind]
  refine wp_same fun v H' s' => ?_
  rw [wp_bind]
  exact wp_same fun vs H' s' => wp_ret
theorem to_nil : tupleOf [] = .tuple #[] := Eq.trans rfl rfl
theorem to_one (v : Value) : tupleOf [v] = v := Eq.trans rfl rfl
theorem to_two (v w : Value) (r : List Value) : tupleOf (v :: w :: r) = .tuple (v :: w :: r).toArray := Eq.trans rfl rfl
end
/-- A frame's bottom: the arguments, then nothing. -/
def base (args : Array Value) (n : Nat) : Array Value := args ++ Array.replicate (n - args.size) undef
theorem base_size {args : Array Value} {n : Nat} : (base args n).size = args.size + (n - args.size) := by simp [base]
theorem bot_base {args : Array Value} {n k : Nat} : bot (base args n) k = args.getD k undef := by
  unfold bot base
  rw [Array.getD_eq_getD_getElem?, Array.getD_eq_getD_getElem?, Array.getElem?_append]
  by_cases h : k < args.size
  · rw [if_pos h]
  · rw [if_neg h, Array.getElem?_replicate, Array.getElem?_eq_none (by omega)]
    split <;> rfl
theorem upd_upd (H : AH) (b : Nat) (x y : Option AB) : upd (upd H b x) b y = upd H b y := by
  funext k
  unfold upd
  split <;> rfl
theorem upd_self {H : AH} {b : Nat} {x : Option AB} (h : H b = x) : upd H b x = H := by
  funext k
  unfold upd
  split
  · rename_i e; rw [e, h]
  · rfl
theorem bot_mkT (B : Array Value) (l : List (Nat × Value)) (k : Nat) : bot (mkT B l) k = evalA (mkT B l) (.tmp k) := Eq.trans rfl rfl
section
variable {P : Program} {call : FuncId → Array Value → AX Value} {F G : Nat → Prop} {H : AH} {s : Nat} {ops : Array Oper} {B : Array Value} {l : List (Nat × Value)} {Q : Array Value → AH → Nat → Prop} {d : Option Tmp} {op : Op} {ty : TypeId} {pos : String} {af : Array Edge} {g : Option (Nat × Bool)} {r : List Oper}
theorem sv_m : Wp F G (seqV P call ops (⟨d, op, ty, pos, af, g⟩ :: r) (mkT B l)) H s Q = Wp F G (aVal P call ops ⟨d, op, ty, pos, af, g⟩ (mkT B l)) H s (fun v H' s' => Wp F G (seqV P call ops r (putA (mkT B l) d v)) H' s' Q) := wp_sv_cons
theorem sv_p {d' : Nat} {v' : Value} : Wp F G (seqV P call ops (⟨d, op, ty, pos, af, g⟩ :: r) (putA (mkT B l) (some d') v')) H s Q = Wp F G (aVal P call ops ⟨d, op, ty, pos, af, g⟩ (mkT B ((d', v') :: l))) H s (fun v H' s' => Wp F G (seqV P call ops r (putA (mkT B ((d', v') :: l)) d v)) H' s' Q) := wp_sv_cons
theorem sv_n {v' : Value} : Wp F G (seqV P call ops (⟨d, op, ty, pos, af, g⟩ :: r) (putA (mkT B l) none v')) H s Q = Wp F G (aVal P call ops ⟨d, op, ty, pos, af, g⟩ (mkT B l)) H s (fun v H' s' => Wp F G (seqV P call ops r (putA (mkT B l) d v)) H' s' Q) := wp_sv_cons
theorem sv_np {d' : Nat} {v' : Value} : Wp F G (seqV P call ops [] (putA (mkT B l) (some d') v')) H s Q = Q (mkT B ((d', v') :: l)) H s := wp_sv_nil
section
variable {olds lates owns : List Nat} {s0 i : Nat}
theorem so_m : Wp F G (seqO P call olds lates owns s0 ops (⟨d, op, ty, pos, af, g⟩ :: r) i (mkT B l)) H s Q = Wp F G (kept olds lates owns s0 i (aVal P call ops ⟨d, op, ty, pos, af, g⟩ (mkT B l))) H s (fun v H' s' => Wp F G (seqO P call olds lates owns s0 ops r (i + 1) (putA (mkT B l) d v)) H' s' Q) := wp_so_cons
theorem so_p {d' : Nat} {v' : Value} : Wp F G (seqO P call olds lates owns s0 ops (⟨d, op, ty, pos, af, g⟩ :: r) i (putA (mkT B l) (some d') v')) H s Q = Wp F G (kept olds lates owns s0 i (aVal P call ops ⟨d, op, ty, pos, af, g⟩ (mkT B ((d', v') :: l)))) H s (fun v H' s' => Wp F G (seqO P call olds lates owns s0 ops r (i + 1) (putA (mkT B ((d', v') :: l)) d v)) H' s' Q) := wp_so_cons
theorem so_n {v' : Value} : Wp F G (seqO P call olds lates owns s0 ops (⟨d, op, ty, pos, af, g⟩ :: r) i (putA (mkT B l) none v')) H s Q = Wp F G (kept olds lates owns s0 i (aVal P call ops ⟨d, op, ty, pos, af, g⟩ (mkT B l))) H s (fun v H' s' => Wp F G (seqO P call olds lates owns s0 ops r (i + 1) (putA (mkT B l) d v)) H' s' Q) := wp_so_cons
theorem so_np {d' : Nat} {v' : Value} : Wp F G (seqO P call olds lates owns s0 ops [] i (putA (mkT B l) (some d') v')) H s Q = Q (mkT B ((d', v') :: l)) H s := wp_so_nil
theorem so_nn {v' : Value} : Wp F G (seqO P call olds lates owns s0 ops [] i (putA (mkT B l) none v')) H s Q = Q (mkT B l) H s := wp_so_nil
theorem wp_kept {m : AX Value} {Q : Value → AH → Nat → Prop} : Wp F G (kept olds lates owns s0 i m) H s Q = if owns.contains i = true then (s0 ≤ s ∧ Bd H s ∧ Wp (fun b => F b ∧ (b < s0 ∨ s ≤ b)) (fun b => G b ∧ s ≤ b) m H s Q) else if lates.contains i = true then (s0 ≤ s ∧ Wp F G m H s Q) else if olds.contains i = true then Wp (fun b => F b ∧ b < s0) G m H s Q else Wp F G m H s Q := by
  unfold kept
  rw [wp_ite, wp_own, wp_ite, wp_late, wp_ite, wp_old]
end
theorem sv_nn {v' : Value} : Wp F G (seqV P call ops [] (putA (mkT B l) none v')) H s Q = Q (mkT B l) H s := wp_sv_nil
end
theorem ite_ret {α : Type} {c : Prop} [Decidable c] {a b : α} : (if c then ret a else ret b) = (ret (if c then a else b) : AX α) := by
  by_cases h : c <;> simp [h]
theorem ite_vbool {c : Prop} [Decidable c] {a b : Bool} : (if c then Value.bool a else Value.bool b) = Value.bool (if c then a else b) := by
  by_cases h : c <;> simp [h]
/-- Under a test what it says is known. -/
theorem ite_ctx {α : Type u} {b c d : Prop} [Decidable b] [Decidable c] {x y u v : α} (h1 : b = c) (hd : (¬ c) = d) (h2 : c → ¬ d → x = u) (h3 : ¬ c → d → y = v) : ite b x y = ite c u v := by
  subst h1; subst hd
  by_cases h : b
  · rw [if_pos h, if_pos h]; exact h2 h (fun k => k h)
  · rw [if_neg h, if_neg h]; exact h3 h h
theorem ite_ctxV {b c d : Prop} [Decidable b] [Decidable c] {x y u v : Value} (h1 : b = c) (hd : (¬ c) = d) (h2 : c → ¬ d → x = u) (h3 : ¬ c → d → y = v) : ite b x y = ite c u v := ite_ctx h1 hd h2 h3
theorem ite_ctxA {α : Type} {b c d : Prop} [Decidable b] [Decidable c] {x y u v : AX α} (h1 : b = c) (hd : (¬ c) = d) (h2 : c → ¬ d → x = u) (h3 : ¬ c → d → y = v) : ite b x y = ite c u v := ite_ctx h1 hd h2 h3
attribute [congr] ite_ctxV ite_ctxA
@[simp] theorem wrap_i64 {x : Int} (h : -9223372036854775808 ≤ x ∧ x < 9223372036854775808) : IntKind.i64.wrap x = x := wrap64_small h.1 h.2
@[simp] theorem wrap_u32 {x : Int} (h : 0 ≤ x ∧ x < 4294967296) : IntKind.u32.wrap x = x := by
  unfold IntKind.wrap
  simp [IntKind.signed, IntKind.bits]
  omega
@[simp] theorem wrap_u8 {x : Int} (h : 0 ≤ x ∧ x < 256) : IntKind.u8.wrap x = x := by
  unfold IntKind.wrap
  simp [IntKind.signed, IntKind.bits]
  omega
attribute [simp] ite_vbool
attribute [simp ↓] wp_pseq wp_pcond wp_pblock wp_pscope wp_pskip wp_plabel wp_pexit wp_pret wp_preg wp_pdrawn dw_none dw_plain dw_old dw_late dw_own so_m so_p so_n so_np so_nn wp_so_nil wp_kept sv_m sv_p sv_n sv_np sv_nn wp_sv_nil wp_bind wp_seq wp_cond wp_block wp_scope wp_skip wp_label wp_exit wp_cret wp_rl_nil wp_rl_tmp wp_rl_cell
  v_op v_guard o_move o_assign o_pick o_alloc o_box o_load o_store o_nilCheck o_bin o_un o_conv o_fieldAddr o_field o_indexAddr o_index o_lookup o_mapUpdate o_extract o_call o_builtin o_buildSlice o_makeFunc o_makeSlice o_slice
attribute [simp] planOf ite_ret mkT_size bot_mkT upd_upd wp_ret wp_fail wp_opt wp_ite wp_cells wp_entries wp_set wp_new put_mkT put_none ev_hit ev_miss ev_nil ev_const ev_func getD_mkT wp_reg wp_sv_cons
  ok_tmp ok_func ok_const gl_tmp gl_func gl_const o_callv
  n_ptr n_func b_add b_sub b_mul b_lss b_leq b_gtr b_geq b_eql b_neq b_seql b_sneq b_peql b_pneq b_sleql b_slneq u_not u_neg fl_int fl_bool fl_str c_int l_one l_agg st_any nw_c ce_int ce_bool ce_str ce_ptr ce_map ce_slice ce_agg bi_len bi_append bi_min bi_max to_nil to_one to_two setL oneV upd_same constOK simpleV base_size bot_base yld
/-- A run that reads and writes nothing is its value. -/
theorem dry_eq {α : Type} {m : AX α} {a : α} (h : ∀ (H : AH) (s : Nat), Wp (fun _ => False) (fun _ => False) m H s (fun v H' s' => v = a ∧ H' = H ∧ s' = s)) : m = ret a := by
  funext H s
  obtain ⟨o, h1, h2, h3, h4, h5, h6⟩ := h H s
  obtain ⟨v, H', s', D, W⟩ := o
  dsimp only at h2 h3 h4 h5 h6
  subst h4; subst h5; subst h6
  rw [h1]
  have e1 : D = [] := List.eq_nil_iff_forall_not_mem.2 h2
  have e2 : W = [] := List.eq_nil_iff_forall_not_mem.2 h3
  subst e1; subst e2
  rfl
/-- Into a function. -/
theorem enter {P : Program} {ext : FuncId → Option (Array Value → AX Value)} {F G : Nat → Prop} {H : AH} {s n nt : Nat} {f : FuncId} {fn : Func} {c : Code} {args : Array Value} {rs : List ResultVar} {Q : Value → AH → Nat → Prop} {S : List FuncId} (hS : Calm S (aCall P ext n)) (l : Plan)
    (he : ext f = none) (hf : P.funcs[f]? = some fn) (hn : fn.ntmps = nt) (hc : fn.body = some c) (hr : fn.results.toList = rs) (hl : plainOK S l c = true)
    (h : Wp F G (pCode P (aCall P ext n) l c (mkT (base args nt) [])) H s (fun x H' s' => match x.1 with | .exit _ => False | _ => Wp F G (aResList P x.2 rs) H' s' (fun vs H'' s'' => Q (tupleOf vs) H'' s''))) :
    Wp F G (aCall P ext (n + 1) f args) H s Q := by
  subst hn
  subst hr
  unfold aCall
  rw [he]
  dsimp only
  rw [hf]
  dsimp only
  unfold aBody
  rw [hc]
  dsimp only
  rw [wp_bind]
  refine wp_mono ((plan_sub hS c (mkT (base args fn.ntmps) []) hl).wp h) fun x H' s' hx => ?_
  cases hx1 : x.1 with
  | normal => rw [hx1] at hx; dsimp only at hx ⊢; rw [wp_bind]; exact wp_mono hx fun vs H'' s'' h => (wp_ret).mpr h
  | exit id => rw [hx1] at hx; exact hx.elim
  | ret => rw [hx1] at hx; dsimp only at hx ⊢; rw [wp_bind]; exact wp_mono hx fun vs H'' s'' h => (wp_ret).mpr h
/-- Behind a run nothing lies from its next number on. -/
theorem wp_bd {α : Type} {F G : Nat → Prop} {H : AH} {s : Nat} {m : AX α} {Q : α → AH → Nat → Prop} (h : LS m) (hb : Bd H s) (w : Wp F G m H s (fun v H' s' => s ≤ s' → Bd H' s' → Q v H' s')) : Wp F G m H s Q := by
  obtain ⟨o, e, hD, hW, hQ⟩ := w
  obtain ⟨a, b, _⟩ := h.bd e hb
  exact ⟨o, e, hD, hW, hQ a b⟩
end Go.Proofs.YtlkceignfhnpoaaGreatDoor
