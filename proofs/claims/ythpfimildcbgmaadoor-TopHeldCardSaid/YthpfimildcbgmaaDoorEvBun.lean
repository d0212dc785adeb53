/-
The bundle of equations that 'simp' runs the interpreter by.
-/
import Derived.Test.YthpfimildcbgmaaDoorEvRun
namespace Go.Proofs.YthpfimildcbgmaaDoor
namespace Ev
open Go
set_option linter.all false
set_option linter.defProp false
section
variable {E : Env} {t : List V} {k : IntKind} {n : Int} {b : Bool} {s : ByteArray} {q : FloatKind} {m i j o : Nat} {cs es l a c vs : List V} {v x y : V} {as : Array Operand}
theorem pickV_bool {c a b : Bool} : pickV c (.bool a) (.bool b) = .bool (bif c then a else b) := rfl
theorem nilO_ptr : nilO (.ptr i j) = some (.ptr i j) := rfl
theorem nilO_eptr : nilO (.eptr i j m o) = some (.eptr i j m o) := rfl
theorem nilO_iptr : nilO (.iptr cs) = some (.iptr cs) := rfl
theorem nilO_fn : nilO (.fn i a c) = some (.fn i a c) := rfl
theorem resV_one : resV [v] = v := rfl
theorem pickL_nil {l : List (Nat × V)} : pickL v l [] = [] := rfl
theorem pickL_cons {l : List (Nat × V)} {ks : List Nat} : pickL v l (i :: ks) = (i, look v l i) :: pickL v l ks := rfl
theorem enumL_nil : enumL i [] = [] := rfl
theorem enumL_cons : enumL i (v :: l) = (i, v) :: enumL (i + 1) l := rfl
theorem arg_int : arg E t (.const (.int k n)) = .int k n := rfl
theorem arg_bool : arg E t (.const (.bool b)) = .bool b := rfl
theorem arg_str : arg E t (.const (.string s)) = .str s := rfl
theorem arg_nilp : arg E t (.const (.pointer none)) = .nilp := rfl
theorem arg_nils : arg E t (.const (.slice none 0 0)) = .nils := rfl
theorem arg_nilf : arg E t (.const .nilFunc) = .nilf := rfl
theorem arg_func {f : Nat} : arg E t (.func f) = .fn f [] [] := rfl
theorem arg_fl {x : Nat} : arg E t (.const (.float q x)) = if x < 2 ^ q.format.width then .fl q x else .wild := rfl
theorem arg_agg {cs : Array Value} : arg E t (.const (.agg cs)) = .agg (cs.toList.map val1) := rfl
def globV : Option (List V) → V | some cs => .iptr cs | none => .wild
theorem arg_glob {g : Nat} : arg E t (.global g) = globV (E.G g) := by simp only [arg]; cases E.G g <;> rfl
theorem globV_some : globV (some cs) = .iptr cs := rfl
theorem args_eq : args E t as = as.toList.map (arg E t) := rfl
theorem val1_int : val1 (.int k n) = .int k n := rfl
theorem val1_bool : val1 (.bool b) = .bool b := rfl
theorem val1_str : val1 (.string s) = .str s := rfl
theorem val1_fl {x : Nat} : val1 (.float q x) = if x < 2 ^ q.format.width then .fl q x else .wild := rfl
theorem val1_nilp : val1 (.pointer none) = .nilp := rfl
theorem val1_nils : val1 (.slice none 0 0) = .nils := rfl
theorem dstL_zero {o : Oper} {r : List Oper} : dstL (o :: r) 0 = o.dst := rfl
theorem dstL_succ {o : Oper} {r : List Oper} : dstL (o :: r) (m + 1) = dstL r m := rfl
theorem boolOf_bool : boolOf (.bool b) = some b := rfl
theorem put_none : putV t none v = t := rfl
theorem cells_agg : V.cells (.agg cs) = cs := rfl
theorem cells_int : V.cells (.int k n) = [.int k n] := rfl
theorem cells_bool : V.cells (.bool b) = [.bool b] := rfl
theorem cells_str : V.cells (.str s) = [.str s] := rfl
theorem cells_fl : V.cells (.fl q m) = [.fl q m] := rfl
theorem cells_nilp : V.cells .nilp = [.nilp] := rfl
theorem cells_nils : V.cells .nils = [.nils] := rfl
theorem cells_ptr : V.cells (.ptr i j) = [.ptr i j] := rfl
theorem cells_eptr : V.cells (.eptr i j m o) = [.eptr i j m o] := rfl
theorem cells_row : V.cells (.row i j) = [.row i j] := rfl
theorem cells_sl : V.cells (.sl es m b) = [.sl es m b] := rfl
theorem cells_fn : V.cells (.fn i a c) = [.fn i a c] := rfl
theorem cells_nilf : V.cells .nilf = [.nilf] := rfl
theorem cells_iptr : V.cells (.iptr cs) = [.iptr cs] := rfl
theorem ones_nil : ones [] = true := rfl
theorem ones_cons : ones (v :: l) = (v.one && ones l) := rfl
theorem one_int : V.one (.int k n) = true := rfl
theorem one_bool : V.one (.bool b) = true := rfl
theorem one_str : V.one (.str s) = true := rfl
theorem one_fl : V.one (.fl q m) = true := rfl
theorem one_nilp : V.one .nilp = true := rfl
theorem one_nils : V.one .nils = true := rfl
theorem one_ptr : V.one (.ptr i j) = true := rfl
theorem one_eptr : V.one (.eptr i j m o) = true := rfl
theorem one_row : V.one (.row i j) = true := rfl
theorem one_sl : V.one (.sl es m b) = true := rfl
theorem one_fn : V.one (.fn i a c) = true := rfl
theorem one_nilf : V.one .nilf = true := rfl
theorem one_iptr : V.one (.iptr cs) = true := rfl
theorem plains_nil : plains [] = true := rfl
theorem plains_cons : plains (v :: l) = (v.plain && plains l) := rfl
theorem plain_int : V.plain (.int k n) = true := rfl
theorem plain_bool : V.plain (.bool b) = true := rfl
theorem plain_str : V.plain (.str s) = true := rfl
theorem plain_fl : V.plain (.fl q m) = true := rfl
theorem plain_nilp : V.plain .nilp = true := rfl
theorem plain_nils : V.plain .nils = true := rfl
theorem plain_ptr : V.plain (.ptr i j) = false := rfl
theorem plain_eptr : V.plain (.eptr i j m o) = false := rfl
theorem plain_row : V.plain (.row i j) = false := rfl
theorem plain_sl : V.plain (.sl es m b) = true := rfl
theorem plain_fn : V.plain (.fn i a c) = (plains a && plains c) := rfl
theorem plain_nilf : V.plain .nilf = true := rfl
theorem plain_iptr : V.plain (.iptr cs) = true := rfl
theorem plain_agg : V.plain (.agg cs) = plains cs := rfl
theorem plain_tup : V.plain (.tup cs) = plains cs := rfl
theorem lit_nil {P : Program} {e : TypeId} : litV P e i [] = some [] := rfl
theorem lit_cons {P : Program} {e : TypeId} {r : List (Nat × V)} : litV P e i ((j, v) :: r) = if i = j ∧ v.cells.length = sizeT P e ∧ ones v.cells = true ∧ v.plain = true then (litV P e (i + 1) r).map (v :: ·) else none := rfl
theorem folds_eq {f : V → V → Option V} : foldsV f (.int k n :: l) = foldV f (.int k n) l := rfl
theorem fold_nil {f : V → V → Option V} : foldV f v [] = some v := rfl
theorem fold_max {k' : IntKind} {z : Int} : foldV maxV (.int k n) (.int k' z :: l) = foldV maxV (.int k (max n z)) l := by
  simp only [foldV, maxV, Option.bind_some]; congr 2; omega
theorem fold_min {k' : IntKind} {z : Int} : foldV minV (.int k n) (.int k' z :: l) = foldV minV (.int k (min n z)) l := by
  simp only [foldV, minV, Option.bind_some]; congr 2; omega
theorem fill_nil {p : Nat → Option (Nat × Nat)} : fillV p cs [] = some cs := rfl
def fillP (q : Option (Nat × Nat)) (p : Nat → Option (Nat × Nat)) (cs : List V) (v : V) (r : List (Nat × V)) : Option (List V) := match q with
  | some (off, size) => if v.cells.length = size ∧ off + size ≤ cs.length ∧ ones v.cells = true then fillV p (lay cs off v.cells) r else none
  | none => none
theorem fill_cons {p : Nat → Option (Nat × Nat)} {r : List (Nat × V)} : fillV p cs ((i, v) :: r) = fillP (p i) p cs v r := rfl
theorem fillP_some {p : Nat → Option (Nat × Nat)} {r : List (Nat × V)} : fillP (some (i, j)) p cs v r = if v.cells.length = j ∧ i + j ≤ cs.length ∧ ones v.cells = true then fillV p (lay cs i v.cells) r else none := rfl
theorem lay_put : lay (x :: l) 0 (v :: vs) = v :: lay l 0 vs := rfl
theorem lay_skip : lay (x :: l) (m + 1) vs = x :: lay l m vs := rfl
theorem lay_end : lay l 0 [] = l := by cases l <;> rfl
theorem lay_nil : lay [] m vs = [] := by cases m <;> rfl
end
theorem w_i64 {n : Int} (h1 : -9223372036854775808 ≤ n) (h2 : n ≤ 9223372036854775807) : IntKind.i64.wrap n = n := by rw [IntKind.wrap_i64]; omega
theorem w_u64 {n : Int} (h1 : 0 ≤ n) (h2 : n ≤ 18446744073709551615) : IntKind.u64.wrap n = n := by rw [IntKind.wrap_u64]; omega
theorem w_i32 {n : Int} (h1 : -2147483648 ≤ n) (h2 : n ≤ 2147483647) : IntKind.i32.wrap n = n := by rw [IntKind.wrap_i32]; omega
theorem w_u32 {n : Int} (h1 : 0 ≤ n) (h2 : n ≤ 4294967295) : IntKind.u32.wrap n = n := by rw [IntKind.wrap_u32]; omega
theorem w_u16 {n : Int} (h1 : 0 ≤ n) (h2 : n ≤ 65535) : IntKind.u16.wrap n = n := by rw [IntKind.wrap_u16]; omega
theorem w_u8 {n : Int} (h1 : 0 ≤ n) (h2 : n ≤ 255) : IntKind.u8.wrap n = n := by rw [IntKind.wrap_u8]; omega
theorem tdiv_e {a b : Int} (h : 0 ≤ a) : a.tdiv b = a / b := Int.tdiv_eq_ediv_of_nonneg h
theorem tmod_e {a b : Int} (h : 0 ≤ a) : a.tmod b = a % b := Int.tmod_eq_emod_of_nonneg h
theorem wd_i64 {a b : Int} (h1 : 0 ≤ a) (h2 : a ≤ 9223372036854775807) (h3 : 0 < b) : IntKind.i64.wrap (a / b) = a / b := by
  have := Int.ediv_nonneg h1 (by omega : 0 ≤ b)
  have := Int.ediv_le_self b h1
  exact w_i64 (by omega) (by omega)
theorem wd_u64 {a b : Int} (h1 : 0 ≤ a) (h2 : a ≤ 18446744073709551615) (h3 : 0 < b) : IntKind.u64.wrap (a / b) = a / b := by
  have := Int.ediv_nonneg h1 (by omega : 0 ≤ b)
  have := Int.ediv_le_self b h1
  exact w_u64 (by omega) (by omega)
theorem if_true' {α : Type} {d : Decidable True} (x y : α) : @ite α True d x y = x := if_pos trivial
theorem if_false' {α : Type} {d : Decidable False} (x y : α) : @ite α False d x y = y := if_neg not_false
theorem cond_true' {α : Type} (x y : α) : cond true x y = x := rfl
theorem cond_false' {α : Type} (x y : α) : cond false x y = y := rfl
theorem eqS {α : Type} (x : α) : (x = x) = True := eq_self x
theorem dTrue {d : Decidable True} : @decide True d = true := @decide_eq_true _ d trivial
theorem dFalse {d : Decidable False} : @decide False d = false := @decide_eq_false _ d not_false

def evs0 := (And.intro (And.intro (And.intro (And.intro (And.intro @codeL_seq (And.intro @codeL_region @codeL_draw)) (And.intro (And.intro @codeL_block @codeL_loop) (And.intro @codeL_cond @codeL_skip))) (And.intro (And.intro (And.intro @codeL_exit @codeL_ret) (And.intro @condL_true @condL_false)) (And.intro (And.intro @exitK_true @exitK_false) (And.intro @normK_eq @evOps_nil)))) (And.intro (And.intro (And.intro @ops_guard (And.intro @ops_move @ops_assign)) (And.intro (And.intro @ops_pick @ops_build) (And.intro @ops_load @ops_nilc))) (And.intro (And.intro (And.intro @ops_bin @ops_un) (And.intro @ops_conv @ops_func)) (And.intro (And.intro @ops_fieldAddr @ops_field) (And.intro @ops_indexAddr @ops_index))))) (And.intro (And.intro (And.intro (And.intro @ops_extract (And.intro @ops_len @ops_min)) (And.intro (And.intro @ops_max @ops_buildSlice) (And.intro @ops_alloc @ops_store))) (And.intro (And.intro (And.intro @ops_call @ops_append) (And.intro @ops_make @ops_box)) (And.intro (And.intro @ops_slice @effK_some) (And.intro @rdK_some @oneK_true)))) (And.intro (And.intro (And.intro @oneK_false (And.intro @wayK_true @wayK_false)) (And.intro (And.intro @guardB_none @guardB_some) (And.intro @seqL_normal @seqL_exit))) (And.intro (And.intro (And.intro @seqL_ret @blockK_normal) (And.intro @blockK_exit @blockK_ret)) (And.intro (And.intro @roundL_normal @roundL_exit) (And.intro @roundL_ret @rd_move))))))
def evs1 := (And.intro (And.intro (And.intro (And.intro (And.intro @rd_assign (And.intro @rd_pick @rd_build)) (And.intro (And.intro @rd_load @rd_nil) (And.intro @rd_bin @rd_un))) (And.intro (And.intro (And.intro @rd_conv @rd_func) (And.intro @rd_fieldAddr @rd_field)) (And.intro (And.intro @rd_indexAddr @rd_index) (And.intro @rd_extract @rd_len)))) (And.intro (And.intro (And.intro @rd_min (And.intro @rd_max @rd_buildSlice)) (And.intro (And.intro @rd_slice @eff_alloc) (And.intro @eff_box @eff_store))) (And.intro (And.intro (And.intro @eff_call @eff_append) (And.intro @eff_make @eff_slice)) (And.intro (And.intro @ef_move @ef_assign) (And.intro @ef_pick @ef_build))))) (And.intro (And.intro (And.intro (And.intro @ef_buildSlice (And.intro @ef_load @ef_nil)) (And.intro (And.intro @ef_bin @ef_un) (And.intro @ef_conv @ef_func))) (And.intro (And.intro (And.intro @ef_fieldAddr @ef_field) (And.intro @ef_indexAddr @ef_index)) (And.intro (And.intro @ef_extract @ef_len) (And.intro @ef_min @ef_max)))) (And.intro (And.intro (And.intro @ef_alloc (And.intro @ef_box @ef_store)) (And.intro (And.intro @ef_call @ef_append) (And.intro @ef_make @ef_slice))) (And.intro (And.intro (And.intro @pickO_bool @pickV_t) (And.intro @pickV_f @pickV_bool)) (And.intro (And.intro @nilO_ptr @nilO_eptr) (And.intro @nilO_iptr @nilO_fn))))))
def evs2 := (And.intro (And.intro (And.intro (And.intro (And.intro @idxA_ptr (And.intro @idxA_eptr @idxA_iptr)) (And.intro (And.intro @idxA_sl @idxA_row) (And.intro @arrP_ptr @arrP_eptr))) (And.intro (And.intro (And.intro @arrP_iptr @slP_ok) (And.intro @rowP_ok @idxO_int)) (And.intro (And.intro @extrO_tup @lenO_one) (And.intro @allocO_some @storeO_some)))) (And.intro (And.intro (And.intro @callO_fn (And.intro @appO_two @look_hit)) (And.intro (And.intro @look_cons @look_nil) (And.intro @Sl_length @Sl_getD))) (And.intro (And.intro (And.intro @Sl_set @Sl_put) (And.intro @Sl_mask @Sl_arg)) (And.intro (And.intro @Sl_slotB @Sl_results) (And.intro @results_nil @results_cell))))) (And.intro (And.intro (And.intro (And.intro @resV_one (And.intro @resV_two @resV_nil)) (And.intro (And.intro @pickL_nil @pickL_cons) (And.intro @enumL_nil @enumL_cons))) (And.intro (And.intro (And.intro @arg_int @arg_bool) (And.intro @arg_str @arg_nilp)) (And.intro (And.intro @arg_nils @arg_nilf) (And.intro @arg_func @arg_fl)))) (And.intro (And.intro (And.intro @arg_agg (And.intro @arg_glob @globV_some)) (And.intro (And.intro @args_eq @val1_int) (And.intro @val1_bool @val1_str))) (And.intro (And.intro (And.intro @val1_fl @val1_nilp) (And.intro @val1_nils @dstL_zero)) (And.intro (And.intro @dstL_succ @boolW_t) (And.intro @boolW_f @boolW_undef))))))
def evs3 := (And.intro (And.intro (And.intro (And.intro (And.intro @notB_true (And.intro @notB_false @boolOf_bool)) (And.intro (And.intro @put_none @rdx) (And.intro @blindB_nil @blindB_none))) (And.intro (And.intro (And.intro @blindB_cons @blindK_f) (And.intro @blindK_t @evDraw_cons)) (And.intro (And.intro @evDraw_nil @wayD_true) (And.intro @wayD_false @oneD_true)))) (And.intro (And.intro (And.intro @oneD_false (And.intro @rdD_some @effD_some)) (And.intro (And.intro @chks_pend_nil @chks_pend) (And.intro @chks_past_nil @chks_past))) (And.intro (And.intro (And.intro @chkB_true @retK_normal) (And.intro @retK_ret @doneK_some)) (And.intro (And.intro @ans_some @give_p) (And.intro @giveP_t @w_i64))))) (And.intro (And.intro (And.intro (And.intro @w_u64 (And.intro @w_i32 @w_u32)) (And.intro (And.intro @w_u16 @w_u8) (And.intro @tdiv_e @tmod_e))) (And.intro (And.intro (And.intro @wd_i64 @wd_u64) (And.intro @b_add @b_sub)) (And.intro (And.intro @b_mul @b_and) (And.intro @b_or @b_xor)))) (And.intro (And.intro (And.intro @b_nand (And.intro @b_eql @b_neq)) (And.intro (And.intro @b_lss @b_leq) (And.intro @b_gtr @b_geq))) (And.intro (And.intro (And.intro @b_shl @b_shr) (And.intro @b_quo @b_rem)) (And.intro (And.intro @b_addS @b_eqlS) (And.intro @b_neqS @b_bool))))))
def evs4 := (And.intro (And.intro (And.intro (And.intro (And.intro @b_agg (And.intro @b_nilp @b_ptr)) (And.intro (And.intro @b_iptr @b_eptr) (And.intro @b_fn @b_nilf))) (And.intro (And.intro (And.intro @u_neg @u_xor) (And.intro @u_not @not_dec)) (And.intro (And.intro @index_u @idxS_str) (And.intro @lenV_u @lenU_str)))) (And.intro (And.intro (And.intro @lenU_arr (And.intro @lenU_sl @lenU_nils)) (And.intro (And.intro @strSl_u @strSlU_str) (And.intro @strT_u @strU_str))) (And.intro (And.intro (And.intro @strU_sl @cutS_some) (And.intro @cut_nn @cut_ln)) (And.intro (And.intro @cut_nh @cut_lh) (And.intro @convO_sl @convO_row))))) (And.intro (And.intro (And.intro (And.intro @convO_nils (And.intro @bytesV_nil @bytesV_cons)) (And.intro (And.intro @bytesV_map @convO_int) (And.intro @convI_int @convI_fl))) (And.intro (And.intro (And.intro @cells_agg @cells_int) (And.intro @cells_bool @cells_str)) (And.intro (And.intro @cells_fl @cells_nilp) (And.intro @cells_nils @cells_ptr)))) (And.intro (And.intro (And.intro @cells_eptr (And.intro @cells_row @cells_sl)) (And.intro (And.intro @cells_fn @cells_nilf) (And.intro @cells_iptr @ones_nil))) (And.intro (And.intro (And.intro @ones_cons @one_int) (And.intro @one_bool @one_str)) (And.intro (And.intro @one_fl @one_nilp) (And.intro @one_nils @one_ptr))))))
def evs5 := (And.intro (And.intro (And.intro (And.intro (And.intro @one_eptr (And.intro @one_row @one_sl)) (And.intro (And.intro @one_fn @one_nilf) (And.intro @one_iptr @plains_nil))) (And.intro (And.intro (And.intro @plains_cons @plain_int) (And.intro @plain_bool @plain_str)) (And.intro (And.intro @plain_fl @plain_nilp) (And.intro @plain_nils @plain_ptr)))) (And.intro (And.intro (And.intro @plain_eptr (And.intro @plain_row @plain_sl)) (And.intro (And.intro @plain_fn @plain_nilf) (And.intro @plain_iptr @plain_agg))) (And.intro (And.intro (And.intro @plain_tup @lit_nil) (And.intro @lit_cons @folds_eq)) (And.intro (And.intro @fold_nil @fold_max) (And.intro @fold_min @fill_nil))))) (And.intro (And.intro (And.intro (And.intro @fill_cons (And.intro @fillP_some @lay_put)) (And.intro (And.intro @lay_skip @lay_end) (And.intro @lay_nil @List.cons_append.{0}))) (And.intro (And.intro (And.intro @List.nil_append.{0} @List.append_nil.{0}) (And.intro @List.length_cons.{0} @List.length_nil.{0})) (And.intro (And.intro @List.set_cons_zero.{0} @List.set_cons_succ.{0}) (And.intro @List.getElem?_cons_zero.{0} @List.getElem?_cons_succ.{0})))) (And.intro (And.intro (And.intro @Option.map_some.{0,0} (And.intro @Option.bind_some.{0,0} @Option.map_none.{0,0})) (And.intro (And.intro @Option.bind_none.{0,0} @List.map_cons.{0,0}) (And.intro @List.map_nil.{0,0} @Option.getD_some.{0}))) (And.intro (And.intro (And.intro @Option.getD_none.{0} @List.drop_zero.{0}) (And.intro @List.drop_succ_cons.{0} @List.take_succ_cons.{0})) (And.intro (And.intro @List.take_zero.{0} @List.isEmpty_cons.{0}) (And.intro @mk_bs @Int.toNat_natCast))))))
def evs6 := (And.intro (And.intro (And.intro (And.intro (And.intro @Option.isSome_some.{0} @Option.isSome_none.{0}) (And.intro @Option.isNone_some.{0} @Option.isNone_none.{0})) (And.intro (And.intro @List.drop_nil.{0} @List.take_nil.{0}) (And.intro @Bool.not_true @Bool.not_false))) (And.intro (And.intro (And.intro @if_true' @if_false') (And.intro @Bool.true_beq @Bool.false_beq)) (And.intro (And.intro @cond_true' @cond_false') (And.intro @and_true (And.intro @true_and @and_self))))) (And.intro (And.intro (And.intro (And.intro @Bool.and_self @Bool.and_true) (And.intro @Bool.true_and @Bool.false_and)) (And.intro (And.intro @Bool.and_false @Nat.zero_add) (And.intro @Int.cast_ofNat_Int @Nat.zero_mul))) (And.intro (And.intro (And.intro @Nat.one_mul @get_new0) (And.intro @set_new0 @eqS)) (And.intro (And.intro @dTrue @dFalse) (And.intro @not_false_eq_true (And.intro @not_true_eq_false @getElem?_toArray'))))))
def evs := (And.intro (And.intro @evs0 (And.intro @evs1 @evs2)) (And.intro (And.intro @evs3 @evs4) (And.intro @evs5 @evs6)))
end Ev
end Go.Proofs.YthpfimildcbgmaaDoor
