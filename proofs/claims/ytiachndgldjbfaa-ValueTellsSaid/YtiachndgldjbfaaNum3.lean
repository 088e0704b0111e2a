/- The walk of the law of sums and products. A lemma file: no statement of its own. -/
import Derived.Test.YtiachndgldjbfaaNum2
import Derived.Test.YtiachndgldjbfaaCs22
set_option linter.unusedSimpArgs false
set_option linter.unusedVariables false
namespace Go.Proofs.Try
open Go.Cs
open Go.RowKit (Below)
set_option maxRecDepth 100000
attribute [local irreducible] CCalls WLoop WScope

theorem works01 : ecall (M := AL) Try.prog 400 25 #[] St.empty (fun v _ => match v with | .bool b => b | _ => false) = true := by kernel_rfl

section
variable {M : Type} [Mem M] {w0 : World} {s : St M} {R : Value → St M → Prop}
theorem works01_spec (h : R (.bool true) s) : CCalls Try.prog w0 25 #[] s R :=
  CCalls.mono (ccalls_of_closed fun w => calls_true hmix works01 w) fun _ _ ⟨e1, e2⟩ => by rw [e1, e2]; exact h

theorem numMath_spec {a b : Int} (ha : I64 a) (h : R (.bool true) s) : CCalls Try.prog w0 9 #[.int .i64 a, .int .i64 b] s R := by
  refine wfun2 hmix ok9 (l := [.int .i64 a, .int .i64 b]) func9 rfl ntmps9 results9 (by simp) ?_
  simp -implicitDefEqProofs only [↓w_skip, ↓w_region, ↓w_regionD, ↓w_seq, ↓w_cond, ↓w_block, ↓w_loop, ↓w_scope, ↓w_exit, ↓w_label, ↓w_goto, ↓w_ret, ↓w_nil, ↓w_cons, d_in, ↓d_nil, ↓d_cons, ↓d2_act, ↓d2_pass, ↓st_nil, ↓st_none, ↓st_some, ↓st2_true, ↓st2_false, ↓t_normal, ↓t_ret, ↓t_exit, ↓t_goto, ↓bl_normal, ↓bl_ret, ↓bl_goto, ↓bl_exit, ↓bl2_true, ↓bl2_false, ↓bo_normal, ↓bo_ret, ↓r_ret, ↓r_one, ↓r_none, ↓r_more, rs_nil, rs_cons, rs2, rs_tmp, rs_cell, rs_cell2, ev_tmp, ev_const, ev_func, put_some, put_none, or_hit, or_miss, ↓g_none, ↓g_some, ↓g2_some, ↓g2_none, ↓g3_tt, ↓g3_ff, ↓g3_tf, ↓g3_ft, ↓g3_undef, ↓c_tmp, ↓c_true, ↓c_false, ↓c2_true, ↓c2_false, ↓o_move, ↓o_assign, ↓f_move, ↓f_assign, ↓o_pick, ↓f_pick, ↓p_true, ↓p_false, ↓o_add, ↓o_sub, ↓o_mul, ↓o_quo, ↓o_rem, ↓o_shl, ↓o_shr, ↓o_lss, ↓o_leq, ↓o_gtr, ↓o_geq, ↓o_eql, ↓o_neq, ↓f_add, ↓f_sub, ↓f_mul, ↓f_quo, ↓f_rem, ↓f_lss, ↓f_leq, ↓f_gtr, ↓f_geq, ↓f_eql, ↓f_neq, ↓eq_int, ↓eq_bool, ↓eq_string, ↓eq_p0, ↓eq_pp, ↓eq_agg, ↓eq_slice, ↓eq_map, ↓b_add, ↓b_sub, ↓b_mul, ↓b_quo, ↓b_rem, ↓b_shl, ↓b_shr, ↓b_eql, ↓b_neq, ↓b_lss, ↓b_leq, ↓b_gtr, ↓b_geq, ↓b_sadd, ↓b_seql, ↓b_sneq, ↓o_cal, ↓o_convert, ↓f_convert, ↓cv_int, ↓cv2_int, ↓cv2_string, ↓cv_string, ↓cv_slice, ↓sh, ↓sh_int, ↓sh_bool, ↓sh_string, ↓sh_pointer, ↓sh_slice, ↓sh_array, ↓sh_map, ↓sh_struct, ↓sh_func, ↓sh_interface, ↓sh_tuple, ↓sh_invalid, ↓sh_none, ↓m_some, val, upd_apply, i_zero, i_succ, i_nil, Nat.reduceEqDiff, if_true, if_false, reduceIte, List.toList_toArray, List.map_toArray, List.map_cons, List.map_nil, Option.bind_some, Option.bind_none, List.getElem?_toArray, List.getElem?_cons_zero, List.getElem?_cons_succ, decide_true, decide_false, decide_not, Bool.not_true, Bool.not_false, ne_eq, not_true_eq_false, not_false_eq_true, true_and, and_true, false_and, and_false, implies_true, false_implies, forall_const, reduceCtorEq, Int.reduceEq, Int.reduceNeg, Int.reduceLE, Int.reduceLT, Int.toNat_one, true_implies, Bool.true_eq_false, Bool.false_eq_true, decide_eq_true_eq, decide_eq_false_iff_not, underlying3, underlying4, co30, co31, co32, co33, co34, co35, co36, co37, co38, co39, co25, addN_eq, subN_eq, mulN_eq, wrapN_eq, wrapR_wrap, wrapR_eq ha]
  repeat' (first
    | refine add_spec ?_ | refine radd_spec ?_ | refine sub_spec ?_ | refine rsub_spec ?_ | refine mul_spec ?_ | refine rmul_spec ?_ | refine neg_spec ?_ | refine rneg_spec ?_ | refine wrap_spec ?_ | refine rwrap_spec ?_ | refine works01_spec ?_
    | exact h
    | simp -implicitDefEqProofs only [↓w_skip, ↓w_region, ↓w_regionD, ↓w_seq, ↓w_cond, ↓w_block, ↓w_loop, ↓w_scope, ↓w_exit, ↓w_label, ↓w_goto, ↓w_ret, ↓w_nil, ↓w_cons, d_in, ↓d_nil, ↓d_cons, ↓d2_act, ↓d2_pass, ↓st_nil, ↓st_none, ↓st_some, ↓st2_true, ↓st2_false, ↓t_normal, ↓t_ret, ↓t_exit, ↓t_goto, ↓bl_normal, ↓bl_ret, ↓bl_goto, ↓bl_exit, ↓bl2_true, ↓bl2_false, ↓bo_normal, ↓bo_ret, ↓r_ret, ↓r_one, ↓r_none, ↓r_more, rs_nil, rs_cons, rs2, rs_tmp, rs_cell, rs_cell2, ev_tmp, ev_const, ev_func, put_some, put_none, or_hit, or_miss, ↓g_none, ↓g_some, ↓g2_some, ↓g2_none, ↓g3_tt, ↓g3_ff, ↓g3_tf, ↓g3_ft, ↓g3_undef, ↓c_tmp, ↓c_true, ↓c_false, ↓c2_true, ↓c2_false, ↓o_move, ↓o_assign, ↓f_move, ↓f_assign, ↓o_pick, ↓f_pick, ↓p_true, ↓p_false, ↓o_add, ↓o_sub, ↓o_mul, ↓o_quo, ↓o_rem, ↓o_shl, ↓o_shr, ↓o_lss, ↓o_leq, ↓o_gtr, ↓o_geq, ↓o_eql, ↓o_neq, ↓f_add, ↓f_sub, ↓f_mul, ↓f_quo, ↓f_rem, ↓f_lss, ↓f_leq, ↓f_gtr, ↓f_geq, ↓f_eql, ↓f_neq, ↓eq_int, ↓eq_bool, ↓eq_string, ↓eq_p0, ↓eq_pp, ↓eq_agg, ↓eq_slice, ↓eq_map, ↓b_add, ↓b_sub, ↓b_mul, ↓b_quo, ↓b_rem, ↓b_shl, ↓b_shr, ↓b_eql, ↓b_neq, ↓b_lss, ↓b_leq, ↓b_gtr, ↓b_geq, ↓b_sadd, ↓b_seql, ↓b_sneq, ↓o_cal, ↓o_convert, ↓f_convert, ↓cv_int, ↓cv2_int, ↓cv2_string, ↓cv_string, ↓cv_slice, ↓sh, ↓sh_int, ↓sh_bool, ↓sh_string, ↓sh_pointer, ↓sh_slice, ↓sh_array, ↓sh_map, ↓sh_struct, ↓sh_func, ↓sh_interface, ↓sh_tuple, ↓sh_invalid, ↓sh_none, ↓m_some, val, upd_apply, i_zero, i_succ, i_nil, Nat.reduceEqDiff, if_true, if_false, reduceIte, List.toList_toArray, List.map_toArray, List.map_cons, List.map_nil, Option.bind_some, Option.bind_none, List.getElem?_toArray, List.getElem?_cons_zero, List.getElem?_cons_succ, decide_true, decide_false, decide_not, Bool.not_true, Bool.not_false, ne_eq, not_true_eq_false, not_false_eq_true, true_and, and_true, false_and, and_false, implies_true, false_implies, forall_const, reduceCtorEq, Int.reduceEq, Int.reduceNeg, Int.reduceLE, Int.reduceLT, Int.toNat_one, true_implies, Bool.true_eq_false, Bool.false_eq_true, decide_eq_true_eq, decide_eq_false_iff_not, underlying3, underlying4, co30, co31, co32, co33, co34, co35, co36, co37, co38, co39, co25, addN_eq, subN_eq, mulN_eq, wrapN_eq, wrapR_wrap, wrapR_eq ha])
end

theorem numMath_walk {a b : Int} (ha : I64 a) (w : World) : Calls Try.prog 9 #[.int .i64 a, .int .i64 b] w fun e w' => e = .returned (.bool true) ∧ Below w.heap.size w w' :=
  calls_plain rfl (numMath_spec ha rfl)
end Go.Proofs.Try
