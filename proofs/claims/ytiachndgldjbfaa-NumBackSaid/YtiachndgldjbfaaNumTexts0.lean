/- The walks of the laws of digits and of numbers that are read. A lemma file: no statement of its own. -/
import Derived.Test.YtiachndgldjbfaaRead2
import Derived.Test.YtiachndgldjbfaaW01
set_option linter.unusedSimpArgs false
set_option linter.unusedVariables false
set_option linter.unusedSectionVars false
namespace Go.Proofs.Try
open Go.Cs
open Go.RowKit (Below)
set_option maxRecDepth 100000
attribute [local irreducible] CCalls WLoop WScope

theorem decL_pos : ∀ (m : Nat), decL m ≠ [] := by
  intro m
  by_cases h : m < 10
  · rw [decL_lt h]; simp
  · rw [decL_ge (by omega)]; simp

theorem toNat_dig {d : Nat} (h : d < 10) : ((UInt8.ofNat (48 + d)).toNat : Int) = 48 + d := by
  rw [UInt8.toNat_ofNat_of_lt' (by show 48 + d < 256; omega)]; omega

/-- What is read of digits. -/
theorem readL_dec : ∀ (m : Nat), m ≤ 9223372036854775807 → ∀ r : List UInt8, (m ≤ 4611686018427387903 → readL (decL m ++ r) 0 false = readL r m false) ∧ (4611686018427387903 < m → ∃ q, readL (decL m ++ r) 0 false = readL r q true) := by
  intro m
  induction m using Nat.strongRecOn with
  | ind m ih =>
    intro hm r
    by_cases h10 : m < 10
    · rw [decL_lt h10]
      refine ⟨fun _ => ?_, fun h => by omega⟩
      simp only [List.cons_append, List.nil_append, readL, toNat_dig h10]
      rw [if_neg (by omega), if_neg (by rw [Int.tdiv_eq_ediv_of_nonneg (by omega)]; simp; omega)]
      congr 1; omega
    · have hd : m % 10 < 10 := by omega
      rw [decL_ge (by omega), List.append_assoc]
      have h1 := (ih (m / 10) (by omega) (by omega) ([UInt8.ofNat (48 + m % 10)] ++ r)).1 (by omega)
      rw [h1]
      simp only [List.cons_append, List.nil_append, readL, toNat_dig hd]
      rw [if_neg (by omega)]
      refine ⟨fun h => ?_, fun h => ?_⟩
      · rw [if_neg (by rw [Int.tdiv_eq_ediv_of_nonneg (by omega)]; simp; omega)]
        congr 1; omega
      · rw [if_pos (by rw [Int.tdiv_eq_ediv_of_nonneg (by omega)]; simp; omega)]
        exact ⟨_, rfl⟩

theorem readV_dig {n : Int} (hn : -9223372036854775808 ≤ n ∧ n ≤ 9223372036854775807) : readV (digS n) = if n < 0 then (0, 11) else if 4611686018427387903 < n then (0, 10) else (n, 0) := by
  have hne : digS n ≠ ⟨#[]⟩ := by
    intro e
    have : (digL n) = [] := by have := congrArg (fun b : ByteArray => b.data.toList) e; simpa [digS] using this
    unfold digL at this
    split at this
    · cases this
    · exact decL_pos _ this
  rw [readV, if_neg hne]
  show readL (digL n) 0 false = _
  unfold digL
  by_cases h : n < 0
  · rw [if_pos h, if_pos h, readL, if_pos (.inl (by decide))]
  · rw [if_neg h, if_neg h]
    have := readL_dec n.natAbs (by omega) []
    rw [List.append_nil] at this
    by_cases h2 : 4611686018427387903 < n
    · rw [if_pos h2]
      obtain ⟨q, hq⟩ := this.2 (by omega)
      rw [hq]; simp [readL]
    · rw [if_neg h2, this.1 (by omega), readL, if_neg (by simp)]
      congr 1; omega

section
variable {M : Type} [Mem M] {w0 : World} {s : St M} {R : Value → St M → Prop}

set_option maxHeartbeats 2000000 in
theorem numTexts_spec {n : Int} {x : ByteArray} (hn : -9223372036854775808 ≤ n ∧ n ≤ 9223372036854775807) (hx : x.size ≤ 9223372036854775807) (h : ∀ s', R (.bool true) s') : CCalls Try.prog w0 7 #[.int .i64 n, .string x] s R := by
  refine wfun2 hmix ok7 (l := [.int .i64 n, .string x]) func7 rfl ntmps7 results7 (by simp) ?_
  simp -implicitDefEqProofs only [↓w_skip, ↓w_region, ↓w_regionD, ↓w_seq, ↓w_cond, ↓w_block, ↓w_loop, ↓w_scope, ↓w_exit, ↓w_label, ↓w_goto, ↓w_ret, ↓w_nil, ↓w_cons, d_in, ↓d_nil, ↓d_cons, ↓d2_act, ↓d2_pass, ↓st_nil, ↓st_none, ↓st_some, ↓st2_true, ↓st2_false, ↓t_normal, ↓t_ret, ↓t_exit, ↓t_goto, ↓bl_normal, ↓bl_ret, ↓bl_goto, ↓bl_exit, ↓bl2_true, ↓bl2_false, ↓bo_normal, ↓bo_ret, ↓r_ret, ↓r_one, ↓r_none, ↓r_more, rs_nil, rs_cons, rs2, rs_tmp, rs_cell, rs_cell2, ev_tmp, ev_const, ev_func, put_some, put_none, or_hit, or_miss, ↓g_none, ↓g_some, ↓g2_some, ↓g2_none, ↓g3_tt, ↓g3_ff, ↓g3_tf, ↓g3_ft, ↓g3_undef, ↓c_tmp, ↓c_true, ↓c_false, ↓c2_true, ↓c2_false, ↓o_move, ↓o_assign, ↓f_move, ↓f_assign, ↓o_pick, ↓f_pick, ↓p_true, ↓p_false, ↓o_add, ↓o_sub, ↓o_mul, ↓o_quo, ↓o_rem, ↓o_shl, ↓o_shr, ↓o_lss, ↓o_leq, ↓o_gtr, ↓o_geq, ↓o_eql, ↓o_neq, ↓f_add, ↓f_sub, ↓f_mul, ↓f_quo, ↓f_rem, ↓f_lss, ↓f_leq, ↓f_gtr, ↓f_geq, ↓f_eql, ↓f_neq, ↓eq_int, ↓eq_bool, ↓eq_string, ↓eq_p0, ↓eq_pp, ↓eq_agg, ↓eq_slice, ↓eq_map, ↓b_add, ↓b_sub, ↓b_mul, ↓b_quo, ↓b_rem, ↓b_shl, ↓b_shr, ↓b_eql, ↓b_neq, ↓b_lss, ↓b_leq, ↓b_gtr, ↓b_geq, ↓b_sadd, ↓b_seql, ↓b_sneq, ↓o_extract, ↓f_extract, ↓e2_0, ↓e2_1, ↓e3_0, ↓e3_1, ↓e3_2, ↓o_not, ↓f_not, ↓n_bool, ↓o_cal, ↓o_convert, ↓f_convert, ↓cv_int, ↓cv2_int, ↓cv2_string, ↓cv_string, ↓cv_slice, ↓sh, ↓sh_int, ↓sh_bool, ↓sh_string, ↓sh_pointer, ↓sh_slice, ↓sh_array, ↓sh_map, ↓sh_struct, ↓sh_func, ↓sh_interface, ↓sh_tuple, ↓sh_invalid, ↓sh_none, ↓m_some, val, upd_apply, i_zero, i_succ, i_nil, Nat.reduceEqDiff, if_true, if_false, reduceIte, List.toList_toArray, List.map_toArray, List.map_cons, List.map_nil, Option.bind_some, Option.bind_none, List.getElem?_toArray, List.getElem?_cons_zero, List.getElem?_cons_succ, decide_true, decide_false, decide_not, Bool.not_true, Bool.not_false, ne_eq, not_true_eq_false, not_false_eq_true, true_and, and_true, false_and, and_false, implies_true, false_implies, forall_const, reduceCtorEq, Int.reduceEq, Int.reduceNeg, Int.reduceLE, Int.reduceLT, Int.toNat_one, true_implies, Bool.true_eq_false, Bool.false_eq_true, decide_eq_true_eq, decide_eq_false_iff_not, go, mk, ch, pr_l, pr_r, ↓o_load, ↓f_load, cr_load, ld, ld_one, ld_agg, ↓o_box, ↓o_alloc, ↓f_box, ↓f_alloc, ↓o_makeMap, ↓o_store, ↓o_fieldAddr, ↓f_fieldAddr, fa, add_mk, St.at_put, St.at_new, St.next_new, St.next_put, okPart, Value.cells, cut, List.length_cons, List.length_nil, Nat.reduceAdd, Nat.reduceLeDiff, List.drop_zero, List.drop_succ_cons, List.take_succ_cons, List.take_zero, List.take_nil, Option.map_some, Option.map_none, Nat.zero_add, Nat.left_eq_add, Nat.add_eq_left, Nat.right_eq_add, Nat.add_right_cancel_iff, Nat.add_left_cancel_iff, Nat.add_assoc, Nat.succ_ne_self, Nat.one_ne_zero, ↓o_len, len_slice, len_string, lenM_slice, lenM_string, ↓o_nilCheck, ↓f_nilCheck, nil_p, ↓o_index, ↓f_index, ix_str, ↓o_calv, ↓calv, ↓o_makeFunc, ↓f_makeFunc, ↓o_neg, ↓f_neg, ↓neg_int, ↓o_slice, ↓f_slice, ↓bs_go, bs_at, bs_nil, ↓o_row, ↓f_row, ↓o_build, ↓f_build, lk_map, lk_nil, lk2, lkn, lk3_hit, lk3_hit', lk3_miss, lk3_miss', ↓o_lookup, ↓f_lookup, cr_lookup, ms_map, ms2, ms3_hit, ms3_miss, ↓o_mapUpdate, ↓o_insert, more_at, more_nil, more2, ↓o_append, ↓o_indexAddr, ↓f_indexAddr, ix_slice, ix_array, ixb, cstore_eq, cstoreCells_eq, cst, cr_slice3, List.append_nil, List.nil_append, Array.empty_append, Array.append_empty, List.append_toArray, List.cons_append, St.at_kill, St.next_kill, ba_empty, Option.isSome_some, Option.isSome_none, List.size_toArray, List.all_cons, List.all_nil, okCell, Bool.and_self, Bool.and_true, Bool.true_and, Int.toNat_natCast, Nat.mul_one, Nat.mul_zero, Nat.zero_mul, setCells_one, Int.reduceToNat, Nat.reduceMul, and_self, List.contains_cons, List.contains_nil, Nat.reduceBEq, Bool.or_true, Bool.true_or, Bool.or_false, Bool.false_or, beq_self_eq_true, List.filter_cons, List.filter_nil, underlying3, underlying4, underlying9, underlying5, underlying44, underlying0, underlying45, underlying47]
  refine c2_split (fun h1 => ?_) (fun h1 => ?_)
  all_goals
    repeat' (first
      | exact h _
      | refine works01_spec ?_ | refine read_spec hx fun _ _ => ?_ | refine rread_spec hx ?_ | refine digits_spec hn fun _ _ => ?_ | refine rDigits_spec hn fun _ _ => ?_
      | simp -implicitDefEqProofs only [↓w_skip, ↓w_region, ↓w_regionD, ↓w_seq, ↓w_cond, ↓w_block, ↓w_loop, ↓w_scope, ↓w_exit, ↓w_label, ↓w_goto, ↓w_ret, ↓w_nil, ↓w_cons, d_in, ↓d_nil, ↓d_cons, ↓d2_act, ↓d2_pass, ↓st_nil, ↓st_none, ↓st_some, ↓st2_true, ↓st2_false, ↓t_normal, ↓t_ret, ↓t_exit, ↓t_goto, ↓bl_normal, ↓bl_ret, ↓bl_goto, ↓bl_exit, ↓bl2_true, ↓bl2_false, ↓bo_normal, ↓bo_ret, ↓r_ret, ↓r_one, ↓r_none, ↓r_more, rs_nil, rs_cons, rs2, rs_tmp, rs_cell, rs_cell2, ev_tmp, ev_const, ev_func, put_some, put_none, or_hit, or_miss, ↓g_none, ↓g_some, ↓g2_some, ↓g2_none, ↓g3_tt, ↓g3_ff, ↓g3_tf, ↓g3_ft, ↓g3_undef, ↓c_tmp, ↓c_true, ↓c_false, ↓c2_true, ↓c2_false, ↓o_move, ↓o_assign, ↓f_move, ↓f_assign, ↓o_pick, ↓f_pick, ↓p_true, ↓p_false, ↓o_add, ↓o_sub, ↓o_mul, ↓o_quo, ↓o_rem, ↓o_shl, ↓o_shr, ↓o_lss, ↓o_leq, ↓o_gtr, ↓o_geq, ↓o_eql, ↓o_neq, ↓f_add, ↓f_sub, ↓f_mul, ↓f_quo, ↓f_rem, ↓f_lss, ↓f_leq, ↓f_gtr, ↓f_geq, ↓f_eql, ↓f_neq, ↓eq_int, ↓eq_bool, ↓eq_string, ↓eq_p0, ↓eq_pp, ↓eq_agg, ↓eq_slice, ↓eq_map, ↓b_add, ↓b_sub, ↓b_mul, ↓b_quo, ↓b_rem, ↓b_shl, ↓b_shr, ↓b_eql, ↓b_neq, ↓b_lss, ↓b_leq, ↓b_gtr, ↓b_geq, ↓b_sadd, ↓b_seql, ↓b_sneq, ↓o_extract, ↓f_extract, ↓e2_0, ↓e2_1, ↓e3_0, ↓e3_1, ↓e3_2, ↓o_not, ↓f_not, ↓n_bool, ↓o_cal, ↓o_convert, ↓f_convert, ↓cv_int, ↓cv2_int, ↓cv2_string, ↓cv_string, ↓cv_slice, ↓sh, ↓sh_int, ↓sh_bool, ↓sh_string, ↓sh_pointer, ↓sh_slice, ↓sh_array, ↓sh_map, ↓sh_struct, ↓sh_func, ↓sh_interface, ↓sh_tuple, ↓sh_invalid, ↓sh_none, ↓m_some, val, upd_apply, i_zero, i_succ, i_nil, Nat.reduceEqDiff, if_true, if_false, reduceIte, List.toList_toArray, List.map_toArray, List.map_cons, List.map_nil, Option.bind_some, Option.bind_none, List.getElem?_toArray, List.getElem?_cons_zero, List.getElem?_cons_succ, decide_true, decide_false, decide_not, Bool.not_true, Bool.not_false, ne_eq, not_true_eq_false, not_false_eq_true, true_and, and_true, false_and, and_false, implies_true, false_implies, forall_const, reduceCtorEq, Int.reduceEq, Int.reduceNeg, Int.reduceLE, Int.reduceLT, Int.toNat_one, true_implies, Bool.true_eq_false, Bool.false_eq_true, decide_eq_true_eq, decide_eq_false_iff_not, go, mk, ch, pr_l, pr_r, ↓o_load, ↓f_load, cr_load, ld, ld_one, ld_agg, ↓o_box, ↓o_alloc, ↓f_box, ↓f_alloc, ↓o_makeMap, ↓o_store, ↓o_fieldAddr, ↓f_fieldAddr, fa, add_mk, St.at_put, St.at_new, St.next_new, St.next_put, okPart, Value.cells, cut, List.length_cons, List.length_nil, Nat.reduceAdd, Nat.reduceLeDiff, List.drop_zero, List.drop_succ_cons, List.take_succ_cons, List.take_zero, List.take_nil, Option.map_some, Option.map_none, Nat.zero_add, Nat.left_eq_add, Nat.add_eq_left, Nat.right_eq_add, Nat.add_right_cancel_iff, Nat.add_left_cancel_iff, Nat.add_assoc, Nat.succ_ne_self, Nat.one_ne_zero, ↓o_len, len_slice, len_string, lenM_slice, lenM_string, ↓o_nilCheck, ↓f_nilCheck, nil_p, ↓o_index, ↓f_index, ix_str, ↓o_calv, ↓calv, ↓o_makeFunc, ↓f_makeFunc, ↓o_neg, ↓f_neg, ↓neg_int, ↓o_slice, ↓f_slice, ↓bs_go, bs_at, bs_nil, ↓o_row, ↓f_row, ↓o_build, ↓f_build, lk_map, lk_nil, lk2, lkn, lk3_hit, lk3_hit', lk3_miss, lk3_miss', ↓o_lookup, ↓f_lookup, cr_lookup, ms_map, ms2, ms3_hit, ms3_miss, ↓o_mapUpdate, ↓o_insert, more_at, more_nil, more2, ↓o_append, ↓o_indexAddr, ↓f_indexAddr, ix_slice, ix_array, ixb, cstore_eq, cstoreCells_eq, cst, cr_slice3, List.append_nil, List.nil_append, Array.empty_append, Array.append_empty, List.append_toArray, List.cons_append, St.at_kill, St.next_kill, ba_empty, Option.isSome_some, Option.isSome_none, List.size_toArray, List.all_cons, List.all_nil, okCell, Bool.and_self, Bool.and_true, Bool.true_and, Int.toNat_natCast, Nat.mul_one, Nat.mul_zero, Nat.zero_mul, setCells_one, Int.reduceToNat, Nat.reduceMul, and_self, List.contains_cons, List.contains_nil, Nat.reduceBEq, Bool.or_true, Bool.true_or, Bool.or_false, Bool.false_or, beq_self_eq_true, List.filter_cons, List.filter_nil, underlying3, underlying4, underlying9, underlying5, underlying44, underlying0, underlying45, underlying47, co26, co27, co28, co29, co25])

set_option maxHeartbeats 2000000 in
theorem numBack_spec {n : Int} (hn : -9223372036854775808 ≤ n ∧ n ≤ 9223372036854775807) (h : ∀ s', R (.bool true) s') : CCalls Try.prog w0 8 #[.int .i64 n] s R := by
  refine wfun2 hmix ok8 (l := [.int .i64 n]) func8 rfl ntmps8 results8 (by simp) ?_
  have hr := readV_dig hn
  have hx : (digS n).size ≤ 9223372036854775807 := by
    show (digL n).length ≤ _
    have := decL_len_pow 19 n.natAbs (by omega)
    unfold digL
    split
    · simp; omega
    · omega
  by_cases h0 : n < 0
  all_goals by_cases h1 : 4611686018427387903 < n
  all_goals
    simp only [h0, h1, if_true, if_false] at hr
    repeat' (first
      | exact h _
      | refine works01_spec ?_ | refine read_spec hx fun _ _ => ?_ | refine digits_spec hn fun _ _ => ?_
      | simp -implicitDefEqProofs only [↓w_skip, ↓w_region, ↓w_regionD, ↓w_seq, ↓w_cond, ↓w_block, ↓w_loop, ↓w_scope, ↓w_exit, ↓w_label, ↓w_goto, ↓w_ret, ↓w_nil, ↓w_cons, d_in, ↓d_nil, ↓d_cons, ↓d2_act, ↓d2_pass, ↓st_nil, ↓st_none, ↓st_some, ↓st2_true, ↓st2_false, ↓t_normal, ↓t_ret, ↓t_exit, ↓t_goto, ↓bl_normal, ↓bl_ret, ↓bl_goto, ↓bl_exit, ↓bl2_true, ↓bl2_false, ↓bo_normal, ↓bo_ret, ↓r_ret, ↓r_one, ↓r_none, ↓r_more, rs_nil, rs_cons, rs2, rs_tmp, rs_cell, rs_cell2, ev_tmp, ev_const, ev_func, put_some, put_none, or_hit, or_miss, ↓g_none, ↓g_some, ↓g2_some, ↓g2_none, ↓g3_tt, ↓g3_ff, ↓g3_tf, ↓g3_ft, ↓g3_undef, ↓c_tmp, ↓c_true, ↓c_false, ↓c2_true, ↓c2_false, ↓o_move, ↓o_assign, ↓f_move, ↓f_assign, ↓o_pick, ↓f_pick, ↓p_true, ↓p_false, ↓o_add, ↓o_sub, ↓o_mul, ↓o_quo, ↓o_rem, ↓o_shl, ↓o_shr, ↓o_lss, ↓o_leq, ↓o_gtr, ↓o_geq, ↓o_eql, ↓o_neq, ↓f_add, ↓f_sub, ↓f_mul, ↓f_quo, ↓f_rem, ↓f_lss, ↓f_leq, ↓f_gtr, ↓f_geq, ↓f_eql, ↓f_neq, ↓eq_int, ↓eq_bool, ↓eq_string, ↓eq_p0, ↓eq_pp, ↓eq_agg, ↓eq_slice, ↓eq_map, ↓b_add, ↓b_sub, ↓b_mul, ↓b_quo, ↓b_rem, ↓b_shl, ↓b_shr, ↓b_eql, ↓b_neq, ↓b_lss, ↓b_leq, ↓b_gtr, ↓b_geq, ↓b_sadd, ↓b_seql, ↓b_sneq, ↓o_extract, ↓f_extract, ↓e2_0, ↓e2_1, ↓e3_0, ↓e3_1, ↓e3_2, ↓o_not, ↓f_not, ↓n_bool, ↓o_cal, ↓o_convert, ↓f_convert, ↓cv_int, ↓cv2_int, ↓cv2_string, ↓cv_string, ↓cv_slice, ↓sh, ↓sh_int, ↓sh_bool, ↓sh_string, ↓sh_pointer, ↓sh_slice, ↓sh_array, ↓sh_map, ↓sh_struct, ↓sh_func, ↓sh_interface, ↓sh_tuple, ↓sh_invalid, ↓sh_none, ↓m_some, val, upd_apply, i_zero, i_succ, i_nil, Nat.reduceEqDiff, if_true, if_false, reduceIte, List.toList_toArray, List.map_toArray, List.map_cons, List.map_nil, Option.bind_some, Option.bind_none, List.getElem?_toArray, List.getElem?_cons_zero, List.getElem?_cons_succ, decide_true, decide_false, decide_not, Bool.not_true, Bool.not_false, ne_eq, not_true_eq_false, not_false_eq_true, true_and, and_true, false_and, and_false, implies_true, false_implies, forall_const, reduceCtorEq, Int.reduceEq, Int.reduceNeg, Int.reduceLE, Int.reduceLT, Int.toNat_one, true_implies, Bool.true_eq_false, Bool.false_eq_true, decide_eq_true_eq, decide_eq_false_iff_not, go, mk, ch, pr_l, pr_r, ↓o_load, ↓f_load, cr_load, ld, ld_one, ld_agg, ↓o_box, ↓o_alloc, ↓f_box, ↓f_alloc, ↓o_makeMap, ↓o_store, ↓o_fieldAddr, ↓f_fieldAddr, fa, add_mk, St.at_put, St.at_new, St.next_new, St.next_put, okPart, Value.cells, cut, List.length_cons, List.length_nil, Nat.reduceAdd, Nat.reduceLeDiff, List.drop_zero, List.drop_succ_cons, List.take_succ_cons, List.take_zero, List.take_nil, Option.map_some, Option.map_none, Nat.zero_add, Nat.left_eq_add, Nat.add_eq_left, Nat.right_eq_add, Nat.add_right_cancel_iff, Nat.add_left_cancel_iff, Nat.add_assoc, Nat.succ_ne_self, Nat.one_ne_zero, ↓o_len, len_slice, len_string, lenM_slice, lenM_string, ↓o_nilCheck, ↓f_nilCheck, nil_p, ↓o_index, ↓f_index, ix_str, ↓o_calv, ↓calv, ↓o_makeFunc, ↓f_makeFunc, ↓o_neg, ↓f_neg, ↓neg_int, ↓o_slice, ↓f_slice, ↓bs_go, bs_at, bs_nil, ↓o_row, ↓f_row, ↓o_build, ↓f_build, lk_map, lk_nil, lk2, lkn, lk3_hit, lk3_hit', lk3_miss, lk3_miss', ↓o_lookup, ↓f_lookup, cr_lookup, ms_map, ms2, ms3_hit, ms3_miss, ↓o_mapUpdate, ↓o_insert, more_at, more_nil, more2, ↓o_append, ↓o_indexAddr, ↓f_indexAddr, ix_slice, ix_array, ixb, cstore_eq, cstoreCells_eq, cst, cr_slice3, List.append_nil, List.nil_append, Array.empty_append, Array.append_empty, List.append_toArray, List.cons_append, St.at_kill, St.next_kill, ba_empty, Option.isSome_some, Option.isSome_none, List.size_toArray, List.all_cons, List.all_nil, okCell, Bool.and_self, Bool.and_true, Bool.true_and, Int.toNat_natCast, Nat.mul_one, Nat.mul_zero, Nat.zero_mul, setCells_one, Int.reduceToNat, Nat.reduceMul, and_self, List.contains_cons, List.contains_nil, Nat.reduceBEq, Bool.or_true, Bool.true_or, Bool.or_false, Bool.false_or, beq_self_eq_true, List.filter_cons, List.filter_nil, underlying3, underlying4, underlying9, underlying5, underlying44, underlying0, underlying45, underlying47, co26, co28, co25, h0, h1, hr])
end

theorem numTexts_walk {n : Int} (hn : -9223372036854775808 ≤ n ∧ n ≤ 9223372036854775807) {x : ByteArray} (hx : x.size ≤ maxLen) (w : World) : Calls Try.prog 7 #[.int .i64 n, .string x] w fun e w' => e = .returned (.bool true) ∧ Below w.heap.size w w' :=
  calls_plain rfl (numTexts_spec hn (by unfold maxLen at hx; omega) fun _ => rfl)
theorem numBack_walk {n : Int} (hn : -9223372036854775808 ≤ n ∧ n ≤ 9223372036854775807) (w : World) : Calls Try.prog 8 #[.int .i64 n] w fun e w' => e = .returned (.bool true) ∧ Below w.heap.size w w' :=
  calls_plain rfl (numBack_spec hn fun _ => rfl)
end Go.Proofs.Try
