/- ArithTells, ArithBack: the laws' own code tells true. -/
import Derived.Test.YtpdpjimopfadfaaDiv
namespace Go.Proofs.Ytpdpjimopfadfaa.Ev
open Go
set_option linter.unusedSimpArgs false
set_option maxRecDepth 10000
set_option maxHeartbeats 4000000
theorem tells_run {a b : Int} (ha : fits a) (hb : fits b) (m : Mem) : run T 5 [.int .i64 a, .int .i64 b] m = some (.ret (.bool true) m) := by
  rw [run_go' at5 (by simp [F5])]
  simp +contextual -implicitDefEqProofs (maxSteps := 1000000) only [F5, add_run ha hb, radd_run ha hb, sub_run ha hb, rsub_run ha hb, mul_run ha hb, rmul_run ha hb, neg_run ha, rneg_run ha, div_run ha, rdiv_run ha hb, mod_run, rmod_run ha hb, run_true at6, told2, quo2, rem2, List.getElem?_cons_zero, List.getElem?_cons_succ, argsF, fr00_get, fr00_defers, put_some, put_none, set_defers, eval_tmp, eval_const, reduceIte, reduceCtorEq, Nat.reduceEqDiff, Nat.reduceBEq, Nat.reduceAdd, ofEV_some, ofEM_some, ofM_some, thenV_some, thenC_ret, thenE_norm, thenE_ret, thenE_exit, leave_norm, leave_ret, leave_same, leave_other, resR_ret, resR_norm, resR_pan, eq_self, res_nil, res_tmp, one_one, one_two, one_nil, bin_add, bin_sub, bin_mul, bin_quo, bin_rem, bin_and, bin_or, bin_xor, bin_andNot, bin_lss, bin_leq, bin_gtr, bin_geq, bin_shl_i64, bin_shr_i64, bin_shl_u64, bin_shr_u64, eq_int, un_neg, cv_int, exec_seq, exec_region, exec_skip, exec_ret, exec_exit, exec_block, exec_cond', oprs_nil, oprs_val, oprs_call, Option.map_some, Option.map_none, List.map_cons, List.map_nil, Int.reduceLT, Int.reduceLE, Int.reduceEq, Int.reduceToNat, Int.reduceNeg, Nat.reduceLeDiff, Int.reducePow, bo_decide, bo_not_decide, bo_tt, bo_ff, gv_true, gv_false, cE_bo, thenG_val, thenH_ret, gV_undef, gV_bo_t, gV_bo_f, gV_gv_t, gV_gv_f, gC_undef, gC_bo_t, gC_bo_f, gC_gv_t, gC_gv_f, oprs_gval, oprs_gcall, evOp_pick', pick_and, pick_or, pick_and0, pick_or0, pick_t, pick_f, un_not_bo, eq_boo, eq_str, thenE_iF, leave_iF, thenV_iF, thenC_iF, resR_iF, not_true_eq_false, not_false_eq_true, and_true, true_and, and_false, false_and, or_true, true_or, or_false, false_or, Classical.not_not, Bool.false_bne, Bool.true_bne, Bool.false_xor, Bool.true_xor, evOp_mov, evOp_alloc, evOp_box, evOp_build, evOp_bslice, evOp_load, evOp_store, evOp_nilck, evOp_bin, evOp_eq, evOp_un, evOp_conv, evOp_iface, evOp_mkfn, evOp_mkmap, evOp_mkslice, evOp_slstr, evOp_slsl, evOp_slarr, evOp_faddr, evOp_fld, evOp_iaddr, evOp_iaddrArr, evOp_idxstr, evOp_idxagg, evOp_lookup, evOp_mapupd, evOp_delete, evOp_lenmap, evOp_tassert, evOp_extract, evOp_lenstr, evOp_len, evOp_lenarr, evOp_cap, evOp_max, evOp_min, evOp_append, evOp_copy, cE_t, cE_f, gV_tt, gV_tf, gV_ft, gV_ff, gV_gt_t, gV_gt_f, gV_gf_t, gV_gf_f, gC_tt, gC_tf, gC_ft, gC_ff, gC_gt_t, gC_gt_f, gC_gf_t, gC_gf_f, pick_and_t, pick_and_f, pick_or_t, pick_or_f, eq_bo_t, eq_bo_f, eq_t_bo, eq_f_bo, eq_tt, eq_ff, eq_tf, eq_ft, un_not_t, un_not_f, selE_t, selE_f, get_set', decide_true, decide_false, Bool.not_true, Bool.not_false, cond_true, cond_false ]
def qu (a b : Int) : Int := if whole a b then a.tdiv b else 0
def re (a b : Int) : Int := if whole a b then a.tmod b else 0
theorem qu_fits {a b : Int} (ha : fits a) : fits (qu a b) := by
  unfold qu; split
  · exact tdiv_fits ha ‹_›
  · decide
theorem re_fits {a b : Int} (ha : fits a) : fits (re a b) := by
  unfold re; split
  · have h2 : (a.tmod b).natAbs ≤ a.natAbs := by rw [Int.natAbs_tmod]; exact Nat.mod_le _ _
    have h3 : a < 0 → a.tmod b ≤ 0 := fun h => by
      have := Int.tmod_nonneg (a := - a) b (by omega)
      rw [Int.neg_tmod] at this; omega
    unfold fits at *; omega
  · decide
theorem div_run' {a b : Int} (ha : fits a) (m : Mem) : run T 10 [.int .i64 a, .int .i64 b] m = some (.ret (.tuple [.int .i64 (qu a b), bo (whole a b)]) m) := div_run ha m
theorem mod_run' {a b : Int} (m : Mem) : run T 11 [.int .i64 a, .int .i64 b] m = some (.ret (.tuple [.int .i64 (re a b), bo (whole a b)]) m) := mod_run m
theorem wrap_is {n : Int} (h : fits n) : IntKind.i64.wrap n = n := wrap_i64 h.1 h.2
theorem qu_re {a b : Int} (h : whole a b) : b * qu a b + re a b = a := by unfold qu re; rw [if_pos h, if_pos h, Int.mul_tdiv_add_tmod]
theorem bqu_fits {a b : Int} (ha : fits a) (h : whole a b) : fits (b * qu a b) := by
  have h2 : (a.tmod b).natAbs ≤ a.natAbs := by rw [Int.natAbs_tmod]; exact Nat.mod_le _ _
  have h3 : a < 0 → a.tmod b ≤ 0 := fun h => by
    have := Int.tmod_nonneg (a := - a) b (by omega)
    rw [Int.neg_tmod] at this; omega
  have h4 : 0 ≤ a → 0 ≤ a.tmod b := fun h => Int.tmod_nonneg b h
  have h5 := qu_re h
  have e : re a b = a.tmod b := if_pos h
  rw [e] at h5
  unfold fits at *; omega
theorem qu_not {a b : Int} (h : ¬ whole a b) : qu a b = 0 := if_neg h
theorem re_not {a b : Int} (h : ¬ whole a b) : re a b = 0 := if_neg h
theorem ret_true {p : Prop} {m : Mem} (h : p) : some (Fin.ret (bo p) m) = some (Fin.ret (.bool true) m) := by rw [bo_pos h]
theorem re_near {a b : Int} (hb : fits b) (h : whole a b) : (re a b = 0 ∨ (re a b < 0) = (a < 0)) ∧ ((0 < b ∧ re a b < b) ∧ IntKind.i64.wrap (0 - b) < re a b ∨ (b < 0 ∧ b < re a b) ∧ (b = -9223372036854775808 ∨ re a b < IntKind.i64.wrap (0 - b))) := by
  have e : re a b = a.tmod b := if_pos h
  have h0 : b ≠ 0 := h.1
  have h2 : (a.tmod b).natAbs < b.natAbs := by rw [Int.natAbs_tmod]; exact Nat.mod_lt _ (by omega)
  have h3 : a < 0 → a.tmod b ≤ 0 := fun h => by
    have := Int.tmod_nonneg (a := - a) b (by omega)
    rw [Int.neg_tmod] at this; omega
  have h4 : 0 ≤ a → 0 ≤ a.tmod b := fun h => Int.tmod_nonneg b h
  rw [e]
  generalize a.tmod b = r at *
  unfold fits at hb
  constructor
  · by_cases hr : r = 0
    · exact .inl hr
    · refine .inr (propext ?_); omega
  · by_cases hb0 : 0 < b
    · refine .inl ⟨⟨hb0, by omega⟩, ?_⟩
      rw [wrap_i64 (by omega) (by omega)]; omega
    · refine .inr ⟨⟨by omega, by omega⟩, ?_⟩
      by_cases hm : b = -9223372036854775808
      · exact .inl hm
      · exact .inr (by rw [wrap_i64 (by omega) (by omega)]; omega)
theorem back_run {a b : Int} (ha : fits a) (hb : fits b) (m : Mem) : run T 3 [.int .i64 a, .int .i64 b] m = some (.ret (.bool true) m) := by
  rw [run_go' at3 (by simp [F3])]
  have hq := qu_fits (b := b) ha
  have hr := re_fits (b := b) ha
  have hd : ¬ a = 0 → (a * b).tdiv a = b := fun h => Int.mul_tdiv_cancel_left _ h
  have hs : fits (a + b) → run T 8 [.int .i64 (a + b), .int .i64 b] m = some (.ret (told2 (a + b - b)) m) := fun h => sub_run h hb m
  by_cases h3 : whole a b
  · have hbq := bqu_fits ha h3
    have hqr := qu_re h3
    by_cases h1 : fits (a + b) <;> by_cases h2 : fits (a * b)
    all_goals
      simp +contextual -implicitDefEqProofs (maxSteps := 1000000) only [F3, h1, h2, h3, ha, hb, hq, hr, hs, hbq, hqr, hd, clip_is, wrap_is, Int.add_sub_cancel, add_run ha hb, mul_run ha hb, div_run' ha, mod_run', mul_run hb hq, add_run hbq hr, run_true at6, told2, List.getElem?_cons_zero, List.getElem?_cons_succ, argsF, fr00_get, fr00_defers, put_some, put_none, set_defers, eval_tmp, eval_const, reduceIte, reduceCtorEq, Nat.reduceEqDiff, Nat.reduceBEq, Nat.reduceAdd, ofEV_some, ofEM_some, ofM_some, thenV_some, thenC_ret, thenE_norm, thenE_ret, thenE_exit, leave_norm, leave_ret, leave_same, leave_other, resR_ret, resR_norm, resR_pan, eq_self, res_nil, res_tmp, one_one, one_two, one_nil, bin_add, bin_sub, bin_mul, bin_quo, bin_rem, bin_and, bin_or, bin_xor, bin_andNot, bin_lss, bin_leq, bin_gtr, bin_geq, bin_shl_i64, bin_shr_i64, bin_shl_u64, bin_shr_u64, eq_int, un_neg, cv_int, exec_seq, exec_region, exec_skip, exec_ret, exec_exit, exec_block, exec_cond', oprs_nil, oprs_val, oprs_call, Option.map_some, Option.map_none, List.map_cons, List.map_nil, Int.reduceLT, Int.reduceLE, Int.reduceEq, Int.reduceToNat, Int.reduceNeg, Nat.reduceLeDiff, Int.reducePow, bo_decide, bo_not_decide, bo_tt, bo_ff, gv_true, gv_false, cE_bo, thenG_val, thenH_ret, gV_undef, gV_bo_t, gV_bo_f, gV_gv_t, gV_gv_f, gC_undef, gC_bo_t, gC_bo_f, gC_gv_t, gC_gv_f, oprs_gval, oprs_gcall, evOp_pick', pick_and, pick_or, pick_and0, pick_or0, pick_t, pick_f, un_not_bo, eq_boo, eq_str, thenE_iF, leave_iF, thenV_iF, thenC_iF, resR_iF, not_true_eq_false, not_false_eq_true, and_true, true_and, and_false, false_and, or_true, true_or, or_false, false_or, Classical.not_not, Bool.false_bne, Bool.true_bne, Bool.false_xor, Bool.true_xor, evOp_mov, evOp_alloc, evOp_box, evOp_build, evOp_bslice, evOp_load, evOp_store, evOp_nilck, evOp_bin, evOp_eq, evOp_un, evOp_conv, evOp_iface, evOp_mkfn, evOp_mkmap, evOp_mkslice, evOp_slstr, evOp_slsl, evOp_slarr, evOp_faddr, evOp_fld, evOp_iaddr, evOp_iaddrArr, evOp_idxstr, evOp_idxagg, evOp_lookup, evOp_mapupd, evOp_delete, evOp_lenmap, evOp_tassert, evOp_extract, evOp_lenstr, evOp_len, evOp_lenarr, evOp_cap, evOp_max, evOp_min, evOp_append, evOp_copy, cE_t, cE_f, gV_tt, gV_tf, gV_ft, gV_ff, gV_gt_t, gV_gt_f, gV_gf_t, gV_gf_f, gC_tt, gC_tf, gC_ft, gC_ff, gC_gt_t, gC_gt_f, gC_gf_t, gC_gf_f, pick_and_t, pick_and_f, pick_or_t, pick_or_f, eq_bo_t, eq_bo_f, eq_t_bo, eq_f_bo, eq_tt, eq_ff, eq_tf, eq_ft, un_not_t, un_not_f, selE_t, selE_f, get_set', decide_true, decide_false, Bool.not_true, Bool.not_false, cond_true, cond_false ]
    all_goals
      exact ret_true (re_near hb h3)
  · have hq0 := qu_not h3
    have hr0 := re_not h3
    by_cases h1 : fits (a + b) <;> by_cases h2 : fits (a * b)
    all_goals
      simp +contextual -implicitDefEqProofs (maxSteps := 1000000) only [F3, h1, h2, h3, ha, hb, hq0, hr0, hs, hd, clip_is, wrap_is, Int.add_sub_cancel, add_run ha hb, mul_run ha hb, div_run' ha, mod_run', run_true at6, told2, List.getElem?_cons_zero, List.getElem?_cons_succ, argsF, fr00_get, fr00_defers, put_some, put_none, set_defers, eval_tmp, eval_const, reduceIte, reduceCtorEq, Nat.reduceEqDiff, Nat.reduceBEq, Nat.reduceAdd, ofEV_some, ofEM_some, ofM_some, thenV_some, thenC_ret, thenE_norm, thenE_ret, thenE_exit, leave_norm, leave_ret, leave_same, leave_other, resR_ret, resR_norm, resR_pan, eq_self, res_nil, res_tmp, one_one, one_two, one_nil, bin_add, bin_sub, bin_mul, bin_quo, bin_rem, bin_and, bin_or, bin_xor, bin_andNot, bin_lss, bin_leq, bin_gtr, bin_geq, bin_shl_i64, bin_shr_i64, bin_shl_u64, bin_shr_u64, eq_int, un_neg, cv_int, exec_seq, exec_region, exec_skip, exec_ret, exec_exit, exec_block, exec_cond', oprs_nil, oprs_val, oprs_call, Option.map_some, Option.map_none, List.map_cons, List.map_nil, Int.reduceLT, Int.reduceLE, Int.reduceEq, Int.reduceToNat, Int.reduceNeg, Nat.reduceLeDiff, Int.reducePow, bo_decide, bo_not_decide, bo_tt, bo_ff, gv_true, gv_false, cE_bo, thenG_val, thenH_ret, gV_undef, gV_bo_t, gV_bo_f, gV_gv_t, gV_gv_f, gC_undef, gC_bo_t, gC_bo_f, gC_gv_t, gC_gv_f, oprs_gval, oprs_gcall, evOp_pick', pick_and, pick_or, pick_and0, pick_or0, pick_t, pick_f, un_not_bo, eq_boo, eq_str, thenE_iF, leave_iF, thenV_iF, thenC_iF, resR_iF, not_true_eq_false, not_false_eq_true, and_true, true_and, and_false, false_and, or_true, true_or, or_false, false_or, Classical.not_not, Bool.false_bne, Bool.true_bne, Bool.false_xor, Bool.true_xor, evOp_mov, evOp_alloc, evOp_box, evOp_build, evOp_bslice, evOp_load, evOp_store, evOp_nilck, evOp_bin, evOp_eq, evOp_un, evOp_conv, evOp_iface, evOp_mkfn, evOp_mkmap, evOp_mkslice, evOp_slstr, evOp_slsl, evOp_slarr, evOp_faddr, evOp_fld, evOp_iaddr, evOp_iaddrArr, evOp_idxstr, evOp_idxagg, evOp_lookup, evOp_mapupd, evOp_delete, evOp_lenmap, evOp_tassert, evOp_extract, evOp_lenstr, evOp_len, evOp_lenarr, evOp_cap, evOp_max, evOp_min, evOp_append, evOp_copy, cE_t, cE_f, gV_tt, gV_tf, gV_ft, gV_ff, gV_gt_t, gV_gt_f, gV_gf_t, gV_gf_f, gC_tt, gC_tf, gC_ft, gC_ff, gC_gt_t, gC_gt_f, gC_gf_t, gC_gf_f, pick_and_t, pick_and_f, pick_or_t, pick_or_f, eq_bo_t, eq_bo_f, eq_t_bo, eq_f_bo, eq_tt, eq_ff, eq_tf, eq_ft, un_not_t, un_not_f, selE_t, selE_f, get_set', decide_true, decide_false, Bool.not_true, Bool.not_false, cond_true, cond_false ]
    all_goals
      refine ret_true ?_
      unfold whole at h3; omega
end Go.Proofs.Ytpdpjimopfadfaa.Ev
