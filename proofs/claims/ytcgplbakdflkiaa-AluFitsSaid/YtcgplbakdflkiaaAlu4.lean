/- Values: what two of them come to, by the document. -/
import Derived.Test.YtcgplbakdflkiaaEvH3
namespace Go.Proofs.Ytcgplbakdflkiaa.Ev
open Go
set_option linter.unusedSimpArgs false
set_option maxRecDepth 10000
set_option maxHeartbeats 4000000
theorem ints3 {op a b : Int} (ha : fits a) (hb : fits b) {m : Mem} : run L3 23 [.int .i64 op, .int .i64 a, .int .i64 b] m = some (.ret (ints op a b) m) := look (ints_L2 ha hb m) flat_ints
theorem rright3 {k n : Int} {m : Mem} : run L3 15 [vv k n] m = some (.ret (bo (right k n)) m) := by rw [same_look (T := L2)]; exact rright2
theorem rbool3 {p : Prop} {m : Mem} : run L3 12 [bo p] m = some (.ret (tr p) m) := by rw [same_look (T := L2)]; exact rbool2
theorem ints_shape (op a b : Int) : ∃ x y z p, ints op a b = .tuple [.agg [.int .i64 x, .int .i64 y], .int .i64 z, bo p] := by
  unfold ints
  split
  · exact ⟨2, ind (stand op a b), 0, True, by rw [bo_tt]; rfl⟩
  · split
    · rw [orT_eq]; exact ⟨_, _, _, True, by rw [bo_tt]⟩
    · exact ⟨0, 0, 0, False, by rw [bo_ff]; rfl⟩
theorem two_ints {op n n' : Int} (h3 : ¬ op = 3) (h4 : ¬ op = 4) : two op 1 n 1 n' = ints op n n' := by
  rw [two_is (by simp [right_one]), if_neg h3, if_neg h4, if_neg (by simp)]
  rfl
theorem rtwo_L3 {op k n k' n' : Int} (h : fits n) (h' : fits n') (m : Mem) : Tells m (run L3 16 [.int .i64 op, vv k n, vv k' n'] m) (two op k n k' n') := by
  have r := @rright3
  unfold vv at r
  have hi := fun m => ints3 (op := op) h h' (m := m)
  obtain ⟨x, y, z, p, hs⟩ := ints_shape op n n'
  rw [hs] at hi
  rw [run_at (by simp [F16])]
  simp +contextual -implicitDefEqProofs (maxSteps := 1000000) only [F16, vv, tr, r, hi, rbool3, argsF, fr00_get, fr00_defers, put_some, put_none, set_defers, eval_tmp, eval_const, reduceIte, reduceCtorEq, Nat.reduceEqDiff, Nat.reduceBEq, Nat.reduceAdd, ofEV_some, ofEM_some, ofM_some, thenV_some, thenC_ret, thenE_norm, thenE_ret, thenE_exit, leave_norm, leave_ret, leave_exit, selO_t, selO_f, resR_ret, resR_norm, resR_pan, eq_self, res_nil, res_tmp, one_one, one_two, one_nil, bin_add, bin_sub, bin_mul, bin_quo, bin_rem, bin_and, bin_or, bin_xor, bin_andNot, bin_lss, bin_leq, bin_gtr, bin_geq, bin_shl_i64, bin_shr_i64, bin_shl_u64, bin_shr_u64, eq_int, un_neg, cv_int, exec_seq, exec_region, exec_skip, exec_ret, exec_exit, exec_block, exec_cond', oprs_nil, oprs_val, oprs_callv, Option.map_some, Option.map_none, List.map_cons, List.map_nil, Int.reduceLT, Int.reduceLE, Int.reduceEq, Int.reduceToNat, Int.reduceNeg, Nat.reduceLeDiff, Int.reducePow, bo_decide, bo_not_decide, bo_tt, bo_ff, gv_true, gv_false, cE_bo, thenG_val, thenH_ret, gV_undef, gV_bo_t, gV_bo_f, gV_gv_t, gV_gv_f, gC_undef, gC_bo_t, gC_bo_f, gC_gv_t, gC_gv_f, oprs_gval, oprs_gcallv, runV_func, List.nil_append, List.append_nil, List.cons_append, evOp_pick', pick_and, pick_or, pick_and0, pick_or0, pick_t, pick_f, un_not_bo, eq_boo, eq_str, thenE_iF, leave_iF, thenV_iF, thenC_iF, resR_iF, not_true_eq_false, not_false_eq_true, and_true, true_and, and_false, false_and, or_true, true_or, or_false, false_or, Classical.not_not, Bool.false_bne, Bool.true_bne, Bool.false_xor, Bool.true_xor, evOp_mov, evOp_build, evOp_bslice, evOp_load, evOp_store, evOp_nilck, evOp_bin, evOp_eq, evOp_un, evOp_conv, evOp_iface, evOp_mkfn, evOp_mkslice, evOp_slstr, evOp_slsl, evOp_slarr, evOp_faddr, evOp_fld, evOp_iaddr, evOp_iaddrArr, evOp_idxstr, evOp_idxagg, evOp_lookup, evOp_mapupd, evOp_delete, evOp_lenmap, evOp_tassert, evOp_extract, evOp_lenstr, evOp_len, evOp_lenarr, evOp_cap, evOp_max, evOp_min, evOp_append, evOp_copy, cE_t, cE_f, gV_tt, gV_tf, gV_ft, gV_ff, gV_gt_t, gV_gt_f, gV_gf_t, gV_gf_f, gC_tt, gC_tf, gC_ft, gC_ff, gC_gt_t, gC_gt_f, gC_gf_t, gC_gf_f, pick_and_t, pick_and_f, pick_or_t, pick_or_f, eq_bo_t, eq_bo_f, eq_t_bo, eq_f_bo, eq_tt, eq_ff, eq_tf, eq_ft, un_not_t, un_not_f, selE_t, selE_f, get_set', decide_true, decide_false, Bool.not_true, Bool.not_false, cond_true, cond_false, implies_true , new_eq, ext_ext, nb_nb, next_ext, next_set, get_set_eq, get_set_ne, get_ext_old, get_ext_nb, get_ext_nb', load_ptr', ldB_cells, part_none, part_some, store_ptr', stB_some, write_eq, wrB_cells, set_ext_nb, set_ext_nb', set_ext_old, cells_int, cells_bool, cells_bo, cells_str, cells_nilptr, cells_ptr, cells_nilslice, cells_slice, cells_nilmap, cells_map, cells_nilfunc, cells_func, cells_niliface, cells_iface, cells_agg, fill_nil, fill_cons, fillB_some, evOp_box', boxE_some, evOp_alloc', evOp_mkmap', get_bump, next_bump, set_bump, load_bump, nb_lt, nb_inj, lt_nb, eq_agg, eqs_nil, eqs_cons, eqsE_some, andO_true, andO_false, andO_t, andO_f, andO_dec, res_cell, rcE_some, List.length_cons, List.length_nil, Nat.zero_add, Nat.add_zero, List.take_succ_cons, List.take_zero, List.take_nil, List.drop_succ_cons, List.drop_zero, List.drop_nil, List.getElem?_cons_zero, List.getElem?_cons_succ, List.getElem?_nil, Option.getD_some, List.set_cons_zero, List.set_cons_succ, Nat.reduceLT, Nat.reduceMul, Nat.reduceSub, Nat.reduceAdd, Nat.reduceEqDiff, Nat.reduceLeDiff, Nat.le_refl, ne_eq, Bool.or_true, Bool.or_false, Bool.true_or, Bool.false_or, Bool.and_true, Bool.true_and, Bool.and_false, Bool.false_and , srt_mov, srt_alloc, srt_box, srt_build, srt_bslice, srt_store, srt_nilck, srt_bin, srt_eq, srt_un, srt_iface, srt_mkfn, srt_mkmap, srt_mkslice, srt_slstr, srt_slsl, srt_slarr, srt_faddr, srt_fld, srt_iaddr, srt_iaddrArr, srt_idxstr, srt_idxagg, srt_lookup, srt_mapupd, srt_delete, srt_lenmap, srt_tassert, srt_extract, srt_len, srt_lenstr, srt_lenarr, srt_cap, srt_max, srt_min, srt_append, srt_copy, srt_pick, srt_cv_int, srt_cv_same, srt_cv_bytes, srt_cv_text, exec_draw', drw_nil, thenL_some, ifB_true, drw_v0, drw_v1, thenD_ret, chk_nil, chk_cons, snap_nil, snap_cons, pair_nil, pair_cons, stands_eq, standE_self, noL_nil, noL_cons, noA_nil, noA_cons, drw_load0, drw_load1, drw_v30, drw_v31, drw_call0, drw_call1, retO_ret, drw_gv0, drw_gv1, drw_gld0, drw_gld1, drw_gv30, drw_gv31, drw_gcall0, drw_gcall1, gE_bo_t, gE_bo_f, gE_tt, gE_tf, gE_ft, gE_ff, gE_undef, gE_gv_t, gE_gv_f, gE_gt_t, gE_gt_f, gE_gf_t, gE_gf_f, Nat.reduceBNe ]
  refine tells_iF (fun c => by rw [two_not c]; first | exact tells_ext rfl | exact tells_ret rfl (keeps_bump keeps_ext)) (fun c => ?_)
  have ck : k = k' := Classical.byContradiction fun x => c (.inr x)
  refine tells_iF (fun d => ?_) (fun d => tells_iF (fun e => ?_) fun e => tells_iF (fun f => ?_) fun f => ?_)
  · rw [two_is c, if_pos d]; first | exact tells_ext rfl | exact tells_ret rfl (keeps_bump keeps_ext)
  · rw [two_is c, if_neg d, if_pos e]; first | exact tells_ext rfl | exact tells_ret rfl (keeps_bump keeps_ext)
  · rw [two_is c, if_neg d, if_neg e, if_pos f]; first | exact tells_ext rfl | exact tells_ret rfl (keeps_bump keeps_ext)
  · have f' : k = 1 := Classical.not_not.1 f
    subst f'; subst ck
    rw [two_ints d e, hs]; first | exact tells_ext rfl | exact tells_ret rfl (keeps_bump keeps_ext)
end Go.Proofs.Ytcgplbakdflkiaa.Ev
