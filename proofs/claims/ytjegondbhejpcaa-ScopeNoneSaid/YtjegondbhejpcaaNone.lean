/- ScopeNone: the law's own code tells true. -/
import Derived.Test.YtjegondbhejpcaaNoneH2
namespace Go.Proofs.Ytjegondbhejpcaa.Ev
open Go
set_option linter.unusedSimpArgs false
set_option maxRecDepth 10000
set_option maxHeartbeats 1000000
theorem same_look {T T' : Nat → Option Ent} {f : Nat} {g : List EV → Mem → Option EV} [h : Has T f (.spec (lookG g))] [h' : Has T' f (.spec (lookG g))] {args : List EV} {m : Mem} : run T' f args m = run T f args m := by
  rw [run_spec h.has, run_spec h'.has]
theorem works2 {m : Mem} : run K2 6 [] m = some (.ret (.bool true) m) := by rw [run_pure (Has.has (T := K2) (f := 6))]; rfl
section
variable {m : Mem} {z : Nat} {s : List UInt8} {k : Int}
theorem open_z2 (h : Zero m z) : run K2 11 [.ptr z 0] m = some (.ret (.tuple []) m) := look (open_z h) rfl
theorem open_n2 : run K2 11 [.nilptr] m = some (.ret (.tuple []) m) := look open_n rfl
theorem find_z2 (h : Zero m z) : run K2 9 [.ptr z 0, .str s] m = some (.ret (.tuple [.int .i64 0, .int .i64 0, .bool false]) m) := look (find_z h) rfl
theorem find_n2 : run K2 9 [.nilptr, .str s] m = some (.ret (.tuple [.int .i64 0, .int .i64 0, .bool false]) m) := look find_n rfl
theorem close_z2 (h : Zero m z) : run K2 13 [.ptr z 0] m = some (.ret (.bool false) m) := look (close_z h) rfl
theorem close_n2 : run K2 13 [.nilptr] m = some (.ret (.bool false) m) := look close_n rfl
theorem declare_z2 (h : Zero m z) : run K2 15 [.ptr z 0, .str s, .int .i64 k] m = some (.ret (.tuple [.int .i64 0, .bool false]) m) := look (declare_z h) rfl
theorem declare_n2 : run K2 15 [.nilptr, .str s, .int .i64 k] m = some (.ret (.tuple [.int .i64 0, .bool false]) m) := look declare_n rfl
theorem depth_z2 (h : Zero m z) : run K2 12 [.ptr z 0] m = some (.ret (.int .i64 0) m) := by rw [same_look (T := K1)]; exact depth_z1 h
theorem depth_n2 : run K2 12 [.nilptr] m = some (.ret (.int .i64 0) m) := by rw [same_look (T := K1)]; exact depth_n1
theorem kinds_z2 (h : Zero m z) : run K2 10 [.ptr z 0] m = some (.ret .nilslice m) := by rw [same_look (T := K1)]; exact kinds_z1 h
theorem kinds_n2 : run K2 10 [.nilptr] m = some (.ret .nilslice m) := by rw [same_look (T := K1)]; exact kinds_n1
end
theorem scopeNone_run {s : List UInt8} {k : Int} (m : Mem) : ∃ m', run K2 4 [.str s, .int .i64 k] m = some (.ret (.bool true) m') := by
  have hz : Zero (ext m [.cells [.nilmap, .nilslice, .nilslice, .int .i64 0] 4 37 false]) (nb m.next 0) := ⟨by rw [next_ext]; exact nb_lt.2 (by simp), by rw [get_ext_nb rfl (by simp)]; rfl⟩
  rw [run_at (by simp [F4])]
  simp +contextual -implicitDefEqProofs (maxSteps := 1000000) only [F4, open_z2 hz, open_n2, find_z2 hz, find_n2, close_z2 hz, close_n2, declare_z2 hz, declare_n2, depth_z2 hz, depth_n2, kinds_z2 hz, kinds_n2, works2, Int.reduceAdd, argsF, fr00_get, fr00_defers, put_some, put_none, set_defers, eval_tmp, eval_const, reduceIte, reduceCtorEq, Nat.reduceEqDiff, Nat.reduceBEq, Nat.reduceAdd, ofEV_some, ofEM_some, ofM_some, thenV_some, thenC_ret, thenE_norm, thenE_ret, thenE_exit, leave_norm, leave_ret, leave_exit, selO_t, selO_f, resR_ret, resR_norm, resR_pan, eq_self, res_nil, res_tmp, one_one, one_two, one_nil, bin_add, bin_sub, bin_mul, bin_quo, bin_rem, bin_and, bin_or, bin_xor, bin_andNot, bin_lss, bin_leq, bin_gtr, bin_geq, bin_shl_i64, bin_shr_i64, bin_shl_u64, bin_shr_u64, eq_int, un_neg, cv_int, exec_seq, exec_region, exec_skip, exec_ret, exec_exit, exec_block, exec_cond', oprs_nil, oprs_val, oprs_callv, Option.map_some, Option.map_none, List.map_cons, List.map_nil, Int.reduceLT, Int.reduceLE, Int.reduceEq, Int.reduceToNat, Int.reduceNeg, Nat.reduceLeDiff, Int.reducePow, bo_decide, bo_not_decide, bo_tt, bo_ff, gv_true, gv_false, cE_bo, thenG_val, thenH_ret, gV_undef, gV_bo_t, gV_bo_f, gV_gv_t, gV_gv_f, gC_undef, gC_bo_t, gC_bo_f, gC_gv_t, gC_gv_f, oprs_gval, oprs_gcallv, runV_func, List.nil_append, List.append_nil, List.cons_append, evOp_pick', pick_and, pick_or, pick_and0, pick_or0, pick_t, pick_f, un_not_bo, eq_boo, eq_str, thenE_iF, leave_iF, thenV_iF, thenC_iF, resR_iF, not_true_eq_false, not_false_eq_true, and_true, true_and, and_false, false_and, or_true, true_or, or_false, false_or, Classical.not_not, Bool.false_bne, Bool.true_bne, Bool.false_xor, Bool.true_xor, evOp_mov, evOp_build, evOp_bslice, evOp_load, evOp_store, evOp_nilck, evOp_bin, evOp_eq, evOp_un, evOp_conv, evOp_iface, evOp_mkfn, evOp_mkslice, evOp_slstr, evOp_slsl, evOp_slarr, evOp_faddr, evOp_fld, evOp_iaddr, evOp_iaddrArr, evOp_idxstr, evOp_idxagg, evOp_lookup, evOp_mapupd, evOp_delete, evOp_lenmap, evOp_tassert, evOp_extract, evOp_lenstr, evOp_len, evOp_lenarr, evOp_cap, evOp_max, evOp_min, evOp_append, evOp_copy, cE_t, cE_f, gV_tt, gV_tf, gV_ft, gV_ff, gV_gt_t, gV_gt_f, gV_gf_t, gV_gf_f, gC_tt, gC_tf, gC_ft, gC_ff, gC_gt_t, gC_gt_f, gC_gf_t, gC_gf_f, pick_and_t, pick_and_f, pick_or_t, pick_or_f, eq_bo_t, eq_bo_f, eq_t_bo, eq_f_bo, eq_tt, eq_ff, eq_tf, eq_ft, un_not_t, un_not_f, selE_t, selE_f, get_set', decide_true, decide_false, Bool.not_true, Bool.not_false, cond_true, cond_false, implies_true , new_eq, ext_ext, nb_nb, next_ext, next_set, get_set_eq, get_set_ne, get_ext_old, get_ext_nb, get_ext_nb', load_ptr', ldB_cells, part_none, part_some, store_ptr', stB_some, write_eq, wrB_cells, set_ext_nb, set_ext_nb', set_ext_old, cells_int, cells_bool, cells_bo, cells_str, cells_nilptr, cells_ptr, cells_nilslice, cells_slice, cells_nilmap, cells_map, cells_nilfunc, cells_func, cells_niliface, cells_iface, cells_agg, fill_nil, fill_cons, fillB_some, evOp_box', boxE_some, evOp_alloc', evOp_mkmap', get_bump, next_bump, set_bump, load_bump, nb_lt, nb_inj, lt_nb, eq_agg, eqs_nil, eqs_cons, eqsE_some, andO_true, andO_false, andO_t, andO_f, andO_dec, res_cell, rcE_some, List.length_cons, List.length_nil, Nat.zero_add, Nat.add_zero, List.take_succ_cons, List.take_zero, List.take_nil, List.drop_succ_cons, List.drop_zero, List.drop_nil, List.getElem?_cons_zero, List.getElem?_cons_succ, List.getElem?_nil, Option.getD_some, List.set_cons_zero, List.set_cons_succ, Nat.reduceLT, Nat.reduceMul, Nat.reduceSub, Nat.reduceAdd, Nat.reduceEqDiff, Nat.reduceLeDiff, Nat.le_refl, ne_eq, Bool.or_true, Bool.or_false, Bool.true_or, Bool.false_or, Bool.and_true, Bool.true_and, Bool.and_false, Bool.false_and, eq_pn, eq_np, eq_nn, eq_sn, eq_ns, eq_nsns , srt_mov, srt_alloc, srt_box, srt_build, srt_bslice, srt_store, srt_nilck, srt_bin, srt_eq, srt_un, srt_iface, srt_mkfn, srt_mkmap, srt_mkslice, srt_slstr, srt_slsl, srt_slarr, srt_faddr, srt_fld, srt_iaddr, srt_iaddrArr, srt_idxstr, srt_idxagg, srt_lookup, srt_mapupd, srt_delete, srt_lenmap, srt_tassert, srt_extract, srt_len, srt_lenstr, srt_lenarr, srt_cap, srt_max, srt_min, srt_append, srt_copy, srt_pick, srt_cv_int, srt_cv_same, srt_cv_bytes, srt_cv_text, exec_draw', drw_nil, thenL_some, ifB_true, drw_v0, drw_v1, thenD_ret, chk_nil, chk_cons, snap_nil, snap_cons, pair_nil, pair_cons, stands_eq, standE_self, noL_nil, noL_cons, noA_nil, noA_cons, drw_load0, drw_load1, drw_v30, drw_v31, drw_call0, drw_call1, retO_ret, drw_gv0, drw_gv1, drw_gld0, drw_gld1, drw_gv30, drw_gv31, drw_gcall0, drw_gcall1, gE_bo_t, gE_bo_f, gE_tt, gE_tf, gE_ft, gE_ff, gE_undef, gE_gv_t, gE_gv_f, gE_gt_t, gE_gt_f, gE_gf_t, gE_gf_f, Nat.reduceBNe ]
  rw [bo_pos (by decide)]
  exact ⟨_, rfl⟩
theorem scopeNone_in {m : Mem} {es : List EV} {ds : List Dt} (h : RepVs m [.str, .int .i64] es ds) : ∃ m', run K2 4 es m = some (.ret (.bool true) m') := by
  obtain ⟨e1, d1, es, ds, rfl, rfl, h1, h⟩ := h.one
  obtain ⟨e2, d2, es, ds, rfl, rfl, h2, h⟩ := h.one
  obtain ⟨rfl, rfl⟩ := h.none
  obtain ⟨s, rfl, _, _⟩ := in_str h1
  obtain ⟨k, rfl, _, _⟩ := in_int h2
  exact scopeNone_run m
end Go.Proofs.Ytjegondbhejpcaa.Ev
