/- AluTells, AluMakes, AluFits: the laws' own code tells true. -/
import Derived.Test.YtcgplbakdflkiaaEvH4
namespace Go.Proofs.Ytcgplbakdflkiaa.Ev
open Go
set_option linter.unusedSimpArgs false
set_option maxRecDepth 10000
set_option maxHeartbeats 8000000
theorem works4 {m : Mem} : run L4 9 [] m = some (.ret (.bool true) m) := by rw [run_pure (Has.has (T := L4) (f := 9))]; rfl
theorem right4 {k n : Int} {m : Mem} : run L4 8 [vv k n] m = some (.ret (bo (right k n)) m) := by rw [same_look (T := L2)]; exact right2
theorem rright4 {k n : Int} {m : Mem} : run L4 15 [vv k n] m = some (.ret (bo (right k n)) m) := by rw [same_look (T := L2)]; exact rright2
theorem int4 {n : Int} {m : Mem} : run L4 6 [.int .i64 n] m = some (.ret (vv 1 n) m) := by rw [same_look (T := L2)]; exact int2
theorem rint4 {n : Int} {m : Mem} : run L4 10 [.int .i64 n] m = some (.ret (vv 1 n) m) := by rw [same_look (T := L2)]; exact rint2
theorem bool4 {p : Prop} {m : Mem} : run L4 11 [bo p] m = some (.ret (tr p) m) := by rw [same_look (T := L2)]; exact bool2
theorem rbool4 {p : Prop} {m : Mem} : run L4 12 [bo p] m = some (.ret (tr p) m) := by rw [same_look (T := L2)]; exact rbool2
theorem zero4 {k : Int} {m : Mem} : run L4 13 [.int .i64 k] m = some (.ret (zero k) m) := by rw [same_look (T := L1)]; exact zero1
theorem rzero4 {k : Int} {m : Mem} : run L4 14 [.int .i64 k] m = some (.ret (zero k) m) := by rw [same_look (T := L1)]; exact rzero1
theorem two4 {op k n k' n' : Int} (h : fits n) (h' : fits n') {m : Mem} : run L4 7 [.int .i64 op, vv k n, vv k' n'] m = some (.ret (two op k n k' n') m) := by rw [same_look (T := L2)]; exact two2 h h'
theorem rtwo4 {op k n k' n' : Int} (h : fits n) (h' : fits n') {m : Mem} : run L4 16 [.int .i64 op, vv k n, vv k' n'] m = some (.ret (two op k n k' n') m) := look (rtwo_L3 h h' m) flat_two
theorem neg4 {k n : Int} (h : fits n) {m : Mem} : run L4 17 [vv k n] m = some (.ret (neg k n) m) := by rw [same_look (T := L3)]; exact look (neg_L2 h m) flat_neg
theorem rneg4 {k n : Int} (h : fits n) {m : Mem} : run L4 18 [vv k n] m = some (.ret (neg k n) m) := by rw [same_look (T := L3)]; exact look (rneg_L2 h m) flat_neg
theorem not4 {k n : Int} {m : Mem} : run L4 19 [vv k n] m = some (.ret (not2 k n) m) := by rw [same_look (T := L3)]; exact look (not_L2 m) flat_not
theorem rnot4 {k n : Int} {m : Mem} : run L4 20 [vv k n] m = some (.ret (not2 k n) m) := by rw [same_look (T := L3)]; exact look (rnot_L2 m) flat_not
theorem two_shape (op k n k' n' : Int) : ∃ x y z p, two op k n k' n' = .tuple [.agg [.int .i64 x, .int .i64 y], .int .i64 z, bo p] := by
  by_cases c : (¬ right k n ∨ ¬ right k' n') ∨ ¬ k = k'
  · rw [two_not c]; exact ⟨0, 0, 0, False, by rw [bo_ff]; rfl⟩
  · rw [two_is c]
    split
    · exact ⟨_, _, 0, True, by rw [bo_tt]; rfl⟩
    · split
      · exact ⟨_, _, 0, True, by rw [bo_tt]; rfl⟩
      · split
        · exact ⟨0, 0, 0, False, by rw [bo_ff]; rfl⟩
        · exact ints_shape op n n'
theorem neg_shape (k n : Int) : ∃ x y z p, neg k n = .tuple [.agg [.int .i64 x, .int .i64 y], .int .i64 z, bo p] := by rw [← two_neg]; exact two_shape _ _ _ _ _
theorem not_shape (k n : Int) : ∃ x y p, not2 k n = .tuple [.agg [.int .i64 x, .int .i64 y], bo p] := by
  unfold not2; split
  · exact ⟨_, _, True, by rw [bo_tt]; rfl⟩
  · exact ⟨0, 0, False, by rw [bo_ff]; rfl⟩
theorem zero_shape (k : Int) : ∃ x y, zero k = .agg [.int .i64 x, .int .i64 y] := by unfold zero; split <;> exact ⟨_, _, rfl⟩
theorem lawTells_run {op k n k' n' : Int} (h : fits n) (h' : fits n') (m : Mem) : ∃ m', run L4 5 [.int .i64 op, vv k n, vv k' n'] m = some (.ret (.bool true) m') := by
  have h1 := fun m => two4 (op := op) (k := k) (k' := k') h h' (m := m)
  have h2 := fun m => rtwo4 (op := op) (k := k) (k' := k') h h' (m := m)
  have h3 := fun m => neg4 (k := k) h (m := m)
  have h4 := fun m => rneg4 (k := k) h (m := m)
  have h5 := fun m => not4 (k := k) (n := n) (m := m)
  have h6 := fun m => rnot4 (k := k) (n := n) (m := m)
  obtain ⟨x1, y1, z1, p1, e1⟩ := two_shape op k n k' n'
  obtain ⟨x2, y2, z2, p2, e2⟩ := neg_shape k n
  obtain ⟨x3, y3, p3, e3⟩ := not_shape k n
  rw [e1] at h1 h2
  rw [e2] at h3 h4
  rw [e3] at h5 h6
  unfold vv at h1 h2 h3 h4 h5 h6
  rw [run_at (by simp [F5])]
  simp +contextual -implicitDefEqProofs (maxSteps := 1000000) only [F5, vv, h1, h2, h3, h4, h5, h6, works4, argsF, fr00_get, fr00_defers, put_some, put_none, set_defers, eval_tmp, eval_const, reduceIte, reduceCtorEq, Nat.reduceEqDiff, Nat.reduceBEq, Nat.reduceAdd, ofEV_some, ofEM_some, ofM_some, thenV_some, thenC_ret, thenE_norm, thenE_ret, thenE_exit, leave_norm, leave_ret, leave_exit, selO_t, selO_f, resR_ret, resR_norm, resR_pan, eq_self, res_nil, res_tmp, one_one, one_two, one_nil, bin_add, bin_sub, bin_mul, bin_quo, bin_rem, bin_and, bin_or, bin_xor, bin_andNot, bin_lss, bin_leq, bin_gtr, bin_geq, bin_shl_i64, bin_shr_i64, bin_shl_u64, bin_shr_u64, eq_int, un_neg, cv_int, exec_seq, exec_region, exec_skip, exec_ret, exec_exit, exec_block, exec_cond', oprs_nil, oprs_val, oprs_callv, Option.map_some, Option.map_none, List.map_cons, List.map_nil, Int.reduceLT, Int.reduceLE, Int.reduceEq, Int.reduceToNat, Int.reduceNeg, Nat.reduceLeDiff, Int.reducePow, bo_decide, bo_not_decide, bo_tt, bo_ff, gv_true, gv_false, cE_bo, thenG_val, thenH_ret, gV_undef, gV_bo_t, gV_bo_f, gV_gv_t, gV_gv_f, gC_undef, gC_bo_t, gC_bo_f, gC_gv_t, gC_gv_f, oprs_gval, oprs_gcallv, runV_func, List.nil_append, List.append_nil, List.cons_append, evOp_pick', pick_and, pick_or, pick_and0, pick_or0, pick_t, pick_f, un_not_bo, eq_boo, eq_str, thenE_iF, leave_iF, thenV_iF, thenC_iF, resR_iF, not_true_eq_false, not_false_eq_true, and_true, true_and, and_false, false_and, or_true, true_or, or_false, false_or, Classical.not_not, Bool.false_bne, Bool.true_bne, Bool.false_xor, Bool.true_xor, evOp_mov, evOp_build, evOp_bslice, evOp_load, evOp_store, evOp_nilck, evOp_bin, evOp_eq, evOp_un, evOp_conv, evOp_iface, evOp_mkfn, evOp_mkslice, evOp_slstr, evOp_slsl, evOp_slarr, evOp_faddr, evOp_fld, evOp_iaddr, evOp_iaddrArr, evOp_idxstr, evOp_idxagg, evOp_lookup, evOp_mapupd, evOp_delete, evOp_lenmap, evOp_tassert, evOp_extract, evOp_lenstr, evOp_len, evOp_lenarr, evOp_cap, evOp_max, evOp_min, evOp_append, evOp_copy, cE_t, cE_f, gV_tt, gV_tf, gV_ft, gV_ff, gV_gt_t, gV_gt_f, gV_gf_t, gV_gf_f, gC_tt, gC_tf, gC_ft, gC_ff, gC_gt_t, gC_gt_f, gC_gf_t, gC_gf_f, pick_and_t, pick_and_f, pick_or_t, pick_or_f, eq_bo_t, eq_bo_f, eq_t_bo, eq_f_bo, eq_tt, eq_ff, eq_tf, eq_ft, un_not_t, un_not_f, selE_t, selE_f, get_set', decide_true, decide_false, Bool.not_true, Bool.not_false, cond_true, cond_false, implies_true , new_eq, ext_ext, nb_nb, next_ext, next_set, get_set_eq, get_set_ne, get_ext_old, get_ext_nb, get_ext_nb', load_ptr', ldB_cells, part_none, part_some, store_ptr', stB_some, write_eq, wrB_cells, set_ext_nb, set_ext_nb', set_ext_old, cells_int, cells_bool, cells_bo, cells_str, cells_nilptr, cells_ptr, cells_nilslice, cells_slice, cells_nilmap, cells_map, cells_nilfunc, cells_func, cells_niliface, cells_iface, cells_agg, fill_nil, fill_cons, fillB_some, evOp_box', boxE_some, evOp_alloc', evOp_mkmap', get_bump, next_bump, set_bump, load_bump, nb_lt, nb_inj, lt_nb, eq_agg, eqs_nil, eqs_cons, eqsE_some, andO_true, andO_false, andO_t, andO_f, andO_dec, res_cell, rcE_some, List.length_cons, List.length_nil, Nat.zero_add, Nat.add_zero, List.take_succ_cons, List.take_zero, List.take_nil, List.drop_succ_cons, List.drop_zero, List.drop_nil, List.getElem?_cons_zero, List.getElem?_cons_succ, List.getElem?_nil, Option.getD_some, List.set_cons_zero, List.set_cons_succ, Nat.reduceLT, Nat.reduceMul, Nat.reduceSub, Nat.reduceAdd, Nat.reduceEqDiff, Nat.reduceLeDiff, Nat.le_refl, ne_eq, Bool.or_true, Bool.or_false, Bool.true_or, Bool.false_or, Bool.and_true, Bool.true_and, Bool.and_false, Bool.false_and , srt_mov, srt_alloc, srt_box, srt_build, srt_bslice, srt_store, srt_nilck, srt_bin, srt_eq, srt_un, srt_iface, srt_mkfn, srt_mkmap, srt_mkslice, srt_slstr, srt_slsl, srt_slarr, srt_faddr, srt_fld, srt_iaddr, srt_iaddrArr, srt_idxstr, srt_idxagg, srt_lookup, srt_mapupd, srt_delete, srt_lenmap, srt_tassert, srt_extract, srt_len, srt_lenstr, srt_lenarr, srt_cap, srt_max, srt_min, srt_append, srt_copy, srt_pick, srt_cv_int, srt_cv_same, srt_cv_bytes, srt_cv_text, exec_draw', drw_nil, thenL_some, ifB_true, drw_v0, drw_v1, thenD_ret, chk_nil, chk_cons, snap_nil, snap_cons, pair_nil, pair_cons, stands_eq, standE_self, noL_nil, noL_cons, noA_nil, noA_cons, drw_load0, drw_load1, drw_v30, drw_v31, drw_call0, drw_call1, retO_ret, drw_gv0, drw_gv1, drw_gld0, drw_gld1, drw_gv30, drw_gv31, drw_gcall0, drw_gcall1, gE_bo_t, gE_bo_f, gE_tt, gE_tf, gE_ft, gE_ff, gE_undef, gE_gv_t, gE_gv_f, gE_gt_t, gE_gt_f, gE_gf_t, gE_gf_f, Nat.reduceBNe ]
  exact ⟨_, rfl⟩
theorem lawMakes_run {n kind k v : Int} {is : Prop} (m : Mem) : ∃ m', run L4 4 [.int .i64 n, bo is, .int .i64 kind, vv k v] m = some (.ret (.bool true) m') := by
  have h1 := @right4
  have h2 := @rright4
  have h3 := fun m => zero4 (k := kind) (m := m)
  have h4 := fun m => rzero4 (k := kind) (m := m)
  obtain ⟨x1, y1, e1⟩ := zero_shape kind
  rw [e1] at h3 h4
  unfold vv at h1 h2
  rw [run_at (by simp [F4])]
  simp +contextual -implicitDefEqProofs (maxSteps := 1000000) only [F4, vv, tr, h1, h2, h3, h4, int4, rint4, bool4, rbool4, works4, argsF, fr00_get, fr00_defers, put_some, put_none, set_defers, eval_tmp, eval_const, reduceIte, reduceCtorEq, Nat.reduceEqDiff, Nat.reduceBEq, Nat.reduceAdd, ofEV_some, ofEM_some, ofM_some, thenV_some, thenC_ret, thenE_norm, thenE_ret, thenE_exit, leave_norm, leave_ret, leave_exit, selO_t, selO_f, resR_ret, resR_norm, resR_pan, eq_self, res_nil, res_tmp, one_one, one_two, one_nil, bin_add, bin_sub, bin_mul, bin_quo, bin_rem, bin_and, bin_or, bin_xor, bin_andNot, bin_lss, bin_leq, bin_gtr, bin_geq, bin_shl_i64, bin_shr_i64, bin_shl_u64, bin_shr_u64, eq_int, un_neg, cv_int, exec_seq, exec_region, exec_skip, exec_ret, exec_exit, exec_block, exec_cond', oprs_nil, oprs_val, oprs_callv, Option.map_some, Option.map_none, List.map_cons, List.map_nil, Int.reduceLT, Int.reduceLE, Int.reduceEq, Int.reduceToNat, Int.reduceNeg, Nat.reduceLeDiff, Int.reducePow, bo_decide, bo_not_decide, bo_tt, bo_ff, gv_true, gv_false, cE_bo, thenG_val, thenH_ret, gV_undef, gV_bo_t, gV_bo_f, gV_gv_t, gV_gv_f, gC_undef, gC_bo_t, gC_bo_f, gC_gv_t, gC_gv_f, oprs_gval, oprs_gcallv, runV_func, List.nil_append, List.append_nil, List.cons_append, evOp_pick', pick_and, pick_or, pick_and0, pick_or0, pick_t, pick_f, un_not_bo, eq_boo, eq_str, thenE_iF, leave_iF, thenV_iF, thenC_iF, resR_iF, not_true_eq_false, not_false_eq_true, and_true, true_and, and_false, false_and, or_true, true_or, or_false, false_or, Classical.not_not, Bool.false_bne, Bool.true_bne, Bool.false_xor, Bool.true_xor, evOp_mov, evOp_build, evOp_bslice, evOp_load, evOp_store, evOp_nilck, evOp_bin, evOp_eq, evOp_un, evOp_conv, evOp_iface, evOp_mkfn, evOp_mkslice, evOp_slstr, evOp_slsl, evOp_slarr, evOp_faddr, evOp_fld, evOp_iaddr, evOp_iaddrArr, evOp_idxstr, evOp_idxagg, evOp_lookup, evOp_mapupd, evOp_delete, evOp_lenmap, evOp_tassert, evOp_extract, evOp_lenstr, evOp_len, evOp_lenarr, evOp_cap, evOp_max, evOp_min, evOp_append, evOp_copy, cE_t, cE_f, gV_tt, gV_tf, gV_ft, gV_ff, gV_gt_t, gV_gt_f, gV_gf_t, gV_gf_f, gC_tt, gC_tf, gC_ft, gC_ff, gC_gt_t, gC_gt_f, gC_gf_t, gC_gf_f, pick_and_t, pick_and_f, pick_or_t, pick_or_f, eq_bo_t, eq_bo_f, eq_t_bo, eq_f_bo, eq_tt, eq_ff, eq_tf, eq_ft, un_not_t, un_not_f, selE_t, selE_f, get_set', decide_true, decide_false, Bool.not_true, Bool.not_false, cond_true, cond_false, implies_true , new_eq, ext_ext, nb_nb, next_ext, next_set, get_set_eq, get_set_ne, get_ext_old, get_ext_nb, get_ext_nb', load_ptr', ldB_cells, part_none, part_some, store_ptr', stB_some, write_eq, wrB_cells, set_ext_nb, set_ext_nb', set_ext_old, cells_int, cells_bool, cells_bo, cells_str, cells_nilptr, cells_ptr, cells_nilslice, cells_slice, cells_nilmap, cells_map, cells_nilfunc, cells_func, cells_niliface, cells_iface, cells_agg, fill_nil, fill_cons, fillB_some, evOp_box', boxE_some, evOp_alloc', evOp_mkmap', get_bump, next_bump, set_bump, load_bump, nb_lt, nb_inj, lt_nb, eq_agg, eqs_nil, eqs_cons, eqsE_some, andO_true, andO_false, andO_t, andO_f, andO_dec, res_cell, rcE_some, List.length_cons, List.length_nil, Nat.zero_add, Nat.add_zero, List.take_succ_cons, List.take_zero, List.take_nil, List.drop_succ_cons, List.drop_zero, List.drop_nil, List.getElem?_cons_zero, List.getElem?_cons_succ, List.getElem?_nil, Option.getD_some, List.set_cons_zero, List.set_cons_succ, Nat.reduceLT, Nat.reduceMul, Nat.reduceSub, Nat.reduceAdd, Nat.reduceEqDiff, Nat.reduceLeDiff, Nat.le_refl, ne_eq, Bool.or_true, Bool.or_false, Bool.true_or, Bool.false_or, Bool.and_true, Bool.true_and, Bool.and_false, Bool.false_and , srt_mov, srt_alloc, srt_box, srt_build, srt_bslice, srt_store, srt_nilck, srt_bin, srt_eq, srt_un, srt_iface, srt_mkfn, srt_mkmap, srt_mkslice, srt_slstr, srt_slsl, srt_slarr, srt_faddr, srt_fld, srt_iaddr, srt_iaddrArr, srt_idxstr, srt_idxagg, srt_lookup, srt_mapupd, srt_delete, srt_lenmap, srt_tassert, srt_extract, srt_len, srt_lenstr, srt_lenarr, srt_cap, srt_max, srt_min, srt_append, srt_copy, srt_pick, srt_cv_int, srt_cv_same, srt_cv_bytes, srt_cv_text, exec_draw', drw_nil, thenL_some, ifB_true, drw_v0, drw_v1, thenD_ret, chk_nil, chk_cons, snap_nil, snap_cons, pair_nil, pair_cons, stands_eq, standE_self, noL_nil, noL_cons, noA_nil, noA_cons, drw_load0, drw_load1, drw_v30, drw_v31, drw_call0, drw_call1, retO_ret, drw_gv0, drw_gv1, drw_gld0, drw_gld1, drw_gv30, drw_gv31, drw_gcall0, drw_gcall1, gE_bo_t, gE_bo_f, gE_tt, gE_tf, gE_ft, gE_ff, gE_undef, gE_gv_t, gE_gv_f, gE_gt_t, gE_gt_f, gE_gf_t, gE_gf_f, Nat.reduceBNe ]
  exact ⟨_, rfl⟩
theorem two_one {op a b : Int} (h : 3 ≤ op ∧ op ≤ 16) : ∃ x y z, two op 1 a 1 b = .tuple [.agg [.int .i64 x, .int .i64 y], .int .i64 z, .bool true] ∧ (z = 0 ↔ right x y) ∧ (z ≠ 0 → x = 0 ∧ y = 0) := by
  have hc : ¬ ((¬ right 1 a ∨ ¬ right 1 b) ∨ ¬ (1 : Int) = 1) := by simp [right_one]
  have hi : ∀ p : Prop, right 2 (ind p) := fun p => .inr (.inl ⟨rfl, by unfold ind; split <;> simp⟩)
  rw [two_is hc]
  split
  · exact ⟨2, _, 0, rfl, by simp [hi], by simp⟩
  · split
    · exact ⟨2, _, 0, rfl, by simp [hi], by simp⟩
    · rw [if_neg (by simp)]
      split
      · exact ⟨2, _, 0, rfl, by simp [hi], by simp⟩
      · rw [if_pos (by omega), orT_eq]
        have ht : workT op ≠ 0 ∨ workP op a b := by
          unfold workT workP
          repeat' split
          all_goals simp
        refine ⟨_, _, _, rfl, ?_, ?_⟩
        · unfold orK orN orC
          by_cases hp : workP op a b
          · simp [hp, right_one]
          · simp only [hp, if_false]
            rcases ht with ht | ht
            · simp [ht, right]
            · exact absurd ht hp
        · unfold orK orN orC
          by_cases hp : workP op a b <;> simp [hp]
theorem lawFits_run {a b : Int} {op : Int} (ha : fits a) (hb : fits b) (ho : 0 ≤ op ∧ op < 256) (m : Mem) : ∃ m', run L4 3 [.int .i64 a, .int .i64 b, .int .u8 op] m = some (.ret (.bool true) m') := by
  have hw : IntKind.i64.wrap op = op := wrap_i64 (by omega) (by omega)
  have hm : op.tmod 14 = op % 14 := Int.tmod_eq_emod_of_nonneg ho.1
  have hk : IntKind.i64.wrap (3 + op % 14) = 3 + op % 14 := wrap_i64 (by omega) (by omega)
  obtain ⟨x, y, z, e, e1, e2⟩ := two_one (op := 3 + op % 14) (a := a) (b := b) (by omega)
  have h0 := fun m => two4 (op := 3 + op % 14) (k := 1) (k' := 1) ha hb (m := m)
  rw [e] at h0
  have hr : ∀ m, run L4 8 [.agg [.int .i64 x, .int .i64 y]] m = some (.ret (bo (right x y)) m) := fun m => right4
  have hi := @int4
  have t3 := fun m => two4 (op := 3) (k := 1) (k' := 1) ha hb (m := m)
  have t4 := fun m => two4 (op := 4) (k := 1) (k' := 1) ha hb (m := m)
  have t5 := fun m => two4 (op := 5) (k := 1) (k' := 1) ha hb (m := m)
  have t8 := fun m => two4 (op := 8) (k := 1) (k' := 1) ha hb (m := m)
  have t9 := fun m => two4 (op := 9) (k := 1) (k' := 1) ha hb (m := m)
  have t11 := fun m => two4 (op := 11) (k := 1) (k' := 1) ha hb (m := m)
  have t13 := fun m => two4 (op := 13) (k := 1) (k' := 1) ha hb (m := m)
  have t16 := fun m => two4 (op := 16) (k := 1) (k' := 1) ha hb (m := m)
  have hc : ¬ ((¬ right 1 a ∨ ¬ right 1 b) ∨ ¬ (1 : Int) = 1) := by simp [right_one]
  rw [two_is hc] at t3 t4 t5 t8 t9 t11 t13 t16
  simp only [Int.reduceEq, Int.reduceLE, reduceIte, and_self, and_false, false_and, and_true, true_and, ne_eq, not_true_eq_false, workN, workP, workT, stand, tr, orT_eq] at t3 t4 t5 t8 t9 t11 t13 t16
  unfold vv at h0 hi t3 t4 t5 t8 t9 t11 t13 t16
  rw [run_at (by simp [F3])]
  simp +contextual -implicitDefEqProofs (maxSteps := 1000000) only [F3, h0, hr, hi, hw, hm, hk, t3, t4, t5, t8, t9, t11, t13, t16, works4, argsF, fr00_get, fr00_defers, put_some, put_none, set_defers, eval_tmp, eval_const, reduceIte, reduceCtorEq, Nat.reduceEqDiff, Nat.reduceBEq, Nat.reduceAdd, ofEV_some, ofEM_some, ofM_some, thenV_some, thenC_ret, thenE_norm, thenE_ret, thenE_exit, leave_norm, leave_ret, leave_exit, selO_t, selO_f, resR_ret, resR_norm, resR_pan, eq_self, res_nil, res_tmp, one_one, one_two, one_nil, bin_add, bin_sub, bin_mul, bin_quo, bin_rem, bin_and, bin_or, bin_xor, bin_andNot, bin_lss, bin_leq, bin_gtr, bin_geq, bin_shl_i64, bin_shr_i64, bin_shl_u64, bin_shr_u64, eq_int, un_neg, cv_int, exec_seq, exec_region, exec_skip, exec_ret, exec_exit, exec_block, exec_cond', oprs_nil, oprs_val, oprs_callv, Option.map_some, Option.map_none, List.map_cons, List.map_nil, Int.reduceLT, Int.reduceLE, Int.reduceEq, Int.reduceToNat, Int.reduceNeg, Nat.reduceLeDiff, Int.reducePow, bo_decide, bo_not_decide, bo_tt, bo_ff, gv_true, gv_false, cE_bo, thenG_val, thenH_ret, gV_undef, gV_bo_t, gV_bo_f, gV_gv_t, gV_gv_f, gC_undef, gC_bo_t, gC_bo_f, gC_gv_t, gC_gv_f, oprs_gval, oprs_gcallv, runV_func, List.nil_append, List.append_nil, List.cons_append, evOp_pick', pick_and, pick_or, pick_and0, pick_or0, pick_t, pick_f, un_not_bo, eq_boo, eq_str, thenE_iF, leave_iF, thenV_iF, thenC_iF, resR_iF, not_true_eq_false, not_false_eq_true, and_true, true_and, and_false, false_and, or_true, true_or, or_false, false_or, Classical.not_not, Bool.false_bne, Bool.true_bne, Bool.false_xor, Bool.true_xor, evOp_mov, evOp_build, evOp_bslice, evOp_load, evOp_store, evOp_nilck, evOp_bin, evOp_eq, evOp_un, evOp_conv, evOp_iface, evOp_mkfn, evOp_mkslice, evOp_slstr, evOp_slsl, evOp_slarr, evOp_faddr, evOp_fld, evOp_iaddr, evOp_iaddrArr, evOp_idxstr, evOp_idxagg, evOp_lookup, evOp_mapupd, evOp_delete, evOp_lenmap, evOp_tassert, evOp_extract, evOp_lenstr, evOp_len, evOp_lenarr, evOp_cap, evOp_max, evOp_min, evOp_append, evOp_copy, cE_t, cE_f, gV_tt, gV_tf, gV_ft, gV_ff, gV_gt_t, gV_gt_f, gV_gf_t, gV_gf_f, gC_tt, gC_tf, gC_ft, gC_ff, gC_gt_t, gC_gt_f, gC_gf_t, gC_gf_f, pick_and_t, pick_and_f, pick_or_t, pick_or_f, eq_bo_t, eq_bo_f, eq_t_bo, eq_f_bo, eq_tt, eq_ff, eq_tf, eq_ft, un_not_t, un_not_f, selE_t, selE_f, get_set', decide_true, decide_false, Bool.not_true, Bool.not_false, cond_true, cond_false, implies_true , new_eq, ext_ext, nb_nb, next_ext, next_set, get_set_eq, get_set_ne, get_ext_old, get_ext_nb, get_ext_nb', load_ptr', ldB_cells, part_none, part_some, store_ptr', stB_some, write_eq, wrB_cells, set_ext_nb, set_ext_nb', set_ext_old, cells_int, cells_bool, cells_bo, cells_str, cells_nilptr, cells_ptr, cells_nilslice, cells_slice, cells_nilmap, cells_map, cells_nilfunc, cells_func, cells_niliface, cells_iface, cells_agg, fill_nil, fill_cons, fillB_some, evOp_box', boxE_some, evOp_alloc', evOp_mkmap', get_bump, next_bump, set_bump, load_bump, nb_lt, nb_inj, lt_nb, eq_agg, eqs_nil, eqs_cons, eqsE_some, andO_true, andO_false, andO_t, andO_f, andO_dec, res_cell, rcE_some, List.length_cons, List.length_nil, Nat.zero_add, Nat.add_zero, List.take_succ_cons, List.take_zero, List.take_nil, List.drop_succ_cons, List.drop_zero, List.drop_nil, List.getElem?_cons_zero, List.getElem?_cons_succ, List.getElem?_nil, Option.getD_some, List.set_cons_zero, List.set_cons_succ, Nat.reduceLT, Nat.reduceMul, Nat.reduceSub, Nat.reduceAdd, Nat.reduceEqDiff, Nat.reduceLeDiff, Nat.le_refl, ne_eq, Bool.or_true, Bool.or_false, Bool.true_or, Bool.false_or, Bool.and_true, Bool.true_and, Bool.and_false, Bool.false_and , srt_mov, srt_alloc, srt_box, srt_build, srt_bslice, srt_store, srt_nilck, srt_bin, srt_eq, srt_un, srt_iface, srt_mkfn, srt_mkmap, srt_mkslice, srt_slstr, srt_slsl, srt_slarr, srt_faddr, srt_fld, srt_iaddr, srt_iaddrArr, srt_idxstr, srt_idxagg, srt_lookup, srt_mapupd, srt_delete, srt_lenmap, srt_tassert, srt_extract, srt_len, srt_lenstr, srt_lenarr, srt_cap, srt_max, srt_min, srt_append, srt_copy, srt_pick, srt_cv_int, srt_cv_same, srt_cv_bytes, srt_cv_text, exec_draw', drw_nil, thenL_some, ifB_true, drw_v0, drw_v1, thenD_ret, chk_nil, chk_cons, snap_nil, snap_cons, pair_nil, pair_cons, stands_eq, standE_self, noL_nil, noL_cons, noA_nil, noA_cons, drw_load0, drw_load1, drw_v30, drw_v31, drw_call0, drw_call1, retO_ret, drw_gv0, drw_gv1, drw_gld0, drw_gld1, drw_gv30, drw_gv31, drw_gcall0, drw_gcall1, gE_bo_t, gE_bo_f, gE_tt, gE_tf, gE_ft, gE_ff, gE_undef, gE_gv_t, gE_gv_f, gE_gt_t, gE_gt_f, gE_gf_t, gE_gf_f, Nat.reduceBNe ]
  have hf : ¬ ((¬ ((z = 0) = right x y)) ∨ ¬ right x y ∧ ¬ (x = 0 ∧ y = 0)) := by
    rintro (h | ⟨h1, h2⟩)
    · exact h (propext e1)
    · exact h2 (e2 (fun hz => h1 (e1.1 hz)))
  rw [iF_neg hf, bo_pos]
  · exact ⟨_, rfl⟩
  · refine ⟨⟨⟨⟨⟨?_, ?_⟩, ?_⟩, ?_⟩, ?_⟩, ?_⟩
    · simp [orC]
    · by_cases h : fits (a + b)
      · exact .inr (by simp [orK, orN, h, clip_is h, wrap_i64 h.1 h.2])
      · exact .inl (by simp [orC, h])
    · by_cases h : fits (a * b)
      · exact .inr (by simp [orK, orN, h, clip_is h, wrap_i64 h.1 h.2])
      · exact .inl (by simp [orC, h])
    · by_cases h : fits (a + b) <;> simp [orC, h]
    · by_cases h : a < b
      · rw [show ind (a < b) = 1 from if_pos h, show ind (b ≤ a) = 0 from if_neg (by omega)]; rfl
      · rw [show ind (a < b) = 0 from if_neg h, show ind (b ≤ a) = 1 from if_pos (by omega)]; rfl
    · by_cases h : a = b
      · rw [show ind (a = b) = 1 from if_pos h, show ind (¬ a = b) = 0 from if_neg (fun x => x h)]; rfl
      · rw [show ind (a = b) = 0 from if_neg h, show ind (¬ a = b) = 1 from if_pos h]; rfl
end Go.Proofs.Ytcgplbakdflkiaa.Ev
