/- A heap of arrays: how it stands in memory, and what is told of it. -/
import Derived.Test.YthlbifjgnhdonaaEvH0
import Derived.Test.YthlbifjgnhdonaaEvIn
import Derived.Test.YthlbifjgnhdonaaEvSlice
import Derived.Test.YthlbifjgnhdonaaPlainRow
namespace Go.Proofs.Ythlbifjgnhdonaa.Ev
open Go
set_option linter.unusedSimpArgs false
set_option linter.unusedSectionVars false
set_option maxRecDepth 10000
set_option maxHeartbeats 4000000
/-- An array: its block, where it begins there, its cells. -/
structure Arr where
  b : Nat
  o : Nat
  l : List EV
  nl : Bool
def Arr.v (a : Arr) : EV := bif a.nl then .nilslice else .slice a.b a.o a.l.length (some a.l.length)
def Disj (a a' : Arr) : Prop := a.b = a'.b → a.l.length = 0 ∨ a'.l.length = 0 ∨ a.o + a.l.length ≤ a'.o ∨ a'.o + a'.l.length ≤ a.o
def ArrAt (m : Mem) (a : Arr) : Prop := ∃ cs t, m.get a.b = .cells cs 1 t false ∧ a.o + a.l.length ≤ cs.length ∧ part cs a.o a.l.length = a.l
def CurAt (m : Mem) (cv : EV) (ib : Nat → Prop) (A : List Arr) : Prop := cv = .nilslice ∨ ∃ cb cn cs t, cv = .slice cb 0 cn (some cs.length) ∧ ib cb ∧ m.get cb = .cells cs 1 t false ∧ (cn ≤ cs.length ∧ cs.length < 1000000000) ∧ (∀ i, cn ≤ i → i < cs.length → cs[i]? = some (.int .i64 0)) ∧ ∀ (i : Nat) (a : Arr), A[i]? = some a → a.b = cb → a.l.length = 0 ∨ a.o + a.l.length ≤ cn
def usedOf (A : List Arr) : Int := ((A.map fun a => a.l.length + 1).sum : Nat)
structure HeapRep (m : Mem) (hb : Nat) (most : Int) (A : List Arr) (cv av : EV) (ib : Nat → Prop) : Prop where
  get : m.get hb = .cells [cv, av, .int .i64 most, .int .i64 (usedOf A), .bool true] 5 36 false
  lt : hb < m.next
  ibok : ∀ c, ib c → c < m.next ∧ c ≠ hb ∧ Off av c
  own : Own m av (A.map Arr.v) A.length 1 0
  offh : Off av hb
  arr : ∀ (i : Nat) (a : Arr), A[i]? = some a → a.nl = true ∧ a.l = [] ∨ a.nl = false ∧ ArrAt m a ∧ ib a.b
  dis : ∀ (i j : Nat) (a a' : Arr), i ≠ j → A[i]? = some a → A[j]? = some a' → Disj a a'
  cur : CurAt m cv ib A
theorem Own.len_eq {m : Mem} {v : EV} {cs : List EV} {n esz lo : Nat} (h : Own m v cs n esz lo) : v = .nilslice ∧ n = 0 ∨ ∃ b cap, v = .slice b 0 n cap := by
  rcases h.is with ⟨h1, h2, _⟩ | ⟨b, cap, t, h1, _⟩
  · exact .inl ⟨h1, h2⟩
  · exact .inr ⟨b, cap, h1⟩
theorem Own.keep {m m' : Mem} {v : EV} {cs : List EV} {n esz lo : Nat} (h : Own m v cs n esz lo) (hn : m.next ≤ m'.next) (hk : ∀ c, c < m.next → ¬ Off v c → m'.get c = m.get c) : Own m' v cs n esz lo := by
  refine ⟨?_, h.len⟩
  rcases h.is with h | ⟨b, cap, t, rfl, h1, h2, h3, h4⟩
  · exact .inl h
  · exact .inr ⟨b, cap, t, rfl, h1, by omega, by rw [hk b h2 (fun ho => ho b 0 n cap rfl rfl)]; exact h3, h4⟩
section
variable {m : Mem} {hb : Nat} {most : Int} {A : List Arr} {cv av : EV} {ib : Nat → Prop}
theorem of_in (h : HeapRep m hb most A cv av ib) {k : Nat} {a : Arr} (hk : A[k]? = some a) (hl : A.length < 1000000000) : run T 20 [.ptr hb 0, .int .i64 ((k : Int) + 1)] m = some (.ret (.tuple [a.v, .bool true]) m) := by
  have hg := h.get
  have hlt : k < A.length := (List.getElem?_eq_some_iff.1 hk).1
  rcases h.own.is with ⟨_, h0, _⟩ | ⟨b, cap, t, hv, _, _, hb3, _⟩
  · omega
  subst hv
  have n1 : ¬ ((k : Int) + 1 < 1) := by omega
  have n2 : ¬ ((A.length : Int) < (k : Int) + 1) := by omega
  have hw : IntKind.i64.wrap ((k : Int) + 1 - 1) = (k : Int) := by rw [wrap_i64 (by omega) (by omega)]; omega
  rw [run_at (by simp [F20])]
  simp +contextual -implicitDefEqProofs (maxSteps := 1000000) only [F20, hg, n1, n2, hw, idx_cast, hlt, hb3, List.getElem?_map, hk, Nat.mul_one, Option.map_some, argsF, fr00_get, fr00_defers, put_some, put_none, set_defers, eval_tmp, eval_const, reduceIte, reduceCtorEq, Nat.reduceEqDiff, Nat.reduceBEq, Nat.reduceAdd, ofEV_some, ofEM_some, ofM_some, thenV_some, thenC_ret, thenE_norm, thenE_ret, thenE_exit, leave_norm, leave_ret, leave_exit, selO_t, selO_f, resR_ret, resR_norm, resR_pan, eq_self, res_nil, res_tmp, one_one, one_two, one_nil, bin_add, bin_sub, bin_mul, bin_quo, bin_rem, bin_and, bin_or, bin_xor, bin_andNot, bin_lss, bin_leq, bin_gtr, bin_geq, bin_shl_i64, bin_shr_i64, bin_shl_u64, bin_shr_u64, eq_int, un_neg, cv_int, exec_seq, exec_region, exec_skip, exec_ret, exec_exit, exec_block, exec_cond', oprs_nil, oprs_val, oprs_callv, Option.map_some, Option.map_none, List.map_cons, List.map_nil, Int.reduceLT, Int.reduceLE, Int.reduceEq, Int.reduceToNat, Int.reduceNeg, Nat.reduceLeDiff, Int.reducePow, bo_decide, bo_not_decide, bo_tt, bo_ff, gv_true, gv_false, cE_bo, thenG_val, thenH_ret, gV_undef, gV_bo_t, gV_bo_f, gV_gv_t, gV_gv_f, gC_undef, gC_bo_t, gC_bo_f, gC_gv_t, gC_gv_f, oprs_gval, oprs_gcallv, runV_func, List.nil_append, List.append_nil, List.cons_append, evOp_pick', pick_and, pick_or, pick_and0, pick_or0, pick_t, pick_f, un_not_bo, eq_boo, eq_str, thenE_iF, leave_iF, thenV_iF, thenC_iF, resR_iF, not_true_eq_false, not_false_eq_true, and_true, true_and, and_false, false_and, or_true, true_or, or_false, false_or, Classical.not_not, Bool.false_bne, Bool.true_bne, Bool.false_xor, Bool.true_xor, evOp_mov, evOp_build, evOp_load, evOp_store, evOp_nilck, evOp_bin, evOp_eq, evOp_un, evOp_conv, evOp_iface, evOp_mkfn, evOp_mkslice, evOp_slstr, evOp_slsl, evOp_slarr, evOp_faddr, evOp_fld, evOp_iaddr, evOp_iaddrArr, evOp_idxstr, evOp_idxagg, evOp_lookup, evOp_mapupd, evOp_delete, evOp_lenmap, evOp_tassert, evOp_extract, evOp_lenstr, evOp_len, evOp_lenarr, evOp_cap, evOp_max, evOp_min, evOp_append, evOp_copy, cE_t, cE_f, gV_tt, gV_tf, gV_ft, gV_ff, gV_gt_t, gV_gt_f, gV_gf_t, gV_gf_f, gC_tt, gC_tf, gC_ft, gC_ff, gC_gt_t, gC_gt_f, gC_gf_t, gC_gf_f, pick_and_t, pick_and_f, pick_or_t, pick_or_f, eq_bo_t, eq_bo_f, eq_t_bo, eq_f_bo, eq_tt, eq_ff, eq_tf, eq_ft, un_not_t, un_not_f, selE_t, selE_f, get_set', decide_true, decide_false, Bool.not_true, Bool.not_false, cond_true, cond_false, implies_true, Int.cast_ofNat_Int, UInt8.reduceToNat, Int.reduceSub, Int.reduceAdd , new_eq, ext_ext, nb_nb, next_ext, next_set, get_set_eq, get_set_ne, get_ext_old, get_ext_nb, get_ext_nb', load_ptr', ldB_cells, part_none, part_some, store_ptr', stB_some, write_eq, wrB_cells, set_ext_nb, set_ext_nb', set_ext_old, cells_int, cells_bool, cells_bo, cells_str, cells_nilptr, cells_ptr, cells_nilslice, cells_slice, cells_nilmap, cells_map, cells_nilfunc, cells_func, cells_niliface, cells_iface, cells_agg, fill_nil, fill_cons, fillB_some, evOp_box', boxE_some, evOp_alloc', evOp_mkmap', get_bump, next_bump, set_bump, load_bump, nb_lt, nb_inj, lt_nb, eq_agg, eqs_nil, eqs_cons, eqsE_some, andO_true, andO_false, andO_t, andO_f, andO_dec, res_cell, rcE_some, List.length_cons, List.length_nil, Nat.zero_add, Nat.add_zero, List.take_succ_cons, List.take_zero, List.take_nil, List.drop_succ_cons, List.drop_zero, List.drop_nil, List.getElem?_cons_zero, List.getElem?_cons_succ, List.getElem?_nil, Option.getD_some, List.set_cons_zero, List.set_cons_succ, Nat.reduceLT, Nat.reduceMul, Nat.reduceSub, Nat.reduceAdd, Nat.reduceEqDiff, Nat.reduceLeDiff, Nat.le_refl, ne_eq, Bool.or_true, Bool.or_false, Bool.true_or, Bool.false_or, Bool.and_true, Bool.true_and, Bool.and_false, Bool.false_and, eq_pn, eq_np, eq_nn, eq_sn, eq_ns, eq_nsns, evOp_bslice1, evOp_bslice0, bsE_some , srt_mov, srt_alloc, srt_box, srt_build, srt_bslice, srt_store, srt_nilck, srt_bin, srt_eq, srt_un, srt_iface, srt_mkfn, srt_mkmap, srt_mkslice, srt_slstr, srt_slsl, srt_slarr, srt_faddr, srt_fld, srt_iaddr, srt_iaddrArr, srt_idxstr, srt_idxagg, srt_lookup, srt_mapupd, srt_delete, srt_lenmap, srt_tassert, srt_extract, srt_len, srt_lenstr, srt_lenarr, srt_cap, srt_max, srt_min, srt_append, srt_copy, srt_pick, srt_cv_int, srt_cv_same, srt_cv_bytes, srt_cv_text, exec_draw', drw_nil, thenL_some, ifB_true, drw_v0, drw_v1, thenD_ret, chk_nil, chk_cons, snap_nil, snap_cons, pair_nil, pair_cons, stands_eq, standE_self, noL_nil, noL_cons, noA_nil, noA_cons, drw_load0, drw_load1, drw_v30, drw_v31, drw_call0, drw_call1, retO_ret, drw_gv0, drw_gv1, drw_gld0, drw_gld1, drw_gv30, drw_gv31, drw_gcall0, drw_gcall1, gE_bo_t, gE_bo_f, gE_tt, gE_tf, gE_ft, gE_ff, gE_undef, gE_gv_t, gE_gv_f, gE_gt_t, gE_gt_f, gE_gf_t, gE_gf_f, Nat.reduceBNe ]
theorem of_out (h : HeapRep m hb most A cv av ib) {n : Int} (hn : n < 1 ∨ (A.length : Int) < n) : run T 20 [.ptr hb 0, .int .i64 n] m = some (.ret (.tuple [.nilslice, .bool false]) m) := by
  have hg := h.get
  rw [run_at (by simp [F20])]
  by_cases n1 : n < 1
  · simp +contextual -implicitDefEqProofs (maxSteps := 1000000) only [F20, hg, n1, argsF, fr00_get, fr00_defers, put_some, put_none, set_defers, eval_tmp, eval_const, reduceIte, reduceCtorEq, Nat.reduceEqDiff, Nat.reduceBEq, Nat.reduceAdd, ofEV_some, ofEM_some, ofM_some, thenV_some, thenC_ret, thenE_norm, thenE_ret, thenE_exit, leave_norm, leave_ret, leave_exit, selO_t, selO_f, resR_ret, resR_norm, resR_pan, eq_self, res_nil, res_tmp, one_one, one_two, one_nil, bin_add, bin_sub, bin_mul, bin_quo, bin_rem, bin_and, bin_or, bin_xor, bin_andNot, bin_lss, bin_leq, bin_gtr, bin_geq, bin_shl_i64, bin_shr_i64, bin_shl_u64, bin_shr_u64, eq_int, un_neg, cv_int, exec_seq, exec_region, exec_skip, exec_ret, exec_exit, exec_block, exec_cond', oprs_nil, oprs_val, oprs_callv, Option.map_some, Option.map_none, List.map_cons, List.map_nil, Int.reduceLT, Int.reduceLE, Int.reduceEq, Int.reduceToNat, Int.reduceNeg, Nat.reduceLeDiff, Int.reducePow, bo_decide, bo_not_decide, bo_tt, bo_ff, gv_true, gv_false, cE_bo, thenG_val, thenH_ret, gV_undef, gV_bo_t, gV_bo_f, gV_gv_t, gV_gv_f, gC_undef, gC_bo_t, gC_bo_f, gC_gv_t, gC_gv_f, oprs_gval, oprs_gcallv, runV_func, List.nil_append, List.append_nil, List.cons_append, evOp_pick', pick_and, pick_or, pick_and0, pick_or0, pick_t, pick_f, un_not_bo, eq_boo, eq_str, thenE_iF, leave_iF, thenV_iF, thenC_iF, resR_iF, not_true_eq_false, not_false_eq_true, and_true, true_and, and_false, false_and, or_true, true_or, or_false, false_or, Classical.not_not, Bool.false_bne, Bool.true_bne, Bool.false_xor, Bool.true_xor, evOp_mov, evOp_build, evOp_load, evOp_store, evOp_nilck, evOp_bin, evOp_eq, evOp_un, evOp_conv, evOp_iface, evOp_mkfn, evOp_mkslice, evOp_slstr, evOp_slsl, evOp_slarr, evOp_faddr, evOp_fld, evOp_iaddr, evOp_iaddrArr, evOp_idxstr, evOp_idxagg, evOp_lookup, evOp_mapupd, evOp_delete, evOp_lenmap, evOp_tassert, evOp_extract, evOp_lenstr, evOp_len, evOp_lenarr, evOp_cap, evOp_max, evOp_min, evOp_append, evOp_copy, cE_t, cE_f, gV_tt, gV_tf, gV_ft, gV_ff, gV_gt_t, gV_gt_f, gV_gf_t, gV_gf_f, gC_tt, gC_tf, gC_ft, gC_ff, gC_gt_t, gC_gt_f, gC_gf_t, gC_gf_f, pick_and_t, pick_and_f, pick_or_t, pick_or_f, eq_bo_t, eq_bo_f, eq_t_bo, eq_f_bo, eq_tt, eq_ff, eq_tf, eq_ft, un_not_t, un_not_f, selE_t, selE_f, get_set', decide_true, decide_false, Bool.not_true, Bool.not_false, cond_true, cond_false, implies_true, Int.cast_ofNat_Int, UInt8.reduceToNat, Int.reduceSub, Int.reduceAdd , new_eq, ext_ext, nb_nb, next_ext, next_set, get_set_eq, get_set_ne, get_ext_old, get_ext_nb, get_ext_nb', load_ptr', ldB_cells, part_none, part_some, store_ptr', stB_some, write_eq, wrB_cells, set_ext_nb, set_ext_nb', set_ext_old, cells_int, cells_bool, cells_bo, cells_str, cells_nilptr, cells_ptr, cells_nilslice, cells_slice, cells_nilmap, cells_map, cells_nilfunc, cells_func, cells_niliface, cells_iface, cells_agg, fill_nil, fill_cons, fillB_some, evOp_box', boxE_some, evOp_alloc', evOp_mkmap', get_bump, next_bump, set_bump, load_bump, nb_lt, nb_inj, lt_nb, eq_agg, eqs_nil, eqs_cons, eqsE_some, andO_true, andO_false, andO_t, andO_f, andO_dec, res_cell, rcE_some, List.length_cons, List.length_nil, Nat.zero_add, Nat.add_zero, List.take_succ_cons, List.take_zero, List.take_nil, List.drop_succ_cons, List.drop_zero, List.drop_nil, List.getElem?_cons_zero, List.getElem?_cons_succ, List.getElem?_nil, Option.getD_some, List.set_cons_zero, List.set_cons_succ, Nat.reduceLT, Nat.reduceMul, Nat.reduceSub, Nat.reduceAdd, Nat.reduceEqDiff, Nat.reduceLeDiff, Nat.le_refl, ne_eq, Bool.or_true, Bool.or_false, Bool.true_or, Bool.false_or, Bool.and_true, Bool.true_and, Bool.and_false, Bool.false_and, eq_pn, eq_np, eq_nn, eq_sn, eq_ns, eq_nsns, evOp_bslice1, evOp_bslice0, bsE_some , srt_mov, srt_alloc, srt_box, srt_build, srt_bslice, srt_store, srt_nilck, srt_bin, srt_eq, srt_un, srt_iface, srt_mkfn, srt_mkmap, srt_mkslice, srt_slstr, srt_slsl, srt_slarr, srt_faddr, srt_fld, srt_iaddr, srt_iaddrArr, srt_idxstr, srt_idxagg, srt_lookup, srt_mapupd, srt_delete, srt_lenmap, srt_tassert, srt_extract, srt_len, srt_lenstr, srt_lenarr, srt_cap, srt_max, srt_min, srt_append, srt_copy, srt_pick, srt_cv_int, srt_cv_same, srt_cv_bytes, srt_cv_text, exec_draw', drw_nil, thenL_some, ifB_true, drw_v0, drw_v1, thenD_ret, chk_nil, chk_cons, snap_nil, snap_cons, pair_nil, pair_cons, stands_eq, standE_self, noL_nil, noL_cons, noA_nil, noA_cons, drw_load0, drw_load1, drw_v30, drw_v31, drw_call0, drw_call1, retO_ret, drw_gv0, drw_gv1, drw_gld0, drw_gld1, drw_gv30, drw_gv31, drw_gcall0, drw_gcall1, gE_bo_t, gE_bo_f, gE_tt, gE_tf, gE_ft, gE_ff, gE_undef, gE_gv_t, gE_gv_f, gE_gt_t, gE_gt_f, gE_gf_t, gE_gf_f, Nat.reduceBNe ]
  have n2 : (A.length : Int) < n := by omega
  rcases h.own.len_eq with ⟨rfl, h0⟩ | ⟨b, cap, rfl⟩
  · have n3 : (0 : Int) < n := by omega
    simp +contextual -implicitDefEqProofs (maxSteps := 1000000) only [F20, hg, n1, n3, argsF, fr00_get, fr00_defers, put_some, put_none, set_defers, eval_tmp, eval_const, reduceIte, reduceCtorEq, Nat.reduceEqDiff, Nat.reduceBEq, Nat.reduceAdd, ofEV_some, ofEM_some, ofM_some, thenV_some, thenC_ret, thenE_norm, thenE_ret, thenE_exit, leave_norm, leave_ret, leave_exit, selO_t, selO_f, resR_ret, resR_norm, resR_pan, eq_self, res_nil, res_tmp, one_one, one_two, one_nil, bin_add, bin_sub, bin_mul, bin_quo, bin_rem, bin_and, bin_or, bin_xor, bin_andNot, bin_lss, bin_leq, bin_gtr, bin_geq, bin_shl_i64, bin_shr_i64, bin_shl_u64, bin_shr_u64, eq_int, un_neg, cv_int, exec_seq, exec_region, exec_skip, exec_ret, exec_exit, exec_block, exec_cond', oprs_nil, oprs_val, oprs_callv, Option.map_some, Option.map_none, List.map_cons, List.map_nil, Int.reduceLT, Int.reduceLE, Int.reduceEq, Int.reduceToNat, Int.reduceNeg, Nat.reduceLeDiff, Int.reducePow, bo_decide, bo_not_decide, bo_tt, bo_ff, gv_true, gv_false, cE_bo, thenG_val, thenH_ret, gV_undef, gV_bo_t, gV_bo_f, gV_gv_t, gV_gv_f, gC_undef, gC_bo_t, gC_bo_f, gC_gv_t, gC_gv_f, oprs_gval, oprs_gcallv, runV_func, List.nil_append, List.append_nil, List.cons_append, evOp_pick', pick_and, pick_or, pick_and0, pick_or0, pick_t, pick_f, un_not_bo, eq_boo, eq_str, thenE_iF, leave_iF, thenV_iF, thenC_iF, resR_iF, not_true_eq_false, not_false_eq_true, and_true, true_and, and_false, false_and, or_true, true_or, or_false, false_or, Classical.not_not, Bool.false_bne, Bool.true_bne, Bool.false_xor, Bool.true_xor, evOp_mov, evOp_build, evOp_load, evOp_store, evOp_nilck, evOp_bin, evOp_eq, evOp_un, evOp_conv, evOp_iface, evOp_mkfn, evOp_mkslice, evOp_slstr, evOp_slsl, evOp_slarr, evOp_faddr, evOp_fld, evOp_iaddr, evOp_iaddrArr, evOp_idxstr, evOp_idxagg, evOp_lookup, evOp_mapupd, evOp_delete, evOp_lenmap, evOp_tassert, evOp_extract, evOp_lenstr, evOp_len, evOp_lenarr, evOp_cap, evOp_max, evOp_min, evOp_append, evOp_copy, cE_t, cE_f, gV_tt, gV_tf, gV_ft, gV_ff, gV_gt_t, gV_gt_f, gV_gf_t, gV_gf_f, gC_tt, gC_tf, gC_ft, gC_ff, gC_gt_t, gC_gt_f, gC_gf_t, gC_gf_f, pick_and_t, pick_and_f, pick_or_t, pick_or_f, eq_bo_t, eq_bo_f, eq_t_bo, eq_f_bo, eq_tt, eq_ff, eq_tf, eq_ft, un_not_t, un_not_f, selE_t, selE_f, get_set', decide_true, decide_false, Bool.not_true, Bool.not_false, cond_true, cond_false, implies_true, Int.cast_ofNat_Int, UInt8.reduceToNat, Int.reduceSub, Int.reduceAdd , new_eq, ext_ext, nb_nb, next_ext, next_set, get_set_eq, get_set_ne, get_ext_old, get_ext_nb, get_ext_nb', load_ptr', ldB_cells, part_none, part_some, store_ptr', stB_some, write_eq, wrB_cells, set_ext_nb, set_ext_nb', set_ext_old, cells_int, cells_bool, cells_bo, cells_str, cells_nilptr, cells_ptr, cells_nilslice, cells_slice, cells_nilmap, cells_map, cells_nilfunc, cells_func, cells_niliface, cells_iface, cells_agg, fill_nil, fill_cons, fillB_some, evOp_box', boxE_some, evOp_alloc', evOp_mkmap', get_bump, next_bump, set_bump, load_bump, nb_lt, nb_inj, lt_nb, eq_agg, eqs_nil, eqs_cons, eqsE_some, andO_true, andO_false, andO_t, andO_f, andO_dec, res_cell, rcE_some, List.length_cons, List.length_nil, Nat.zero_add, Nat.add_zero, List.take_succ_cons, List.take_zero, List.take_nil, List.drop_succ_cons, List.drop_zero, List.drop_nil, List.getElem?_cons_zero, List.getElem?_cons_succ, List.getElem?_nil, Option.getD_some, List.set_cons_zero, List.set_cons_succ, Nat.reduceLT, Nat.reduceMul, Nat.reduceSub, Nat.reduceAdd, Nat.reduceEqDiff, Nat.reduceLeDiff, Nat.le_refl, ne_eq, Bool.or_true, Bool.or_false, Bool.true_or, Bool.false_or, Bool.and_true, Bool.true_and, Bool.and_false, Bool.false_and, eq_pn, eq_np, eq_nn, eq_sn, eq_ns, eq_nsns, evOp_bslice1, evOp_bslice0, bsE_some , srt_mov, srt_alloc, srt_box, srt_build, srt_bslice, srt_store, srt_nilck, srt_bin, srt_eq, srt_un, srt_iface, srt_mkfn, srt_mkmap, srt_mkslice, srt_slstr, srt_slsl, srt_slarr, srt_faddr, srt_fld, srt_iaddr, srt_iaddrArr, srt_idxstr, srt_idxagg, srt_lookup, srt_mapupd, srt_delete, srt_lenmap, srt_tassert, srt_extract, srt_len, srt_lenstr, srt_lenarr, srt_cap, srt_max, srt_min, srt_append, srt_copy, srt_pick, srt_cv_int, srt_cv_same, srt_cv_bytes, srt_cv_text, exec_draw', drw_nil, thenL_some, ifB_true, drw_v0, drw_v1, thenD_ret, chk_nil, chk_cons, snap_nil, snap_cons, pair_nil, pair_cons, stands_eq, standE_self, noL_nil, noL_cons, noA_nil, noA_cons, drw_load0, drw_load1, drw_v30, drw_v31, drw_call0, drw_call1, retO_ret, drw_gv0, drw_gv1, drw_gld0, drw_gld1, drw_gv30, drw_gv31, drw_gcall0, drw_gcall1, gE_bo_t, gE_bo_f, gE_tt, gE_tf, gE_ft, gE_ff, gE_undef, gE_gv_t, gE_gv_f, gE_gt_t, gE_gt_f, gE_gf_t, gE_gf_f, Nat.reduceBNe ]
  · simp +contextual -implicitDefEqProofs (maxSteps := 1000000) only [F20, hg, n1, n2, argsF, fr00_get, fr00_defers, put_some, put_none, set_defers, eval_tmp, eval_const, reduceIte, reduceCtorEq, Nat.reduceEqDiff, Nat.reduceBEq, Nat.reduceAdd, ofEV_some, ofEM_some, ofM_some, thenV_some, thenC_ret, thenE_norm, thenE_ret, thenE_exit, leave_norm, leave_ret, leave_exit, selO_t, selO_f, resR_ret, resR_norm, resR_pan, eq_self, res_nil, res_tmp, one_one, one_two, one_nil, bin_add, bin_sub, bin_mul, bin_quo, bin_rem, bin_and, bin_or, bin_xor, bin_andNot, bin_lss, bin_leq, bin_gtr, bin_geq, bin_shl_i64, bin_shr_i64, bin_shl_u64, bin_shr_u64, eq_int, un_neg, cv_int, exec_seq, exec_region, exec_skip, exec_ret, exec_exit, exec_block, exec_cond', oprs_nil, oprs_val, oprs_callv, Option.map_some, Option.map_none, List.map_cons, List.map_nil, Int.reduceLT, Int.reduceLE, Int.reduceEq, Int.reduceToNat, Int.reduceNeg, Nat.reduceLeDiff, Int.reducePow, bo_decide, bo_not_decide, bo_tt, bo_ff, gv_true, gv_false, cE_bo, thenG_val, thenH_ret, gV_undef, gV_bo_t, gV_bo_f, gV_gv_t, gV_gv_f, gC_undef, gC_bo_t, gC_bo_f, gC_gv_t, gC_gv_f, oprs_gval, oprs_gcallv, runV_func, List.nil_append, List.append_nil, List.cons_append, evOp_pick', pick_and, pick_or, pick_and0, pick_or0, pick_t, pick_f, un_not_bo, eq_boo, eq_str, thenE_iF, leave_iF, thenV_iF, thenC_iF, resR_iF, not_true_eq_false, not_false_eq_true, and_true, true_and, and_false, false_and, or_true, true_or, or_false, false_or, Classical.not_not, Bool.false_bne, Bool.true_bne, Bool.false_xor, Bool.true_xor, evOp_mov, evOp_build, evOp_load, evOp_store, evOp_nilck, evOp_bin, evOp_eq, evOp_un, evOp_conv, evOp_iface, evOp_mkfn, evOp_mkslice, evOp_slstr, evOp_slsl, evOp_slarr, evOp_faddr, evOp_fld, evOp_iaddr, evOp_iaddrArr, evOp_idxstr, evOp_idxagg, evOp_lookup, evOp_mapupd, evOp_delete, evOp_lenmap, evOp_tassert, evOp_extract, evOp_lenstr, evOp_len, evOp_lenarr, evOp_cap, evOp_max, evOp_min, evOp_append, evOp_copy, cE_t, cE_f, gV_tt, gV_tf, gV_ft, gV_ff, gV_gt_t, gV_gt_f, gV_gf_t, gV_gf_f, gC_tt, gC_tf, gC_ft, gC_ff, gC_gt_t, gC_gt_f, gC_gf_t, gC_gf_f, pick_and_t, pick_and_f, pick_or_t, pick_or_f, eq_bo_t, eq_bo_f, eq_t_bo, eq_f_bo, eq_tt, eq_ff, eq_tf, eq_ft, un_not_t, un_not_f, selE_t, selE_f, get_set', decide_true, decide_false, Bool.not_true, Bool.not_false, cond_true, cond_false, implies_true, Int.cast_ofNat_Int, UInt8.reduceToNat, Int.reduceSub, Int.reduceAdd , new_eq, ext_ext, nb_nb, next_ext, next_set, get_set_eq, get_set_ne, get_ext_old, get_ext_nb, get_ext_nb', load_ptr', ldB_cells, part_none, part_some, store_ptr', stB_some, write_eq, wrB_cells, set_ext_nb, set_ext_nb', set_ext_old, cells_int, cells_bool, cells_bo, cells_str, cells_nilptr, cells_ptr, cells_nilslice, cells_slice, cells_nilmap, cells_map, cells_nilfunc, cells_func, cells_niliface, cells_iface, cells_agg, fill_nil, fill_cons, fillB_some, evOp_box', boxE_some, evOp_alloc', evOp_mkmap', get_bump, next_bump, set_bump, load_bump, nb_lt, nb_inj, lt_nb, eq_agg, eqs_nil, eqs_cons, eqsE_some, andO_true, andO_false, andO_t, andO_f, andO_dec, res_cell, rcE_some, List.length_cons, List.length_nil, Nat.zero_add, Nat.add_zero, List.take_succ_cons, List.take_zero, List.take_nil, List.drop_succ_cons, List.drop_zero, List.drop_nil, List.getElem?_cons_zero, List.getElem?_cons_succ, List.getElem?_nil, Option.getD_some, List.set_cons_zero, List.set_cons_succ, Nat.reduceLT, Nat.reduceMul, Nat.reduceSub, Nat.reduceAdd, Nat.reduceEqDiff, Nat.reduceLeDiff, Nat.le_refl, ne_eq, Bool.or_true, Bool.or_false, Bool.true_or, Bool.false_or, Bool.and_true, Bool.true_and, Bool.and_false, Bool.false_and, eq_pn, eq_np, eq_nn, eq_sn, eq_ns, eq_nsns, evOp_bslice1, evOp_bslice0, bsE_some , srt_mov, srt_alloc, srt_box, srt_build, srt_bslice, srt_store, srt_nilck, srt_bin, srt_eq, srt_un, srt_iface, srt_mkfn, srt_mkmap, srt_mkslice, srt_slstr, srt_slsl, srt_slarr, srt_faddr, srt_fld, srt_iaddr, srt_iaddrArr, srt_idxstr, srt_idxagg, srt_lookup, srt_mapupd, srt_delete, srt_lenmap, srt_tassert, srt_extract, srt_len, srt_lenstr, srt_lenarr, srt_cap, srt_max, srt_min, srt_append, srt_copy, srt_pick, srt_cv_int, srt_cv_same, srt_cv_bytes, srt_cv_text, exec_draw', drw_nil, thenL_some, ifB_true, drw_v0, drw_v1, thenD_ret, chk_nil, chk_cons, snap_nil, snap_cons, pair_nil, pair_cons, stands_eq, standE_self, noL_nil, noL_cons, noA_nil, noA_cons, drw_load0, drw_load1, drw_v30, drw_v31, drw_call0, drw_call1, retO_ret, drw_gv0, drw_gv1, drw_gld0, drw_gld1, drw_gv30, drw_gv31, drw_gcall0, drw_gcall1, gE_bo_t, gE_bo_f, gE_tt, gE_tf, gE_ft, gE_ff, gE_undef, gE_gv_t, gE_gv_f, gE_gt_t, gE_gt_f, gE_gf_t, gE_gf_f, Nat.reduceBNe ]
/-- Cells of an array are written anew. -/
theorem HeapRep.write (h : HeapRep m hb most A cv av ib) {k : Nat} {a : Arr} (hk : A[k]? = some a) (hnl : a.nl = false) {i : Nat} {vs : List EV} (hi : i + vs.length ≤ a.l.length) :
    ∃ m', m.write a.b (a.o + i) vs = some m' ∧ m'.next = m.next ∧ (∀ c, c ≠ a.b → m'.get c = m.get c) ∧ HeapRep m' hb most (A.set k ⟨a.b, a.o, putAt a.l i vs, false⟩) cv av ib := by
  obtain ⟨⟨cs, t, h1, h2, h3⟩, h4⟩ : ArrAt m a ∧ ib a.b := by
    rcases h.arr k a hk with h | h
    · rw [hnl] at h; exact absurd h.1 (by simp)
    · exact h.2
  have hlt : k < A.length := (List.getElem?_eq_some_iff.1 hk).1
  have hov : (putAt a.l i vs).length = a.l.length := putAt_len hi
  have hfit : a.o + i + vs.length ≤ cs.length := by omega
  obtain ⟨g1, g2, g3⟩ := h.ibok a.b h4
  have hkeep : ∀ c, c ≠ a.b → (m.set a.b (.cells (putAt cs (a.o + i) vs) 1 t false)).get c = m.get c := fun c hc => get_set_ne hc
  have hset : ∀ (j : Nat) (x : Arr), (A.set k ⟨a.b, a.o, putAt a.l i vs, false⟩)[j]? = some x → (j = k ∧ x = ⟨a.b, a.o, putAt a.l i vs, false⟩) ∨ (j ≠ k ∧ A[j]? = some x) := by
    intro j x hx
    rw [List.getElem?_set] at hx
    by_cases hj : k = j
    · rw [if_pos hj, if_pos hlt] at hx; cases hx; exact .inl ⟨hj.symm, rfl⟩
    · rw [if_neg hj] at hx; exact .inr ⟨fun e => hj e.symm, hx⟩
  have hmap : (A.set k ⟨a.b, a.o, putAt a.l i vs, false⟩).map Arr.v = A.map Arr.v := by
    refine List.ext_getElem? fun j => ?_
    rw [List.getElem?_map, List.getElem?_map, List.getElem?_set]
    by_cases hj : k = j
    · subst hj; rw [if_pos rfl, if_pos hlt, hk]; simp only [Option.map_some, Arr.v, hov, hnl]
    · rw [if_neg hj]
  have hused : usedOf (A.set k ⟨a.b, a.o, putAt a.l i vs, false⟩) = usedOf A := by
    unfold usedOf
    congr 2
    refine List.ext_getElem? fun j => ?_
    rw [List.getElem?_map, List.getElem?_map, List.getElem?_set]
    by_cases hj : k = j
    · subst hj; rw [if_pos rfl, if_pos hlt, hk]; simp only [Option.map_some, hov]
    · rw [if_neg hj]
  refine ⟨_, write_putAt h1 hfit, next_set, hkeep, ⟨?_, h.lt, h.ibok, ?_, h.offh, ?_, ?_, ?_⟩⟩
  · rw [hkeep hb (Ne.symm g2), hused]; exact h.get
  · rw [hmap, List.length_set]
    exact h.own.keep (Nat.le_refl _) fun c _ hc => hkeep c fun e => hc (e ▸ g3)
  · intro j x hx
    rcases hset j x hx with ⟨rfl, rfl⟩ | ⟨hj, hx⟩
    · refine .inr ⟨rfl, ⟨_, _, get_set_eq, ?_, ?_⟩, h4⟩
      · simp only [hov]; rw [putAt_len hfit]; exact h2
      · simp only [hov]; rw [putAt_in hi h2, h3]
    · rcases h.arr j x hx with q | ⟨q0, ⟨cs', t', q1, q2, q3⟩, q4⟩
      · exact .inl q
      refine .inr ⟨q0, ?_, q4⟩
      by_cases hb' : x.b = a.b
      · rw [hb'] at q1
        rw [h1] at q1
        cases q1
        refine ⟨_, _, by rw [hb']; exact get_set_eq, by rw [putAt_len hfit]; exact q2, ?_⟩
        rw [putAt_apart hfit, q3]
        have := h.dis j k x a hj hx hk hb'
        omega
      · exact ⟨cs', t', by rw [hkeep _ hb']; exact q1, q2, q3⟩
  · intro j j' x x' hjj hx hx'
    rcases hset j x hx with ⟨e1, e2⟩ | ⟨hj, y⟩ <;> rcases hset j' x' hx' with ⟨e3, e4⟩ | ⟨hj', y'⟩
    · exact absurd (e1.trans e3.symm) hjj
    · have := h.dis k j' a x' (Ne.symm hj') hk y'
      subst e2
      unfold Disj at this ⊢; simp only [hov]; exact this
    · have := h.dis j k x a hj y hk
      subst e4
      unfold Disj at this ⊢; simp only [hov]; exact this
    · exact h.dis j j' x x' hjj y y'
  · rcases h.cur with hc | ⟨cb, cn, cs', t', c1, c2, c3, c4, c5, c6⟩
    · exact .inl hc
    · have hall : ∀ (j : Nat) (x : Arr), (A.set k ⟨a.b, a.o, putAt a.l i vs, false⟩)[j]? = some x → x.b = cb → x.l.length = 0 ∨ x.o + x.l.length ≤ cn := by
        intro j x hx hb'
        rcases hset j x hx with ⟨rfl, rfl⟩ | ⟨hj, hx⟩
        · have := c6 j a hk hb'; simp only [hov]; exact this
        · exact c6 j x hx hb'
      by_cases hb' : cb = a.b
      · rw [hb', h1] at c3
        cases c3
        refine .inr ⟨cb, cn, putAt cs (a.o + i) vs, t, by rw [putAt_len hfit]; exact c1, c2, by rw [hb']; exact get_set_eq, by rw [putAt_len hfit]; exact c4, ?_, hall⟩
        intro j hj1 hj2
        rw [putAt_len hfit] at hj2
        have := c6 k a hk hb'.symm
        rw [putAt_get hfit, if_neg (by omega)]
        exact c5 j hj1 hj2
      · exact .inr ⟨cb, cn, cs', t', c1, c2, by rw [hkeep _ hb']; exact c3, c4, c5, hall⟩
end
end Go.Proofs.Ythlbifjgnhdonaa.Ev
