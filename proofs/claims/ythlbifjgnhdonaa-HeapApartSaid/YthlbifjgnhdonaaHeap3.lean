/- A heap of arrays: a new one, in cells made anew. -/
import Derived.Test.YthlbifjgnhdonaaHeap2
namespace Go.Proofs.Ythlbifjgnhdonaa.Ev
open Go
set_option linter.unusedSimpArgs false
set_option linter.unusedSectionVars false
set_option maxRecDepth 10000
set_option maxHeartbeats 4000000
theorem max_64 {n : Nat} : evMax [.int .i64 (n : Int), .int .i64 64] = some (.int .i64 (Int.ofNat (max n 64))) := by
  show (bif (kindNo .i64).beq (kindNo .i64) then maxFrom .i64 (if (64 : Int) > (n : Int) then 64 else (n : Int)) [] else none) = _
  have : (if (64 : Int) > (n : Int) then (64 : Int) else (n : Int)) = Int.ofNat (max n 64) := by
    show _ = ((max n 64 : Nat) : Int)
    split <;> omega
  rw [this]; rfl
theorem copies_one {n : Nat} {x : EV} : copies n [x] = List.replicate n x := by
  unfold copies
  induction n with
  | zero => rfl
  | succ n ih => rw [List.replicate_succ, List.flatten_cons, ih, List.replicate_succ]; rfl
theorem ble_zero {n : Nat} : Nat.ble 0 n = true := Nat.ble_eq_true_of_le (Nat.zero_le n)
section
variable {m : Mem} {hb : Nat} {most : Int} {A : List Arr} {cv av : EV} {ib : Nat → Prop}
theorem make_2 {cc cn : Nat} {n : Nat} (h : HeapRep m hb most A cv av ib) (hcv : cv = .nilslice ∧ cc = 0 ∧ cn = 0 ∨ ∃ b, cv = .slice b 0 cn (some cc)) (hcn : cn ≤ cc) (hm : most ≤ 1048576) (h1 : (n : Int) < most - usedOf A) (h2 : cc - cn < n) (hcl : cc < 1000000000) : NewArr m hb most A av ib n (run T 12 [.ptr hb 0, .int .i64 (n : Int)] m) := by
  have hg := h.get
  have n1 : ¬ ((n : Int) < 0) := by omega
  have hu : 0 ≤ usedOf A := used_nonneg
  have w1 : IntKind.i64.wrap (most - usedOf A) = most - usedOf A := by rw [wrap_i64 (by omega) (by omega)]
  have n2 : ¬ (most - usedOf A ≤ (n : Int)) := by omega
  have w2 : IntKind.i64.wrap ((cc : Int) - (cn : Int)) = ((cc - cn : Nat) : Int) := by rw [wrap_i64 (by omega) (by omega)]; omega
  have w3 : IntKind.i64.wrap (0 + (n : Int)) = (n : Int) := by rw [wrap_i64 (by omega) (by omega)]; omega
  have w0 : IntKind.i64.wrap 0 = 0 := by decide
  have n3 : ((cc - cn : Nat) : Int) < (n : Int) := by omega
  have n4 : (0 : Int) < (n : Int) := by omega
  have k1 : (max n 64).ble room = true := Nat.ble_eq_true_of_le (by unfold room; omega)
  have s1 : evSlice 1 (nb m.next 39) 0 0 (some (max n 64)) none (some (.int .i64 (n : Int))) none = some (.slice (nb m.next 39) 0 n (some (max n 64))) := slice_hi (by omega)
  have s2 : evSlice 1 (nb m.next 39) 0 n (some (max n 64)) (some (.int .i64 0)) (some (.int .i64 (n : Int))) (some (.int .i64 (n : Int))) = some (.slice (nb m.next 39) 0 n (some n)) := by
    have := slice_3 (b := nb m.next 39) (len := n) (c := max n 64) (l := 0) (n := n) (by omega)
    simp only [Nat.zero_add, ite_self] at this
    exact this
  have hbn := h.lt
  generalize hX : run T 12 [.ptr hb 0, .int .i64 (n : Int)] m = X
  rw [run_at (by simp [F12])] at hX
  rcases hcv with ⟨rfl, rfl, rfl⟩ | ⟨b0, rfl⟩
  all_goals
    simp +contextual -implicitDefEqProofs (maxSteps := 1000000) only [F12, hg, hbn, n1, n2, w0, w1, w2, w3, n4, n3, k1, s1, s2, max_64, copies_one, ble_zero, tbl_drawn, argsF, fr00_get, fr00_defers, put_some, put_none, set_defers, eval_tmp, eval_const, reduceIte, reduceCtorEq, Nat.reduceEqDiff, Nat.reduceBEq, Nat.reduceAdd, ofEV_some, ofEM_some, ofM_some, thenV_some, thenC_ret, thenE_norm, thenE_ret, thenE_exit, leave_norm, leave_ret, leave_exit, selO_t, selO_f, resR_ret, resR_norm, resR_pan, eq_self, res_nil, res_tmp, one_one, one_two, one_nil, bin_add, bin_sub, bin_mul, bin_quo, bin_rem, bin_and, bin_or, bin_xor, bin_andNot, bin_lss, bin_leq, bin_gtr, bin_geq, bin_shl_i64, bin_shr_i64, bin_shl_u64, bin_shr_u64, eq_int, un_neg, cv_int, exec_seq, exec_region, exec_skip, exec_ret, exec_exit, exec_block, exec_cond', oprs_nil, oprs_val, oprs_callv, Option.map_some, Option.map_none, List.map_cons, List.map_nil, Int.reduceLT, Int.reduceLE, Int.reduceEq, Int.reduceToNat, Int.reduceNeg, Nat.reduceLeDiff, Int.reducePow, bo_decide, bo_not_decide, bo_tt, bo_ff, gv_true, gv_false, cE_bo, thenG_val, thenH_ret, gV_undef, gV_bo_t, gV_bo_f, gV_gv_t, gV_gv_f, gC_undef, gC_bo_t, gC_bo_f, gC_gv_t, gC_gv_f, oprs_gval, oprs_gcallv, runV_func, List.nil_append, List.append_nil, List.cons_append, evOp_pick', pick_and, pick_or, pick_and0, pick_or0, pick_t, pick_f, un_not_bo, eq_boo, eq_str, thenE_iF, leave_iF, thenV_iF, thenC_iF, resR_iF, not_true_eq_false, not_false_eq_true, and_true, true_and, and_false, false_and, or_true, true_or, or_false, false_or, Classical.not_not, Bool.false_bne, Bool.true_bne, Bool.false_xor, Bool.true_xor, evOp_mov, evOp_build, evOp_load, evOp_store, evOp_nilck, evOp_bin, evOp_eq, evOp_un, evOp_conv, evOp_iface, evOp_mkfn, evOp_mkslice, evOp_slstr, evOp_slsl, evOp_slarr, evOp_faddr, evOp_fld, evOp_iaddr, evOp_iaddrArr, evOp_idxstr, evOp_idxagg, evOp_lookup, evOp_mapupd, evOp_delete, evOp_lenmap, evOp_tassert, evOp_extract, evOp_lenstr, evOp_len, evOp_lenarr, evOp_cap, evOp_max, evOp_min, evOp_append, evOp_copy, cE_t, cE_f, gV_tt, gV_tf, gV_ft, gV_ff, gV_gt_t, gV_gt_f, gV_gf_t, gV_gf_f, gC_tt, gC_tf, gC_ft, gC_ff, gC_gt_t, gC_gt_f, gC_gf_t, gC_gf_f, pick_and_t, pick_and_f, pick_or_t, pick_or_f, eq_bo_t, eq_bo_f, eq_t_bo, eq_f_bo, eq_tt, eq_ff, eq_tf, eq_ft, un_not_t, un_not_f, selE_t, selE_f, get_set', decide_true, decide_false, Bool.not_true, Bool.not_false, cond_true, cond_false, implies_true, Int.cast_ofNat_Int, UInt8.reduceToNat, Int.reduceSub, Int.reduceAdd , new_eq, ext_ext, nb_nb, next_ext, next_set, get_set_eq, get_set_ne, get_ext_old, get_ext_nb, get_ext_nb', load_ptr', ldB_cells, part_none, part_some, store_ptr', stB_some, write_eq, wrB_cells, set_ext_nb, set_ext_nb', set_ext_old, cells_int, cells_bool, cells_bo, cells_str, cells_nilptr, cells_ptr, cells_nilslice, cells_slice, cells_nilmap, cells_map, cells_nilfunc, cells_func, cells_niliface, cells_iface, cells_agg, fill_nil, fill_cons, fillB_some, evOp_box', boxE_some, evOp_alloc', evOp_mkmap', get_bump, next_bump, set_bump, load_bump, nb_lt, nb_inj, lt_nb, eq_agg, eqs_nil, eqs_cons, eqsE_some, andO_true, andO_false, andO_t, andO_f, andO_dec, res_cell, rcE_some, List.length_cons, List.length_nil, Nat.zero_add, Nat.add_zero, List.take_succ_cons, List.take_zero, List.take_nil, List.drop_succ_cons, List.drop_zero, List.drop_nil, List.getElem?_cons_zero, List.getElem?_cons_succ, List.getElem?_nil, Option.getD_some, List.set_cons_zero, List.set_cons_succ, Nat.reduceLT, Nat.reduceMul, Nat.reduceSub, Nat.reduceAdd, Nat.reduceEqDiff, Nat.reduceLeDiff, Nat.le_refl, ne_eq, Bool.or_true, Bool.or_false, Bool.true_or, Bool.false_or, Bool.and_true, Bool.true_and, Bool.and_false, Bool.false_and, eq_pn, eq_np, eq_nn, eq_sn, eq_ns, eq_nsns, evOp_bslice1, evOp_bslice0, bsE_some , srt_mov, srt_alloc, srt_box, srt_build, srt_bslice, srt_store, srt_nilck, srt_bin, srt_eq, srt_un, srt_iface, srt_mkfn, srt_mkmap, srt_mkslice, srt_slstr, srt_slsl, srt_slarr, srt_faddr, srt_fld, srt_iaddr, srt_iaddrArr, srt_idxstr, srt_idxagg, srt_lookup, srt_mapupd, srt_delete, srt_lenmap, srt_tassert, srt_extract, srt_len, srt_lenstr, srt_lenarr, srt_cap, srt_max, srt_min, srt_append, srt_copy, srt_pick, srt_cv_int, srt_cv_same, srt_cv_bytes, srt_cv_text, exec_draw', drw_nil, thenL_some, ifB_true, drw_v0, drw_v1, thenD_ret, chk_nil, chk_cons, snap_nil, snap_cons, pair_nil, pair_cons, stands_eq, standE_self, noL_nil, noL_cons, noA_nil, noA_cons, drw_load0, drw_load1, drw_v30, drw_v31, drw_call0, drw_call1, retO_ret, drw_gv0, drw_gv1, drw_gld0, drw_gld1, drw_gv30, drw_gv31, drw_gcall0, drw_gcall1, gE_bo_t, gE_bo_f, gE_tt, gE_tf, gE_ft, gE_ff, gE_undef, gE_gv_t, gE_gv_f, gE_gt_t, gE_gt_f, gE_gf_t, gE_gf_f, Nat.reduceBNe ] at hX
    generalize hM1 : drawn _ _ _ _ = M1 at hX
    have g1 : M1.next = m.next + 58 := by rw [← hM1]; rfl
    have g2 : ∀ c, c < m.next → c ≠ hb → M1.get c = m.get c := by
      intro c hc hne
      rw [← hM1, drawn_get, if_neg (by unfold nb; omega), get_bump, get_ext_old (by show c < m.next + 26 + 13; omega), get_bump, get_bump, get_set_ne hne, get_set_ne hne]
    have g3 : M1.get hb = .cells [.slice (nb m.next 39) 0 n (some (max n 64)), av, .int .i64 most, .int .i64 (usedOf A), .bool true] 5 36 false := by
      rw [← hM1, drawn_get, if_neg (by unfold nb; omega), get_bump, get_ext_old (by show hb < m.next + 26 + 13; omega), get_bump, get_bump]
      exact get_set_eq
    have g5 : M1.get (nb m.next 39) = .cells (List.replicate (max n 64) (.int .i64 0)) 1 3 false := by
      rw [← hM1, drawn_get, if_neg (by unfold nb; omega), get_bump]
      exact get_ext_nb (n := nb m.next 39) (i := 0) rfl (by simp)
    have g4 : M1.get (nb (nb m.next 40 + 13) 0) = .cells [.slice (nb m.next 39) 0 n (some n)] 1 27 false := by
      rw [← hM1, drawn_get]; exact if_pos rfl
    have hO : Own M1 av (A.map Arr.v) A.length 1 0 := h.own.keep (by omega) fun c hc ho => g2 c hc fun e => ho (e ▸ h.offh)
    have hsrc : M1.source 1 (.slice (nb (nb m.next 40 + 13) 0) 0 1 (some 1)) = some (1, [.slice (nb m.next 39) 0 n (some n)]) := by
      show (M1.row _ 0 (1 * 1)).map _ = _
      rw [row_all g4 rfl]; rfl
    have hlu := len_used (A := A)
    obtain ⟨v', m', ha, hown, hkeep, hnext, vcap, rfl⟩ := append_own (e := 27) hO (Nat.zero_le _) hsrc rfl (by decide) (by unfold room; omega)
    have hg2 : m'.get hb = .cells [.slice (nb m.next 39) 0 n (some (max n 64)), av, .int .i64 most, .int .i64 (usedOf A), .bool true] 5 36 false := by rw [hkeep hb (by omega) h.offh]; exact g3
    have w4 : IntKind.i64.wrap ((n : Int) + 1) = (n : Int) + 1 := by rw [wrap_i64 (by omega) (by omega)]
    have w5 : IntKind.i64.wrap (usedOf A + ((n : Int) + 1)) = usedOf A + ((n : Int) + 1) := by rw [wrap_i64 (by omega) (by omega)]
    simp +contextual -implicitDefEqProofs (maxSteps := 1000000) only [ha, hg2, w4, w5, argsF, fr00_get, fr00_defers, put_some, put_none, set_defers, eval_tmp, eval_const, reduceIte, reduceCtorEq, Nat.reduceEqDiff, Nat.reduceBEq, Nat.reduceAdd, ofEV_some, ofEM_some, ofM_some, thenV_some, thenC_ret, thenE_norm, thenE_ret, thenE_exit, leave_norm, leave_ret, leave_exit, selO_t, selO_f, resR_ret, resR_norm, resR_pan, eq_self, res_nil, res_tmp, one_one, one_two, one_nil, bin_add, bin_sub, bin_mul, bin_quo, bin_rem, bin_and, bin_or, bin_xor, bin_andNot, bin_lss, bin_leq, bin_gtr, bin_geq, bin_shl_i64, bin_shr_i64, bin_shl_u64, bin_shr_u64, eq_int, un_neg, cv_int, exec_seq, exec_region, exec_skip, exec_ret, exec_exit, exec_block, exec_cond', oprs_nil, oprs_val, oprs_callv, Option.map_some, Option.map_none, List.map_cons, List.map_nil, Int.reduceLT, Int.reduceLE, Int.reduceEq, Int.reduceToNat, Int.reduceNeg, Nat.reduceLeDiff, Int.reducePow, bo_decide, bo_not_decide, bo_tt, bo_ff, gv_true, gv_false, cE_bo, thenG_val, thenH_ret, gV_undef, gV_bo_t, gV_bo_f, gV_gv_t, gV_gv_f, gC_undef, gC_bo_t, gC_bo_f, gC_gv_t, gC_gv_f, oprs_gval, oprs_gcallv, runV_func, List.nil_append, List.append_nil, List.cons_append, evOp_pick', pick_and, pick_or, pick_and0, pick_or0, pick_t, pick_f, un_not_bo, eq_boo, eq_str, thenE_iF, leave_iF, thenV_iF, thenC_iF, resR_iF, not_true_eq_false, not_false_eq_true, and_true, true_and, and_false, false_and, or_true, true_or, or_false, false_or, Classical.not_not, Bool.false_bne, Bool.true_bne, Bool.false_xor, Bool.true_xor, evOp_mov, evOp_build, evOp_load, evOp_store, evOp_nilck, evOp_bin, evOp_eq, evOp_un, evOp_conv, evOp_iface, evOp_mkfn, evOp_mkslice, evOp_slstr, evOp_slsl, evOp_slarr, evOp_faddr, evOp_fld, evOp_iaddr, evOp_iaddrArr, evOp_idxstr, evOp_idxagg, evOp_lookup, evOp_mapupd, evOp_delete, evOp_lenmap, evOp_tassert, evOp_extract, evOp_lenstr, evOp_len, evOp_lenarr, evOp_cap, evOp_max, evOp_min, evOp_append, evOp_copy, cE_t, cE_f, gV_tt, gV_tf, gV_ft, gV_ff, gV_gt_t, gV_gt_f, gV_gf_t, gV_gf_f, gC_tt, gC_tf, gC_ft, gC_ff, gC_gt_t, gC_gt_f, gC_gf_t, gC_gf_f, pick_and_t, pick_and_f, pick_or_t, pick_or_f, eq_bo_t, eq_bo_f, eq_t_bo, eq_f_bo, eq_tt, eq_ff, eq_tf, eq_ft, un_not_t, un_not_f, selE_t, selE_f, get_set', decide_true, decide_false, Bool.not_true, Bool.not_false, cond_true, cond_false, implies_true, Int.cast_ofNat_Int, UInt8.reduceToNat, Int.reduceSub, Int.reduceAdd , new_eq, ext_ext, nb_nb, next_ext, next_set, get_set_eq, get_set_ne, get_ext_old, get_ext_nb, get_ext_nb', load_ptr', ldB_cells, part_none, part_some, store_ptr', stB_some, write_eq, wrB_cells, set_ext_nb, set_ext_nb', set_ext_old, cells_int, cells_bool, cells_bo, cells_str, cells_nilptr, cells_ptr, cells_nilslice, cells_slice, cells_nilmap, cells_map, cells_nilfunc, cells_func, cells_niliface, cells_iface, cells_agg, fill_nil, fill_cons, fillB_some, evOp_box', boxE_some, evOp_alloc', evOp_mkmap', get_bump, next_bump, set_bump, load_bump, nb_lt, nb_inj, lt_nb, eq_agg, eqs_nil, eqs_cons, eqsE_some, andO_true, andO_false, andO_t, andO_f, andO_dec, res_cell, rcE_some, List.length_cons, List.length_nil, Nat.zero_add, Nat.add_zero, List.take_succ_cons, List.take_zero, List.take_nil, List.drop_succ_cons, List.drop_zero, List.drop_nil, List.getElem?_cons_zero, List.getElem?_cons_succ, List.getElem?_nil, Option.getD_some, List.set_cons_zero, List.set_cons_succ, Nat.reduceLT, Nat.reduceMul, Nat.reduceSub, Nat.reduceAdd, Nat.reduceEqDiff, Nat.reduceLeDiff, Nat.le_refl, ne_eq, Bool.or_true, Bool.or_false, Bool.true_or, Bool.false_or, Bool.and_true, Bool.true_and, Bool.and_false, Bool.false_and, eq_pn, eq_np, eq_nn, eq_sn, eq_ns, eq_nsns, evOp_bslice1, evOp_bslice0, bsE_some ] at hX
    subst hX
    have hnx : m'.next = m.next + 59 := by omega
    have hoav : Off av (nb m.next 39) := by
      rcases h.own.is with ⟨e, _⟩ | ⟨b, cap, t, e, q1, q2, _⟩
      · rw [e]; exact Off.nil
      · rw [e]; exact Off.of (by unfold nb; omega)
    have hk : ∀ c, c < m.next → c ≠ hb → Off av c → ((m'.set hb (.cells [.slice (nb m.next 39) 0 n (some (max n 64)), .slice M1.next 0 (A.length + 1) vcap, .int .i64 most, .int .i64 (usedOf A), .bool true] 5 36 false)).set hb (.cells [.slice (nb m.next 39) 0 n (some (max n 64)), .slice M1.next 0 (A.length + 1) vcap, .int .i64 most, .int .i64 (usedOf A + ((n : Int) + 1)), .bool true] 5 36 false)).get c = m.get c := by
      intro c hc hne ho
      rw [get_set_ne hne, get_set_ne hne, hkeep c (by omega) ho, g2 c hc hne]
    have hcb : ((m'.set hb (.cells [.slice (nb m.next 39) 0 n (some (max n 64)), .slice M1.next 0 (A.length + 1) vcap, .int .i64 most, .int .i64 (usedOf A), .bool true] 5 36 false)).set hb (.cells [.slice (nb m.next 39) 0 n (some (max n 64)), .slice M1.next 0 (A.length + 1) vcap, .int .i64 most, .int .i64 (usedOf A + ((n : Int) + 1)), .bool true] 5 36 false)).get (nb m.next 39) = .cells (List.replicate (max n 64) (.int .i64 0)) 1 3 false := by
      rw [get_set_ne (by unfold nb; omega), get_set_ne (by unfold nb; omega), hkeep _ (by unfold nb; omega) hoav, g5]
    have hl : (List.replicate n (EV.int .i64 0)).length = n := List.length_replicate ..
    have hl2 : (List.replicate (max n 64) (EV.int .i64 0)).length = max n 64 := List.length_replicate ..
    have hnew : ∀ (i : Nat) (x : Arr), A[i]? = some x → x.b = nb m.next 39 → x.l.length = 0 := by
      intro i x hx hb'
      rcases h.arr i x hx with ⟨_, q⟩ | ⟨_, _, q⟩
      · rw [q]; rfl
      · have := (h.ibok _ q).1
        rw [hb'] at this
        unfold nb at this
        omega
    refine ⟨_, .slice (nb m.next 39) 0 n (some (max n 64)), _, nb m.next 39, ⟨nb m.next 39, 0, List.replicate n (.int .i64 0), false⟩, rfl, rep_make h get_set_eq hl (by rw [next_set, next_set]; omega) hk ?_ (by omega) ⟨by unfold nb; omega, by unfold nb; omega, by rw [next_set, next_set]; unfold nb; omega⟩ (.inr ⟨rfl, ⟨_, _, hcb, ?_, ?_⟩, rfl⟩) ?_ (.inr ⟨nb m.next 39, n, _, _, by rw [hl2], .inr rfl, hcb, by rw [hl2]; omega, ?_, ?_⟩), rfl, (by rw [next_set, next_set]; omega), hk, .inr (by unfold nb; omega), fun c hc => Off.of (by omega)⟩
    · have : Arr.v ⟨nb m.next 39, 0, List.replicate n (.int .i64 0), false⟩ = .slice (nb m.next 39) 0 n (some n) := by simp only [Arr.v, cond_false, hl]
      rw [this]
      exact hown.keep (by rw [next_set, next_set]; omega) fun c hc ho => by
        have : c ≠ hb := fun e => ho (Off.of (by omega))
        rw [get_set_ne this, get_set_ne this]
    · simp only [hl, hl2]; omega
    · simp only [hl]
      refine List.ext_getElem? fun i => ?_
      rw [part_get, List.getElem?_replicate, List.getElem?_replicate]
      by_cases hi : i < n
      · rw [if_pos hi, if_pos hi, if_pos (by omega)]
      · rw [if_neg hi, if_neg hi]
    · intro i x hx hb'
      exact .inl (hnew i x hx hb')
    · intro i hi1 hi2
      rw [hl2] at hi2
      rw [List.getElem?_replicate, if_pos hi2]
    · intro i x hx hb'
      rcases snoc_get hx with ⟨_, rfl⟩ | hx
      · simp only [hl]; omega
      · exact .inl (hnew i x hx hb')
end
end Go.Proofs.Ythlbifjgnhdonaa.Ev
