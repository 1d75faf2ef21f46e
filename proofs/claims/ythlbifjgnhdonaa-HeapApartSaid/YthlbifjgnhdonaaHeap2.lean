/- A heap of arrays: a new one. -/
import Derived.Test.YthlbifjgnhdonaaHeap1
namespace Go.Proofs.Ythlbifjgnhdonaa.Ev
open Go
set_option linter.unusedSimpArgs false
set_option linter.unusedSectionVars false
set_option maxRecDepth 10000
set_option maxHeartbeats 4000000
/-- Memory in which a block was taken that was set aside. -/
def drawn (n k : Nat) (m : Mem) (x : Blk) : Mem := ⟨n, (m.set k x).tbl⟩
theorem tbl_drawn {n k : Nat} {m : Mem} {x : Blk} : (⟨n, (ext ⟨k, m.tbl⟩ [x]).tbl⟩ : Mem) = drawn n k m x := rfl
theorem drawn_get {n k b : Nat} {m : Mem} {x : Blk} : (drawn n k m x).get b = if b = k then x else m.get b := get_set
theorem drawn_next {n k : Nat} {m : Mem} {x : Blk} : (drawn n k m x).next = n := rfl
theorem slice_hi {b len c h : Nat} (hh : h ≤ c) : evSlice 1 b 0 len (some c) none (some (.int .i64 (h : Int))) none = some (.slice b 0 h (some c)) := by
  simp only [evSlice, bound_none, bound_cast hh, bound_cast (Nat.zero_le h), Nat.sub_zero]
  cases c.beq 0 <;> simp
theorem slice_3 {b len c l n : Nat} (hh : l + n ≤ c) : evSlice 1 b 0 len (some c) (some (.int .i64 (l : Int))) (some (.int .i64 ((l + n : Nat) : Int))) (some (.int .i64 ((l + n : Nat) : Int))) = some (.slice b (if n = 0 then 0 else l) n (some n)) := by
  simp only [evSlice, bound_cast hh, bound_cast (Nat.le_refl (l + n)), bound_cast (Nat.le_add_right l n), Nat.add_sub_cancel_left]
  by_cases h : n = 0
  · subst h; simp
  · rw [beq_ff (by omega), if_neg h]; simp
section
variable {m : Mem} {hb : Nat} {most : Int} {A : List Arr} {av : EV} {ib : Nat → Prop}
theorem used_nonneg : 0 ≤ usedOf A := by unfold usedOf; omega
theorem used_snoc {a : Arr} : usedOf (A ++ [a]) = usedOf A + ((a.l.length : Int) + 1) := by
  unfold usedOf; rw [List.map_append, List.sum_append]; simp
theorem snoc_get {a x : Arr} {i : Nat} (h : (A ++ [a])[i]? = some x) : (i = A.length ∧ x = a) ∨ A[i]? = some x := by
  by_cases hi : i < A.length
  · rw [List.getElem?_append_left hi] at h; exact .inr h
  · rw [List.getElem?_append_right (by omega)] at h
    by_cases h0 : i - A.length = 0
    · rw [h0] at h; simp at h; exact .inl ⟨by omega, h.symm⟩
    · rw [List.getElem?_eq_none (by simp; omega)] at h; cases h
theorem len_used : (A.length : Int) ≤ usedOf A := by
  unfold usedOf
  have : ∀ A : List Arr, A.length ≤ (A.map fun a => a.l.length + 1).sum := by
    intro A
    induction A with
    | nil => simp
    | cons a t ih => simp only [List.length_cons, List.map_cons, List.sum_cons]; omega
  exact Int.ofNat_le.2 (this A)
/-- What a new array leaves. -/
def NewArr (m : Mem) (hb : Nat) (most : Int) (A : List Arr) (av : EV) (ib : Nat → Prop) (n : Nat) (o : Option Fin) : Prop :=
  ∃ m' cv' av' cb a, o = some (.ret (.tuple [.int .i64 ((A.length + 1 : Nat) : Int), .bool true]) m') ∧ HeapRep m' hb most (A ++ [a]) cv' av' (fun c => ib c ∨ c = cb) ∧ a.l = List.replicate n (.int .i64 0) ∧ m.next ≤ m'.next ∧
    (∀ c, c < m.next → c ≠ hb → Off av c → m'.get c = m.get c) ∧ (ib cb ∨ m.next ≤ cb) ∧ (∀ c, c < m.next → Off av' c)
/-- A heap with one array more. -/
theorem rep_make {m2 : Mem} {cv cv' : EV} {vb cb n : Nat} {vcap : Option Nat} {a : Arr} (h : HeapRep m hb most A cv av ib)
    (hget : m2.get hb = .cells [cv', .slice vb 0 (A.length + 1) vcap, .int .i64 most, .int .i64 (usedOf A + ((n : Int) + 1)), .bool true] 5 36 false)
    (hn : a.l.length = n) (hnext : m.next ≤ m2.next) (hkeep : ∀ c, c < m.next → c ≠ hb → Off av c → m2.get c = m.get c)
    (hown : Own m2 (.slice vb 0 (A.length + 1) vcap) (A.map Arr.v ++ [a.v]) (A.length + 1) 1 0) (hvb : m.next ≤ vb)
    (hcb : cb ≠ hb ∧ cb ≠ vb ∧ cb < m2.next)
    (ha : a.nl = true ∧ a.l = [] ∨ a.nl = false ∧ ArrAt m2 a ∧ a.b = cb) (hdis : ∀ (i : Nat) (x : Arr), A[i]? = some x → Disj x a)
    (hcur : CurAt m2 cv' (fun c => ib c ∨ c = cb) (A ++ [a])) : HeapRep m2 hb most (A ++ [a]) cv' (.slice vb 0 (A.length + 1) vcap) (fun c => ib c ∨ c = cb) := by
  refine ⟨by rw [hget, used_snoc, hn], by have := h.lt; omega, ?_, ?_, ?_, ?_, ?_, hcur⟩
  · rintro c (hc | rfl)
    · obtain ⟨q1, q2, q3⟩ := h.ibok c hc
      exact ⟨by omega, q2, Off.of (by omega)⟩
    · exact ⟨hcb.2.2, hcb.1, Off.of hcb.2.1⟩
  · rw [List.map_append, List.length_append]; exact hown
  · exact Off.of (by have := h.lt; omega)
  · intro i x hx
    rcases snoc_get hx with ⟨_, rfl⟩ | hx
    · rcases ha with q | ⟨q1, q2, q3⟩
      · exact .inl q
      · exact .inr ⟨q1, q2, .inr q3⟩
    · rcases h.arr i x hx with q | ⟨q0, ⟨cs, t, q1, q2, q3⟩, q4⟩
      · exact .inl q
      · obtain ⟨r1, r2, r3⟩ := h.ibok x.b q4
        exact .inr ⟨q0, ⟨cs, t, by rw [hkeep _ r1 r2 r3]; exact q1, q2, q3⟩, .inl q4⟩
  · intro i j x y hij hx hy
    rcases snoc_get hx with ⟨e1, e2⟩ | hx' <;> rcases snoc_get hy with ⟨e3, e4⟩ | hy'
    · omega
    · have := hdis j y hy'
      subst e2
      intro hb'
      have := this hb'.symm
      omega
    · subst e4; exact hdis i x hx'
    · exact h.dis i j x y hij hx' hy'
theorem make_1 {cb cn : Nat} {cs : List EV} {n : Nat} (h : HeapRep m hb most A (.slice cb 0 cn (some cs.length)) av ib) (hm : most ≤ 1048576) (h1 : (n : Int) < most - usedOf A) (h2 : n ≤ cs.length - cn) (hcl : cs.length < 1000000000) {t : Nat} (c2 : ib cb) (c3 : m.get cb = .cells cs 1 t false) (hcn : cn ≤ cs.length) (c5 : ∀ i, cn ≤ i → i < cs.length → cs[i]? = some (.int .i64 0)) (c6 : ∀ (i : Nat) (a : Arr), A[i]? = some a → a.b = cb → a.l.length = 0 ∨ a.o + a.l.length ≤ cn) : NewArr m hb most A av ib n (run T 12 [.ptr hb 0, .int .i64 (n : Int)] m) := by
  have hg := h.get
  have n1 : ¬ ((n : Int) < 0) := by omega
  have hu : 0 ≤ usedOf A := by unfold usedOf; omega
  have w1 : IntKind.i64.wrap (most - usedOf A) = most - usedOf A := by rw [wrap_i64 (by omega) (by omega)]
  have n2 : ¬ (most - usedOf A ≤ (n : Int)) := by omega
  have w2 : IntKind.i64.wrap ((cs.length : Int) - (cn : Int)) = ((cs.length - cn : Nat) : Int) := by rw [wrap_i64 (by omega) (by omega)]; omega
  have w3 : IntKind.i64.wrap ((cn : Int) + (n : Int)) = ((cn + n : Nat) : Int) := by rw [wrap_i64 (by omega) (by omega)]; omega
  have n3 : ¬ (((cs.length - cn : Nat) : Int) < (n : Int)) := by omega
  have s1 := slice_hi (b := cb) (len := cn) (c := cs.length) (h := cn + n) (by omega)
  have s2 := slice_3 (b := cb) (len := cn + n) (c := cs.length) (l := cn) (n := n) (by omega)
  generalize hX : run T 12 [.ptr hb 0, .int .i64 (n : Int)] m = X
  rw [run_at (by simp [F12])] at hX
  simp +contextual -implicitDefEqProofs (maxSteps := 1000000) only [F12, hg, n1, n2, w1, w2, w3, n3, s1, s2, tbl_drawn, argsF, fr00_get, fr00_defers, put_some, put_none, set_defers, eval_tmp, eval_const, reduceIte, reduceCtorEq, Nat.reduceEqDiff, Nat.reduceBEq, Nat.reduceAdd, ofEV_some, ofEM_some, ofM_some, thenV_some, thenC_ret, thenE_norm, thenE_ret, thenE_exit, leave_norm, leave_ret, leave_exit, selO_t, selO_f, resR_ret, resR_norm, resR_pan, eq_self, res_nil, res_tmp, one_one, one_two, one_nil, bin_add, bin_sub, bin_mul, bin_quo, bin_rem, bin_and, bin_or, bin_xor, bin_andNot, bin_lss, bin_leq, bin_gtr, bin_geq, bin_shl_i64, bin_shr_i64, bin_shl_u64, bin_shr_u64, eq_int, un_neg, cv_int, exec_seq, exec_region, exec_skip, exec_ret, exec_exit, exec_block, exec_cond', oprs_nil, oprs_val, oprs_callv, Option.map_some, Option.map_none, List.map_cons, List.map_nil, Int.reduceLT, Int.reduceLE, Int.reduceEq, Int.reduceToNat, Int.reduceNeg, Nat.reduceLeDiff, Int.reducePow, bo_decide, bo_not_decide, bo_tt, bo_ff, gv_true, gv_false, cE_bo, thenG_val, thenH_ret, gV_undef, gV_bo_t, gV_bo_f, gV_gv_t, gV_gv_f, gC_undef, gC_bo_t, gC_bo_f, gC_gv_t, gC_gv_f, oprs_gval, oprs_gcallv, runV_func, List.nil_append, List.append_nil, List.cons_append, evOp_pick', pick_and, pick_or, pick_and0, pick_or0, pick_t, pick_f, un_not_bo, eq_boo, eq_str, thenE_iF, leave_iF, thenV_iF, thenC_iF, resR_iF, not_true_eq_false, not_false_eq_true, and_true, true_and, and_false, false_and, or_true, true_or, or_false, false_or, Classical.not_not, Bool.false_bne, Bool.true_bne, Bool.false_xor, Bool.true_xor, evOp_mov, evOp_build, evOp_load, evOp_store, evOp_nilck, evOp_bin, evOp_eq, evOp_un, evOp_conv, evOp_iface, evOp_mkfn, evOp_mkslice, evOp_slstr, evOp_slsl, evOp_slarr, evOp_faddr, evOp_fld, evOp_iaddr, evOp_iaddrArr, evOp_idxstr, evOp_idxagg, evOp_lookup, evOp_mapupd, evOp_delete, evOp_lenmap, evOp_tassert, evOp_extract, evOp_lenstr, evOp_len, evOp_lenarr, evOp_cap, evOp_max, evOp_min, evOp_append, evOp_copy, cE_t, cE_f, gV_tt, gV_tf, gV_ft, gV_ff, gV_gt_t, gV_gt_f, gV_gf_t, gV_gf_f, gC_tt, gC_tf, gC_ft, gC_ff, gC_gt_t, gC_gt_f, gC_gf_t, gC_gf_f, pick_and_t, pick_and_f, pick_or_t, pick_or_f, eq_bo_t, eq_bo_f, eq_t_bo, eq_f_bo, eq_tt, eq_ff, eq_tf, eq_ft, un_not_t, un_not_f, selE_t, selE_f, get_set', decide_true, decide_false, Bool.not_true, Bool.not_false, cond_true, cond_false, implies_true, Int.cast_ofNat_Int, UInt8.reduceToNat, Int.reduceSub, Int.reduceAdd , new_eq, ext_ext, nb_nb, next_ext, next_set, get_set_eq, get_set_ne, get_ext_old, get_ext_nb, get_ext_nb', load_ptr', ldB_cells, part_none, part_some, store_ptr', stB_some, write_eq, wrB_cells, set_ext_nb, set_ext_nb', set_ext_old, cells_int, cells_bool, cells_bo, cells_str, cells_nilptr, cells_ptr, cells_nilslice, cells_slice, cells_nilmap, cells_map, cells_nilfunc, cells_func, cells_niliface, cells_iface, cells_agg, fill_nil, fill_cons, fillB_some, evOp_box', boxE_some, evOp_alloc', evOp_mkmap', get_bump, next_bump, set_bump, load_bump, nb_lt, nb_inj, lt_nb, eq_agg, eqs_nil, eqs_cons, eqsE_some, andO_true, andO_false, andO_t, andO_f, andO_dec, res_cell, rcE_some, List.length_cons, List.length_nil, Nat.zero_add, Nat.add_zero, List.take_succ_cons, List.take_zero, List.take_nil, List.drop_succ_cons, List.drop_zero, List.drop_nil, List.getElem?_cons_zero, List.getElem?_cons_succ, List.getElem?_nil, Option.getD_some, List.set_cons_zero, List.set_cons_succ, Nat.reduceLT, Nat.reduceMul, Nat.reduceSub, Nat.reduceAdd, Nat.reduceEqDiff, Nat.reduceLeDiff, Nat.le_refl, ne_eq, Bool.or_true, Bool.or_false, Bool.true_or, Bool.false_or, Bool.and_true, Bool.true_and, Bool.and_false, Bool.false_and, eq_pn, eq_np, eq_nn, eq_sn, eq_ns, eq_nsns, evOp_bslice1, evOp_bslice0, bsE_some , srt_mov, srt_alloc, srt_box, srt_build, srt_bslice, srt_store, srt_nilck, srt_bin, srt_eq, srt_un, srt_iface, srt_mkfn, srt_mkmap, srt_mkslice, srt_slstr, srt_slsl, srt_slarr, srt_faddr, srt_fld, srt_iaddr, srt_iaddrArr, srt_idxstr, srt_idxagg, srt_lookup, srt_mapupd, srt_delete, srt_lenmap, srt_tassert, srt_extract, srt_len, srt_lenstr, srt_lenarr, srt_cap, srt_max, srt_min, srt_append, srt_copy, srt_pick, srt_cv_int, srt_cv_same, srt_cv_bytes, srt_cv_text, exec_draw', drw_nil, thenL_some, ifB_true, drw_v0, drw_v1, thenD_ret, chk_nil, chk_cons, snap_nil, snap_cons, pair_nil, pair_cons, stands_eq, standE_self, noL_nil, noL_cons, noA_nil, noA_cons, drw_load0, drw_load1, drw_v30, drw_v31, drw_call0, drw_call1, retO_ret, drw_gv0, drw_gv1, drw_gld0, drw_gld1, drw_gv30, drw_gv31, drw_gcall0, drw_gcall1, gE_bo_t, gE_bo_f, gE_tt, gE_tf, gE_ft, gE_ff, gE_undef, gE_gv_t, gE_gv_f, gE_gt_t, gE_gt_f, gE_gf_t, gE_gf_f, Nat.reduceBNe ] at hX
  generalize hM1 : drawn _ _ _ _ = M1 at hX
  have g1 : M1.next = m.next + 57 := by rw [← hM1]; rfl
  have g2 : ∀ c, c < m.next → c ≠ hb → M1.get c = m.get c := by
    intro c hc hne
    rw [← hM1, drawn_get, if_neg (by unfold nb; omega)]
    simp only [get_bump]
    exact get_set_ne hne
  have hbn := h.lt
  have g3 : M1.get hb = .cells [.slice cb 0 (cn + n) (some cs.length), av, .int .i64 most, .int .i64 (usedOf A), .bool true] 5 36 false := by
    rw [← hM1, drawn_get, if_neg (by unfold nb; omega)]
    simp only [get_bump]
    exact get_set_eq
  have g4 : M1.get (nb (nb m.next 39 + 13) 0) = .cells [.slice cb (if n = 0 then 0 else cn) n (some n)] 1 27 false := by
    rw [← hM1, drawn_get]; exact if_pos rfl
  have hO : Own M1 av (A.map Arr.v) A.length 1 0 := h.own.keep (by omega) fun c hc ho => g2 c hc fun e => ho (e ▸ h.offh)
  have hsrc : M1.source 1 (.slice (nb (nb m.next 39 + 13) 0) 0 1 (some 1)) = some (1, [.slice cb (if n = 0 then 0 else cn) n (some n)]) := by
    show (M1.row _ 0 (1 * 1)).map _ = _
    rw [row_all g4 rfl]; rfl
  have hlu := len_used (A := A)
  obtain ⟨v', m', ha, hown, hkeep, hnext, vcap, rfl⟩ := append_own (e := 27) hO (Nat.zero_le _) hsrc rfl (by decide) (by unfold room; omega)
  have hg2 : m'.get hb = .cells [.slice cb 0 (cn + n) (some cs.length), av, .int .i64 most, .int .i64 (usedOf A), .bool true] 5 36 false := by rw [hkeep hb (by omega) h.offh]; exact g3
  have w4 : IntKind.i64.wrap ((n : Int) + 1) = (n : Int) + 1 := by rw [wrap_i64 (by omega) (by omega)]
  have w5 : IntKind.i64.wrap (usedOf A + ((n : Int) + 1)) = usedOf A + ((n : Int) + 1) := by rw [wrap_i64 (by omega) (by omega)]
  simp +contextual -implicitDefEqProofs (maxSteps := 1000000) only [ha, hg2, w4, w5, argsF, fr00_get, fr00_defers, put_some, put_none, set_defers, eval_tmp, eval_const, reduceIte, reduceCtorEq, Nat.reduceEqDiff, Nat.reduceBEq, Nat.reduceAdd, ofEV_some, ofEM_some, ofM_some, thenV_some, thenC_ret, thenE_norm, thenE_ret, thenE_exit, leave_norm, leave_ret, leave_exit, selO_t, selO_f, resR_ret, resR_norm, resR_pan, eq_self, res_nil, res_tmp, one_one, one_two, one_nil, bin_add, bin_sub, bin_mul, bin_quo, bin_rem, bin_and, bin_or, bin_xor, bin_andNot, bin_lss, bin_leq, bin_gtr, bin_geq, bin_shl_i64, bin_shr_i64, bin_shl_u64, bin_shr_u64, eq_int, un_neg, cv_int, exec_seq, exec_region, exec_skip, exec_ret, exec_exit, exec_block, exec_cond', oprs_nil, oprs_val, oprs_callv, Option.map_some, Option.map_none, List.map_cons, List.map_nil, Int.reduceLT, Int.reduceLE, Int.reduceEq, Int.reduceToNat, Int.reduceNeg, Nat.reduceLeDiff, Int.reducePow, bo_decide, bo_not_decide, bo_tt, bo_ff, gv_true, gv_false, cE_bo, thenG_val, thenH_ret, gV_undef, gV_bo_t, gV_bo_f, gV_gv_t, gV_gv_f, gC_undef, gC_bo_t, gC_bo_f, gC_gv_t, gC_gv_f, oprs_gval, oprs_gcallv, runV_func, List.nil_append, List.append_nil, List.cons_append, evOp_pick', pick_and, pick_or, pick_and0, pick_or0, pick_t, pick_f, un_not_bo, eq_boo, eq_str, thenE_iF, leave_iF, thenV_iF, thenC_iF, resR_iF, not_true_eq_false, not_false_eq_true, and_true, true_and, and_false, false_and, or_true, true_or, or_false, false_or, Classical.not_not, Bool.false_bne, Bool.true_bne, Bool.false_xor, Bool.true_xor, evOp_mov, evOp_build, evOp_load, evOp_store, evOp_nilck, evOp_bin, evOp_eq, evOp_un, evOp_conv, evOp_iface, evOp_mkfn, evOp_mkslice, evOp_slstr, evOp_slsl, evOp_slarr, evOp_faddr, evOp_fld, evOp_iaddr, evOp_iaddrArr, evOp_idxstr, evOp_idxagg, evOp_lookup, evOp_mapupd, evOp_delete, evOp_lenmap, evOp_tassert, evOp_extract, evOp_lenstr, evOp_len, evOp_lenarr, evOp_cap, evOp_max, evOp_min, evOp_append, evOp_copy, cE_t, cE_f, gV_tt, gV_tf, gV_ft, gV_ff, gV_gt_t, gV_gt_f, gV_gf_t, gV_gf_f, gC_tt, gC_tf, gC_ft, gC_ff, gC_gt_t, gC_gt_f, gC_gf_t, gC_gf_f, pick_and_t, pick_and_f, pick_or_t, pick_or_f, eq_bo_t, eq_bo_f, eq_t_bo, eq_f_bo, eq_tt, eq_ff, eq_tf, eq_ft, un_not_t, un_not_f, selE_t, selE_f, get_set', decide_true, decide_false, Bool.not_true, Bool.not_false, cond_true, cond_false, implies_true, Int.cast_ofNat_Int, UInt8.reduceToNat, Int.reduceSub, Int.reduceAdd , new_eq, ext_ext, nb_nb, next_ext, next_set, get_set_eq, get_set_ne, get_ext_old, get_ext_nb, get_ext_nb', load_ptr', ldB_cells, part_none, part_some, store_ptr', stB_some, write_eq, wrB_cells, set_ext_nb, set_ext_nb', set_ext_old, cells_int, cells_bool, cells_bo, cells_str, cells_nilptr, cells_ptr, cells_nilslice, cells_slice, cells_nilmap, cells_map, cells_nilfunc, cells_func, cells_niliface, cells_iface, cells_agg, fill_nil, fill_cons, fillB_some, evOp_box', boxE_some, evOp_alloc', evOp_mkmap', get_bump, next_bump, set_bump, load_bump, nb_lt, nb_inj, lt_nb, eq_agg, eqs_nil, eqs_cons, eqsE_some, andO_true, andO_false, andO_t, andO_f, andO_dec, res_cell, rcE_some, List.length_cons, List.length_nil, Nat.zero_add, Nat.add_zero, List.take_succ_cons, List.take_zero, List.take_nil, List.drop_succ_cons, List.drop_zero, List.drop_nil, List.getElem?_cons_zero, List.getElem?_cons_succ, List.getElem?_nil, Option.getD_some, List.set_cons_zero, List.set_cons_succ, Nat.reduceLT, Nat.reduceMul, Nat.reduceSub, Nat.reduceAdd, Nat.reduceEqDiff, Nat.reduceLeDiff, Nat.le_refl, ne_eq, Bool.or_true, Bool.or_false, Bool.true_or, Bool.false_or, Bool.and_true, Bool.true_and, Bool.and_false, Bool.false_and, eq_pn, eq_np, eq_nn, eq_sn, eq_ns, eq_nsns, evOp_bslice1, evOp_bslice0, bsE_some ] at hX
  obtain ⟨g5, g6, g7⟩ := h.ibok cb c2
  subst hX
  have hnx : m'.next = m.next + 58 := by omega
  have hk : ∀ c, c < m.next → c ≠ hb → Off av c → ((m'.set hb (.cells [.slice cb 0 (cn + n) (some cs.length), .slice M1.next 0 (A.length + 1) vcap, .int .i64 most, .int .i64 (usedOf A), .bool true] 5 36 false)).set hb (.cells [.slice cb 0 (cn + n) (some cs.length), .slice M1.next 0 (A.length + 1) vcap, .int .i64 most, .int .i64 (usedOf A + ((n : Int) + 1)), .bool true] 5 36 false)).get c = m.get c := by
    intro c hc hne ho
    rw [get_set_ne hne, get_set_ne hne, hkeep c (by omega) ho, g2 c hc hne]
  have hl : (List.replicate n (EV.int .i64 0)).length = n := List.length_replicate ..
  refine ⟨_, .slice cb 0 (cn + n) (some cs.length), _, cb, ⟨cb, if n = 0 then 0 else cn, List.replicate n (.int .i64 0), false⟩, rfl, rep_make h get_set_eq hl (by rw [next_set, next_set]; omega) hk ?_ (by omega) ⟨g6, by omega, by rw [next_set, next_set]; omega⟩ (.inr ⟨rfl, ⟨cs, t, ?_, ?_, ?_⟩, rfl⟩) ?_ (.inr ⟨cb, cn + n, cs, t, rfl, .inr rfl, ?_, by omega, ?_, ?_⟩), rfl, (by rw [next_set, next_set]; omega), hk, .inl c2, fun c hc => Off.of (by omega)⟩
  · have : Arr.v ⟨cb, if n = 0 then 0 else cn, List.replicate n (.int .i64 0), false⟩ = .slice cb (if n = 0 then 0 else cn) n (some n) := by simp only [Arr.v, cond_false, hl]
    rw [this]
    exact hown.keep (by rw [next_set, next_set]; omega) fun c hc ho => by
      have : c ≠ hb := fun e => ho (Off.of (by omega))
      rw [get_set_ne this, get_set_ne this]
  · exact (hk cb g5 g6 g7).trans c3
  · simp only [hl]; split <;> omega
  · simp only [hl]
    refine List.ext_getElem? fun i => ?_
    rw [part_get, List.getElem?_replicate]
    by_cases hi : i < n
    · rw [if_pos hi, if_pos hi, if_neg (show ¬ n = 0 by omega), c5 (cn + i) (by omega) (by omega)]
    · rw [if_neg hi, if_neg hi]
  · intro i x hx hb'
    have := c6 i x hx hb'
    simp only [hl]
    by_cases h0 : n = 0
    · exact .inr (.inl h0)
    · rw [if_neg h0]; omega
  · exact (hk cb g5 g6 g7).trans c3
  · intro i hi1 hi2; exact c5 i (by omega) hi2
  · intro i x hx hb'
    rcases snoc_get hx with ⟨_, rfl⟩ | hx
    · simp only [hl]; split <;> omega
    · have := c6 i x hx hb'; omega
end
end Go.Proofs.Ythlbifjgnhdonaa.Ev
