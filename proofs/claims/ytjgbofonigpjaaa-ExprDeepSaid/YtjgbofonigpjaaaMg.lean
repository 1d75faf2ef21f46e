/- WTree2, WTree3, PExpr3, PExpr4, PExpr5, WExpr1, WExpr2, WExpr3, WExpr4, WExpr5, WExpr6, WExpr7. -/
import Derived.Test.YtjgbofonigpjaaaMf
section
namespace Go.Proofs.Ytjgbofonigpjaaa.Ev
open Go
set_option linter.unusedSimpArgs false
set_option maxRecDepth 10000
set_option maxHeartbeats 4000000
def validK (l : List Nd) (k : List Int) : Prop := ∀ x ∈ k, 0 ≤ x ∧ x < (l.length : Int)
theorem exprs_loop {l : List Nd} {k : List Int} {n t1 t2 : Nat} {nl1 nl2 : Bool} (hv : validK l k) (hk : n ≤ k.length) (hl : k.length < 1000000000) {m0 : Mem} {fr : Fr} (h0 : fr.get 0 = row nl1 t1 5 (nds l)) (h1 : fr.get 1 = row nl2 t2 1 (ints k)) (h2 : fr.get 2 = .int .i64 (n : Int)) (h7 : fr.get 7 = .int .i64 0) (hd : fr.defers = []) :
    ∃ o, exec U (.loop F_r06_exprs_l0) fr m0 = some o ∧ ((¬ (∀ x ∈ k.take n, exprK (kindOf l x)) ∧ ∃ fr', o = .ret fr' m0 ∧ fr'.get 6 = .bool false ∧ fr'.defers = []) ∨ ((∀ x ∈ k.take n, exprK (kindOf l x)) ∧ ∃ fr', o = .exit 0 fr' m0 ∧ fr'.defers = [])) := by
  refine loop_w (σ := Nat) (fun i fr m => m = m0 ∧ i ≤ n ∧ (∀ x ∈ k.take i, exprK (kindOf l x)) ∧ fr.get 0 = row nl1 t1 5 (nds l) ∧ fr.get 1 = row nl2 t2 1 (ints k) ∧ fr.get 2 = .int .i64 (n : Int) ∧ fr.get 7 = .int .i64 (i : Int) ∧ fr.defers = []) (fun i => n - i) _ ?_ 0 fr m0 ⟨rfl, Nat.zero_le _, by simp, h0, h1, h2, h7, hd⟩
  rintro i fr m ⟨rfl, hi, hn, h0, h1, h2, h7, hd⟩
  generalize hX : exec U F_r06_exprs_l0 fr m = X
  by_cases hlt : i < n
  · have hc : (i : Int) < (n : Int) := by omega
    have hlk : i < k.length := by omega
    have hg : k[i]? = some k[i] := List.getElem?_eq_getElem hlk
    obtain ⟨x0, x1⟩ := hv k[i] (List.getElem_mem hlk)
    obtain ⟨d, hd1, hd2⟩ := node_at x0 x1
    have hix := idx_int (k := .i64) x0 x1
    have hw1 := wrap_succ (i := i) (by omega)
    have hnot : ∀ q : Prop, (¬ q) = (¬ q) := fun _ => rfl
    simp +contextual -implicitDefEqProofs (maxSteps := 1000000) (maxDischargeDepth := 8) only [F_r06_exprs_l0, h0, h1, h2, h7, hd, hc, hg, hlk, hw1, idx_cast, ints_get, ints_len, nds_get, nds_len, hix, hd1, Nd.cells, expr_eq, zz0, zz1, zz2, zz3, zz4, zz5, zz6, zz7, zz8, zz9, argsF, reduceIte, reduceCtorEq, Nat.reduceEqDiff, Nat.reduceBEq, Nat.reduceAdd, Int.reduceLT, Int.reduceLE, Int.reduceEq, Int.reduceToNat, Int.reduceNeg, Nat.reduceLeDiff, Int.reducePow, implies_true, UInt8.reduceToNat, Int.reduceSub, Int.reduceAdd, Nat.reduceLT, Nat.reduceMul, Nat.reduceSub, Nat.reduceBNe] at hX
    subst hX
    refine lw_iF (fun he => lw_ret (Or.inl ⟨fun q => he ?_, _, rfl, by simp only [get_set', selE_t, selE_f, Nat.reduceBEq, set_defers, fr00_get, fr00_defers, put_some, put_none ], by simp only [hd, get_set', selE_t, selE_f, Nat.reduceBEq, set_defers, fr00_get, fr00_defers, put_some, put_none ]⟩)) (fun he => lw_norm (i + 1) (by omega) ⟨rfl, hlt, ?_, by simp only [h0, get_set', selE_t, selE_f, Nat.reduceBEq, set_defers, fr00_get, fr00_defers, put_some, put_none ], by simp only [h1, get_set', selE_t, selE_f, Nat.reduceBEq, set_defers, fr00_get, fr00_defers, put_some, put_none ], by simp only [h2, get_set', selE_t, selE_f, Nat.reduceBEq, set_defers, fr00_get, fr00_defers, put_some, put_none ], by simp only [get_set', selE_t, selE_f, Nat.reduceBEq, set_defers, fr00_get, fr00_defers, put_some, put_none ], by simp only [hd, get_set', selE_t, selE_f, Nat.reduceBEq, set_defers, fr00_get, fr00_defers, put_some, put_none ]⟩)
    · rw [← hd2]; exact q _ (List.mem_take_iff_getElem.2 ⟨i, by omega, rfl⟩)
    · intro x hx
      rw [List.take_succ_eq_append_getElem hlk, List.mem_append] at hx
      rcases hx with hx | hx
      · exact hn x hx
      · rw [List.mem_singleton.1 hx, hd2]; exact Classical.not_not.1 he
  · have hc : ¬ ((i : Int) < (n : Int)) := by omega
    obtain rfl : i = n := by omega
    simp +contextual -implicitDefEqProofs (maxSteps := 1000000) (maxDischargeDepth := 8) only [F_r06_exprs_l0, h0, h1, h2, h7, hd, hc, zz0, zz1, zz2, zz3, zz4, zz5, zz6, zz7, zz8, zz9, argsF, reduceIte, reduceCtorEq, Nat.reduceEqDiff, Nat.reduceBEq, Nat.reduceAdd, Int.reduceLT, Int.reduceLE, Int.reduceEq, Int.reduceToNat, Int.reduceNeg, Nat.reduceLeDiff, Int.reducePow, implies_true, UInt8.reduceToNat, Int.reduceSub, Int.reduceAdd, Nat.reduceLT, Nat.reduceMul, Nat.reduceSub, Nat.reduceBNe] at hX
    subst hX
    exact lw_exit (Or.inr ⟨hn, _, rfl, by simp only [hd, get_set', selE_t, selE_f, Nat.reduceBEq, set_defers, fr00_get, fr00_defers, put_some, put_none ]⟩)
theorem exprs_eq {l : List Nd} {k : List Int} {n t1 t2 : Nat} {nl1 nl2 : Bool} (hv : validK l k) (hl : k.length < 1000000000) (hn : n < 1000000000) : pureR B K n_r06_exprs [row nl1 t1 5 (nds l), row nl2 t2 1 (ints k), .int .i64 (n : Int)] = some (bo (exprsP l k n)) := by
  rw [pure_at (by simp [F_r06_exprs])]
  generalize hL : exec (UT B K) (ICode.loop F_r06_exprs_l0) = L
  by_cases hk : n ≤ k.length
  · have hc : ¬ ((k.length : Int) < (n : Int)) := by omega
    simp +contextual -implicitDefEqProofs (maxSteps := 1000000) (maxDischargeDepth := 8) only [F_r06_exprs, hc, ints_len, zz0, zz1, zz2, zz3, zz4, zz5, zz6, zz7, zz8, zz9, argsF, reduceIte, reduceCtorEq, Nat.reduceEqDiff, Nat.reduceBEq, Nat.reduceAdd, Int.reduceLT, Int.reduceLE, Int.reduceEq, Int.reduceToNat, Int.reduceNeg, Nat.reduceLeDiff, Int.reducePow, implies_true, UInt8.reduceToNat, Int.reduceSub, Int.reduceAdd, Nat.reduceLT, Nat.reduceMul, Nat.reduceSub, Nat.reduceBNe]
    subst hL
    generalize hX : exec _ (.loop F_r06_exprs_l0) _ _ = X
    obtain ⟨o, rfl, h⟩ := looped hX (exprs_loop (l := l) (k := k) (n := n) (t1 := t1) (t2 := t2) (nl1 := nl1) (nl2 := nl2) hv hk hl (by simp only [get_set', selE_t, selE_f, Nat.reduceBEq, set_defers, fr00_get, fr00_defers, put_some, put_none ]) (by simp only [get_set', selE_t, selE_f, Nat.reduceBEq, set_defers, fr00_get, fr00_defers, put_some, put_none ]) (by simp only [get_set', selE_t, selE_f, Nat.reduceBEq, set_defers, fr00_get, fr00_defers, put_some, put_none ]) (by simp only [get_set', selE_t, selE_f, Nat.reduceBEq, set_defers, fr00_get, fr00_defers, put_some, put_none ]) (by simp only [get_set', selE_t, selE_f, Nat.reduceBEq, set_defers, fr00_get, fr00_defers, put_some, put_none ]))
    rcases h with ⟨h, fr', rfl, h2, hd⟩ | ⟨h, fr', rfl, hd⟩
    · simp +contextual -implicitDefEqProofs (maxSteps := 1000000) (maxDischargeDepth := 8) only [h2, hd, zz0, zz1, zz2, zz3, zz4, zz5, zz6, zz7, zz8, zz9, argsF, reduceIte, reduceCtorEq, Nat.reduceEqDiff, Nat.reduceBEq, Nat.reduceAdd, Int.reduceLT, Int.reduceLE, Int.reduceEq, Int.reduceToNat, Int.reduceNeg, Nat.reduceLeDiff, Int.reducePow, implies_true, UInt8.reduceToNat, Int.reduceSub, Int.reduceAdd, Nat.reduceLT, Nat.reduceMul, Nat.reduceSub, Nat.reduceBNe]
      exact congrArg some (ff_bo fun q => h q.2)
    · simp +contextual -implicitDefEqProofs (maxSteps := 1000000) (maxDischargeDepth := 8) only [hd, zz0, zz1, zz2, zz3, zz4, zz5, zz6, zz7, zz8, zz9, argsF, reduceIte, reduceCtorEq, Nat.reduceEqDiff, Nat.reduceBEq, Nat.reduceAdd, Int.reduceLT, Int.reduceLE, Int.reduceEq, Int.reduceToNat, Int.reduceNeg, Nat.reduceLeDiff, Int.reducePow, implies_true, UInt8.reduceToNat, Int.reduceSub, Int.reduceAdd, Nat.reduceLT, Nat.reduceMul, Nat.reduceSub, Nat.reduceBNe]
      exact congrArg some (tt_bo ⟨hk, h⟩)
  · have hc : (k.length : Int) < (n : Int) := by omega
    simp +contextual -implicitDefEqProofs (maxSteps := 1000000) (maxDischargeDepth := 8) only [F_r06_exprs, hc, ints_len, zz0, zz1, zz2, zz3, zz4, zz5, zz6, zz7, zz8, zz9, argsF, reduceIte, reduceCtorEq, Nat.reduceEqDiff, Nat.reduceBEq, Nat.reduceAdd, Int.reduceLT, Int.reduceLE, Int.reduceEq, Int.reduceToNat, Int.reduceNeg, Nat.reduceLeDiff, Int.reducePow, implies_true, UInt8.reduceToNat, Int.reduceSub, Int.reduceAdd, Nat.reduceLT, Nat.reduceMul, Nat.reduceSub, Nat.reduceBNe]
    exact congrArg some (ff_bo fun q => hk q.1)
theorem all_loop {l : List Nd} {k : List Int} {t1 t2 : Nat} {nl1 nl2 : Bool} {kd : Int} {v3 : EV} (hv : validK l k) (hl : k.length < 1000000000) {m0 : Mem} {fr : Fr} (h0 : fr.get 0 = row nl1 t1 5 (nds l)) (h1 : fr.get 1 = row nl2 t2 1 (ints k)) (h2 : fr.get 2 = .int .i64 kd) (h3 : fr.get 3 = v3) (h9 : fr.get 9 = .int .i64 0) (hd : fr.defers = []) :
    ∃ o, exec U (.loop F_r06_all_l0) fr m0 = some o ∧ ((¬ (∀ x ∈ k, kindOf l x = kd) ∧ ∃ fr', o = .ret fr' m0 ∧ fr'.get 8 = .bool false ∧ fr'.defers = []) ∨ ((∀ x ∈ k, kindOf l x = kd) ∧ ∃ fr', o = .exit 0 fr' m0 ∧ fr'.get 1 = row nl2 t2 1 (ints k) ∧ fr'.get 3 = v3 ∧ fr'.defers = [])) := by
  refine loop_w (σ := Nat) (fun i fr m => m = m0 ∧ i ≤ k.length ∧ (∀ x ∈ k.take i, kindOf l x = kd) ∧ fr.get 0 = row nl1 t1 5 (nds l) ∧ fr.get 1 = row nl2 t2 1 (ints k) ∧ fr.get 2 = .int .i64 kd ∧ fr.get 3 = v3 ∧ fr.get 9 = .int .i64 (i : Int) ∧ fr.defers = []) (fun i => k.length - i) _ ?_ 0 fr m0 ⟨rfl, Nat.zero_le _, by simp, h0, h1, h2, h3, h9, hd⟩
  rintro i fr m ⟨rfl, hi, hn, h0, h1, h2, h3, h9, hd⟩
  generalize hX : exec U F_r06_all_l0 fr m = X
  by_cases hlk : i < k.length
  · have hc : (i : Int) < (k.length : Int) := by omega
    have hg : k[i]? = some k[i] := List.getElem?_eq_getElem hlk
    obtain ⟨x0, x1⟩ := hv k[i] (List.getElem_mem hlk)
    obtain ⟨d, hd1, hd2⟩ := node_at x0 x1
    have hix := idx_int (k := .i64) x0 x1
    have hw1 := wrap_succ (i := i) (by omega)
    simp +contextual -implicitDefEqProofs (maxSteps := 1000000) (maxDischargeDepth := 8) only [F_r06_all_l0, h0, h1, h2, h3, h9, hd, hc, hg, hlk, hw1, idx_cast, ints_get, ints_len, nds_get, nds_len, hix, hd1, Nd.cells, zz0, zz1, zz2, zz3, zz4, zz5, zz6, zz7, zz8, zz9, argsF, reduceIte, reduceCtorEq, Nat.reduceEqDiff, Nat.reduceBEq, Nat.reduceAdd, Int.reduceLT, Int.reduceLE, Int.reduceEq, Int.reduceToNat, Int.reduceNeg, Nat.reduceLeDiff, Int.reducePow, implies_true, UInt8.reduceToNat, Int.reduceSub, Int.reduceAdd, Nat.reduceLT, Nat.reduceMul, Nat.reduceSub, Nat.reduceBNe] at hX
    subst hX
    refine lw_iF (fun he => lw_ret (Or.inl ⟨fun q => he ?_, _, rfl, by simp only [get_set', selE_t, selE_f, Nat.reduceBEq, set_defers, fr00_get, fr00_defers, put_some, put_none ], by simp only [hd, get_set', selE_t, selE_f, Nat.reduceBEq, set_defers, fr00_get, fr00_defers, put_some, put_none ]⟩)) (fun he => lw_norm (i + 1) (by omega) ⟨rfl, hlk, ?_, by simp only [h0, get_set', selE_t, selE_f, Nat.reduceBEq, set_defers, fr00_get, fr00_defers, put_some, put_none ], by simp only [h1, get_set', selE_t, selE_f, Nat.reduceBEq, set_defers, fr00_get, fr00_defers, put_some, put_none ], by simp only [h2, get_set', selE_t, selE_f, Nat.reduceBEq, set_defers, fr00_get, fr00_defers, put_some, put_none ], by simp only [h3, get_set', selE_t, selE_f, Nat.reduceBEq, set_defers, fr00_get, fr00_defers, put_some, put_none ], by simp only [get_set', selE_t, selE_f, Nat.reduceBEq, set_defers, fr00_get, fr00_defers, put_some, put_none ], by simp only [hd, get_set', selE_t, selE_f, Nat.reduceBEq, set_defers, fr00_get, fr00_defers, put_some, put_none ]⟩)
    · rw [← hd2]; exact q _ (List.getElem_mem hlk)
    · intro x hx
      rw [List.take_succ_eq_append_getElem hlk, List.mem_append] at hx
      rcases hx with hx | hx
      · exact hn x hx
      · rw [List.mem_singleton.1 hx, hd2]; exact Classical.not_not.1 he
  · have hc : ¬ ((i : Int) < (k.length : Int)) := by omega
    rw [List.take_of_length_le (by omega)] at hn
    simp +contextual -implicitDefEqProofs (maxSteps := 1000000) (maxDischargeDepth := 8) only [F_r06_all_l0, h0, h1, h2, h3, h9, hd, hc, ints_len, zz0, zz1, zz2, zz3, zz4, zz5, zz6, zz7, zz8, zz9, argsF, reduceIte, reduceCtorEq, Nat.reduceEqDiff, Nat.reduceBEq, Nat.reduceAdd, Int.reduceLT, Int.reduceLE, Int.reduceEq, Int.reduceToNat, Int.reduceNeg, Nat.reduceLeDiff, Int.reducePow, implies_true, UInt8.reduceToNat, Int.reduceSub, Int.reduceAdd, Nat.reduceLT, Nat.reduceMul, Nat.reduceSub, Nat.reduceBNe] at hX
    subst hX
    exact lw_exit (Or.inr ⟨hn, _, rfl, by simp only [h1, get_set', selE_t, selE_f, Nat.reduceBEq, set_defers, fr00_get, fr00_defers, put_some, put_none ], by simp only [h3, get_set', selE_t, selE_f, Nat.reduceBEq, set_defers, fr00_get, fr00_defers, put_some, put_none ], by simp only [hd, get_set', selE_t, selE_f, Nat.reduceBEq, set_defers, fr00_get, fr00_defers, put_some, put_none ]⟩)
theorem all_eq {l : List Nd} {k : List Int} {t1 t2 : Nat} {nl1 nl2 : Bool} {kd : Int} {n : Nat} (hv : validK l k) (hl : k.length < 1000000000) : pureR B K n_r06_all [row nl1 t1 5 (nds l), row nl2 t2 1 (ints k), .int .i64 kd, .int .i64 (n : Int)] = some (bo (allP l k kd n)) := by
  rw [pure_at (by simp [F_r06_all])]
  generalize hL : exec (UT B K) (ICode.loop F_r06_all_l0) = L
  simp +contextual -implicitDefEqProofs (maxSteps := 1000000) (maxDischargeDepth := 8) only [F_r06_all, zz0, zz1, zz2, zz3, zz4, zz5, zz6, zz7, zz8, zz9, argsF, reduceIte, reduceCtorEq, Nat.reduceEqDiff, Nat.reduceBEq, Nat.reduceAdd, Int.reduceLT, Int.reduceLE, Int.reduceEq, Int.reduceToNat, Int.reduceNeg, Nat.reduceLeDiff, Int.reducePow, implies_true, UInt8.reduceToNat, Int.reduceSub, Int.reduceAdd, Nat.reduceLT, Nat.reduceMul, Nat.reduceSub, Nat.reduceBNe]
  subst hL
  generalize hX : exec _ (.loop F_r06_all_l0) _ _ = X
  obtain ⟨o, rfl, h⟩ := looped hX (all_loop (l := l) (k := k) (t1 := t1) (t2 := t2) (nl1 := nl1) (nl2 := nl2) (kd := kd) hv hl (by simp only [get_set', selE_t, selE_f, Nat.reduceBEq, set_defers, fr00_get, fr00_defers, put_some, put_none ]) (by simp only [get_set', selE_t, selE_f, Nat.reduceBEq, set_defers, fr00_get, fr00_defers, put_some, put_none ]) (by simp only [get_set', selE_t, selE_f, Nat.reduceBEq, set_defers, fr00_get, fr00_defers, put_some, put_none ]) rfl (by simp only [get_set', selE_t, selE_f, Nat.reduceBEq, set_defers, fr00_get, fr00_defers, put_some, put_none ]) (by simp only [get_set', selE_t, selE_f, Nat.reduceBEq, set_defers, fr00_get, fr00_defers, put_some, put_none ]))
  rcases h with ⟨h, fr', rfl, h2, hd⟩ | ⟨h, fr', rfl, h1, h3, hd⟩
  · simp +contextual -implicitDefEqProofs (maxSteps := 1000000) (maxDischargeDepth := 8) only [h2, hd, zz0, zz1, zz2, zz3, zz4, zz5, zz6, zz7, zz8, zz9, argsF, reduceIte, reduceCtorEq, Nat.reduceEqDiff, Nat.reduceBEq, Nat.reduceAdd, Int.reduceLT, Int.reduceLE, Int.reduceEq, Int.reduceToNat, Int.reduceNeg, Nat.reduceLeDiff, Int.reducePow, implies_true, UInt8.reduceToNat, Int.reduceSub, Int.reduceAdd, Nat.reduceLT, Nat.reduceMul, Nat.reduceSub, Nat.reduceBNe]
    exact congrArg some (ff_bo fun q => h q.1)
  · simp only [get_set', selE_t, selE_f, Nat.reduceBEq, set_defers, fr00_get, fr00_defers, put_some, put_none ] at h3
    simp +contextual -implicitDefEqProofs (maxSteps := 1000000) (maxDischargeDepth := 8) only [h1, h3, hd, ints_len, zz0, zz1, zz2, zz3, zz4, zz5, zz6, zz7, zz8, zz9, argsF, reduceIte, reduceCtorEq, Nat.reduceEqDiff, Nat.reduceBEq, Nat.reduceAdd, Int.reduceLT, Int.reduceLE, Int.reduceEq, Int.reduceToNat, Int.reduceNeg, Nat.reduceLeDiff, Int.reducePow, implies_true, UInt8.reduceToNat, Int.reduceSub, Int.reduceAdd, Nat.reduceLT, Nat.reduceMul, Nat.reduceSub, Nat.reduceBNe]
    exact bo_some ⟨fun q => ⟨h, by omega⟩, fun q => by have := q.2; omega⟩
theorem kids_loop {l : List Nd} {k : List Int} {t1 t2 : Nat} {nl1 nl2 : Bool} (hv : validK l k) (hl : k.length < 1000000000) {m0 : Mem} {fr : Fr} (h0 : fr.get 0 = row nl1 t1 5 (nds l)) (h5 : fr.get 5 = row nl2 t2 1 (ints k)) (h6 : fr.get 6 = .int .i64 0) (hd : fr.defers = []) :
    ∃ o, exec U (.loop F_r06_kids_l0) fr m0 = some o ∧ ((¬ (∀ x ∈ k, stmtK (kindOf l x)) ∧ ∃ fr', o = .ret fr' m0 ∧ fr'.get 4 = .bool false ∧ fr'.defers = []) ∨ ((∀ x ∈ k, stmtK (kindOf l x)) ∧ ∃ fr', o = .exit 1 fr' m0 ∧ fr'.defers = [])) := by
  refine loop_w (σ := Nat) (fun i fr m => m = m0 ∧ i ≤ k.length ∧ (∀ x ∈ k.take i, stmtK (kindOf l x)) ∧ fr.get 0 = row nl1 t1 5 (nds l) ∧ fr.get 5 = row nl2 t2 1 (ints k) ∧ fr.get 6 = .int .i64 (i : Int) ∧ fr.defers = []) (fun i => k.length - i) _ ?_ 0 fr m0 ⟨rfl, Nat.zero_le _, by simp, h0, h5, h6, hd⟩
  rintro i fr m ⟨rfl, hi, hn, h0, h5, h6, hd⟩
  generalize hX : exec U F_r06_kids_l0 fr m = X
  by_cases hlk : i < k.length
  · have hc : (i : Int) < (k.length : Int) := by omega
    have hg : k[i]? = some k[i] := List.getElem?_eq_getElem hlk
    obtain ⟨x0, x1⟩ := hv k[i] (List.getElem_mem hlk)
    obtain ⟨d, hd1, hd2⟩ := node_at x0 x1
    have hix := idx_int (k := .i64) x0 x1
    have hw1 := wrap_succ (i := i) (by omega)
    simp +contextual -implicitDefEqProofs (maxSteps := 1000000) (maxDischargeDepth := 8) only [F_r06_kids_l0, h0, h5, h6, hd, hc, hg, hlk, hw1, idx_cast, ints_get, ints_len, nds_get, nds_len, hix, hd1, Nd.cells, stmt_eq, zz0, zz1, zz2, zz3, zz4, zz5, zz6, zz7, zz8, zz9, argsF, reduceIte, reduceCtorEq, Nat.reduceEqDiff, Nat.reduceBEq, Nat.reduceAdd, Int.reduceLT, Int.reduceLE, Int.reduceEq, Int.reduceToNat, Int.reduceNeg, Nat.reduceLeDiff, Int.reducePow, implies_true, UInt8.reduceToNat, Int.reduceSub, Int.reduceAdd, Nat.reduceLT, Nat.reduceMul, Nat.reduceSub, Nat.reduceBNe] at hX
    subst hX
    refine lw_iF (fun he => lw_ret (Or.inl ⟨fun q => he ?_, _, rfl, by simp only [get_set', selE_t, selE_f, Nat.reduceBEq, set_defers, fr00_get, fr00_defers, put_some, put_none ], by simp only [hd, get_set', selE_t, selE_f, Nat.reduceBEq, set_defers, fr00_get, fr00_defers, put_some, put_none ]⟩)) (fun he => lw_norm (i + 1) (by omega) ⟨rfl, hlk, ?_, by simp only [h0, get_set', selE_t, selE_f, Nat.reduceBEq, set_defers, fr00_get, fr00_defers, put_some, put_none ], by simp only [h5, get_set', selE_t, selE_f, Nat.reduceBEq, set_defers, fr00_get, fr00_defers, put_some, put_none ], by simp only [get_set', selE_t, selE_f, Nat.reduceBEq, set_defers, fr00_get, fr00_defers, put_some, put_none ], by simp only [hd, get_set', selE_t, selE_f, Nat.reduceBEq, set_defers, fr00_get, fr00_defers, put_some, put_none ]⟩)
    · rw [← hd2]; exact q _ (List.getElem_mem hlk)
    · intro x hx
      rw [List.take_succ_eq_append_getElem hlk, List.mem_append] at hx
      rcases hx with hx | hx
      · exact hn x hx
      · rw [List.mem_singleton.1 hx, hd2]; exact Classical.not_not.1 he
  · have hc : ¬ ((i : Int) < (k.length : Int)) := by omega
    rw [List.take_of_length_le (by omega)] at hn
    simp +contextual -implicitDefEqProofs (maxSteps := 1000000) (maxDischargeDepth := 8) only [F_r06_kids_l0, h0, h5, h6, hd, hc, ints_len, zz0, zz1, zz2, zz3, zz4, zz5, zz6, zz7, zz8, zz9, argsF, reduceIte, reduceCtorEq, Nat.reduceEqDiff, Nat.reduceBEq, Nat.reduceAdd, Int.reduceLT, Int.reduceLE, Int.reduceEq, Int.reduceToNat, Int.reduceNeg, Nat.reduceLeDiff, Int.reducePow, implies_true, UInt8.reduceToNat, Int.reduceSub, Int.reduceAdd, Nat.reduceLT, Nat.reduceMul, Nat.reduceSub, Nat.reduceBNe] at hX
    subst hX
    exact lw_exit (Or.inr ⟨hn, _, rfl, by simp only [hd, get_set', selE_t, selE_f, Nat.reduceBEq, set_defers, fr00_get, fr00_defers, put_some, put_none ]⟩)
theorem kids_eq {l : List Nd} {d : Nd} {t1 : Nat} {nl1 : Bool} (hv : validK l d.kids) (hl : d.kids.length < 1000000000) : pureR B K n_r06_kids [row nl1 t1 5 (nds l), .agg d.cells] = some (bo (kidsP l d)) := by
  rw [pure_at (by simp [F_r06_kids])]
  generalize hL : exec (UT B K) (ICode.loop F_r06_kids_l0) = L
  obtain ⟨kind, kids, nl, n, s, pos⟩ := d
  simp only at hv hl
  have e1 : ∀ t1 t2 nl1 nl2, pureR B K n_r06_exprs [row nl1 t1 5 (nds l), row nl2 t2 1 (ints kids), .int .i64 1] = some (bo (exprsP l kids 1)) := fun t1 t2 nl1 nl2 => exprs_eq (n := 1) hv hl (by omega)
  have e2 : ∀ t1 t2 nl1 nl2, pureR B K n_r06_exprs [row nl1 t1 5 (nds l), row nl2 t2 1 (ints kids), .int .i64 2] = some (bo (exprsP l kids 2)) := fun t1 t2 nl1 nl2 => exprs_eq (n := 2) hv hl (by omega)
  have ek : ∀ t1 t2 nl1 nl2, pureR B K n_r06_exprs [row nl1 t1 5 (nds l), row nl2 t2 1 (ints kids), .int .i64 (kids.length : Int)] = some (bo (exprsP l kids kids.length)) := fun t1 t2 nl1 nl2 => exprs_eq hv hl hl
  have hsub : ∀ k : List Int, (∀ x ∈ k, x ∈ kids) → k.length ≤ kids.length → ∀ (kd : Int) (n t1 t2 : Nat) (nl1 nl2 : Bool), pureR B K n_r06_all [row nl1 t1 5 (nds l), row nl2 t2 1 (ints k), .int .i64 kd, .int .i64 (n : Int)] = some (bo (allP l k kd n)) := fun k h1 h2 kd n t1 t2 nl1 nl2 => all_eq (fun x hx => hv x (h1 x hx)) (by omega)
  have a1 : ∀ t1 t2 nl1 nl2, pureR B K n_r06_all [row nl1 t1 5 (nds l), row nl2 t2 1 (ints (kids.drop 1)), .int .i64 23, .int .i64 1] = some (bo (allP l (kids.drop 1) 23 1)) := hsub _ (fun x hx => List.mem_of_mem_drop hx) (by rw [List.length_drop]; omega) 23 1
  have a2 : ∀ t1 t2 nl1 nl2, pureR B K n_r06_all [row nl1 t1 5 (nds l), row nl2 t2 1 (ints (kids.drop 1)), .int .i64 23, .int .i64 2] = some (bo (allP l (kids.drop 1) 23 2)) := hsub _ (fun x hx => List.mem_of_mem_drop hx) (by rw [List.length_drop]; omega) 23 2
  have a3 : ∀ t1 t2 nl1 nl2, pureR B K n_r06_all [row nl1 t1 5 (nds l), row nl2 t2 1 (ints (kids.drop 2)), .int .i64 23, .int .i64 1] = some (bo (allP l (kids.drop 2) 23 1)) := hsub _ (fun x hx => List.mem_of_mem_drop hx) (by rw [List.length_drop]; omega) 23 1
  have a4 : ∀ t1 t2 nl1 nl2, pureR B K n_r06_all [row nl1 t1 5 (nds l), row nl2 t2 1 (ints (kids.take (kids.length - 1))), .int .i64 24, .int .i64 8] = some (bo (allP l (kids.take (kids.length - 1)) 24 8)) := hsub _ (fun x hx => List.mem_of_mem_take hx) (by rw [List.length_take]; omega) 24 8
  have a5 : ∀ t1 t2 nl1 nl2, pureR B K n_r06_all [row nl1 t1 5 (nds l), row nl2 t2 1 (ints kids), .int .i64 25, .int .i64 200] = some (bo (allP l kids 25 200)) := hsub _ (fun x hx => hx) (Nat.le_refl _) 25 200
  have c0 : ((kids.length : Int) = 0) = (kids.length = 0) := propext (by omega)
  have c1 : ((kids.length : Int) = 1) = (kids.length = 1) := propext (by omega)
  have c2 : ((kids.length : Int) = 2) = (kids.length = 2) := propext (by omega)
  have c3 : ((kids.length : Int) = 3) = (kids.length = 3) := propext (by omega)
  have c8 : ((kids.length : Int) ≤ 8) = (kids.length ≤ 8) := propext (by omega)
  have d1 : ((1 : Int) ≤ (kids.length : Int)) = (1 ≤ kids.length) := propext (by omega)
  have d2 : ((2 : Int) ≤ (kids.length : Int)) = (2 ≤ kids.length) := propext (by omega)
  by_cases k5 : kind = 5
  · subst k5
    simp +contextual -implicitDefEqProofs (maxSteps := 1000000) (maxDischargeDepth := 8) only [F_r06_kids, Nd.cells, ints_len, c2, e2, zz0, zz1, zz2, zz3, zz4, zz5, zz6, zz7, zz8, zz9, argsF, reduceIte, reduceCtorEq, Nat.reduceEqDiff, Nat.reduceBEq, Nat.reduceAdd, Int.reduceLT, Int.reduceLE, Int.reduceEq, Int.reduceToNat, Int.reduceNeg, Nat.reduceLeDiff, Int.reducePow, implies_true, UInt8.reduceToNat, Int.reduceSub, Int.reduceAdd, Nat.reduceLT, Nat.reduceMul, Nat.reduceSub, Nat.reduceBNe]
    refine bo_some ?_
    simp only [kidsP]
    grind
  by_cases k8 : kind = 8
  · subst k8
    simp +contextual -implicitDefEqProofs (maxSteps := 1000000) (maxDischargeDepth := 8) only [F_r06_kids, Nd.cells, ints_len, c2, e2, zz0, zz1, zz2, zz3, zz4, zz5, zz6, zz7, zz8, zz9, argsF, reduceIte, reduceCtorEq, Nat.reduceEqDiff, Nat.reduceBEq, Nat.reduceAdd, Int.reduceLT, Int.reduceLE, Int.reduceEq, Int.reduceToNat, Int.reduceNeg, Nat.reduceLeDiff, Int.reducePow, implies_true, UInt8.reduceToNat, Int.reduceSub, Int.reduceAdd, Nat.reduceLT, Nat.reduceMul, Nat.reduceSub, Nat.reduceBNe]
    refine bo_some ?_
    simp only [kidsP]
    grind
  by_cases k14 : kind = 14
  · subst k14
    simp +contextual -implicitDefEqProofs (maxSteps := 1000000) (maxDischargeDepth := 8) only [F_r06_kids, Nd.cells, ints_len, c2, e2, zz0, zz1, zz2, zz3, zz4, zz5, zz6, zz7, zz8, zz9, argsF, reduceIte, reduceCtorEq, Nat.reduceEqDiff, Nat.reduceBEq, Nat.reduceAdd, Int.reduceLT, Int.reduceLE, Int.reduceEq, Int.reduceToNat, Int.reduceNeg, Nat.reduceLeDiff, Int.reducePow, implies_true, UInt8.reduceToNat, Int.reduceSub, Int.reduceAdd, Nat.reduceLT, Nat.reduceMul, Nat.reduceSub, Nat.reduceBNe]
    refine bo_some ?_
    simp only [kidsP]
    grind
  by_cases k6 : kind = 6
  · subst k6
    simp +contextual -implicitDefEqProofs (maxSteps := 1000000) (maxDischargeDepth := 8) only [F_r06_kids, Nd.cells, ints_len, c1, e1, zz0, zz1, zz2, zz3, zz4, zz5, zz6, zz7, zz8, zz9, argsF, reduceIte, reduceCtorEq, Nat.reduceEqDiff, Nat.reduceBEq, Nat.reduceAdd, Int.reduceLT, Int.reduceLE, Int.reduceEq, Int.reduceToNat, Int.reduceNeg, Nat.reduceLeDiff, Int.reducePow, implies_true, UInt8.reduceToNat, Int.reduceSub, Int.reduceAdd, Nat.reduceLT, Nat.reduceMul, Nat.reduceSub, Nat.reduceBNe]
    refine bo_some ?_
    simp only [kidsP]
    grind
  by_cases k7 : kind = 7
  · subst k7
    simp +contextual -implicitDefEqProofs (maxSteps := 1000000) (maxDischargeDepth := 8) only [F_r06_kids, Nd.cells, ints_len, c1, e1, zz0, zz1, zz2, zz3, zz4, zz5, zz6, zz7, zz8, zz9, argsF, reduceIte, reduceCtorEq, Nat.reduceEqDiff, Nat.reduceBEq, Nat.reduceAdd, Int.reduceLT, Int.reduceLE, Int.reduceEq, Int.reduceToNat, Int.reduceNeg, Nat.reduceLeDiff, Int.reducePow, implies_true, UInt8.reduceToNat, Int.reduceSub, Int.reduceAdd, Nat.reduceLT, Nat.reduceMul, Nat.reduceSub, Nat.reduceBNe]
    refine bo_some ?_
    simp only [kidsP]
    grind
  by_cases k9 : kind = 9
  · subst k9
    simp +contextual -implicitDefEqProofs (maxSteps := 1000000) (maxDischargeDepth := 8) only [F_r06_kids, Nd.cells, ints_len, c1, e1, zz0, zz1, zz2, zz3, zz4, zz5, zz6, zz7, zz8, zz9, argsF, reduceIte, reduceCtorEq, Nat.reduceEqDiff, Nat.reduceBEq, Nat.reduceAdd, Int.reduceLT, Int.reduceLE, Int.reduceEq, Int.reduceToNat, Int.reduceNeg, Nat.reduceLeDiff, Int.reducePow, implies_true, UInt8.reduceToNat, Int.reduceSub, Int.reduceAdd, Nat.reduceLT, Nat.reduceMul, Nat.reduceSub, Nat.reduceBNe]
    refine bo_some ?_
    simp only [kidsP]
    grind
  by_cases k10 : kind = 10
  · subst k10
    simp +contextual -implicitDefEqProofs (maxSteps := 1000000) (maxDischargeDepth := 8) only [F_r06_kids, Nd.cells, ints_len, c1, e1, zz0, zz1, zz2, zz3, zz4, zz5, zz6, zz7, zz8, zz9, argsF, reduceIte, reduceCtorEq, Nat.reduceEqDiff, Nat.reduceBEq, Nat.reduceAdd, Int.reduceLT, Int.reduceLE, Int.reduceEq, Int.reduceToNat, Int.reduceNeg, Nat.reduceLeDiff, Int.reducePow, implies_true, UInt8.reduceToNat, Int.reduceSub, Int.reduceAdd, Nat.reduceLT, Nat.reduceMul, Nat.reduceSub, Nat.reduceBNe]
    refine bo_some ?_
    simp only [kidsP]
    grind
  by_cases k12 : kind = 12
  · subst k12
    simp +contextual -implicitDefEqProofs (maxSteps := 1000000) (maxDischargeDepth := 8) only [F_r06_kids, Nd.cells, ints_len, c1, e1, zz0, zz1, zz2, zz3, zz4, zz5, zz6, zz7, zz8, zz9, argsF, reduceIte, reduceCtorEq, Nat.reduceEqDiff, Nat.reduceBEq, Nat.reduceAdd, Int.reduceLT, Int.reduceLE, Int.reduceEq, Int.reduceToNat, Int.reduceNeg, Nat.reduceLeDiff, Int.reducePow, implies_true, UInt8.reduceToNat, Int.reduceSub, Int.reduceAdd, Nat.reduceLT, Nat.reduceMul, Nat.reduceSub, Nat.reduceBNe]
    refine bo_some ?_
    simp only [kidsP]
    grind
  by_cases k13 : kind = 13
  · subst k13
    simp +contextual -implicitDefEqProofs (maxSteps := 1000000) (maxDischargeDepth := 8) only [F_r06_kids, Nd.cells, ints_len, c1, e1, zz0, zz1, zz2, zz3, zz4, zz5, zz6, zz7, zz8, zz9, argsF, reduceIte, reduceCtorEq, Nat.reduceEqDiff, Nat.reduceBEq, Nat.reduceAdd, Int.reduceLT, Int.reduceLE, Int.reduceEq, Int.reduceToNat, Int.reduceNeg, Nat.reduceLeDiff, Int.reducePow, implies_true, UInt8.reduceToNat, Int.reduceSub, Int.reduceAdd, Nat.reduceLT, Nat.reduceMul, Nat.reduceSub, Nat.reduceBNe]
    refine bo_some ?_
    simp only [kidsP]
    grind
  by_cases k20 : kind = 20
  · subst k20
    simp +contextual -implicitDefEqProofs (maxSteps := 1000000) (maxDischargeDepth := 8) only [F_r06_kids, Nd.cells, ints_len, c1, e1, zz0, zz1, zz2, zz3, zz4, zz5, zz6, zz7, zz8, zz9, argsF, reduceIte, reduceCtorEq, Nat.reduceEqDiff, Nat.reduceBEq, Nat.reduceAdd, Int.reduceLT, Int.reduceLE, Int.reduceEq, Int.reduceToNat, Int.reduceNeg, Nat.reduceLeDiff, Int.reducePow, implies_true, UInt8.reduceToNat, Int.reduceSub, Int.reduceAdd, Nat.reduceLT, Nat.reduceMul, Nat.reduceSub, Nat.reduceBNe]
    refine bo_some ?_
    simp only [kidsP]
    grind
  by_cases k21 : kind = 21
  · subst k21
    simp +contextual -implicitDefEqProofs (maxSteps := 1000000) (maxDischargeDepth := 8) only [F_r06_kids, Nd.cells, ints_len, c1, e1, zz0, zz1, zz2, zz3, zz4, zz5, zz6, zz7, zz8, zz9, argsF, reduceIte, reduceCtorEq, Nat.reduceEqDiff, Nat.reduceBEq, Nat.reduceAdd, Int.reduceLT, Int.reduceLE, Int.reduceEq, Int.reduceToNat, Int.reduceNeg, Nat.reduceLeDiff, Int.reducePow, implies_true, UInt8.reduceToNat, Int.reduceSub, Int.reduceAdd, Nat.reduceLT, Nat.reduceMul, Nat.reduceSub, Nat.reduceBNe]
    refine bo_some ?_
    simp only [kidsP]
    grind
  by_cases k11 : kind = 11
  · subst k11
    simp +contextual -implicitDefEqProofs (maxSteps := 1000000) (maxDischargeDepth := 8) only [F_r06_kids, Nd.cells, ints_len, c8, ek, zz0, zz1, zz2, zz3, zz4, zz5, zz6, zz7, zz8, zz9, argsF, reduceIte, reduceCtorEq, Nat.reduceEqDiff, Nat.reduceBEq, Nat.reduceAdd, Int.reduceLT, Int.reduceLE, Int.reduceEq, Int.reduceToNat, Int.reduceNeg, Nat.reduceLeDiff, Int.reducePow, implies_true, UInt8.reduceToNat, Int.reduceSub, Int.reduceAdd, Nat.reduceLT, Nat.reduceMul, Nat.reduceSub, Nat.reduceBNe]
    refine bo_some ?_
    simp only [kidsP]
    grind
  by_cases k26 : kind = 26
  · subst k26
    simp +contextual -implicitDefEqProofs (maxSteps := 1000000) (maxDischargeDepth := 8) only [F_r06_kids, Nd.cells, ints_len, a5, zz0, zz1, zz2, zz3, zz4, zz5, zz6, zz7, zz8, zz9, argsF, reduceIte, reduceCtorEq, Nat.reduceEqDiff, Nat.reduceBEq, Nat.reduceAdd, Int.reduceLT, Int.reduceLE, Int.reduceEq, Int.reduceToNat, Int.reduceNeg, Nat.reduceLeDiff, Int.reducePow, implies_true, UInt8.reduceToNat, Int.reduceSub, Int.reduceAdd, Nat.reduceLT, Nat.reduceMul, Nat.reduceSub, Nat.reduceBNe]
    refine bo_some ?_
    simp only [kidsP]
    grind
  by_cases k23 : kind = 23
  · subst k23
    simp +contextual -implicitDefEqProofs (maxSteps := 1000000) (maxDischargeDepth := 8) only [F_r06_kids, Nd.cells, ints_len, zz0, zz1, zz2, zz3, zz4, zz5, zz6, zz7, zz8, zz9, argsF, reduceIte, reduceCtorEq, Nat.reduceEqDiff, Nat.reduceBEq, Nat.reduceAdd, Int.reduceLT, Int.reduceLE, Int.reduceEq, Int.reduceToNat, Int.reduceNeg, Nat.reduceLeDiff, Int.reducePow, implies_true, UInt8.reduceToNat, Int.reduceSub, Int.reduceAdd, Nat.reduceLT, Nat.reduceMul, Nat.reduceSub, Nat.reduceBNe]
    subst hL
    generalize hX : exec _ (.loop F_r06_kids_l0) _ _ = X
    obtain ⟨o, rfl, h⟩ := looped hX (kids_loop (l := l) (k := kids) (t1 := t1) (t2 := 0) (nl1 := nl1) (nl2 := nl) hv hl (by simp only [get_set', selE_t, selE_f, Nat.reduceBEq, set_defers, fr00_get, fr00_defers, put_some, put_none ]) (by simp only [get_set', selE_t, selE_f, Nat.reduceBEq, set_defers, fr00_get, fr00_defers, put_some, put_none ]) (by simp only [get_set', selE_t, selE_f, Nat.reduceBEq, set_defers, fr00_get, fr00_defers, put_some, put_none ]) (by simp only [get_set', selE_t, selE_f, Nat.reduceBEq, set_defers, fr00_get, fr00_defers, put_some, put_none ]))
    rcases h with ⟨h, fr', rfl, h2, hd⟩ | ⟨h, fr', rfl, hd⟩
    · simp +contextual -implicitDefEqProofs (maxSteps := 1000000) (maxDischargeDepth := 8) only [h2, hd, zz0, zz1, zz2, zz3, zz4, zz5, zz6, zz7, zz8, zz9, argsF, reduceIte, reduceCtorEq, Nat.reduceEqDiff, Nat.reduceBEq, Nat.reduceAdd, Int.reduceLT, Int.reduceLE, Int.reduceEq, Int.reduceToNat, Int.reduceNeg, Nat.reduceLeDiff, Int.reducePow, implies_true, UInt8.reduceToNat, Int.reduceSub, Int.reduceAdd, Nat.reduceLT, Nat.reduceMul, Nat.reduceSub, Nat.reduceBNe]
      refine congrArg some (ff_bo fun q => h ?_)
      simp only [kidsP] at q
      grind
    · simp +contextual -implicitDefEqProofs (maxSteps := 1000000) (maxDischargeDepth := 8) only [hd, zz0, zz1, zz2, zz3, zz4, zz5, zz6, zz7, zz8, zz9, argsF, reduceIte, reduceCtorEq, Nat.reduceEqDiff, Nat.reduceBEq, Nat.reduceAdd, Int.reduceLT, Int.reduceLE, Int.reduceEq, Int.reduceToNat, Int.reduceNeg, Nat.reduceLeDiff, Int.reducePow, implies_true, UInt8.reduceToNat, Int.reduceSub, Int.reduceAdd, Nat.reduceLT, Nat.reduceMul, Nat.reduceSub, Nat.reduceBNe]
      refine congrArg some (tt_bo ?_)
      simp only [kidsP]
      grind
  by_cases k22 : kind = 22
  · subst k22
    by_cases h1 : kids.length = 1
    · obtain ⟨x, rfl⟩ : ∃ x, kids = [x] := List.length_eq_one_iff.1 h1
      obtain ⟨x0, x1⟩ := hv x (by simp)
      obtain ⟨d, hd1, hd2⟩ := node_at x0 x1
      have hix := idx_int (k := .i64) x0 x1
      have hg : ([x] : List Int)[0]? = some x := rfl
      have hlt : 0 < ([x] : List Int).length := Nat.zero_lt_one
      have c1' : (([x] : List Int).length : Int) = 1 := rfl
      simp +contextual -implicitDefEqProofs (maxSteps := 1000000) (maxDischargeDepth := 8) only [F_r06_kids, Nd.cells, ints_len, c1', hg, hlt, idx_lit0, ints_get, nds_get, nds_len, hix, hd1, zz0, zz1, zz2, zz3, zz4, zz5, zz6, zz7, zz8, zz9, argsF, reduceIte, reduceCtorEq, Nat.reduceEqDiff, Nat.reduceBEq, Nat.reduceAdd, Int.reduceLT, Int.reduceLE, Int.reduceEq, Int.reduceToNat, Int.reduceNeg, Nat.reduceLeDiff, Int.reducePow, implies_true, UInt8.reduceToNat, Int.reduceSub, Int.reduceAdd, Nat.reduceLT, Nat.reduceMul, Nat.reduceSub, Nat.reduceBNe]
      refine bo_some ?_
      simp only [kidsP]
      rw [← hd2]; simp
    · simp +contextual -implicitDefEqProofs (maxSteps := 1000000) (maxDischargeDepth := 8) only [F_r06_kids, Nd.cells, ints_len, c1, h1, zz0, zz1, zz2, zz3, zz4, zz5, zz6, zz7, zz8, zz9, argsF, reduceIte, reduceCtorEq, Nat.reduceEqDiff, Nat.reduceBEq, Nat.reduceAdd, Int.reduceLT, Int.reduceLE, Int.reduceEq, Int.reduceToNat, Int.reduceNeg, Nat.reduceLeDiff, Int.reducePow, implies_true, UInt8.reduceToNat, Int.reduceSub, Int.reduceAdd, Nat.reduceLT, Nat.reduceMul, Nat.reduceSub, Nat.reduceBNe]
      refine congrArg some (ff_bo fun q => h1 ?_)
      simp only [kidsP] at q
      grind
  have s1 : 1 ≤ kids.length → bound (some (.int .i64 1)) 0 kids.length = some 1 := fun h => bound_cast (i := 1) h
  have s2 : 2 ≤ kids.length → bound (some (.int .i64 2)) 0 kids.length = some 2 := fun h => bound_cast (i := 2) h
  have sn : bound none kids.length kids.length = some kids.length := rfl
  have st : (ints kids).take kids.length = ints kids := List.take_of_length_le (by rw [ints_len]; omega)
  have g1 : (2 ≤ kids.length) → 1 ≤ kids.length := by omega
  have g2 : (kids.length = 2) → 1 ≤ kids.length := by omega
  have g3 : (kids.length = 3) → 2 ≤ kids.length := by omega
  by_cases k15 : kind = 15
  · subst k15
    by_cases hk : 1 ≤ kids.length
    · have sb := s1 hk
      simp +contextual -implicitDefEqProofs (maxSteps := 1000000) (maxDischargeDepth := 8) only [F_r06_kids, Nd.cells, ints_len, ints_drop, d2, e1, a2, sb, sn, st, zz0, zz1, zz2, zz3, zz4, zz5, zz6, zz7, zz8, zz9, argsF, reduceIte, reduceCtorEq, Nat.reduceEqDiff, Nat.reduceBEq, Nat.reduceAdd, Int.reduceLT, Int.reduceLE, Int.reduceEq, Int.reduceToNat, Int.reduceNeg, Nat.reduceLeDiff, Int.reducePow, implies_true, UInt8.reduceToNat, Int.reduceSub, Int.reduceAdd, Nat.reduceLT, Nat.reduceMul, Nat.reduceSub, Nat.reduceBNe]
      refine bo_some ?_
      simp only [kidsP]
      grind
    · have hne : ¬ exprsP l kids 1 := fun q => hk q.1
      simp +contextual -implicitDefEqProofs (maxSteps := 1000000) (maxDischargeDepth := 8) only [F_r06_kids, Nd.cells, ints_len, d2, e1, a2, hne, zz0, zz1, zz2, zz3, zz4, zz5, zz6, zz7, zz8, zz9, argsF, reduceIte, reduceCtorEq, Nat.reduceEqDiff, Nat.reduceBEq, Nat.reduceAdd, Int.reduceLT, Int.reduceLE, Int.reduceEq, Int.reduceToNat, Int.reduceNeg, Nat.reduceLeDiff, Int.reducePow, implies_true, UInt8.reduceToNat, Int.reduceSub, Int.reduceAdd, Nat.reduceLT, Nat.reduceMul, Nat.reduceSub, Nat.reduceBNe]
      refine congrArg some (ff_bo fun q => ?_)
      simp only [kidsP] at q
      grind
  by_cases k16 : kind = 16
  · subst k16
    by_cases hk : kids.length = 2
    · have sb : bound (some (.int .i64 1)) 0 2 = some 1 := rfl
      have sn : bound none 2 2 = some 2 := rfl
      have st : (ints kids).take 2 = ints kids := List.take_of_length_le (by rw [ints_len]; omega)
      simp +contextual -implicitDefEqProofs (maxSteps := 1000000) (maxDischargeDepth := 8) only [F_r06_kids, Nd.cells, ints_len, ints_drop, hk, e1, a1, sb, sn, st, c2, zz0, zz1, zz2, zz3, zz4, zz5, zz6, zz7, zz8, zz9, argsF, reduceIte, reduceCtorEq, Nat.reduceEqDiff, Nat.reduceBEq, Nat.reduceAdd, Int.reduceLT, Int.reduceLE, Int.reduceEq, Int.reduceToNat, Int.reduceNeg, Nat.reduceLeDiff, Int.reducePow, implies_true, UInt8.reduceToNat, Int.reduceSub, Int.reduceAdd, Nat.reduceLT, Nat.reduceMul, Nat.reduceSub, Nat.reduceBNe]
      refine bo_some ?_
      simp only [kidsP]
      grind
    · simp +contextual -implicitDefEqProofs (maxSteps := 1000000) (maxDischargeDepth := 8) only [F_r06_kids, Nd.cells, ints_len, e1, c2, hk, zz0, zz1, zz2, zz3, zz4, zz5, zz6, zz7, zz8, zz9, argsF, reduceIte, reduceCtorEq, Nat.reduceEqDiff, Nat.reduceBEq, Nat.reduceAdd, Int.reduceLT, Int.reduceLE, Int.reduceEq, Int.reduceToNat, Int.reduceNeg, Nat.reduceLeDiff, Int.reducePow, implies_true, UInt8.reduceToNat, Int.reduceSub, Int.reduceAdd, Nat.reduceLT, Nat.reduceMul, Nat.reduceSub, Nat.reduceBNe]
      refine congrArg some (ff_bo fun q => ?_)
      simp only [kidsP] at q
      grind
  by_cases k17 : kind = 17
  · subst k17
    by_cases hk : kids.length = 3
    · have sb : bound (some (.int .i64 2)) 0 3 = some 2 := rfl
      have sn : bound none 3 3 = some 3 := rfl
      have st : (ints kids).take 3 = ints kids := List.take_of_length_le (by rw [ints_len]; omega)
      simp +contextual -implicitDefEqProofs (maxSteps := 1000000) (maxDischargeDepth := 8) only [F_r06_kids, Nd.cells, ints_len, ints_drop, hk, e2, a3, sb, sn, st, c3, zz0, zz1, zz2, zz3, zz4, zz5, zz6, zz7, zz8, zz9, argsF, reduceIte, reduceCtorEq, Nat.reduceEqDiff, Nat.reduceBEq, Nat.reduceAdd, Int.reduceLT, Int.reduceLE, Int.reduceEq, Int.reduceToNat, Int.reduceNeg, Nat.reduceLeDiff, Int.reducePow, implies_true, UInt8.reduceToNat, Int.reduceSub, Int.reduceAdd, Nat.reduceLT, Nat.reduceMul, Nat.reduceSub, Nat.reduceBNe]
      refine bo_some ?_
      simp only [kidsP]
      grind
    · simp +contextual -implicitDefEqProofs (maxSteps := 1000000) (maxDischargeDepth := 8) only [F_r06_kids, Nd.cells, ints_len, e2, c3, hk, zz0, zz1, zz2, zz3, zz4, zz5, zz6, zz7, zz8, zz9, argsF, reduceIte, reduceCtorEq, Nat.reduceEqDiff, Nat.reduceBEq, Nat.reduceAdd, Int.reduceLT, Int.reduceLE, Int.reduceEq, Int.reduceToNat, Int.reduceNeg, Nat.reduceLeDiff, Int.reducePow, implies_true, UInt8.reduceToNat, Int.reduceSub, Int.reduceAdd, Nat.reduceLT, Nat.reduceMul, Nat.reduceSub, Nat.reduceBNe]
      refine congrArg some (ff_bo fun q => ?_)
      simp only [kidsP] at q
      grind
  by_cases k25 : kind = 25
  · subst k25
    by_cases hk : 1 ≤ kids.length
    · have hlt : kids.length - 1 < kids.length := by omega
      have hg : kids[kids.length - 1]? = some kids[kids.length - 1] := List.getElem?_eq_getElem hlt
      obtain ⟨x0, x1⟩ := hv kids[kids.length - 1] (List.getElem_mem hlt)
      obtain ⟨d, hd1, hd2⟩ := node_at x0 x1
      have hix := idx_int (k := .i64) x0 x1
      have hw : IntKind.i64.wrap ((kids.length : Int) - 1) = ((kids.length - 1 : Nat) : Int) := by rw [wrap_i64 (by omega) (by omega)]; omega
      have sb : bound (some (.int .i64 ((kids.length - 1 : Nat) : Int))) kids.length kids.length = some (kids.length - 1) := bound_cast (by omega)
      have s0 : ∀ n, bound none 0 n = some 0 := fun _ => rfl
      have hk' : (1 : Int) ≤ (kids.length : Int) := by omega
      simp +contextual -implicitDefEqProofs (maxSteps := 1000000) (maxDischargeDepth := 8) only [F_r06_kids, Nd.cells, ints_len, ints_take, hk', hw, hg, hlt, sb, s0, a4, idx_cast, ints_get, nds_get, nds_len, hix, hd1, List.drop_zero, zz0, zz1, zz2, zz3, zz4, zz5, zz6, zz7, zz8, zz9, argsF, reduceIte, reduceCtorEq, Nat.reduceEqDiff, Nat.reduceBEq, Nat.reduceAdd, Int.reduceLT, Int.reduceLE, Int.reduceEq, Int.reduceToNat, Int.reduceNeg, Nat.reduceLeDiff, Int.reducePow, implies_true, UInt8.reduceToNat, Int.reduceSub, Int.reduceAdd, Nat.reduceLT, Nat.reduceMul, Nat.reduceSub, Nat.reduceBNe]
      refine bo_some ?_
      simp only [kidsP]
      rw [← hd2, List.getLast?_eq_getElem?, hg]; simp [hk]
    · have hk' : ¬ (1 : Int) ≤ (kids.length : Int) := by omega
      simp +contextual -implicitDefEqProofs (maxSteps := 1000000) (maxDischargeDepth := 8) only [F_r06_kids, Nd.cells, ints_len, hk', zz0, zz1, zz2, zz3, zz4, zz5, zz6, zz7, zz8, zz9, argsF, reduceIte, reduceCtorEq, Nat.reduceEqDiff, Nat.reduceBEq, Nat.reduceAdd, Int.reduceLT, Int.reduceLE, Int.reduceEq, Int.reduceToNat, Int.reduceNeg, Nat.reduceLeDiff, Int.reducePow, implies_true, UInt8.reduceToNat, Int.reduceSub, Int.reduceAdd, Nat.reduceLT, Nat.reduceMul, Nat.reduceSub, Nat.reduceBNe]
      refine congrArg some (ff_bo fun q => ?_)
      simp only [kidsP] at q
      grind
  simp +contextual -implicitDefEqProofs (maxSteps := 1000000) (maxDischargeDepth := 8) only [F_r06_kids, Nd.cells, ints_len, c0, k5, k8, k14, k6, k7, k9, k10, k12, k13, k20, k21, k11, k26, k23, k22, k15, k16, k17, k25, zz0, zz1, zz2, zz3, zz4, zz5, zz6, zz7, zz8, zz9, argsF, reduceIte, reduceCtorEq, Nat.reduceEqDiff, Nat.reduceBEq, Nat.reduceAdd, Int.reduceLT, Int.reduceLE, Int.reduceEq, Int.reduceToNat, Int.reduceNeg, Nat.reduceLeDiff, Int.reducePow, implies_true, UInt8.reduceToNat, Int.reduceSub, Int.reduceAdd, Nat.reduceLT, Nat.reduceMul, Nat.reduceSub, Nat.reduceBNe]
  refine bo_some ?_
  simp only [kidsP]
  grind
end Go.Proofs.Ytjgbofonigpjaaa.Ev
end
section
namespace Go.Proofs.Ytjgbofonigpjaaa.Ev
open Go
set_option linter.unusedSimpArgs false
set_option maxRecDepth 10000
set_option maxHeartbeats 4000000
theorem highF_more {l : List Nd} (hk : kidsLt l) : ∀ (f i : Nat), i < f → highF l f i = highN l i := by
  have key : ∀ (i f g : Nat), i < f → i < g → highF l f i = highF l g i := by
    intro i
    induction i using Nat.strongRecOn with
    | _ i ih =>
      intro f g hf hg
      obtain ⟨f, rfl⟩ : ∃ f', f = f' + 1 := ⟨f - 1, by omega⟩
      obtain ⟨g, rfl⟩ : ∃ g', g = g' + 1 := ⟨g - 1, by omega⟩
      simp only [highF]
      cases hd : l[i]? with
      | none => rfl
      | some d =>
        simp only
        have hx := hk i d hd
        generalize d.kids = ks at hx
        have : ∀ (ks : List Int) (a : Nat), (∀ x ∈ ks, 0 ≤ x ∧ x < (i : Int)) → ks.foldl (fun h x => max h (1 + highF l f x.toNat)) a = ks.foldl (fun h x => max h (1 + highF l g x.toNat)) a := by
          intro ks
          induction ks with
          | nil => intro a _; rfl
          | cons x ks ihk =>
            intro a h
            have := h x (by simp)
            rw [List.foldl_cons, List.foldl_cons, ih x.toNat (by omega) f g (by omega) (by omega)]
            exact ihk _ fun y hy => h y (by simp [hy])
        exact this ks 1 hx
  intro f i h
  exact key i f (i + 1) h (by omega)
/-- A node's height, of its kids' heights. -/
theorem highN_eq {l : List Nd} (hk : kidsLt l) {i : Nat} {d : Nd} (hd : l[i]? = some d) : highN l i = d.kids.foldl (fun h x => max h (1 + highN l x.toNat)) 1 := by
  unfold highN
  rw [highF]
  simp only [hd]
  have hx := hk i d hd
  generalize d.kids = ks at hx
  have : ∀ (ks : List Int) (a : Nat), (∀ x ∈ ks, 0 ≤ x ∧ x < (i : Int)) → ks.foldl (fun h x => max h (1 + highF l i x.toNat)) a = ks.foldl (fun h x => max h (1 + highF l (x.toNat + 1) x.toNat)) a := by
    intro ks
    induction ks with
    | nil => intro a _; rfl
    | cons x ks ihk =>
      intro a h
      have := h x (by simp)
      rw [List.foldl_cons, List.foldl_cons, highF_more hk i x.toNat (by omega)]
      exact ihk _ fun y hy => h y (by simp [hy])
  exact this ks 1 hx
theorem highN_le {l : List Nd} (hk : kidsLt l) : ∀ i, highN l i ≤ i + 1 := by
  intro i
  induction i using Nat.strongRecOn with
  | _ i ih =>
    cases hd : l[i]? with
    | none => unfold highN highF; rw [hd]; simp
    | some d =>
      rw [highN_eq hk hd]
      have hx := hk i d hd
      generalize d.kids = ks at hx
      have : ∀ (ks : List Int) (a : Nat), a ≤ i + 1 → (∀ x ∈ ks, 0 ≤ x ∧ x < (i : Int)) → ks.foldl (fun h x => max h (1 + highN l x.toNat)) a ≤ i + 1 := by
        intro ks
        induction ks with
        | nil => intro a h _; exact h
        | cons x ks ihk =>
          intro a ha h
          have h1 := h x (by simp)
          have h2 := ih x.toNat (by omega)
          rw [List.foldl_cons]
          exact ihk _ (by omega) fun y hy => h y (by simp [hy])
      exact this ks 1 (by omega) hx
/-- The loop over kids: the greatest of their heights. -/
theorem height_loop {l : List Nd} {t : Nat} {nl : Bool} {i : Nat} {d : Nd} (hk : kidsLt l) (hl : l.length < 1000000) (hd0 : l[i]? = some d) (hkl : d.kids.length < 1000000000) (ih : ∀ j : Nat, j < i → pureR B K n_r06_Height [row nl 1 5 (nds l), .int .i64 (j : Int)] = some (.int .i64 (highN l j : Int))) {m0 : Mem} {fr : Fr} (h0 : fr.get 0 = row nl t 5 (nds l)) (h1 : fr.get 1 = .int .i64 (i : Int)) (h5 : fr.get 5 = .int .i64 1) (h6 : fr.get 6 = .int .i64 0) (hd : fr.defers = []) :
    ∃ o, exec U (.loop F_r06_Height_l0) fr m0 = some o ∧ ∃ fr', o = .exit 0 fr' m0 ∧ fr'.get 5 = .int .i64 (highN l i : Int) ∧ fr'.defers = [] := by
  have hxs := hk i d hd0
  have hil : i < l.length := (List.getElem?_eq_some_iff.1 hd0).1
  have hmax : ∀ (ks : List Int) (a : Nat), (∀ x ∈ ks, 0 ≤ x ∧ x < (i : Int)) → a ≤ i + 1 → ks.foldl (fun h x => max h (1 + highN l x.toNat)) a ≤ i + 1 := by
    intro ks
    induction ks with
    | nil => intro a _ h; exact h
    | cons x ks ihk =>
      intro a h ha
      have h1 := h x (by simp)
      have h2 := highN_le hk x.toNat
      rw [List.foldl_cons]
      exact ihk _ (fun y hy => h y (by simp [hy])) (by omega)
  refine loop_w (σ := Nat) (fun j fr m => m = m0 ∧ j ≤ d.kids.length ∧ fr.get 0 = row nl t 5 (nds l) ∧ fr.get 1 = .int .i64 (i : Int) ∧ fr.get 5 = .int .i64 (((d.kids.take j).foldl (fun h x => max h (1 + highN l x.toNat)) 1 : Nat) : Int) ∧ fr.get 6 = .int .i64 (j : Int) ∧ fr.defers = []) (fun j => d.kids.length - j) _ ?_ 0 fr m0 ⟨rfl, Nat.zero_le _, h0, h1, by simpa using h5, h6, hd⟩
  rintro j fr m ⟨rfl, hj, h0, h1, h5, h6, hd⟩
  generalize hX : exec U F_r06_Height_l0 fr m = X
  by_cases hlt : j < d.kids.length
  · have hc : (j : Int) < (d.kids.length : Int) := by omega
    have hg : d.kids[j]? = some d.kids[j] := List.getElem?_eq_getElem hlt
    obtain ⟨x0, x1⟩ := hxs d.kids[j] (List.getElem_mem hlt)
    have hih := ih d.kids[j].toNat (by omega)
    have hfl : (d.kids.take (j + 1)).foldl (fun h x => max h (1 + highN l x.toNat)) 1 = max ((d.kids.take j).foldl (fun h x => max h (1 + highN l x.toNat)) 1) (1 + highN l d.kids[j].toNat) := by
      rw [List.take_succ_eq_append_getElem hlt, List.foldl_append]; rfl
    have hle := hmax (d.kids.take j) 1 (fun x hx => hxs x (List.mem_of_mem_take hx)) (by omega)
    have hle2 := highN_le hk d.kids[j].toNat
    have hxx : ((d.kids[j].toNat : Nat) : Int) = d.kids[j] := Int.toNat_of_nonneg x0
    rw [hxx] at hih
    generalize d.kids[j] = x at *
    generalize hA : (d.kids.take j).foldl (fun h x => max h (1 + highN l x.toNat)) 1 = A at *
    have hw1 := wrap_succ (i := j) (by omega)
    have hw2 : IntKind.i64.wrap (1 + (highN l x.toNat : Int)) = ((1 + highN l x.toNat : Nat) : Int) := by rw [wrap_i64 (by omega) (by omega)]; omega
    have hmx : evMax [.int .i64 (A : Int), .int .i64 ((1 + highN l x.toNat : Nat) : Int)] = some (.int .i64 ((max A (1 + highN l x.toNat) : Nat) : Int)) := by
      simp only [evMax, maxFrom, Nat.beq_refl, cond_true]
      congr 2
      split <;> omega
    simp +contextual -implicitDefEqProofs (maxSteps := 1000000) (maxDischargeDepth := 8) only [F_r06_Height_l0, h0, h1, h5, h6, hd, hd0, hil, hc, hg, hlt, hw1, hw2, hmx, idx_cast, ints_get, ints_len, nds_get, nds_len, Nd.cells, hih, zz0, zz1, zz2, zz3, zz4, zz5, zz6, zz7, zz8, zz9, argsF, reduceIte, reduceCtorEq, Nat.reduceEqDiff, Nat.reduceBEq, Nat.reduceAdd, Int.reduceLT, Int.reduceLE, Int.reduceEq, Int.reduceToNat, Int.reduceNeg, Nat.reduceLeDiff, Int.reducePow, implies_true, UInt8.reduceToNat, Int.reduceSub, Int.reduceAdd, Nat.reduceLT, Nat.reduceMul, Nat.reduceSub, Nat.reduceBNe] at hX
    subst hX
    exact lw_norm (j + 1) (by omega) ⟨rfl, hlt, by simp only [h0, get_set', selE_t, selE_f, Nat.reduceBEq, set_defers, fr00_get, fr00_defers, put_some, put_none ], by simp only [h1, get_set', selE_t, selE_f, Nat.reduceBEq, set_defers, fr00_get, fr00_defers, put_some, put_none ], by simp only [hfl, get_set', selE_t, selE_f, Nat.reduceBEq, set_defers, fr00_get, fr00_defers, put_some, put_none ], by simp only [get_set', selE_t, selE_f, Nat.reduceBEq, set_defers, fr00_get, fr00_defers, put_some, put_none ], by simp only [hd, get_set', selE_t, selE_f, Nat.reduceBEq, set_defers, fr00_get, fr00_defers, put_some, put_none ]⟩
  · have hc : ¬ ((j : Int) < (d.kids.length : Int)) := by omega
    rw [List.take_of_length_le (by omega), ← highN_eq hk hd0] at h5
    simp +contextual -implicitDefEqProofs (maxSteps := 1000000) (maxDischargeDepth := 8) only [F_r06_Height_l0, h0, h1, h5, h6, hd, hd0, hil, hc, idx_cast, ints_len, nds_get, nds_len, Nd.cells, zz0, zz1, zz2, zz3, zz4, zz5, zz6, zz7, zz8, zz9, argsF, reduceIte, reduceCtorEq, Nat.reduceEqDiff, Nat.reduceBEq, Nat.reduceAdd, Int.reduceLT, Int.reduceLE, Int.reduceEq, Int.reduceToNat, Int.reduceNeg, Nat.reduceLeDiff, Int.reducePow, implies_true, UInt8.reduceToNat, Int.reduceSub, Int.reduceAdd, Nat.reduceLT, Nat.reduceMul, Nat.reduceSub, Nat.reduceBNe] at hX
    subst hX
    exact lw_exit ⟨_, rfl, by simp only [h5, get_set', selE_t, selE_f, Nat.reduceBEq, set_defers, fr00_get, fr00_defers, put_some, put_none ], by simp only [hd, get_set', selE_t, selE_f, Nat.reduceBEq, set_defers, fr00_get, fr00_defers, put_some, put_none ]⟩
theorem height_eq {l : List Nd} {nl : Bool} (hk : kidsLt l) (hl : l.length < 1000000) (hkl : ∀ d ∈ l, d.kids.length < 1000000000) : ∀ i : Nat, i < l.length → ∀ t, pureR B K n_r06_Height [row nl t 5 (nds l), .int .i64 (i : Int)] = some (.int .i64 (highN l i : Int)) := by
  intro i
  induction i using Nat.strongRecOn with
  | _ i ih =>
    intro hil t
    have hd0 : l[i]? = some l[i] := List.getElem?_eq_getElem hil
    rw [pure_at (by simp [F_r06_Height])]
    generalize hL : exec (UT B K) (ICode.loop F_r06_Height_l0) = L
    simp +contextual -implicitDefEqProofs (maxSteps := 1000000) (maxDischargeDepth := 8) only [F_r06_Height, zz0, zz1, zz2, zz3, zz4, zz5, zz6, zz7, zz8, zz9, argsF, reduceIte, reduceCtorEq, Nat.reduceEqDiff, Nat.reduceBEq, Nat.reduceAdd, Int.reduceLT, Int.reduceLE, Int.reduceEq, Int.reduceToNat, Int.reduceNeg, Nat.reduceLeDiff, Int.reducePow, implies_true, UInt8.reduceToNat, Int.reduceSub, Int.reduceAdd, Nat.reduceLT, Nat.reduceMul, Nat.reduceSub, Nat.reduceBNe]
    subst hL
    generalize hX : exec _ (.loop F_r06_Height_l0) _ _ = X
    obtain ⟨o, rfl, fr', rfl, h5, hd⟩ := looped hX (height_loop (l := l) (t := t) (nl := nl) (i := i) hk hl hd0 (hkl _ (List.getElem_mem hil)) (fun j hj => ih j hj (by omega) 1) (by simp only [get_set', selE_t, selE_f, Nat.reduceBEq, set_defers, fr00_get, fr00_defers, put_some, put_none ]) (by simp only [get_set', selE_t, selE_f, Nat.reduceBEq, set_defers, fr00_get, fr00_defers, put_some, put_none ]) (by simp only [get_set', selE_t, selE_f, Nat.reduceBEq, set_defers, fr00_get, fr00_defers, put_some, put_none ]) (by simp only [get_set', selE_t, selE_f, Nat.reduceBEq, set_defers, fr00_get, fr00_defers, put_some, put_none ]) (by simp only [get_set', selE_t, selE_f, Nat.reduceBEq, set_defers, fr00_get, fr00_defers, put_some, put_none ]))
    simp +contextual -implicitDefEqProofs (maxSteps := 1000000) (maxDischargeDepth := 8) only [h5, hd, zz0, zz1, zz2, zz3, zz4, zz5, zz6, zz7, zz8, zz9, argsF, reduceIte, reduceCtorEq, Nat.reduceEqDiff, Nat.reduceBEq, Nat.reduceAdd, Int.reduceLT, Int.reduceLE, Int.reduceEq, Int.reduceToNat, Int.reduceNeg, Nat.reduceLeDiff, Int.reducePow, implies_true, UInt8.reduceToNat, Int.reduceSub, Int.reduceAdd, Nat.reduceLT, Nat.reduceMul, Nat.reduceSub, Nat.reduceBNe]
end Go.Proofs.Ytjgbofonigpjaaa.Ev
end
section
namespace Go.Proofs.Ytjgbofonigpjaaa.Ev
set_option linter.unusedSimpArgs false
set_option linter.unusedVariables false
set_option maxHeartbeats 4000000
def cntU (l : List Nd) (a : Int) : Nat := (usedL l).count a
theorem cntU_nil {a : Int} : cntU [] a = 0 := rfl
theorem cntU_app {x y : List Nd} {a : Int} : cntU (x ++ y) a = cntU x a + cntU y a := by simp [cntU, usedL]
theorem cntU_one {d : Nd} {a : Int} : cntU [d] a = d.kids.count a := by simp [cntU, usedL]
def inR (lo hi : Nat) (a : Int) : Nat := if (lo : Int) ≤ a ∧ a < (hi : Int) then 1 else 0
theorem inR_split {a b c : Nat} {x : Int} (h : a ≤ b) (h' : b ≤ c) : inR a c x = inR a b x + inR b c x := by
  unfold inR
  by_cases h1 : (a : Int) ≤ x ∧ x < (b : Int) <;> by_cases h2 : (b : Int) ≤ x ∧ x < (c : Int) <;> by_cases h3 : (a : Int) ≤ x ∧ x < (c : Int) <;> first | (rw [if_pos h1, if_pos h2]; exfalso; omega) | (rw [if_pos h1, if_neg h2, if_pos h3]) | (rw [if_neg h1, if_pos h2, if_pos h3]) | (rw [if_neg h1, if_neg h2, if_neg h3]) | (exfalso; omega)
theorem inR_same {a : Nat} {x : Int} : inR a a x = 0 := by unfold inR; rw [if_neg (by omega)]
theorem inR_one {a : Nat} {x : Int} : inR a (a + 1) x = [(a : Int)].count x := by
  unfold inR
  by_cases h : x = (a : Int)
  · subst h; rw [if_pos (by omega)]; simp
  · rw [if_neg (by omega), List.count_eq_zero_of_not_mem (by simpa using h)]
/-- What a node of a reader is. -/
structure NdOk (l : List Tok) (d : Nd) : Prop where
  own : ownP d
  kind : exprK d.kind
  pos : ∃ t ∈ l, d.pos = (t.pos : Int)
  kn : if d.kind = 5 ∨ d.kind = 8 then d.kids.length = 2 else if d.kind = 6 ∨ d.kind = 7 ∨ d.kind = 9 ∨ d.kind = 10 then d.kids.length = 1 else if d.kind = 11 then d.kids.length ≤ 8 else d.kids.length = 0
structure TrOk (l : List Tok) (st : RS) : Prop where
  lt : kidsLt st.tree
  ok : ∀ d ∈ st.tree, NdOk l d
  hl : st.high.length = st.tree.length
  hh : ∀ i, i < st.tree.length → st.high[i]? = some (highN st.tree i)
structure TI (l : List Tok) (st : RS) : Prop where
  t : st.fe = 0 → TrOk l st
  f : st.fe ≠ 0 → ∃ t ∈ l, st.fp = (t.pos : Int)
structure Post (l : List Tok) (ins : List Int) (st s1 : RS) (r : List Int) : Prop where
  inv : TI l s1
  ok : s1.fe = 0 → st.fe = 0 ∧ ∃ new, s1.tree = st.tree ++ new ∧ ∀ a, cntU new a + r.count a = ins.count a + inR st.tree.length s1.tree.length a
section
variable {l : List Tok} {st s1 s2 : RS}
theorem now_mem (h : 0 < l.length) : st.now l ∈ l := by
  have : min st.pos (l.length - 1) < l.length := by omega
  unfold RS.now
  rw [List.getD_eq_getElem?_getD, List.getElem?_eq_getElem this]
  exact List.getElem_mem this
/-- The same nodes. -/
theorem TI.same (h : TI l st) (h1 : s1.tree = st.tree) (h2 : s1.high = st.high) (h3 : s1.fe = st.fe) (h4 : s1.fp = st.fp) : TI l s1 where
  t q := by have := h.t (h3 ▸ q); exact ⟨by rw [h1]; exact this.lt, by rw [h1]; exact this.ok, by rw [h1, h2]; exact this.hl, by rw [h1, h2]; exact this.hh⟩
  f q := by rw [h4]; exact h.f (h3 ▸ q)
theorem TI.fail (h : TI l st) {e : Int} {p : Int} (he : e ≠ 0) (hp : ∃ t ∈ l, p = (t.pos : Int)) : TI l (st.fail e p) := by
  unfold RS.fail
  split
  · exact ⟨fun q => absurd q he, fun _ => hp⟩
  · exact h
theorem TI.next (h : TI l st) : TI l st.next := h.same rfl rfl rfl rfl
theorem TI.close (h : TI l st) : TI l st.close := h.same rfl rfl rfl rfl
theorem TI.open (h : TI l st) {p : Int} (hp : ∃ t ∈ l, p = (t.pos : Int)) : TI l (st.open p) := by
  unfold RS.open
  split
  · exact TI.fail (e := 4) (h.same (s1 := { st with deep := st.deep + 1 }) rfl rfl rfl rfl) (by decide) hp
  · exact h.same rfl rfl rfl rfl
theorem TI.want (hl : 0 < l.length) (h : TI l st) {s : Txt} : TI l (st.want l s) := by
  unfold RS.want
  split
  · exact h.next
  · exact h.fail (by decide) ⟨_, now_mem hl, rfl⟩
theorem want_ok {s : Txt} (h : (st.want l s).fe = 0) : st.fe = 0 ∧ (st.want l s).tree = st.tree := by
  unfold RS.want at h ⊢
  split at h
  · rename_i q; rw [if_pos q]; exact ⟨h, rfl⟩
  · exact absurd h (fail_fe (by decide))
theorem open_ok {p : Int} (h : (st.open p).fe = 0) : st.fe = 0 ∧ (st.open p).tree = st.tree := by
  unfold RS.open at h ⊢
  split at h
  · exact absurd h (fail_fe (by decide))
  · rename_i q; rw [if_neg q]; exact ⟨h, rfl⟩
/-! ### Heights -/
theorem highN_app {x y : List Nd} (hk : kidsLt (x ++ y)) : ∀ i, i < x.length → highN (x ++ y) i = highN x i := by
  intro i
  induction i using Nat.strongRecOn with
  | _ i ih =>
    intro hi
    have hkx : kidsLt x := fun j d hj => hk j d (by rw [List.getElem?_append_left (List.getElem?_eq_some_iff.1 hj).1]; exact hj)
    have hd : x[i]? = some x[i] := List.getElem?_eq_getElem hi
    have hd' : (x ++ y)[i]? = some x[i] := by rw [List.getElem?_append_left hi]; exact hd
    rw [highN_eq hk hd', highN_eq hkx hd]
    have hlt := hkx i _ hd
    have : ∀ (ks : List Int) (a : Nat), (∀ z ∈ ks, 0 ≤ z ∧ z < (i : Int)) → ks.foldl (fun h x_1 => max h (1 + highN (x ++ y) x_1.toNat)) a = ks.foldl (fun h x_1 => max h (1 + highN x x_1.toNat)) a := by
      intro ks
      induction ks with
      | nil => intro _ _; rfl
      | cons z ks ihk =>
        intro a hz
        have hz0 := hz z (by simp)
        rw [List.foldl_cons, List.foldl_cons, ih z.toNat (by omega) (by omega)]
        exact ihk _ fun w hw => hz w (by simp [hw])
    exact this _ _ hlt
theorem kidsLt_snoc {x : List Nd} {d : Nd} (hk : kidsLt x) (hd : ∀ z ∈ d.kids, 0 ≤ z ∧ z < (x.length : Int)) : kidsLt (x ++ [d]) := by
  intro i e hi
  by_cases h : i < x.length
  · rw [List.getElem?_append_left h] at hi; exact hk i e hi
  · rw [List.getElem?_append_right (by omega)] at hi
    have : i = x.length := by
      have := (List.getElem?_eq_some_iff.1 hi).1
      simp only [List.length_singleton] at this; omega
    subst this
    simp only [Nat.sub_self, List.getElem?_cons_zero, Option.some.injEq] at hi
    subst hi; exact hd
/-- A node is laid. -/
theorem put_inv (h : TI l st) {d : Nd} (hp : ∃ t ∈ l, d.pos = (t.pos : Int)) (hd : st.fe = 0 → NdOk l d ∧ ∀ z ∈ d.kids, 0 ≤ z ∧ z < (st.tree.length : Int)) : TI l (st.put d) ∧ ((st.put d).fe = 0 → st.fe = 0 ∧ (st.put d).tree = st.tree ++ [d] ∧ st.putR d = (st.tree.length : Int)) := by
  unfold RS.put RS.putR RS.put0
  by_cases h2 : 200 < hiAll st.high d.kids
  · rw [if_pos h2, if_neg (fail_fe (by decide))]
    exact ⟨h.fail (by decide) hp, fun q => absurd q (fail_fe (by decide))⟩
  · rw [if_neg h2]
    by_cases hfe : st.fe = 0
    · rw [if_pos hfe, if_pos hfe]
      refine ⟨⟨fun _ => ?_, fun q => absurd hfe q⟩, fun _ => ⟨hfe, rfl, rfl⟩⟩
      obtain ⟨hn, hk⟩ := hd hfe
      have ht := h.t hfe
      have hk2 := kidsLt_snoc ht.lt hk
      refine ⟨hk2, ?_, ?_, ?_⟩
      · intro e he
        rcases List.mem_append.1 he with he | he
        · exact ht.ok e he
        · rw [List.mem_singleton.1 he]; exact hn
      · show (st.high ++ [_]).length = (st.tree ++ [d]).length
        rw [List.length_append, List.length_append, ht.hl]; rfl
      · intro i hi
        show (st.high ++ [_])[i]? = some (highN (st.tree ++ [d]) i)
        have hi : i < (st.tree ++ [d]).length := hi
        rw [List.length_append, List.length_singleton] at hi
        by_cases h' : i < st.tree.length
        · rw [List.getElem?_append_left (by rw [ht.hl]; exact h'), ht.hh i h', highN_app hk2 i h']
        · have : i = st.tree.length := by omega
          subst this
          rw [List.getElem?_append_right (by rw [ht.hl]; exact Nat.le_refl _), ht.hl, Nat.sub_self, List.getElem?_cons_zero, highN_eq hk2 (d := d) (by rw [List.getElem?_append_right (Nat.le_refl _), Nat.sub_self]; rfl)]
          congr 1
          unfold hiAll
          have : ∀ (ks : List Int) (a : Nat), (∀ z ∈ ks, 0 ≤ z ∧ z < (st.tree.length : Int)) → ks.foldl (hi1 st.high) a = ks.foldl (fun h x => max h (1 + highN (st.tree ++ [d]) x.toNat)) a := by
            intro ks
            induction ks with
            | nil => intro _ _; rfl
            | cons z ks ihk =>
              intro a hz
              have hz0 := hz z (by simp)
              rw [List.foldl_cons, List.foldl_cons, ihk _ fun w hw => hz w (by simp [hw])]
              congr 1
              unfold hi1
              have e1 := ht.hh z.toNat (by omega)
              rw [if_pos (by rw [ht.hl]; omega), List.getD_eq_getElem?_getD, e1, Option.getD_some, highN_app hk2 _ (by omega), Nat.add_comm]
          exact this _ _ hk
    · rw [if_neg hfe]
      exact ⟨h, fun q => absurd q hfe⟩
end
end Go.Proofs.Ytjgbofonigpjaaa.Ev
end
section
namespace Go.Proofs.Ytjgbofonigpjaaa.Ev
set_option linter.unusedSimpArgs false
set_option linter.unusedVariables false
set_option maxHeartbeats 4000000
def Cmd.ins : Cmd → List Int
  | .climbL _ _ left => [left] | .cellsL left => [left] | .argsL out => out | _ => []
def Cmd.len (s1 : RS) (r : List Int) : Cmd → Prop
  | .args => s1.fe = 0 → r.length ≤ 8
  | .argsL _ => s1.fe = 0 → r.length ≤ 8
  | _ => r.length = 1
def InT (st : RS) (xs : List Int) : Prop := st.fe = 0 → ∀ x ∈ xs, 0 ≤ x ∧ x < (st.tree.length : Int)
section
variable {l : List Tok} {st st' s1 s1' s2 : RS} {ins mid r r' : List Int}
theorem Post.val (h : Post l ins st s1 r) (hi : InT st ins) : InT s1 r := by
  intro q x hx
  obtain ⟨h0, new, hn, hc⟩ := h.ok q
  have h1 := hc x
  have h2 : 0 < r.count x := List.count_pos_iff.2 hx
  have hlen : s1.tree.length = st.tree.length + new.length := by rw [hn, List.length_append]
  by_cases h3 : x ∈ ins
  · have := hi h0 x h3; omega
  · rw [List.count_eq_zero_of_not_mem h3] at h1
    unfold inR at h1
    split at h1
    · omega
    · omega
theorem Post.refl (h : TI l st) : Post l ins st st ins := ⟨h, fun q => ⟨q, [], by simp, fun a => by rw [cntU_nil, inR_same]; omega⟩⟩
theorem Post.bad (h : TI l s1) (h0 : s1.fe ≠ 0) : Post l ins st s1 r := ⟨h, fun q => absurd q h0⟩
theorem Post.trans (h : Post l ins st s1 mid) (h' : Post l mid s1 s2 r) : Post l ins st s2 r := by
  refine ⟨h'.inv, fun q => ?_⟩
  obtain ⟨h1, n2, e2, c2⟩ := h'.ok q
  obtain ⟨h0, n1, e1, c1⟩ := h.ok h1
  refine ⟨h0, n1 ++ n2, by rw [e2, e1, List.append_assoc], fun a => ?_⟩
  have := c1 a; have := c2 a
  have l1 : s1.tree.length = st.tree.length + n1.length := by rw [e1, List.length_append]
  have l2 : s2.tree.length = s1.tree.length + n2.length := by rw [e2, List.length_append]
  rw [cntU_app, inR_split (b := s1.tree.length) (by omega) (by omega)]
  omega
theorem Post.cong (h : Post l ins st s1 r) (hi : TI l s1') (h0 : st.fe = 0 → st'.fe = 0 ∧ st'.tree = st.tree) (h2 : s1'.fe = 0 → s1.fe = 0 ∧ s1'.tree = s1.tree ∧ r' = r) : Post l ins st' s1' r' := by
  refine ⟨hi, fun q => ?_⟩
  obtain ⟨q1, q2, rfl⟩ := h2 q
  obtain ⟨p0, n1, e1, c1⟩ := h.ok q1
  obtain ⟨p1, p2⟩ := h0 p0
  exact ⟨p1, n1, by rw [q2, p2, e1], fun a => by rw [q2, p2]; exact c1 a⟩
theorem Post.put {extra : List Int} {d : Nd} (h : Post l ins st s1 r) (hi : InT st ins) (hp : ∃ t ∈ l, d.pos = (t.pos : Int)) (hd : s1.fe = 0 → NdOk l d) (hk : ∀ a, d.kids.count a = extra.count a + r.count a) (hx : InT st extra) : Post l (extra ++ ins) st (s1.put d) [s1.putR d] := by
  have hv := h.val hi
  obtain ⟨g1, g2⟩ := put_inv (st := s1) h.inv hp fun q => ⟨hd q, fun z hz => by
    have h2 : 0 < d.kids.count z := List.count_pos_iff.2 hz
    rw [hk z] at h2
    obtain ⟨h0, new, hn, _⟩ := h.ok q
    have hlen : s1.tree.length = st.tree.length + new.length := by rw [hn, List.length_append]
    by_cases h3 : z ∈ extra
    · have := hx h0 z h3; omega
    · rw [List.count_eq_zero_of_not_mem h3] at h2
      exact hv q z (List.count_pos_iff.1 (by omega))⟩
  refine ⟨g1, fun q => ?_⟩
  obtain ⟨p0, p1, p2⟩ := g2 q
  obtain ⟨h0, new, hn, hc⟩ := h.ok p0
  have hlen : s1.tree.length = st.tree.length + new.length := by rw [hn, List.length_append]
  refine ⟨h0, new ++ [d], by rw [p1, hn, List.append_assoc], fun a => ?_⟩
  rw [cntU_app, cntU_one, hk, p2, List.count_append, p1, List.length_append, List.length_singleton, inR_split (b := s1.tree.length) (by omega) (by omega), inR_one]
  have := hc a
  omega
end
theorem nd_ok {l : List Tok} {kind n : Int} {kids : List Int} {s : Txt} {t : Tok} (ht : t ∈ l) (h1 : exprK kind) (h2 : kind ∈ namedL ↔ s ≠ []) (h3 : s ≠ [] → nameP s) (h4 : if kind = 1 then 0 ≤ n else if kind = 2 then n = 0 ∨ n = 1 else if kind = 5 then 1 ≤ n ∧ n ≤ 16 else if kind = 24 ∨ kind = 25 then 1 ≤ n ∧ n ≤ 3 else n = 0) (h5 : if kind = 5 ∨ kind = 8 then kids.length = 2 else if kind = 6 ∨ kind = 7 ∨ kind = 9 ∨ kind = 10 then kids.length = 1 else if kind = 11 then kids.length ≤ 8 else kids.length = 0) : NdOk l (nd kind kids n s (t.pos : Int)) := by
  refine ⟨⟨?_, fun q => q.2 (h3 q.1), h4⟩, h1, ⟨t, ht, rfl⟩, h5⟩
  rintro ((q | q) | q)
  · have := h1.1; have := h1.2; simp only [nd] at q; omega
  · simp only [nd] at q; omega
  · exact q h2
theorem opsF_two {s : Txt} (h : (opsF s).2 ≠ 0) : 1 ≤ (opsF s).2 ∧ (opsF s).2 ≤ 16 := by
  have := opsF_le s; omega
end Go.Proofs.Ytjgbofonigpjaaa.Ev
end
section
namespace Go.Proofs.Ytjgbofonigpjaaa.Ev
set_option linter.unusedSimpArgs false
set_option linter.unusedVariables false
set_option maxHeartbeats 4000000
theorem bind_some {α β : Type} {x : Option α} {f : α → Option β} {b : β} (h : x.bind f = some b) : ∃ a, x = some a ∧ f a = some b := by
  cases x with
  | none => cases h
  | some a => exact ⟨a, rfl, h⟩
theorem one_of' {r : List Int} (h : r.length = 1) : ∃ x, r = [x] := by
  match r, h with
  | [x], _ => exact ⟨x, rfl⟩
theorem InT.nil {st : RS} : InT st [] := fun _ _ h => by cases h
theorem go_tr {l : List Tok} (hl : 0 < l.length) (hg : ∀ t ∈ l, t.kind = 1 → t.text ≠ [] ∧ nameP t.text) : ∀ (k : Nat) (c : Cmd) (st s1 : RS) (r : List Int), goF l k c st = some (s1, r) → TI l st → InT st c.ins → c.may → Post l c.ins st s1 r ∧ c.len s1 r := by
  intro k
  induction k with
  | zero => intro c st s1 r h; cases h
  | succ k ih =>
    intro c st s1 r h hT hI hm
    have hmem := now_mem (st := st) hl
    have hpos : ∃ t ∈ l, ((st.now l).pos : Int) = (t.pos : Int) := ⟨_, hmem, rfl⟩
    cases c with
    | expr =>
      simp only [goF] at h
      obtain ⟨⟨s2, r2⟩, h1, h2⟩ := bind_some h
      simp only [Option.some.injEq, Prod.mk.injEq] at h2
      obtain ⟨rfl, rfl⟩ := h2
      obtain ⟨p, n⟩ := ih _ _ _ _ h1 hT InT.nil trivial
      refine ⟨p.cong p.inv (fun q => ⟨q, rfl⟩) fun q => ⟨q, rfl, if_pos q⟩, ?_⟩
      show List.length _ = 1
      split
      · exact n
      · rfl
    | climb least =>
      simp only [goF] at h
      obtain ⟨⟨s2, r2⟩, h1, h2⟩ := bind_some h
      obtain ⟨p, n⟩ := ih _ _ _ _ h1 hT InT.nil trivial
      obtain ⟨x, rfl⟩ := one_of' n
      simp only [List.headD_cons] at h2
      obtain ⟨p2, n2⟩ := ih _ _ _ _ h2 p.inv (p.val InT.nil) trivial
      exact ⟨p.trans p2, n2⟩
    | climbL least most left =>
      simp only [goF] at h
      split at h
      · rename_i hc
        obtain ⟨⟨s2, r2⟩, h1, h2⟩ := bind_some h
        obtain ⟨p, n⟩ := ih _ _ _ _ h1 hT.next InT.nil trivial
        obtain ⟨x, rfl⟩ := one_of' n
        simp only [List.headD_cons] at h2
        have p1 : Post l [] st s2 [x] := p.cong p.inv (fun q => ⟨q, rfl⟩) fun q => ⟨q, rfl, rfl⟩
        have o := opsF_two (s := (st.now l).text) (by have := hc.2; omega)
        have p2 := p1.put (extra := [left]) (d := nd 5 [left, x] (opsF (st.now l).text).2 [] (st.now l).pos) InT.nil hpos (fun _ => nd_ok hmem ⟨by decide, by decide⟩ (by decide) (fun q => absurd rfl q) o rfl) (fun a => by simp only [nd, List.count_cons, List.count_nil]; omega) hI
        rw [List.append_nil] at p2
        obtain ⟨p3, n3⟩ := ih _ _ _ _ h2 p2.inv (p2.val hI) trivial
        exact ⟨p2.trans p3, n3⟩
      · simp only [Option.some.injEq, Prod.mk.injEq] at h
        obtain ⟨rfl, rfl⟩ := h
        exact ⟨Post.refl hT, rfl⟩
    | front =>
      simp only [goF] at h
      have one : ∀ (kind : Int), kind = 6 ∨ kind = 7 → (if (st.next.open (st.now l).pos).fe = 0 then (goF l k .front (st.next.open (st.now l).pos)).bind fun (s1, r) => some (s1.close.put (nd kind r 0 [] (st.now l).pos), [s1.close.putR (nd kind r 0 [] (st.now l).pos)]) else some (st.next.open (st.now l).pos, [-1])) = some (s1, r) → Post l [] st s1 r ∧ r.length = 1 := by
        intro kind hkind h
        split at h
        · rename_i hf
          obtain ⟨⟨s2, r2⟩, h1, h2⟩ := bind_some h
          simp only [Option.some.injEq, Prod.mk.injEq] at h2
          obtain ⟨rfl, rfl⟩ := h2
          obtain ⟨p, n⟩ := ih _ _ _ _ h1 (hT.next.open hpos) InT.nil trivial
          obtain ⟨x, rfl⟩ := one_of' n
          have p1 : Post l [] st s2.close [x] := p.cong p.inv.close (fun q => by obtain ⟨a, b⟩ := open_ok q; exact ⟨a, b.symm⟩) fun q => ⟨q, rfl, rfl⟩
          have p2 := p1.put (extra := []) (d := nd kind [x] 0 [] (st.now l).pos) InT.nil hpos (fun _ => by
            rcases hkind with rfl | rfl <;> exact nd_ok hmem ⟨by decide, by decide⟩ (by decide) (fun q => absurd rfl q) rfl rfl) (fun a => by simp only [nd, List.count_nil]; omega) InT.nil
          exact ⟨p2, rfl⟩
        · rename_i hf
          simp only [Option.some.injEq, Prod.mk.injEq] at h
          obtain ⟨rfl, rfl⟩ := h
          exact ⟨Post.bad (hT.next.open hpos) hf, rfl⟩
      split at h
      · exact one 6 (.inl rfl) h
      · split at h
        · exact one 7 (.inr rfl) h
        · obtain ⟨⟨s2, r2⟩, h1, h2⟩ := bind_some h
          obtain ⟨p, n⟩ := ih _ _ _ _ h1 hT InT.nil trivial
          obtain ⟨x, rfl⟩ := one_of' n
          simp only [List.headD_cons] at h2
          obtain ⟨p2, n2⟩ := ih _ _ _ _ h2 p.inv (p.val InT.nil) trivial
          exact ⟨p.trans p2, n2⟩
    | atom =>
      simp only [goF] at h
      have p0 : Post l [] st st.next [] := (Post.refl hT).cong hT.next (fun q => ⟨q, rfl⟩) fun q => ⟨q, rfl, rfl⟩
      have leaf : ∀ (kind n : Int) (s : Txt), NdOk l (nd kind [] n s (st.now l).pos) → some (st.next.put (nd kind [] n s (st.now l).pos), [st.next.putR (nd kind [] n s (st.now l).pos)]) = some (s1, r) → Post l [] st s1 r ∧ r.length = 1 := by
        intro kind n s hn h
        simp only [Option.some.injEq, Prod.mk.injEq] at h
        obtain ⟨rfl, rfl⟩ := h
        exact ⟨p0.put (extra := []) InT.nil hpos (fun _ => hn) (fun a => by simp only [nd, List.count_nil]) InT.nil, rfl⟩
      have inn : ∀ kind : Int, kind = 9 ∨ kind = 10 → ((goF l k (.inner [40] [41]) st.next).bind fun (s1, r) => some (s1.put (nd kind r 0 [] (st.now l).pos), [s1.putR (nd kind r 0 [] (st.now l).pos)])) = some (s1, r) → Post l [] st s1 r ∧ r.length = 1 := by
        intro kind hkind h
        obtain ⟨⟨s2, r2⟩, h1, h2⟩ := bind_some h
        simp only [Option.some.injEq, Prod.mk.injEq] at h2
        obtain ⟨rfl, rfl⟩ := h2
        obtain ⟨p, n⟩ := ih _ _ _ _ h1 hT.next InT.nil trivial
        obtain ⟨x, rfl⟩ := one_of' n
        have p1 : Post l [] st s2 [x] := p.cong p.inv (fun q => ⟨q, rfl⟩) fun q => ⟨q, rfl, rfl⟩
        exact ⟨p1.put (extra := []) (d := nd kind [x] 0 [] (st.now l).pos) InT.nil hpos (fun _ => by
          rcases hkind with rfl | rfl <;> exact nd_ok hmem ⟨by decide, by decide⟩ (by decide) (fun q => absurd rfl q) rfl rfl) (fun a => by simp only [nd, List.count_nil]; omega) InT.nil, rfl⟩
      split at h
      · rename_i hf
        simp only [Option.some.injEq, Prod.mk.injEq] at h
        obtain ⟨rfl, rfl⟩ := h
        exact ⟨Post.bad hT hf, rfl⟩
      · split at h
        · obtain ⟨p, n⟩ := ih _ _ _ _ h hT InT.nil trivial
          exact ⟨p, n⟩
        · split at h
          · exact leaf 1 _ [] (nd_ok hmem ⟨by decide, by decide⟩ (by decide) (fun q => absurd rfl q) (Int.natCast_nonneg _) rfl) h
          · split at h
            · rename_i hk1
              obtain ⟨t1, t2⟩ := hg _ hmem hk1
              split at h
              · obtain ⟨⟨s2, r2⟩, h1, h2⟩ := bind_some h
                simp only [Option.some.injEq, Prod.mk.injEq] at h2
                obtain ⟨rfl, rfl⟩ := h2
                obtain ⟨p, n⟩ := ih _ _ _ _ h1 hT.next InT.nil trivial
                have p1 : Post l [] st s2 r2 := p.cong p.inv (fun q => ⟨q, rfl⟩) fun q => ⟨q, rfl, rfl⟩
                exact ⟨p1.put (extra := []) (d := nd 11 r2 0 (st.now l).text (st.now l).pos) InT.nil hpos (fun q => nd_ok hmem ⟨by decide, by decide⟩ ⟨fun _ => t1, fun _ => by decide⟩ (fun _ => t2) rfl (n q)) (fun a => by simp only [nd, List.count_nil]; omega) InT.nil, rfl⟩
              · exact leaf 4 0 _ (nd_ok hmem ⟨by decide, by decide⟩ ⟨fun _ => t1, fun _ => by decide⟩ (fun _ => t2) rfl rfl) h
            · split at h
              · exact leaf 2 1 [] (nd_ok hmem ⟨by decide, by decide⟩ (by decide) (fun q => absurd rfl q) (.inr rfl) rfl) h
              · split at h
                · exact leaf 2 0 [] (nd_ok hmem ⟨by decide, by decide⟩ (by decide) (fun q => absurd rfl q) (.inl rfl) rfl) h
                · split at h
                  · exact leaf 3 0 [] (nd_ok hmem ⟨by decide, by decide⟩ (by decide) (fun q => absurd rfl q) rfl rfl) h
                  · split at h
                    · exact inn 9 (.inl rfl) h
                    · split at h
                      · exact inn 10 (.inr rfl) h
                      · simp only [Option.some.injEq, Prod.mk.injEq] at h
                        obtain ⟨rfl, rfl⟩ := h
                        exact ⟨Post.bad (hT.fail (by decide) hpos) (fail_fe (by decide)), rfl⟩
    | cellsL left =>
      simp only [goF] at h
      split at h
      · obtain ⟨⟨s2, r2⟩, h1, h2⟩ := bind_some h
        obtain ⟨p, n⟩ := ih _ _ _ _ h1 hT InT.nil trivial
        obtain ⟨x, rfl⟩ := one_of' n
        have p2 := Post.put (extra := [left]) (d := nd 8 [left, x] 0 [] (st.now l).pos) p InT.nil hpos (fun _ => nd_ok hmem ⟨by decide, by decide⟩ (by decide) (fun q => absurd rfl q) rfl rfl) (fun a => by simp only [nd, List.count_cons, List.count_nil]; omega) hI
        have p2 : Post l [left] st _ _ := p2
        obtain ⟨p3, n3⟩ := ih _ _ _ _ h2 p2.inv (p2.val hI) trivial
        exact ⟨p2.trans p3, n3⟩
      · simp only [Option.some.injEq, Prod.mk.injEq] at h
        obtain ⟨rfl, rfl⟩ := h
        exact ⟨Post.refl hT, rfl⟩
    | inner a z =>
      simp only [goF] at h
      split at h
      · split at h
        · obtain ⟨⟨s2, r2⟩, h1, h2⟩ := bind_some h
          simp only [Option.some.injEq, Prod.mk.injEq] at h2
          obtain ⟨rfl, rfl⟩ := h2
          obtain ⟨p, n⟩ := ih _ _ _ _ h1 (hT.next.open hpos) InT.nil trivial
          refine ⟨p.cong (p.inv.want hl).close (fun q => by obtain ⟨a, b⟩ := open_ok q; exact ⟨a, b.symm⟩) fun q => ?_, ?_⟩
          · obtain ⟨a1, a2⟩ := want_ok (s := z) (st := s2) (l := l) q
            exact ⟨a1, a2, if_pos q⟩
          · show List.length _ = 1
            split
            · exact n
            · rfl
        · rename_i hf
          simp only [Option.some.injEq, Prod.mk.injEq] at h
          obtain ⟨rfl, rfl⟩ := h
          exact ⟨Post.bad (hT.next.open hpos) hf, rfl⟩
      · simp only [Option.some.injEq, Prod.mk.injEq] at h
        obtain ⟨rfl, rfl⟩ := h
        exact ⟨Post.bad (hT.fail (by decide) hpos) (fail_fe (by decide)), rfl⟩
    | args =>
      simp only [goF] at h
      split at h
      · split at h
        · obtain ⟨⟨s2, r2⟩, h1, h2⟩ := bind_some h
          simp only [Option.some.injEq, Prod.mk.injEq] at h2
          obtain ⟨rfl, rfl⟩ := h2
          have key : Post l [] (st.next.open (st.now l).pos) s2 r2 ∧ (s2.fe = 0 → r2.length ≤ 8) := by
            split at h1
            · simp only [Option.some.injEq, Prod.mk.injEq] at h1
              obtain ⟨rfl, rfl⟩ := h1
              exact ⟨Post.refl (hT.next.open hpos), fun _ => Nat.zero_le _⟩
            · exact ih _ _ _ _ h1 (hT.next.open hpos) InT.nil (Nat.zero_le _)
          obtain ⟨p, n⟩ := key
          refine ⟨p.cong (p.inv.want hl).close (fun q => by obtain ⟨a, b⟩ := open_ok q; exact ⟨a, b.symm⟩) fun q => ?_, fun q => ?_⟩
          · obtain ⟨a1, a2⟩ := want_ok (s := [41]) (st := s2) (l := l) q
            exact ⟨a1, a2, rfl⟩
          · exact n (want_ok (s := [41]) (st := s2) (l := l) q).1
        · rename_i hf
          simp only [Option.some.injEq, Prod.mk.injEq] at h
          obtain ⟨rfl, rfl⟩ := h
          exact ⟨Post.bad (hT.next.open hpos) hf, fun _ => Nat.zero_le _⟩
      · simp only [Option.some.injEq, Prod.mk.injEq] at h
        obtain ⟨rfl, rfl⟩ := h
        exact ⟨Post.bad (hT.fail (by decide) hpos) (fail_fe (by decide)), fun _ => Nat.zero_le _⟩
    | argsL out =>
      simp only [goF] at h
      have hm : out.length ≤ 8 := hm
      have t0 : TI l (if out.length = 8 then st.fail 3 (st.now l).pos else st) := by
        split
        · exact hT.fail (by decide) hpos
        · exact hT
      have f0 : (if out.length = 8 then st.fail 3 (st.now l).pos else st).fe = 0 → out.length < 8 ∧ (if out.length = 8 then st.fail 3 (st.now l).pos else st) = st := by
        split
        · exact fun q => absurd q (fail_fe (by decide))
        · exact fun _ => ⟨by omega, rfl⟩
      generalize (if out.length = 8 then st.fail 3 (st.now l).pos else st) = s0 at *
      obtain ⟨⟨s2, r2⟩, h1, h2⟩ := bind_some h
      obtain ⟨p, n⟩ := ih _ _ _ _ h1 t0 InT.nil trivial
      obtain ⟨x, rfl⟩ := one_of' n
      have p1 : Post l out st s2 (out ++ [x]) := ⟨p.inv, fun q => by
        obtain ⟨a0, new, a1, a2⟩ := p.ok q
        obtain ⟨b0, rfl⟩ := f0 a0
        exact ⟨a0, new, a1, fun a => by have := a2 a; simp only [Cmd.ins, List.count_nil] at this; rw [List.count_append]; omega⟩⟩
      have hlt : s2.fe = 0 → out.length < 8 := fun q => by
        obtain ⟨a0, _⟩ := p.ok q
        exact (f0 a0).1
      simp only at h2
      split at h2
      · rename_i hc
        have p2 : Post l out st s2.next (out ++ [x]) := p1.cong p1.inv.next (fun q => ⟨q, rfl⟩) fun q => ⟨q, rfl, rfl⟩
        obtain ⟨p3, n3⟩ := ih _ _ _ _ h2 p2.inv (p2.val hI) (by show (out ++ [x]).length ≤ 8; rw [List.length_append]; exact hlt hc.1)
        exact ⟨p2.trans p3, n3⟩
      · simp only [Option.some.injEq, Prod.mk.injEq] at h2
        obtain ⟨rfl, rfl⟩ := h2
        exact ⟨p1, fun q => by rw [List.length_append]; exact hlt q⟩
end Go.Proofs.Ytjgbofonigpjaaa.Ev
end
section
namespace Go.Proofs.Ytjgbofonigpjaaa.Ev
open Go
set_option linter.unusedSimpArgs false
set_option linter.unusedVariables false
set_option maxRecDepth 10000
set_option maxHeartbeats 4000000
theorem toks_get {l : List Tok} {i : Nat} : (toks l)[i]? = (l[i]?).map Tok.cells := by unfold toks; rw [List.getElem?_map]
theorem toks_len' {l : List Tok} : (toks l).length = l.length := by unfold toks; rw [List.length_map]
/-- What a reader's fields hold. -/
abbrev rdCells (tg : Nat) (l : List Tok) (st : RS) (tv hv : EV) : List EV := [.fz tg 4 (toks l), .int .i64 (st.pos : Int), .int .i64 st.deep, tv, hv, .int .i64 st.fe, .int .i64 st.fp]
theorem now_get {l : List Tok} {st : RS} (h : 0 < l.length) : l[min st.pos (l.length - 1)]? = some (st.now l) := by
  have : min st.pos (l.length - 1) < l.length := by omega
  rw [List.getElem?_eq_getElem this]
  unfold RS.now
  rw [List.getD_eq_getElem?_getD, List.getElem?_eq_getElem this]; rfl
theorem token_look {tg : Nat} {l : List Tok} {st : RS} {tv hv : EV} {b : Nat} {m : Mem} (hl : 0 < l.length) (hl2 : l.length < 1000000000) (hp : st.pos < 1000000000) (hg : m.get b = .cells (rdCells tg l st tv hv) 7 t_expr_Reader false) (hb : b < m.next) :
    run U n_expr_Reader_Token [.ptr b 0] m = some (.ret (.agg (st.now l).cells) (bump m 19)) := by
  rw [look_expr_Reader_Token]
  have hc0 : ¬ ((l.length : Int) = 0) := by omega
  have hw : IntKind.i64.wrap ((l.length : Int) - 1) = ((l.length - 1 : Nat) : Int) := by rw [wrap_i64 (by omega) (by omega)]; omega
  have hmn : evMin [.int .i64 (st.pos : Int), .int .i64 ((l.length - 1 : Nat) : Int)] = some (.int .i64 ((min st.pos (l.length - 1) : Nat) : Int)) := by
    simp only [evMin, minFrom, Nat.beq_refl, cond_true]
    congr 2
    split <;> omega
  have hlt : min st.pos (l.length - 1) < l.length := by omega
  have hn := now_get (st := st) hl
  obtain ⟨X, hE⟩ : ∃ X, resR F_expr_Reader_Token.results (exec B0 F_expr_Reader_Token.body (argsF [.ptr b 0] 0 fr00) m) = X := ⟨_, rfl⟩
  have hX := hE
  simp +contextual -implicitDefEqProofs (maxSteps := 1000000) (maxDischargeDepth := 8) only [F_expr_Reader_Token, hg, hb, hc0, hw, hmn, hlt, hn, toks_get, toks_len', idx_cast, Tok.cells, zz0, zz1, zz2, zz3, zz4, zz5, zz6, zz7, zz8, zz9, argsF, reduceIte, reduceCtorEq, Nat.reduceEqDiff, Nat.reduceBEq, Nat.reduceAdd, Int.reduceLT, Int.reduceLE, Int.reduceEq, Int.reduceToNat, Int.reduceNeg, Nat.reduceLeDiff, Int.reducePow, implies_true, UInt8.reduceToNat, Int.reduceSub, Int.reduceAdd, Nat.reduceLT, Nat.reduceMul, Nat.reduceSub, Nat.reduceBNe] at hX
  subst hX
  exact look_at (by simp [F_expr_Reader_Token]) hE rfl rfl (keeps_bump keeps_ext)
theorem fine_look {tg : Nat} {l : List Tok} {st : RS} {tv hv : EV} {b : Nat} {m : Mem} (hg : m.get b = .cells (rdCells tg l st tv hv) 7 t_expr_Reader false) (hb : b < m.next) :
    run U n_expr_Reader_fine [.ptr b 0] m = some (.ret (bo (st.fe = 0)) (bump m 0)) := by
  rw [look_expr_Reader_fine]
  obtain ⟨X, hE⟩ : ∃ X, resR F_expr_Reader_fine.results (exec B1 F_expr_Reader_fine.body (argsF [.ptr b 0] 0 fr00) m) = X := ⟨_, rfl⟩
  have hX := hE
  simp +contextual -implicitDefEqProofs (maxSteps := 1000000) (maxDischargeDepth := 8) only [F_expr_Reader_fine, hg, hb, zz0, zz1, zz2, zz3, zz4, zz5, zz6, zz7, zz8, zz9, argsF, reduceIte, reduceCtorEq, Nat.reduceEqDiff, Nat.reduceBEq, Nat.reduceAdd, Int.reduceLT, Int.reduceLE, Int.reduceEq, Int.reduceToNat, Int.reduceNeg, Nat.reduceLeDiff, Int.reducePow, implies_true, UInt8.reduceToNat, Int.reduceSub, Int.reduceAdd, Nat.reduceLT, Nat.reduceMul, Nat.reduceSub, Nat.reduceBNe] at hX
  subst hX
  exact look_at (by simp [F_expr_Reader_fine]) hE rfl rfl keeps_refl
theorem is_look {tg : Nat} {l : List Tok} {st : RS} {tv hv : EV} {b : Nat} {m : Mem} {s : Txt} (hl : 0 < l.length) (hl2 : l.length < 1000000000) (hp : st.pos < 1000000000) (hg : m.get b = .cells (rdCells tg l st tv hv) 7 t_expr_Reader false) (hb : b < m.next) :
    run U n_expr_Reader_Is [.ptr b 0, .str s] m = some (.ret (bo (st.is l s)) (bump m 20)) := by
  have h1 : ∀ M : Mem, M.get b = .cells (rdCells tg l st tv hv) 7 t_expr_Reader false → b < M.next → lookT B0 F_expr_Reader_Token [.ptr b 0] M = some (.ret (.agg (st.now l).cells) (bump M 19)) := fun M h1 h2 => by
    have := token_look (m := M) hl hl2 hp h1 h2
    rwa [look_expr_Reader_Token] at this
  have h2 : ∀ M : Mem, M.get b = .cells (rdCells tg l st tv hv) 7 t_expr_Reader false → b < M.next → lookT B1 F_expr_Reader_fine [.ptr b 0] M = some (.ret (bo (st.fe = 0)) (bump M 0)) := fun M h1 h2 => by
    have := fine_look (m := M) h1 h2
    rwa [look_expr_Reader_fine] at this
  rw [look_expr_Reader_Is]
  have hk : ((3 : Int) ≤ ((st.now l).kind : Int)) = (3 ≤ (st.now l).kind) := propext (by omega)
  obtain ⟨X, hE⟩ : ∃ X, resR F_expr_Reader_Is.results (exec B2 F_expr_Reader_Is.body (argsF [.ptr b 0, .str s] 0 fr00) m) = X := ⟨_, rfl⟩
  have hX := hE
  simp +contextual -implicitDefEqProofs (maxSteps := 1000000) (maxDischargeDepth := 8) only [F_expr_Reader_Is, look2_expr_Reader_Token, look2_expr_Reader_fine, h1, h2, hk, hg, hb, Tok.cells, zz0, zz1, zz2, zz3, zz4, zz5, zz6, zz7, zz8, zz9, argsF, reduceIte, reduceCtorEq, Nat.reduceEqDiff, Nat.reduceBEq, Nat.reduceAdd, Int.reduceLT, Int.reduceLE, Int.reduceEq, Int.reduceToNat, Int.reduceNeg, Nat.reduceLeDiff, Int.reducePow, implies_true, UInt8.reduceToNat, Int.reduceSub, Int.reduceAdd, Nat.reduceLT, Nat.reduceMul, Nat.reduceSub, Nat.reduceBNe] at hX
  subst hX
  exact look_at (by simp [F_expr_Reader_Is]) (by rw [hE, and_assoc]; rfl) rfl rfl (keeps_bump (keeps_ext' (keeps_bump keeps_refl) le_nb))

/-! ### What changes the reader's own fields alone -/
/-- Facts of a reader that stands at a block. -/
structure RdF (b tg : Nat) (l : List Tok) (st : RS) (tv hv : EV) : Prop where
  l0 : 0 < l.length
  l1 : l.length < 1000000000
  p : st.pos < 1000000000
  d : st.deep < 1000000000 ∧ -1000000000 < st.deep
section
variable {tg : Nat} {l : List Tok} {st : RS} {tv hv : EV} {b : Nat} {m : Mem}
theorem RdF.token (h : RdF b tg l st tv hv) : ∀ M : Mem, M.get b = .cells (rdCells tg l st tv hv) 7 t_expr_Reader false → b < M.next → run U n_expr_Reader_Token [.ptr b 0] M = some (.ret (.agg [.int .i64 ((st.now l).kind : Int), .str (st.now l).text, .int .i64 ((st.now l).n : Int), .int .i64 ((st.now l).pos : Int)]) (bump M 19)) := fun M h1 h2 => token_look h.l0 h.l1 h.p h1 h2
theorem RdF.fine (_h : RdF b tg l st tv hv) : ∀ M : Mem, M.get b = .cells (rdCells tg l st tv hv) 7 t_expr_Reader false → b < M.next → run U n_expr_Reader_fine [.ptr b 0] M = some (.ret (bo (st.fe = 0)) (bump M 0)) := fun M h1 h2 => fine_look h1 h2
theorem RdF.is (h : RdF b tg l st tv hv) : ∀ (M : Mem) (s : Txt), M.get b = .cells (rdCells tg l st tv hv) 7 t_expr_Reader false → b < M.next → run U n_expr_Reader_Is [.ptr b 0, .str s] M = some (.ret (bo (st.is l s)) (bump M 20)) := fun M s h1 h2 => is_look h.l0 h.l1 h.p h1 h2
/-- One block is written anew. -/
structure Upd (m m' : Mem) (b : Nat) (B : Blk) : Prop where
  n : m.next ≤ m'.next
  g : m'.get b = B
  k : ∀ c, c < m.next → c ≠ b → m'.get c = m.get c
theorem Upd.same {B : Blk} {k : Nat} (h : m.get b = B) : Upd m (bump m k) b B := ⟨by rw [next_bump]; exact le_nb, h, fun _ _ _ => rfl⟩
theorem Upd.set {B : Blk} {m' : Mem} (hn : m.next ≤ m'.next) (hk : ∀ c, c < m.next → c ≠ b → m'.get c = m.get c) : Upd m (m'.set b B) b B := ⟨hn, get_set_eq, fun c hc hne => by rw [get_set_ne hne]; exact hk c hc hne⟩
theorem Upd.trans {m' m'' : Mem} {B B' : Blk} (h : Upd m m' b B) (h' : Upd m' m'' b B') : Upd m m'' b B' := ⟨Nat.le_trans h.n h'.n, h'.g, fun c hc hne => (h'.k c (Nat.lt_of_lt_of_le hc h.n) hne).trans (h.k c hc hne)⟩
theorem fail_run (hg : m.get b = .cells (rdCells tg l st tv hv) 7 t_expr_Reader false) (hb : b < m.next) (e p : Int) : ∃ m', run U n_expr_Reader_Fail [.ptr b 0, .int .i64 e, .int .i64 p] m = some (.ret (.tuple []) m') ∧ Upd m m' b (.cells (rdCells tg l (st.fail e p) tv hv) 7 t_expr_Reader false) := by
  have hf : ∀ M : Mem, M.get b = .cells (rdCells tg l st tv hv) 7 t_expr_Reader false → b < M.next → run U n_expr_Reader_fine [.ptr b 0] M = some (.ret (bo (st.fe = 0)) (bump M 0)) := fun M h1 h2 => fine_look h1 h2
  rw [run_p2 (by simp [F_expr_Reader_Fail])]
  by_cases h0 : st.fe = 0
  · simp +contextual -implicitDefEqProofs (maxSteps := 1000000) (maxDischargeDepth := 8) only [F_expr_Reader_Fail, hf, hg, hb, h0, zz0, zz1, zz2, zz3, zz4, zz5, zz6, zz7, zz8, zz9, argsF, reduceIte, reduceCtorEq, Nat.reduceEqDiff, Nat.reduceBEq, Nat.reduceAdd, Int.reduceLT, Int.reduceLE, Int.reduceEq, Int.reduceToNat, Int.reduceNeg, Nat.reduceLeDiff, Int.reducePow, implies_true, UInt8.reduceToNat, Int.reduceSub, Int.reduceAdd, Nat.reduceLT, Nat.reduceMul, Nat.reduceSub, Nat.reduceBNe]
    refine ⟨_, rfl, by rw [next_bump]; exact le_nb, ?_, fun c hc hne => get_set_ne hne⟩
    rw [get_bump, get_set_eq]; simp only [RS.fail, if_pos h0]
  · simp +contextual -implicitDefEqProofs (maxSteps := 1000000) (maxDischargeDepth := 8) only [F_expr_Reader_Fail, hf, hg, hb, h0, zz0, zz1, zz2, zz3, zz4, zz5, zz6, zz7, zz8, zz9, argsF, reduceIte, reduceCtorEq, Nat.reduceEqDiff, Nat.reduceBEq, Nat.reduceAdd, Int.reduceLT, Int.reduceLE, Int.reduceEq, Int.reduceToNat, Int.reduceNeg, Nat.reduceLeDiff, Int.reducePow, implies_true, UInt8.reduceToNat, Int.reduceSub, Int.reduceAdd, Nat.reduceLT, Nat.reduceMul, Nat.reduceSub, Nat.reduceBNe]
    exact ⟨_, rfl, .same (by rw [hg]; simp only [RS.fail, if_neg h0])⟩
theorem skip_run (h : RdF b tg l st tv hv) (hg : m.get b = .cells (rdCells tg l st tv hv) 7 t_expr_Reader false) (hb : b < m.next) (s : Txt) : ∃ m', run U n_expr_Reader_Skip [.ptr b 0, .str s] m = some (.ret (bo (st.is l s)) m') ∧ Upd m m' b (.cells (rdCells tg l (st.skip l s) tv hv) 7 t_expr_Reader false) := by
  have hi := h.is
  have hw := wrap_succ (i := st.pos) (by have := h.p; omega)
  rw [run_p2 (by simp [F_expr_Reader_Skip])]
  by_cases h0 : st.is l s
  · simp +contextual -implicitDefEqProofs (maxSteps := 1000000) (maxDischargeDepth := 8) only [F_expr_Reader_Skip, hi, hg, hb, h0, hw, bo_tt, zz0, zz1, zz2, zz3, zz4, zz5, zz6, zz7, zz8, zz9, argsF, reduceIte, reduceCtorEq, Nat.reduceEqDiff, Nat.reduceBEq, Nat.reduceAdd, Int.reduceLT, Int.reduceLE, Int.reduceEq, Int.reduceToNat, Int.reduceNeg, Nat.reduceLeDiff, Int.reducePow, implies_true, UInt8.reduceToNat, Int.reduceSub, Int.reduceAdd, Nat.reduceLT, Nat.reduceMul, Nat.reduceSub, Nat.reduceBNe]
    refine ⟨_, rfl, by rw [next_bump]; exact le_nb, ?_, fun c hc hne => get_set_ne hne⟩
    rw [get_bump, get_set_eq]; simp only [RS.skip, RS.next, if_pos h0]
  · simp +contextual -implicitDefEqProofs (maxSteps := 1000000) (maxDischargeDepth := 8) only [F_expr_Reader_Skip, hi, hg, hb, h0, bo_ff, zz0, zz1, zz2, zz3, zz4, zz5, zz6, zz7, zz8, zz9, argsF, reduceIte, reduceCtorEq, Nat.reduceEqDiff, Nat.reduceBEq, Nat.reduceAdd, Int.reduceLT, Int.reduceLE, Int.reduceEq, Int.reduceToNat, Int.reduceNeg, Nat.reduceLeDiff, Int.reducePow, implies_true, UInt8.reduceToNat, Int.reduceSub, Int.reduceAdd, Nat.reduceLT, Nat.reduceMul, Nat.reduceSub, Nat.reduceBNe]
    exact ⟨_, rfl, .same (by rw [hg]; simp only [RS.skip, if_neg h0])⟩
theorem close_run (h : RdF b tg l st tv hv) (hg : m.get b = .cells (rdCells tg l st tv hv) 7 t_expr_Reader false) (hb : b < m.next) : ∃ m', run U n_expr_Reader_Close [.ptr b 0] m = some (.ret (.tuple []) m') ∧ Upd m m' b (.cells (rdCells tg l st.close tv hv) 7 t_expr_Reader false) := by
  have hw : IntKind.i64.wrap (st.deep - 1) = st.deep - 1 := by have := h.d; exact wrap_i64 (by omega) (by omega)
  rw [run_p2 (by simp [F_expr_Reader_Close])]
  simp +contextual -implicitDefEqProofs (maxSteps := 1000000) (maxDischargeDepth := 8) only [F_expr_Reader_Close, hg, hb, hw, zz0, zz1, zz2, zz3, zz4, zz5, zz6, zz7, zz8, zz9, argsF, reduceIte, reduceCtorEq, Nat.reduceEqDiff, Nat.reduceBEq, Nat.reduceAdd, Int.reduceLT, Int.reduceLE, Int.reduceEq, Int.reduceToNat, Int.reduceNeg, Nat.reduceLeDiff, Int.reducePow, implies_true, UInt8.reduceToNat, Int.reduceSub, Int.reduceAdd, Nat.reduceLT, Nat.reduceMul, Nat.reduceSub, Nat.reduceBNe]
  exact ⟨_, rfl, .set (Nat.le_refl _) fun _ _ _ => rfl⟩
theorem RdF.fail (h : RdF b tg l st tv hv) (e p : Int) : RdF b tg l (st.fail e p) tv hv := by
  unfold RS.fail; split
  · exact ⟨h.l0, h.l1, h.p, h.d⟩
  · exact h
theorem want_run (h : RdF b tg l st tv hv) (hg : m.get b = .cells (rdCells tg l st tv hv) 7 t_expr_Reader false) (hb : b < m.next) (s : Txt) : ∃ m', run U n_expr_Reader_Want [.ptr b 0, .str s] m = some (.ret (bo (st.is l s)) m') ∧ Upd m m' b (.cells (rdCells tg l (st.want l s) tv hv) 7 t_expr_Reader false) := by
  obtain ⟨m1, e1, u1⟩ := skip_run h hg hb s
  rw [run_p2 (by simp [F_expr_Reader_Want])]
  by_cases h0 : st.is l s
  · simp +contextual -implicitDefEqProofs (maxSteps := 1000000) (maxDischargeDepth := 8) only [F_expr_Reader_Want, e1, h0, bo_tt, zz0, zz1, zz2, zz3, zz4, zz5, zz6, zz7, zz8, zz9, argsF, reduceIte, reduceCtorEq, Nat.reduceEqDiff, Nat.reduceBEq, Nat.reduceAdd, Int.reduceLT, Int.reduceLE, Int.reduceEq, Int.reduceToNat, Int.reduceNeg, Nat.reduceLeDiff, Int.reducePow, implies_true, UInt8.reduceToNat, Int.reduceSub, Int.reduceAdd, Nat.reduceLT, Nat.reduceMul, Nat.reduceSub, Nat.reduceBNe]
    refine ⟨_, rfl, ?_⟩
    simp only [RS.skip, RS.next, if_pos h0] at u1
    simp only [RS.want, RS.next, if_pos h0]; exact u1
  · have hsk : st.skip l s = st := by unfold RS.skip; rw [if_neg h0]
    rw [hsk] at u1
    have hb1 : b < m1.next := Nat.lt_of_lt_of_le hb u1.n
    have ht := h.token m1 u1.g hb1
    obtain ⟨m2, e2, u2⟩ := fail_run (m := bump m1 19) u1.g (Nat.lt_of_lt_of_le hb1 le_nb) 8 ((st.now l).pos : Int)
    have hn3 : ([EV.int .i64 ((st.now l).kind : Int), .str (st.now l).text, .int .i64 ((st.now l).n : Int), .int .i64 ((st.now l).pos : Int)] : List EV)[3]? = some (.int .i64 ((st.now l).pos : Int)) := rfl
    simp +contextual -implicitDefEqProofs (maxSteps := 1000000) (maxDischargeDepth := 8) only [F_expr_Reader_Want, e1, h0, ht, e2, hn3, bo_ff, zz0, zz1, zz2, zz3, zz4, zz5, zz6, zz7, zz8, zz9, argsF, reduceIte, reduceCtorEq, Nat.reduceEqDiff, Nat.reduceBEq, Nat.reduceAdd, Int.reduceLT, Int.reduceLE, Int.reduceEq, Int.reduceToNat, Int.reduceNeg, Nat.reduceLeDiff, Int.reducePow, implies_true, UInt8.reduceToNat, Int.reduceSub, Int.reduceAdd, Nat.reduceLT, Nat.reduceMul, Nat.reduceSub, Nat.reduceBNe]
    refine ⟨_, rfl, ?_⟩
    simp only [RS.want, if_neg h0]
    exact u1.trans ⟨Nat.le_trans le_nb u2.n, u2.g, fun c hc hne => u2.k c (Nat.lt_of_lt_of_le hc le_nb) hne⟩
theorem open_run (h : RdF b tg l st tv hv) (hg : m.get b = .cells (rdCells tg l st tv hv) 7 t_expr_Reader false) (hb : b < m.next) (p : Int) : ∃ m', run U n_expr_Reader_Open [.ptr b 0, .int .i64 p] m = some (.ret (bo ((st.open p).fe = 0)) m') ∧ Upd m m' b (.cells (rdCells tg l (st.open p) tv hv) 7 t_expr_Reader false) := by
  have hd := h.d
  have hw : IntKind.i64.wrap (st.deep + 1) = st.deep + 1 := wrap_i64 (by omega) (by omega)
  rw [run_p2 (by simp [F_expr_Reader_Open])]
  have hn0 : b < (m.set b (.cells (rdCells tg l { st with deep := st.deep + 1 } tv hv) 7 t_expr_Reader false)).next := hb
  have hg0 : (m.set b (.cells (rdCells tg l { st with deep := st.deep + 1 } tv hv) 7 t_expr_Reader false)).get b = .cells (rdCells tg l { st with deep := st.deep + 1 } tv hv) 7 t_expr_Reader false := get_set_eq
  by_cases h0 : 200 < st.deep + 1
  · obtain ⟨m1, e1, u1⟩ := fail_run (st := { st with deep := st.deep + 1 }) hg0 hn0 4 p
    have ho : st.open p = (({ st with deep := st.deep + 1 } : RS).fail 4 p) := by simp only [RS.open, if_pos h0]
    rw [ho]
    have hfn := fine_look u1.g (Nat.lt_of_lt_of_le hb u1.n)
    generalize hfs : (({ st with deep := st.deep + 1 } : RS).fail 4 p) = fs at *
    simp +contextual -implicitDefEqProofs (maxSteps := 1000000) (maxDischargeDepth := 8) only [F_expr_Reader_Open, hg, hb, hw, h0, e1, hfn, zz0, zz1, zz2, zz3, zz4, zz5, zz6, zz7, zz8, zz9, argsF, reduceIte, reduceCtorEq, Nat.reduceEqDiff, Nat.reduceBEq, Nat.reduceAdd, Int.reduceLT, Int.reduceLE, Int.reduceEq, Int.reduceToNat, Int.reduceNeg, Nat.reduceLeDiff, Int.reducePow, implies_true, UInt8.reduceToNat, Int.reduceSub, Int.reduceAdd, Nat.reduceLT, Nat.reduceMul, Nat.reduceSub, Nat.reduceBNe]
    refine ⟨_, rfl, ?_, u1.g, fun c hc hne => ?_⟩
    · rw [next_bump]; exact Nat.le_trans u1.n le_nb
    · rw [get_bump, u1.k c hc hne, get_set_ne hne]
  · have ho : st.open p = { st with deep := st.deep + 1 } := by simp only [RS.open, if_neg h0]
    rw [ho]
    have hfn := fine_look hg0 hn0
    simp +contextual -implicitDefEqProofs (maxSteps := 1000000) (maxDischargeDepth := 8) only [F_expr_Reader_Open, hg, hb, hw, h0, hfn, zz0, zz1, zz2, zz3, zz4, zz5, zz6, zz7, zz8, zz9, argsF, reduceIte, reduceCtorEq, Nat.reduceEqDiff, Nat.reduceBEq, Nat.reduceAdd, Int.reduceLT, Int.reduceLE, Int.reduceEq, Int.reduceToNat, Int.reduceNeg, Nat.reduceLeDiff, Int.reducePow, implies_true, UInt8.reduceToNat, Int.reduceSub, Int.reduceAdd, Nat.reduceLT, Nat.reduceMul, Nat.reduceSub, Nat.reduceBNe]
    exact ⟨_, rfl, by rw [next_bump]; exact le_nb, get_set_eq, fun c hc hne => get_set_ne hne⟩
end
end Go.Proofs.Ytjgbofonigpjaaa.Ev
end
section
namespace Go.Proofs.Ytjgbofonigpjaaa.Ev
open Go
set_option linter.unusedSimpArgs false
set_option linter.unusedVariables false
set_option maxRecDepth 10000
set_option maxHeartbeats 4000000
def is (l : List Int) : List EV := l.map fun x => .int .i64 x
def nis (l : List Nat) : List EV := l.map fun (x : Nat) => .int .i64 (x : Int)
theorem is_len {l : List Int} : (is l).length = l.length := List.length_map ..
theorem nis_len {l : List Nat} : (nis l).length = l.length := List.length_map ..
/-- A node with the row of its kids. -/
structure Nv where
  d : Nd
  kv : EV
def ndCells (d : Nd) (kv : EV) : List EV := [.int .i64 d.kind, kv, .int .i64 d.n, .str d.s, .int .i64 d.pos]
def Nv.cells (x : Nv) : List EV := ndCells x.d x.kv
def nvs (xs : List Nv) : List EV := (xs.map Nv.cells).flatten
theorem nvs_snoc {xs : List Nv} {x : Nv} : nvs (xs ++ [x]) = nvs xs ++ x.cells := by simp [nvs]
/-- Not of any of the reader's own rows. -/
structure Fre (b : Nat) (tv hv : EV) (c : Nat) : Prop where
  ne : c ≠ b
  t : Off tv c
  h : Off hv c
structure KidAt (m : Mem) (b : Nat) (tv hv : EV) (d : Nd) (kv : EV) : Prop where
  o : Own m kv (is d.kids) d.kids.length 1 0
  f : ∀ c, ¬ Off kv c → Fre b tv hv c
  nl : d.nl = d.kids.isEmpty
  z : d.kids = [] → kv = .nilslice
structure RdV (m : Mem) (b tg : Nat) (l : List Tok) (st : RS) (P : Nat → Prop) (tv hv : EV) (xs : List Nv) : Prop where
  g : m.get b = .cells (rdCells tg l st tv hv) 7 t_expr_Reader false
  lt : b < m.next
  t : Own m tv (nvs xs) xs.length 5 (b + 1)
  h : Own m hv (nis st.high) st.high.length 1 (b + 1)
  a : ∀ c, ¬ Off tv c → Off hv c
  x : xs.map Nv.d = st.tree
  hl : st.high.length = st.tree.length
  k : ∀ x ∈ xs, KidAt m b tv hv x.d x.kv
  p : ∀ c, P c → c < m.next ∧ Fre b tv hv c
  pk : ∀ c, P c → ∀ x ∈ xs, Off x.kv c
/-- A reader asx it stands, and what of its caller's is apart from it. -/
def Rd (m : Mem) (b tg : Nat) (l : List Tok) (st : RS) (P : Nat → Prop) : Prop := ∃ tv hv xs, RdV m b tg l st P tv hv xs
/-- What is kept. -/
structure Kp (m m' : Mem) (P : Nat → Prop) : Prop where
  n : m.next ≤ m'.next
  k : ∀ c, P c → m'.get c = m.get c
theorem Kp.trans {m m' m'' : Mem} {P : Nat → Prop} (h : Kp m m' P) (h' : Kp m' m'' P) : Kp m m'' P := ⟨Nat.le_trans h.n h'.n, fun c hc => (h'.k c hc).trans (h.k c hc)⟩
theorem Kp.weak {m m' : Mem} {P Q : Nat → Prop} (h : Kp m m' P) (hq : ∀ c, Q c → P c) : Kp m m' Q := ⟨h.n, fun c hc => h.k c (hq c hc)⟩
theorem Own.notOff {m : Mem} {v : EV} {cs : List EV} {n esz lo : Nat} (h : Own m v cs n esz lo) {c : Nat} (hc : ¬ Off v c) : lo ≤ c ∧ c < m.next := by
  rcases h.is with ⟨rfl, _⟩ | ⟨b, cap, t, rfl, h1, h2, _⟩
  · exact absurd Off.nil hc
  · by_cases q : c = b
    · subst q; exact ⟨h1, h2⟩
    · exact absurd (Off.of q) hc
section
variable {m : Mem} {b tg : Nat} {l : List Tok} {st : RS} {P : Nat → Prop} {tv hv : EV} {xs : List Nv}
/-- The reader's own fields alone are written; or nothing of its own. -/
theorem RdV.upd (h : RdV m b tg l st P tv hv xs) {m' : Mem} {st' : RS} (ht : st'.tree = st.tree) (hh : st'.high = st.high) (u : Upd m m' b (.cells (rdCells tg l st' tv hv) 7 t_expr_Reader false)) : RdV m' b tg l st' P tv hv xs where
  g := u.g
  lt := Nat.lt_of_lt_of_le h.lt u.n
  t := h.t.keep' u.n fun c hc hlo _ => u.k c hc (by omega)
  h := by rw [hh]; exact h.h.keep' u.n fun c hc hlo _ => u.k c hc (by omega)
  a := h.a
  x := h.x.trans ht.symm
  hl := by rw [hh, ht]; exact h.hl
  k := fun x hx => ⟨(h.k x hx).o.keep' u.n fun c hc _ ho => u.k c hc ((h.k x hx).f c ho).ne, (h.k x hx).f, (h.k x hx).nl, (h.k x hx).z⟩
  p := fun c hc => ⟨Nat.lt_of_lt_of_le (h.p c hc).1 u.n, (h.p c hc).2⟩
  pk := h.pk
theorem RdV.kp (h : RdV m b tg l st P tv hv xs) {m' : Mem} {B : Blk} (u : Upd m m' b B) : Kp m m' P := ⟨u.n, fun c hc => u.k c (h.p c hc).1 (h.p c hc).2.ne⟩
theorem Upd.bump {B : Blk} {k : Nat} (h : m.get b = B) : Upd m (bump m k) b B := .same h
theorem Upd.ext {B : Blk} {ys : List Blk} (h : m.get b = B) (hb : b < m.next) : Upd m (Ev.ext m ys) b B := ⟨by rw [next_ext]; exact le_nb, by rw [get_ext_old hb]; exact h, fun c hc _ => get_ext_old hc⟩
/-- More is kept apart. -/
theorem RdV.more (h : RdV m b tg l st P tv hv xs) {Q : Nat → Prop} (hq : ∀ c, Q c → P c ∨ (c < m.next ∧ Fre b tv hv c ∧ ∀ x ∈ xs, Off x.kv c)) : RdV m b tg l st Q tv hv xs :=
  ⟨h.g, h.lt, h.t, h.h, h.a, h.x, h.hl, h.k, fun c hc => (hq c hc).elim (h.p c) fun q => ⟨q.1, q.2.1⟩, fun c hc => (hq c hc).elim (h.pk c) fun q => q.2.2⟩
/-- What is new is apart. -/
theorem RdV.fresh (h : RdV m b tg l st P tv hv xs) {c : Nat} (hc : m.next ≤ c) : Fre b tv hv c := ⟨by have := h.lt; omega, h.t.lt (.inl hc), h.h.lt (.inl hc)⟩
theorem RdV.freshK (h : RdV m b tg l st P tv hv xs) {c : Nat} (hc : m.next ≤ c) : ∀ x ∈ xs, Off x.kv c := fun x hx => (h.k x hx).o.lt (.inl hc)
theorem put_loop {v3 : EV} {kids : List Int} {nl : EV} {lo : Nat} {fr : Fr} {m0 : Mem} (h : RdV m0 b tg l st P tv hv xs) (hH : ∀ x ∈ st.high, x ≤ 200) (ho : Own m0 nl (is kids) kids.length 1 lo) (hkl : kids.length < 1000000000) (hhl : st.high.length < 1000000000) (hd0 : fr.get 0 = .ptr b 0) (h5 : fr.get 5 = .int .i64 1) (h9 : fr.get 9 = nl) (h10 : fr.get 10 = .int .i64 (kids.length : Int)) (h11 : fr.get 11 = .int .i64 0) (h3 : fr.get 3 = v3) (hd : fr.defers = []) :
    ∃ o, exec U (.loop F_expr_Reader_Put_l0) fr m0 = some o ∧ ∃ fr', o = .exit 0 fr' m0 ∧ fr'.get 0 = .ptr b 0 ∧ fr'.get 5 = .int .i64 (hiAll st.high kids : Int) ∧ fr'.get 3 = v3 ∧ fr'.defers = [] := by
  have hmax : ∀ (ks : List Int) (a : Nat), a ≤ 201 → ks.foldl (hi1 st.high) a ≤ 201 := by
    intro ks
    induction ks with
    | nil => intro a ha; exact ha
    | cons x ks ih =>
      intro a ha
      rw [List.foldl_cons]
      refine ih _ ?_
      unfold hi1
      split
      · rename_i q
        have hx : x.toNat < st.high.length := by omega
        have := hH _ (List.getElem_mem hx)
        rw [List.getD_eq_getElem?_getD, List.getElem?_eq_getElem hx, Option.getD_some]
        omega
      · exact ha
  refine loop_w (σ := Nat) (fun j fr m => m = m0 ∧ j ≤ kids.length ∧ fr.get 0 = .ptr b 0 ∧ fr.get 5 = .int .i64 (((kids.take j).foldl (hi1 st.high) 1 : Nat) : Int) ∧ fr.get 9 = nl ∧ fr.get 10 = .int .i64 (kids.length : Int) ∧ fr.get 11 = .int .i64 (j : Int) ∧ fr.get 3 = v3 ∧ fr.defers = []) (fun j => kids.length - j) _ ?_ 0 fr m0
    ⟨rfl, Nat.zero_le _, hd0, h5, h9, h10, h11, h3, hd⟩
  rintro j fr m ⟨rfl, hj, hd0, h5, h9, h10, h11, h3, hd⟩
  generalize hX : exec U F_expr_Reader_Put_l0 fr m = X
  by_cases hlt : j < kids.length
  · have hc : (j : Int) < (kids.length : Int) := by omega
    rcases ho.is with ⟨_, q, _⟩ | ⟨kb, cap, t, rfl, h1, h2, h3', h4⟩
    · omega
    have hfl : (kids.take (j + 1)).foldl (hi1 st.high) 1 = hi1 st.high ((kids.take j).foldl (hi1 st.high) 1) kids[j] := by
      rw [List.take_add_one, List.getElem?_eq_getElem hlt, Option.toList_some, List.foldl_append]; rfl
    have hle := hmax (kids.take j) 1 (by omega)
    have hk : (is kids)[j]? = some (.int .i64 kids[j]) := by unfold is; rw [List.getElem?_map, List.getElem?_eq_getElem hlt]; rfl
    generalize hA : (kids.take j).foldl (hi1 st.high) 1 = A at *
    generalize hx : kids[j] = x at *
    have hw : IntKind.i64.wrap ((j : Int) + 1) = ((j + 1 : Nat) : Int) := by rw [wrap_i64 (by omega) (by omega)]; omega
    have hg := h.g
    have hb := h.lt
    by_cases hr : 0 ≤ x ∧ x < (st.high.length : Int)
    · obtain ⟨hr0, hr1⟩ := hr
      obtain ⟨n, rfl⟩ : ∃ n : Nat, x = (n : Int) := ⟨x.toNat, by omega⟩
      have hn : n < st.high.length := by omega
      rcases h.h.is with ⟨_, q, _⟩ | ⟨hb', hcap, ht, rfl, g1, g2, g3, g4⟩
      · omega
      have hxn := hH _ (List.getElem_mem hn)
      have hh : (nis st.high)[n]? = some (.int .i64 (st.high[n] : Int)) := by unfold nis; rw [List.getElem?_map, List.getElem?_eq_getElem hn]; rfl
      generalize hY : st.high[n] = y at *
      have hw2 : IntKind.i64.wrap ((y : Int) + 1) = ((y + 1 : Nat) : Int) := by rw [wrap_i64 (by omega) (by omega)]; omega
      have hmx : evMax [.int .i64 (A : Int), .int .i64 ((y + 1 : Nat) : Int)] = some (.int .i64 ((max A (y + 1) : Nat) : Int)) := by
        simp only [evMax, maxFrom, Nat.beq_refl, cond_true]
        congr 2
        split <;> omega
      simp +contextual -implicitDefEqProofs (maxSteps := 1000000) (maxDischargeDepth := 8) only [F_expr_Reader_Put_l0, hd0, h5, h9, h10, h11, hd, hc, hk, h3', hg, hb, hh, g3, hr0, hr1, hn, hlt, idx_cast, Nat.mul_one, hw, hw2, hmx, zz0, zz1, zz2, zz3, zz4, zz5, zz6, zz7, zz8, zz9, argsF, reduceIte, reduceCtorEq, Nat.reduceEqDiff, Nat.reduceBEq, Nat.reduceAdd, Int.reduceLT, Int.reduceLE, Int.reduceEq, Int.reduceToNat, Int.reduceNeg, Nat.reduceLeDiff, Int.reducePow, implies_true, UInt8.reduceToNat, Int.reduceSub, Int.reduceAdd, Nat.reduceLT, Nat.reduceMul, Nat.reduceSub, Nat.reduceBNe] at hX
      subst hX
      refine lw_norm (j + 1) (by omega) ⟨rfl, by omega, by simp only [hd0, get_set', selE_t, selE_f, Nat.reduceBEq, set_defers, fr00_get, fr00_defers, put_some, put_none ], ?_, by simp only [h9, get_set', selE_t, selE_f, Nat.reduceBEq, set_defers, fr00_get, fr00_defers, put_some, put_none ], by simp only [h10, get_set', selE_t, selE_f, Nat.reduceBEq, set_defers, fr00_get, fr00_defers, put_some, put_none ], by simp only [get_set', selE_t, selE_f, Nat.reduceBEq, set_defers, fr00_get, fr00_defers, put_some, put_none ], by simp only [h3, get_set', selE_t, selE_f, Nat.reduceBEq, set_defers, fr00_get, fr00_defers, put_some, put_none ], by simp only [hd, get_set', selE_t, selE_f, Nat.reduceBEq, set_defers, fr00_get, fr00_defers, put_some, put_none ]⟩
      rw [hfl, hi1, if_pos ⟨hr0, hr1⟩, Int.toNat_natCast, List.getD_eq_getElem?_getD, List.getElem?_eq_getElem hn, Option.getD_some, hY]
      simp only [get_set', selE_t, selE_f, Nat.reduceBEq, set_defers, fr00_get, fr00_defers, put_some, put_none ]
    · have hr' : ¬ (x < (st.high.length : Int)) ∨ ¬ (0 ≤ x) := by omega
      by_cases hr0 : 0 ≤ x
      · have hr1 : ¬ (x < (st.high.length : Int)) := by omega
        rcases h.h.is with ⟨rfl, q, q2⟩ | ⟨hb', hcap, ht, rfl, g1, g2, g3, g4⟩
        · rw [q] at hr1
          have hr1' : ¬ (x < 0) := by omega
          simp +contextual -implicitDefEqProofs (maxSteps := 1000000) (maxDischargeDepth := 8) only [F_expr_Reader_Put_l0, hd0, h5, h9, h10, h11, hd, hc, hk, h3', hg, hb, hr0, hr1', hlt, idx_cast, Nat.mul_one, hw, zz0, zz1, zz2, zz3, zz4, zz5, zz6, zz7, zz8, zz9, argsF, reduceIte, reduceCtorEq, Nat.reduceEqDiff, Nat.reduceBEq, Nat.reduceAdd, Int.reduceLT, Int.reduceLE, Int.reduceEq, Int.reduceToNat, Int.reduceNeg, Nat.reduceLeDiff, Int.reducePow, implies_true, UInt8.reduceToNat, Int.reduceSub, Int.reduceAdd, Nat.reduceLT, Nat.reduceMul, Nat.reduceSub, Nat.reduceBNe] at hX
          subst hX
          refine lw_norm (j + 1) (by omega) ⟨rfl, by omega, by simp only [hd0, get_set', selE_t, selE_f, Nat.reduceBEq, set_defers, fr00_get, fr00_defers, put_some, put_none ], ?_, by simp only [h9, get_set', selE_t, selE_f, Nat.reduceBEq, set_defers, fr00_get, fr00_defers, put_some, put_none ], by simp only [h10, get_set', selE_t, selE_f, Nat.reduceBEq, set_defers, fr00_get, fr00_defers, put_some, put_none ], by simp only [get_set', selE_t, selE_f, Nat.reduceBEq, set_defers, fr00_get, fr00_defers, put_some, put_none ], by simp only [h3, get_set', selE_t, selE_f, Nat.reduceBEq, set_defers, fr00_get, fr00_defers, put_some, put_none ], by simp only [hd, get_set', selE_t, selE_f, Nat.reduceBEq, set_defers, fr00_get, fr00_defers, put_some, put_none ]⟩
          rw [hfl, hi1, if_neg hr]
          simp only [h5, get_set', selE_t, selE_f, Nat.reduceBEq, set_defers, fr00_get, fr00_defers, put_some, put_none ]
        · simp +contextual -implicitDefEqProofs (maxSteps := 1000000) (maxDischargeDepth := 8) only [F_expr_Reader_Put_l0, hd0, h5, h9, h10, h11, hd, hc, hk, h3', hg, hb, hr0, hr1, hlt, idx_cast, Nat.mul_one, hw, zz0, zz1, zz2, zz3, zz4, zz5, zz6, zz7, zz8, zz9, argsF, reduceIte, reduceCtorEq, Nat.reduceEqDiff, Nat.reduceBEq, Nat.reduceAdd, Int.reduceLT, Int.reduceLE, Int.reduceEq, Int.reduceToNat, Int.reduceNeg, Nat.reduceLeDiff, Int.reducePow, implies_true, UInt8.reduceToNat, Int.reduceSub, Int.reduceAdd, Nat.reduceLT, Nat.reduceMul, Nat.reduceSub, Nat.reduceBNe] at hX
          subst hX
          refine lw_norm (j + 1) (by omega) ⟨rfl, by omega, by simp only [hd0, get_set', selE_t, selE_f, Nat.reduceBEq, set_defers, fr00_get, fr00_defers, put_some, put_none ], ?_, by simp only [h9, get_set', selE_t, selE_f, Nat.reduceBEq, set_defers, fr00_get, fr00_defers, put_some, put_none ], by simp only [h10, get_set', selE_t, selE_f, Nat.reduceBEq, set_defers, fr00_get, fr00_defers, put_some, put_none ], by simp only [get_set', selE_t, selE_f, Nat.reduceBEq, set_defers, fr00_get, fr00_defers, put_some, put_none ], by simp only [h3, get_set', selE_t, selE_f, Nat.reduceBEq, set_defers, fr00_get, fr00_defers, put_some, put_none ], by simp only [hd, get_set', selE_t, selE_f, Nat.reduceBEq, set_defers, fr00_get, fr00_defers, put_some, put_none ]⟩
          rw [hfl, hi1, if_neg hr]
          simp only [h5, get_set', selE_t, selE_f, Nat.reduceBEq, set_defers, fr00_get, fr00_defers, put_some, put_none ]
      · simp +contextual -implicitDefEqProofs (maxSteps := 1000000) (maxDischargeDepth := 8) only [F_expr_Reader_Put_l0, hd0, h5, h9, h10, h11, hd, hc, hk, h3', hg, hb, hr0, hlt, idx_cast, Nat.mul_one, hw, zz0, zz1, zz2, zz3, zz4, zz5, zz6, zz7, zz8, zz9, argsF, reduceIte, reduceCtorEq, Nat.reduceEqDiff, Nat.reduceBEq, Nat.reduceAdd, Int.reduceLT, Int.reduceLE, Int.reduceEq, Int.reduceToNat, Int.reduceNeg, Nat.reduceLeDiff, Int.reducePow, implies_true, UInt8.reduceToNat, Int.reduceSub, Int.reduceAdd, Nat.reduceLT, Nat.reduceMul, Nat.reduceSub, Nat.reduceBNe] at hX
        subst hX
        refine lw_norm (j + 1) (by omega) ⟨rfl, by omega, by simp only [hd0, get_set', selE_t, selE_f, Nat.reduceBEq, set_defers, fr00_get, fr00_defers, put_some, put_none ], ?_, by simp only [h9, get_set', selE_t, selE_f, Nat.reduceBEq, set_defers, fr00_get, fr00_defers, put_some, put_none ], by simp only [h10, get_set', selE_t, selE_f, Nat.reduceBEq, set_defers, fr00_get, fr00_defers, put_some, put_none ], by simp only [get_set', selE_t, selE_f, Nat.reduceBEq, set_defers, fr00_get, fr00_defers, put_some, put_none ], by simp only [h3, get_set', selE_t, selE_f, Nat.reduceBEq, set_defers, fr00_get, fr00_defers, put_some, put_none ], by simp only [hd, get_set', selE_t, selE_f, Nat.reduceBEq, set_defers, fr00_get, fr00_defers, put_some, put_none ]⟩
        rw [hfl, hi1, if_neg hr]
        simp only [h5, get_set', selE_t, selE_f, Nat.reduceBEq, set_defers, fr00_get, fr00_defers, put_some, put_none ]
  · have hc : ¬ (j : Int) < (kids.length : Int) := by omega
    obtain rfl : j = kids.length := by omega
    simp +contextual -implicitDefEqProofs (maxSteps := 1000000) (maxDischargeDepth := 8) only [F_expr_Reader_Put_l0, h10, h11, hc, hd, zz0, zz1, zz2, zz3, zz4, zz5, zz6, zz7, zz8, zz9, argsF, reduceIte, reduceCtorEq, Nat.reduceEqDiff, Nat.reduceBEq, Nat.reduceAdd, Int.reduceLT, Int.reduceLE, Int.reduceEq, Int.reduceToNat, Int.reduceNeg, Nat.reduceLeDiff, Int.reducePow, implies_true, UInt8.reduceToNat, Int.reduceSub, Int.reduceAdd, Nat.reduceLT, Nat.reduceMul, Nat.reduceSub, Nat.reduceBNe] at hX
    subst hX
    rw [List.take_length] at h5
    exact lw_exit ⟨_, rfl, by simp only [hd0, get_set', selE_t, selE_f, Nat.reduceBEq, set_defers, fr00_get, fr00_defers, put_some, put_none ], by simp only [h5, hiAll, get_set', selE_t, selE_f, Nat.reduceBEq, set_defers, fr00_get, fr00_defers, put_some, put_none ], by simp only [h3, get_set', selE_t, selE_f, Nat.reduceBEq, set_defers, fr00_get, fr00_defers, put_some, put_none ], by simp only [hd, get_set', selE_t, selE_f, Nat.reduceBEq, set_defers, fr00_get, fr00_defers, put_some, put_none ]⟩
end
end Go.Proofs.Ytjgbofonigpjaaa.Ev
end
section
namespace Go.Proofs.Ytjgbofonigpjaaa.Ev
open Go
set_option linter.unusedSimpArgs false
set_option linter.unusedVariables false
set_option maxRecDepth 10000
set_option maxHeartbeats 4000000
section
variable {m : Mem} {b tg : Nat} {l : List Tok} {st : RS} {P : Nat → Prop} {tv hv : EV} {xs : List Nv}
theorem put_run0 (h : RdV m b tg l st P tv hv xs) (hH : ∀ x ∈ st.high, x ≤ 200) (htl : st.tree.length < 1000000) {d : Nd} {kv : EV} (hk : KidAt m b tv hv d kv) (hpk : ∀ c, P c → Off kv c) (hkl : d.kids.length < 1000000000) : ∃ m', run U n_expr_Reader_Put [.ptr b 0, .agg (ndCells d kv)] m = some (.ret (.int .i64 (st.putR d)) m') ∧ Rd m' b tg l (st.put d) P ∧ Kp m m' P := by
  rw [run_p2 (by simp [F_expr_Reader_Put])]
  generalize hL : exec (UT B K) (ICode.loop F_expr_Reader_Put_l0) = L
  have hg := h.g
  have hb := h.lt
  have hlk : lenE kv (ext m [.cells (ndCells d kv) 5 t_api_Node false]) = some (.val (.int .i64 (d.kids.length : Int)) (ext m [.cells (ndCells d kv) 5 t_api_Node false])) := by
    rcases hk.o.is with ⟨rfl, q, _⟩ | ⟨kb, cap, t, rfl, _⟩
    · rw [q]; rfl
    · rfl
  unfold ndCells at *
  simp +contextual -implicitDefEqProofs (maxSteps := 1000000) (maxDischargeDepth := 8) only [F_expr_Reader_Put, hlk, zz0, zz1, zz2, zz3, zz4, zz5, zz6, zz7, zz8, zz9, argsF, reduceIte, reduceCtorEq, Nat.reduceEqDiff, Nat.reduceBEq, Nat.reduceAdd, Int.reduceLT, Int.reduceLE, Int.reduceEq, Int.reduceToNat, Int.reduceNeg, Nat.reduceLeDiff, Int.reducePow, implies_true, UInt8.reduceToNat, Int.reduceSub, Int.reduceAdd, Nat.reduceLT, Nat.reduceMul, Nat.reduceSub, Nat.reduceBNe]
  subst hL
  generalize hX : exec _ (.loop F_expr_Reader_Put_l0) _ _ = X
  have h1 := h.upd (st' := st) rfl rfl (Upd.ext (ys := [.cells [.int .i64 d.kind, kv, .int .i64 d.n, .str d.s, .int .i64 d.pos] 5 t_api_Node false]) hg hb)
  have hk1 : KidAt (ext m [.cells [.int .i64 d.kind, kv, .int .i64 d.n, .str d.s, .int .i64 d.pos] 5 t_api_Node false]) b tv hv d kv := ⟨hk.o.ext _, hk.f, hk.nl, hk.z⟩
  have hbx : (ext m [.cells [.int .i64 d.kind, kv, .int .i64 d.n, .str d.s, .int .i64 d.pos] 5 t_api_Node false]).get (nb m.next 0) = .cells [.int .i64 d.kind, kv, .int .i64 d.n, .str d.s, .int .i64 d.pos] 5 t_api_Node false := by rw [get_ext_nb rfl (by simp)]; rfl
  obtain ⟨o, rfl, fr', rfl, f0, f5, f3, fd⟩ := looped hX (put_loop (v3 := .ptr (nb m.next 0) 0) h1 hH (hk.o.ext _) hkl (by rw [h.hl]; omega) (by simp only [get_set', selE_t, selE_f, Nat.reduceBEq, set_defers, fr00_get, fr00_defers, put_some, put_none ]) (by simp only [get_set', selE_t, selE_f, Nat.reduceBEq, set_defers, fr00_get, fr00_defers, put_some, put_none ]) (by simp only [get_set', selE_t, selE_f, Nat.reduceBEq, set_defers, fr00_get, fr00_defers, put_some, put_none ]) (by simp only [get_set', selE_t, selE_f, Nat.reduceBEq, set_defers, fr00_get, fr00_defers, put_some, put_none ]) (by simp only [get_set', selE_t, selE_f, Nat.reduceBEq, set_defers, fr00_get, fr00_defers, put_some, put_none ]) (by simp only [get_set', selE_t, selE_f, Nat.reduceBEq, set_defers, fr00_get, fr00_defers, put_some, put_none ]) (by simp only [get_set', selE_t, selE_f, Nat.reduceBEq, set_defers, fr00_get, fr00_defers, put_some, put_none ]))
  clear hX
  have hB1 := hb
  generalize hM1 : ext m [.cells [.int .i64 d.kind, kv, .int .i64 d.n, .str d.s, .int .i64 d.pos] 5 t_api_Node false] = M1 at *
  have hn1 : M1.next = nb m.next 1 := by rw [← hM1, next_ext]; rfl
  have kp1 : Kp m M1 P := ⟨by rw [hn1]; exact le_nb, fun c hc => by rw [← hM1, get_ext_old (h.p c hc).1]⟩
  have hg1 := h1.g
  have hb1 := h1.lt
  have hbx1 : nb m.next 0 < M1.next := by rw [hn1]; unfold nb; simp
  by_cases hi : 200 < hiAll st.high d.kids
  · have hi' : (200 : Int) < (hiAll st.high d.kids : Int) := by omega
    obtain ⟨m2, e2, u2⟩ := fail_run h1.g h1.lt 4 d.pos
    have hfe : ¬ (st.fail 4 d.pos).fe = 0 := by
      unfold RS.fail; split
      · simp
      · assumption
    have hp0 : st.put0 d = st.fail 4 d.pos := if_pos hi
    have hp : st.put d = st.fail 4 d.pos := by rw [RS.put, hp0, if_neg hfe]
    have hr : st.putR d = -1 := by rw [RS.putR, hp0, if_neg hfe]
    have h2 := h1.upd (st' := st.fail 4 d.pos) (by unfold RS.fail; split <;> rfl) (by unfold RS.fail; split <;> rfl) u2
    have hf := fine_look h2.g h2.lt
    have kp2 := kp1.trans (h1.kp u2)
    rw [hp, hr]
    generalize st.fail 4 d.pos = st2 at *
    simp +contextual -implicitDefEqProofs (maxSteps := 1000000) (maxDischargeDepth := 8) only [f0, f5, f3, fd, hi', hbx, hg1, hb1, hbx1, e2, hf, hfe, bo_ff, zz0, zz1, zz2, zz3, zz4, zz5, zz6, zz7, zz8, zz9, argsF, reduceIte, reduceCtorEq, Nat.reduceEqDiff, Nat.reduceBEq, Nat.reduceAdd, Int.reduceLT, Int.reduceLE, Int.reduceEq, Int.reduceToNat, Int.reduceNeg, Nat.reduceLeDiff, Int.reducePow, implies_true, UInt8.reduceToNat, Int.reduceSub, Int.reduceAdd, Nat.reduceLT, Nat.reduceMul, Nat.reduceSub, Nat.reduceBNe]
    exact ⟨_, rfl, ⟨_, _, _, h2.upd rfl rfl (Upd.bump h2.g)⟩, kp2.trans (h2.kp (Upd.bump h2.g))⟩
  · have hi' : ¬ (200 : Int) < (hiAll st.high d.kids : Int) := by omega
    have hp0 : st.put0 d = st := if_neg hi
    have hf := fine_look h1.g h1.lt
    by_cases hfe : st.fe = 0
    · have hp : st.put d = { st with tree := st.tree ++ [d], high := st.high ++ [hiAll st.high d.kids] } := by rw [RS.put, hp0, if_pos hfe]
      have hr : st.putR d = (st.tree.length : Int) := by rw [RS.putR, hp0, if_pos hfe]
      rw [hp, hr]
      rw [bo_pos hfe] at hf
      simp +contextual -implicitDefEqProofs (maxSteps := 1000000) (maxDischargeDepth := 8) only [f0, f5, f3, fd, hi', hbx, hg1, hb1, hbx1, hf, zz0, zz1, zz2, zz3, zz4, zz5, zz6, zz7, zz8, zz9, argsF, reduceIte, reduceCtorEq, Nat.reduceEqDiff, Nat.reduceBEq, Nat.reduceAdd, Int.reduceLT, Int.reduceLE, Int.reduceEq, Int.reduceToNat, Int.reduceNeg, Nat.reduceLeDiff, Int.reducePow, implies_true, UInt8.reduceToNat, Int.reduceSub, Int.reduceAdd, Nat.reduceLT, Nat.reduceMul, Nat.reduceSub, Nat.reduceBNe]
      generalize hA : evAppend _ 41 5 tv _ = A
      generalize hD1 : Mem.mk (nb M1.next 22) _ = D1 at hA ⊢
      have d1n : D1.next = nb M1.next 22 := by rw [← hD1]
      have d1o : ∀ c, c < M1.next → D1.get c = M1.get c := fun c hc => by
        rw [← hD1]
        exact (get_ext_old (m := Mem.mk (nb M1.next 0 + 7) (bump (bump M1 0) 22).tbl) (by show c < nb M1.next 0 + 7; unfold nb; omega)).trans rfl
      have d1g : D1.get (nb (nb M1.next 0 + 7) 0) = .cells [.int .i64 d.kind, kv, .int .i64 d.n, .str d.s, .int .i64 d.pos] 5 41 false := by
        rw [← hD1]
        exact (get_ext_nb (m := Mem.mk (nb M1.next 0 + 7) (bump (bump M1 0) 22).tbl) rfl (by simp)).trans rfl
      clear hD1
      have ho1 : Own D1 tv (nvs xs) xs.length 5 (b + 1) := h1.t.keep' (by rw [d1n]; exact le_nb) fun c hc _ _ => d1o c hc
      have ho2 : Own D1 hv (nis st.high) st.high.length 1 (b + 1) := h1.h.keep' (by rw [d1n]; exact le_nb) fun c hc _ _ => d1o c hc
      have hxl : xs.length = st.tree.length := by rw [← h.x, List.length_map]
      obtain ⟨a1, o1⟩ := append_grow (e := 41) ho1 (by rw [d1n]; unfold nb; omega) (source_at (cap := some 1) d1g rfl) rfl (by decide) (by unfold room; omega)
      rw [a1] at hA
      subst hA
      have g1n : (grow D1 tv 41 5 (nvs xs ++ [.int .i64 d.kind, kv, .int .i64 d.n, .str d.s, .int .i64 d.pos])).next = nb M1.next 23 := by rw [grow_next, d1n, nb_nb]
      have g1o : ∀ c, c < D1.next → Off tv c → (grow D1 tv 41 5 (nvs xs ++ [.int .i64 d.kind, kv, .int .i64 d.n, .str d.s, .int .i64 d.pos])).get c = D1.get c := fun c hc ho => grow_old hc ho
      generalize grow D1 tv 41 5 _ = G1 at *
      have hbt : Off tv b := ho1.lt (.inr (Nat.lt_succ_self _))
      have hbd : b < D1.next := by rw [d1n]; unfold nb; omega
      have hg2 : G1.get b = .cells (rdCells tg l st tv hv) 7 t_expr_Reader false := by rw [g1o b hbd hbt, d1o b hb1, hg1]
      have hg2' : D1.get b = .cells (rdCells tg l st tv hv) 7 t_expr_Reader false := by rw [d1o b hb1, hg1]
      have hst : standE (some hv) hv = true := standE_self (by rcases ho2.is with ⟨rfl, _⟩ | ⟨_, _, _, rfl, _⟩ <;> rfl)
      simp +contextual -implicitDefEqProofs (maxSteps := 1000000) (maxDischargeDepth := 8) only [f0, f5, f3, fd, hg2, hg2', d1n, g1n, nb_nb, hst, zz0, zz1, zz2, zz3, zz4, zz5, zz6, zz7, zz8, zz9, argsF, reduceIte, reduceCtorEq, Nat.reduceEqDiff, Nat.reduceBEq, Nat.reduceAdd, Int.reduceLT, Int.reduceLE, Int.reduceEq, Int.reduceToNat, Int.reduceNeg, Nat.reduceLeDiff, Int.reducePow, implies_true, UInt8.reduceToNat, Int.reduceSub, Int.reduceAdd, Nat.reduceLT, Nat.reduceMul, Nat.reduceSub, Nat.reduceBNe]
      generalize hA : evAppend _ 3 1 hv _ = A
      generalize hD2 : Mem.mk (nb M1.next 23) _ = D2 at hA ⊢
      have d2n : D2.next = nb M1.next 23 := by rw [← hD2]
      have d2o : ∀ c, c ≠ nb M1.next 0 + 14 → D2.get c = G1.get c := fun c hc => by
        rw [← hD2]
        exact ((get_new (m := Mem.mk (nb M1.next 0 + 14) G1.tbl)).trans (if_neg hc)).trans rfl
      have d2g : D2.get (nb (nb M1.next 0 + 14) 0) = .cells [.int .i64 (hiAll st.high d.kids : Int)] 1 3 false := by
        rw [← hD2]
        exact ((get_new (m := Mem.mk (nb M1.next 0 + 14) G1.tbl)).trans (if_pos rfl)).trans rfl
      clear hD2
      have hfr : ∀ c, c < M1.next → c ≠ nb M1.next 0 + 14 ∧ c < D1.next := fun c hc => by rw [d1n]; unfold nb; omega
      have hold : ∀ c, c < M1.next → Off tv c → D2.get c = M1.get c := fun c hc ho => by rw [d2o c (hfr c hc).1, g1o c (hfr c hc).2 ho, d1o c hc]
      have ho3 : Own D2 hv (nis st.high) st.high.length 1 (b + 1) := h1.h.keep' (by rw [d2n]; exact le_nb) fun c hc _ ho => hold c hc (Classical.byContradiction fun q => ho (h1.a c q))
      obtain ⟨a2, o2⟩ := append_grow (e := 3) ho3 (by rw [d2n]; unfold nb; omega) (source_at (cap := some 1) d2g rfl) rfl (by decide) (by unfold room; rw [h.hl]; omega)
      rw [a2] at hA
      subst hA
      have g2n : (grow D2 hv 3 1 (nis st.high ++ [.int .i64 (hiAll st.high d.kids : Int)])).next = nb M1.next 24 := by rw [grow_next, d2n, nb_nb]
      have g2o : ∀ c, c < D2.next → Off hv c → (grow D2 hv 3 1 (nis st.high ++ [.int .i64 (hiAll st.high d.kids : Int)])).get c = D2.get c := fun c hc ho => grow_old hc ho
      generalize grow D2 hv 3 1 _ = G2 at *
      have hbh : Off hv b := h1.h.lt (.inr (Nat.lt_succ_self _))
      have hg3 : G2.get b = .cells (rdCells tg l st tv hv) 7 t_expr_Reader false := by rw [g2o b (by rw [d2n]; unfold nb; omega) hbh, hold b hb1 hbt, hg1]
      have hw : IntKind.i64.wrap (((xs.length + 1 : Nat) : Int) - 1) = (st.tree.length : Int) := by rw [wrap_i64 (by omega) (by omega)]; omega
      have hall : ∀ c, c < M1.next → c ≠ b → Off tv c → Off hv c → ∀ B, (G2.set b B).get c = M1.get c := fun c hc hne h1' h2' B => by
        rw [get_set_ne hne, g2o c (by rw [d2n]; unfold nb; omega) h2', hold c hc h1']
      simp +contextual -implicitDefEqProofs (maxSteps := 1000000) (maxDischargeDepth := 8) only [f0, f5, f3, fd, hg3, g2n, d2n, d1n, nb_nb, hw, zz0, zz1, zz2, zz3, zz4, zz5, zz6, zz7, zz8, zz9, argsF, reduceIte, reduceCtorEq, Nat.reduceEqDiff, Nat.reduceBEq, Nat.reduceAdd, Int.reduceLT, Int.reduceLE, Int.reduceEq, Int.reduceToNat, Int.reduceNeg, Nat.reduceLeDiff, Int.reducePow, implies_true, UInt8.reduceToNat, Int.reduceSub, Int.reduceAdd, Nat.reduceLT, Nat.reduceMul, Nat.reduceSub, Nat.reduceBNe]
      generalize hM3 : Mem.set _ b (.cells [.fz tg 4 (toks l), .int .i64 (st.pos : Int), .int .i64 st.deep, .slice (nb M1.next 22) 0 (xs.length + 1) none, .slice (nb M1.next 23) 0 (st.high.length + 1) none, .int .i64 st.fe, .int .i64 st.fp] 7 t_expr_Reader false) = M3
      have m3n : M3.next = nb M1.next 24 := by rw [← hM3, next_set, next_set, g2n]
      have m3b : M3.get b = .cells [.fz tg 4 (toks l), .int .i64 (st.pos : Int), .int .i64 st.deep, .slice (nb M1.next 22) 0 (xs.length + 1) none, .slice (nb M1.next 23) 0 (st.high.length + 1) none, .int .i64 st.fe, .int .i64 st.fp] 7 t_expr_Reader false := by rw [← hM3, get_set_eq]
      have m3o : ∀ c, c ≠ b → M3.get c = G2.get c := fun c hc => by rw [← hM3, get_set_ne hc, get_set_ne hc]
      clear hM3
      have hall' : ∀ c, c < M1.next → Fre b tv hv c → M3.get c = M1.get c := fun c hc hf => by
        rw [m3o c hf.ne, ← hall c hc hf.ne hf.t hf.h .dead, get_set_ne hf.ne]
      have hfree : ∀ c, c < M1.next → c ≠ b → Fre b (.slice (nb M1.next 22) 0 (xs.length + 1) none) (.slice (nb M1.next 23) 0 (st.high.length + 1) none) c := fun c hc hne => ⟨hne, Off.of (by unfold nb; omega), Off.of (by unfold nb; omega)⟩
      have hoff : ∀ (k n c : Nat), ¬ Off (.slice (nb M1.next k) 0 n none) c → c = nb M1.next k := fun k n c q => Classical.byContradiction fun w => q (Off.of w)
      have hkid : ∀ (d : Nd) (kv : EV), KidAt M1 b tv hv d kv → KidAt M3 b (.slice (nb M1.next 22) 0 (xs.length + 1) none) (.slice (nb M1.next 23) 0 (st.high.length + 1) none) d kv := fun d kv q =>
        ⟨q.o.keep' (by rw [m3n]; exact le_nb) fun c hc _ ho => hall' c hc (q.f c ho), fun c ho => hfree c (q.o.notOff ho).2 (q.f c ho).ne, q.nl, q.z⟩
      refine ⟨M3, rfl, ⟨.slice (nb M1.next 22) 0 (xs.length + 1) none, .slice (nb M1.next 23) 0 (st.high.length + 1) none, xs ++ [⟨d, kv⟩], ?_⟩, kp1.trans ⟨by rw [m3n]; exact le_nb, fun c hc => hall' c (h1.p c hc).1 (h1.p c hc).2⟩⟩
      refine ⟨m3b, by rw [m3n]; unfold nb; omega, ?_, ?_, ?_, ?_, ?_, ?_, ?_, ?_⟩
      · rw [nvs_snoc, List.length_append]
        rw [d1n, nb_nb] at o1
        refine o1.keep' (by rw [g1n, m3n]; unfold nb; omega) fun c hc hlo ho => ?_
        rw [hoff _ _ _ ho, m3o _ (by unfold nb; omega), g2o _ (by rw [d2n]; unfold nb; omega) (h1.h.lt (.inl le_nb)), d2o _ (by unfold nb; omega)]
      · rw [List.length_append]
        rw [d2n, nb_nb] at o2
        have e1 : nis (st.high ++ [hiAll st.high d.kids]) = nis st.high ++ [.int .i64 (hiAll st.high d.kids : Int)] := by simp [nis]
        rw [e1]
        exact o2.keep' (by rw [g2n, m3n]; exact Nat.le_refl _) fun c hc hlo ho => m3o c (by omega)
      · intro c q
        rw [hoff _ _ _ q]
        exact Off.of (by unfold nb; omega)
      · rw [List.map_append, h.x]; rfl
      · rw [List.length_append, List.length_append, h.hl]; rfl
      · intro x hx
        rcases List.mem_append.1 hx with hx | hx
        · exact hkid _ _ (h1.k x hx)
        · rw [List.mem_singleton.1 hx]; exact hkid _ _ hk1
      · exact fun c hc => ⟨by have := (h1.p c hc).1; rw [m3n]; unfold nb; omega, hfree c (h1.p c hc).1 (h1.p c hc).2.ne⟩
      · intro c hc x hx
        rcases List.mem_append.1 hx with hx | hx
        · exact h1.pk c hc x hx
        · rw [List.mem_singleton.1 hx]; exact hpk c hc
    · have hp : st.put d = st := by rw [RS.put, hp0, if_neg hfe]
      have hr : st.putR d = -1 := by rw [RS.putR, hp0, if_neg hfe]
      rw [hp, hr]
      simp +contextual -implicitDefEqProofs (maxSteps := 1000000) (maxDischargeDepth := 8) only [f0, f5, f3, fd, hi', hbx, hg1, hb1, hbx1, hf, hfe, bo_ff, zz0, zz1, zz2, zz3, zz4, zz5, zz6, zz7, zz8, zz9, argsF, reduceIte, reduceCtorEq, Nat.reduceEqDiff, Nat.reduceBEq, Nat.reduceAdd, Int.reduceLT, Int.reduceLE, Int.reduceEq, Int.reduceToNat, Int.reduceNeg, Nat.reduceLeDiff, Int.reducePow, implies_true, UInt8.reduceToNat, Int.reduceSub, Int.reduceAdd, Nat.reduceLT, Nat.reduceMul, Nat.reduceSub, Nat.reduceBNe]
      exact ⟨_, rfl, ⟨_, _, _, h1.upd rfl rfl (Upd.bump h1.g)⟩, kp1.trans (h1.kp (Upd.bump h1.g))⟩
/-- Laying a node, of a reader that stands. -/
theorem put_run {Q : Nat → Prop} (h : Rd m b tg l st Q) (hH : ∀ x ∈ st.high, x ≤ 200) (htl : st.tree.length < 1000000) {d : Nd} {kv : EV} (ho : Own m kv (is d.kids) d.kids.length 1 0) (hp : ∀ c, ¬ Off kv c → Q c) (hq : ∀ c, P c → Q c ∧ Off kv c) (hnl : d.nl = d.kids.isEmpty) (hz : d.kids = [] → kv = .nilslice) (hkl : d.kids.length < 1000000000) : ∃ m', run U n_expr_Reader_Put [.ptr b 0, .agg [.int .i64 d.kind, kv, .int .i64 d.n, .str d.s, .int .i64 d.pos]] m = some (.ret (.int .i64 (st.putR d)) m') ∧ Rd m' b tg l (st.put d) P ∧ Kp m m' P := by
  obtain ⟨tv, hv, xs, h⟩ := h
  exact put_run0 (h.more fun c hc => .inl (hq c hc).1) hH htl ⟨ho, fun c hc => (h.p c (hp c hc)).2, hnl, hz⟩ (fun c hc => (hq c hc).2) hkl
end
end Go.Proofs.Ytjgbofonigpjaaa.Ev
end
section
namespace Go.Proofs.Ytjgbofonigpjaaa.Ev
open Go
set_option linter.unusedSimpArgs false
set_option linter.unusedVariables false
set_option maxRecDepth 10000
set_option maxHeartbeats 4000000
/-- And all blocks from here to there. -/
def Pr (P : Nat → Prop) (n n' : Nat) : Nat → Prop := fun c => P c ∨ (n ≤ c ∧ c < n')
theorem Own.lo0 {m : Mem} {v : EV} {cs : List EV} {n esz lo : Nat} (h : Own m v cs n esz lo) : Own m v cs n esz 0 := by
  refine ⟨?_, h.len⟩
  rcases h.is with h | ⟨b, cap, t, rfl, h1, h2, h3, h4⟩
  · exact .inl h
  · exact .inr ⟨b, cap, t, rfl, Nat.zero_le _, h2, h3, h4⟩
section
variable {m M : Mem} {b tg : Nat} {l : List Tok} {st : RS} {P Q : Nat → Prop}
theorem Rd.lt (h : Rd m b tg l st P) : b < m.next := by obtain ⟨tv, hv, xs, h⟩ := h; exact h.lt
theorem Rd.weak (h : Rd m b tg l st P) (hq : ∀ c, Q c → P c) : Rd m b tg l st Q := by
  obtain ⟨tv, hv, xs, h⟩ := h; exact ⟨tv, hv, xs, h.more fun c hc => .inl (hq c hc)⟩
/-- What is new is apart. -/
theorem Rd.grown (h : Rd m b tg l st P) (hn : m.next ≤ M.next) (hk : ∀ c, c < m.next → M.get c = m.get c) : Rd M b tg l st (Pr P m.next M.next) := by
  obtain ⟨tv, hv, xs, h⟩ := h
  have u : Upd m M b (.cells (rdCells tg l st tv hv) 7 t_expr_Reader false) := ⟨hn, by rw [hk b h.lt]; exact h.g, fun c hc _ => hk c hc⟩
  exact ⟨tv, hv, xs, (h.upd rfl rfl u).more fun c hc => hc.elim .inl fun q => .inr ⟨q.2, h.fresh q.1, h.freshK q.1⟩⟩
theorem Rd.same (h : Rd m b tg l st P) (hn : m.next ≤ M.next) (hk : ∀ c, c < m.next → M.get c = m.get c) : Rd M b tg l st P := (h.grown hn hk).weak fun c hc => .inl hc
theorem rd_ext {ys : List Blk} (h : Rd m b tg l st P) : Rd (ext m ys) b tg l st P := h.same (by rw [next_ext]; exact le_nb) fun c hc => get_ext_old hc
theorem rd_bump {k : Nat} (h : Rd m b tg l st P) : Rd (bump m k) b tg l st P := h.same (by rw [next_bump]; exact le_nb) fun c hc => rfl
theorem Rd.kp (h : Rd m b tg l st P) (hn : m.next ≤ M.next) (hk : ∀ c, c < m.next → M.get c = m.get c) : Kp m M P := by
  obtain ⟨tv, hv, xs, h⟩ := h; exact ⟨hn, fun c hc => hk c (h.p c hc).1⟩
/-- Boxes that are new are kept apart. -/
theorem Rd.box (h : Rd m b tg l st P) (n : Nat) (ys : List Blk) : Rd (ext (bump m n) ys) b tg l st (Pr P m.next (nb m.next (n + ys.length))) := by
  have := h.grown (M := ext (bump m n) ys) (by rw [next_ext, next_bump, nb_nb]; exact le_nb) fun c hc => get_ext_old (m := bump m n) (by rw [next_bump]; exact Nat.lt_of_lt_of_le hc le_nb)
  rw [next_ext, next_bump, nb_nb] at this
  exact this
theorem kp_box (h : Rd m b tg l st P) (n : Nat) (ys : List Blk) : Kp m (ext (bump m n) ys) P := h.kp (by rw [next_ext, next_bump, nb_nb]; exact le_nb) fun c hc => get_ext_old (m := bump m n) (by rw [next_bump]; exact Nat.lt_of_lt_of_le hc le_nb)
theorem Rd.boxe (h : Rd m b tg l st P) (ys : List Blk) : Rd (ext m ys) b tg l st (Pr P m.next (nb m.next ys.length)) := by
  have := h.grown (M := ext m ys) (by rw [next_ext]; exact le_nb) fun c hc => get_ext_old hc
  rw [next_ext] at this
  exact this
theorem kp_boxe (h : Rd m b tg l st P) (ys : List Blk) : Kp m (ext m ys) P := h.kp (by rw [next_ext]; exact le_nb) fun c hc => get_ext_old hc
/-- A row that is new. -/
theorem own_row {m : Mem} {cs : List EV} {n e : Nat} (h : cs.length = n) : Own (ext m [.cells cs 1 e false]) (.slice (nb m.next 0) 0 n (some n)) cs n 1 0 :=
  ⟨.inr ⟨nb m.next 0, some n, e, rfl, Nat.zero_le _, by rw [next_ext]; unfold nb; simp, by rw [get_ext_nb rfl (by simp)]; rfl, .inr rfl⟩, by omega⟩
theorem notOff_slice {bb o n c : Nat} {cap : Option Nat} (h : ¬ Off (.slice bb o n cap) c) : c = bb := Classical.byContradiction fun w => h (Off.of w)
theorem Rd.plt (h : Rd m b tg l st P) {c : Nat} (hc : P c) : c < m.next := by obtain ⟨tv, hv, xs, h⟩ := h; exact (h.p c hc).1
theorem pr_of {n i j : Nat} (h : i < j) : Pr P n (nb n j) (nb n i) := .inr ⟨le_nb, by unfold nb; omega⟩
theorem kp_bump {k : Nat} (h : Rd m b tg l st P) : Kp m (bump m k) P := h.kp (by rw [next_bump]; exact le_nb) fun _ _ => rfl
theorem kp_ext {ys : List Blk} (h : Rd m b tg l st P) : Kp m (ext m ys) P := h.kp (by rw [next_ext]; exact le_nb) fun c hc => get_ext_old hc
theorem StOk.rdf (o : StOk l st) (ht : TokOk l) {tv hv : EV} : RdF b tg l st tv hv := ⟨ht.pos, by have := ht.lt; omega, by have := ht.lt; have := o.p; omega, by have := ht.lt; have := o.p; have := o.d; have := o.d0; omega⟩
section
variable (ht : TokOk l) (o : StOk l st)
include ht o
theorem tokenC : ∀ M : Mem, Rd M b tg l st P → run U n_expr_Reader_Token [.ptr b 0] M = some (.ret (.agg [.int .i64 ((st.now l).kind : Int), .str (st.now l).text, .int .i64 ((st.now l).n : Int), .int .i64 ((st.now l).pos : Int)]) (bump M 19)) := fun M h => by
  obtain ⟨tv, hv, xs, h⟩ := h; exact (o.rdf ht (tv := tv) (hv := hv)).token M h.g h.lt
theorem isC : ∀ (M : Mem) (s : Txt), Rd M b tg l st P → run U n_expr_Reader_Is [.ptr b 0, .str s] M = some (.ret (bo (st.is l s)) (bump M 20)) := fun M s h => by
  obtain ⟨tv, hv, xs, h⟩ := h; exact (o.rdf ht (tv := tv) (hv := hv)).is M s h.g h.lt
end
theorem fineC : ∀ M : Mem, Rd M b tg l st P → run U n_expr_Reader_fine [.ptr b 0] M = some (.ret (bo (st.fe = 0)) (bump M 0)) := fun M h => by
  obtain ⟨tv, hv, xs, h⟩ := h; exact fine_look h.g h.lt
variable {X : Option Fin}
theorem failC (h : Rd m b tg l st P) {e p : Int} (hX : run U n_expr_Reader_Fail [.ptr b 0, .int .i64 e, .int .i64 p] m = X) : ∃ m', X = some (.ret (.tuple []) m') ∧ Rd m' b tg l (st.fail e p) P ∧ Kp m m' P := by
  obtain ⟨tv, hv, xs, h⟩ := h
  obtain ⟨m', e', u⟩ := fail_run h.g h.lt e p
  exact ⟨m', hX.symm.trans e', ⟨_, _, _, h.upd fail_pos.2.2.1 fail_pos.2.2.2 u⟩, h.kp u⟩
theorem skipC (ht : TokOk l) (o : StOk l st) (h : Rd m b tg l st P) {s : Txt} (hX : run U n_expr_Reader_Skip [.ptr b 0, .str s] m = X) : ∃ m', X = some (.ret (bo (st.is l s)) m') ∧ Rd m' b tg l (st.skip l s) P ∧ Kp m m' P := by
  obtain ⟨tv, hv, xs, h⟩ := h
  obtain ⟨m', e', u⟩ := skip_run (o.rdf ht) h.g h.lt s
  exact ⟨m', hX.symm.trans e', ⟨_, _, _, h.upd (by unfold RS.skip; split <;> rfl) (by unfold RS.skip; split <;> rfl) u⟩, h.kp u⟩
theorem wantC (ht : TokOk l) (o : StOk l st) (h : Rd m b tg l st P) {s : Txt} (hX : run U n_expr_Reader_Want [.ptr b 0, .str s] m = X) : ∃ m', X = some (.ret (bo (st.is l s)) m') ∧ Rd m' b tg l (st.want l s) P ∧ Kp m m' P := by
  obtain ⟨tv, hv, xs, h⟩ := h
  obtain ⟨m', e', u⟩ := want_run (o.rdf ht) h.g h.lt s
  have q : (st.want l s).tree = st.tree ∧ (st.want l s).high = st.high := by
    unfold RS.want; split
    · exact ⟨rfl, rfl⟩
    · exact fail_pos.2.2
  exact ⟨m', hX.symm.trans e', ⟨_, _, _, h.upd q.1 q.2 u⟩, h.kp u⟩
theorem openC (ht : TokOk l) (o : StOk l st) (h : Rd m b tg l st P) {p : Int} (hX : run U n_expr_Reader_Open [.ptr b 0, .int .i64 p] m = X) : ∃ m', X = some (.ret (bo ((st.open p).fe = 0)) m') ∧ Rd m' b tg l (st.open p) P ∧ Kp m m' P := by
  obtain ⟨tv, hv, xs, h⟩ := h
  obtain ⟨m', e', u⟩ := open_run (o.rdf ht) h.g h.lt p
  have q : (st.open p).tree = st.tree ∧ (st.open p).high = st.high := by
    unfold RS.open; split
    · exact (fail_pos (st := { st with deep := st.deep + 1 })).2.2
    · exact ⟨rfl, rfl⟩
  exact ⟨m', hX.symm.trans e', ⟨_, _, _, h.upd q.1 q.2 u⟩, h.kp u⟩
theorem closeC (ht : TokOk l) (o : StOk l st) (h : Rd m b tg l st P) (hX : run U n_expr_Reader_Close [.ptr b 0] m = X) : ∃ m', X = some (.ret (.tuple []) m') ∧ Rd m' b tg l st.close P ∧ Kp m m' P := by
  obtain ⟨tv, hv, xs, h⟩ := h
  obtain ⟨m', e', u⟩ := close_run (o.rdf ht) h.g h.lt
  exact ⟨m', hX.symm.trans e', ⟨_, _, _, h.upd rfl rfl u⟩, h.kp u⟩
/-- A node is laid, of kids in a row of one's own. -/
theorem putC (ht : TokOk l) (o : StOk l st) (h : Rd m b tg l st Q) {kind n p : Int} {s : Txt} {kids : List Int} {kv : EV} (hkl : kids.length < 1000000) (ho : Own m kv (is kids) kids.length 1 0) (hp : ∀ c, ¬ Off kv c → Q c) (hq : ∀ c, P c → Q c ∧ Off kv c) (hz : kids = [] → kv = .nilslice) (hX : run U n_expr_Reader_Put [.ptr b 0, .agg [.int .i64 kind, kv, .int .i64 n, .str s, .int .i64 p]] m = X) : ∃ m', X = some (.ret (.int .i64 (st.putR (nd kind kids n s p))) m') ∧ Rd m' b tg l (st.put (nd kind kids n s p)) P ∧ Kp m m' P := by
  obtain ⟨m', e', r, k⟩ := put_run (d := nd kind kids n s p) h o.h (by have := o.t; have := o.p; have := ht.lt; omega) ho hp hq rfl hz (by show kids.length < _; omega)
  exact ⟨m', hX.symm.trans e', r, k⟩
end
def signs16 : List Txt := [[124, 124], [38, 38], [61, 61], [33, 61], [60], [60, 61], [62], [62, 61], [43], [45], [43, 37], [45, 37], [42], [47], [37], [42, 37]]
/-- Signs, told. -/
theorem ops_eq (s : Txt) : pureR B K n_expr_ops [.str s] = some (.agg [.int .i64 (opsF s).1, .int .i64 (opsF s).2]) := by
  have hin : s ∈ signs16 ∨ s ∉ signs16 := Classical.em _
  rcases hin with h | h
  · simp only [signs16, List.mem_cons, List.not_mem_nil, or_false] at h
    rcases h with rfl | rfl | rfl | rfl | rfl | rfl | rfl | rfl | rfl | rfl | rfl | rfl | rfl | rfl | rfl | rfl
    all_goals exact pure_closed 20 fun _ => by kernel_rfl
  · simp only [signs16, List.mem_cons, List.not_mem_nil, or_false, not_or] at h
    obtain ⟨h0, h1, h2, h3, h4, h5, h6, h7, h8, h9, h10, h11, h12, h13, h14, h15⟩ := h
    rw [pure_at (by simp [F_expr_ops])]
    have ho : opsF s = (0, 0) := by simp only [opsF, if_neg h0, if_neg h1, if_neg h2, if_neg h3, if_neg h4, if_neg h5, if_neg h6, if_neg h7, if_neg h8, if_neg h9, if_neg h10, if_neg h11, if_neg h12, if_neg h13, if_neg h14, if_neg h15]
    rw [ho]
    simp -implicitDefEqProofs (maxSteps := 1000000) only [F_expr_ops, h0, h1, h2, h3, h4, h5, h6, h7, h8, h9, h10, h11, h12, h13, h14, h15, bo_ff, zz0, zz1, zz2, zz3, zz4, zz5, zz6, zz7, zz8, zz9, argsF, reduceIte, reduceCtorEq, Nat.reduceEqDiff, Nat.reduceBEq, Nat.reduceAdd, Int.reduceLT, Int.reduceLE, Int.reduceEq, Int.reduceToNat, Int.reduceNeg, Nat.reduceLeDiff, Int.reducePow, implies_true, UInt8.reduceToNat, Int.reduceSub, Int.reduceAdd, Nat.reduceLT, Nat.reduceMul, Nat.reduceSub, Nat.reduceBNe]
end Go.Proofs.Ytjgbofonigpjaaa.Ev
end
section
namespace Go.Proofs.Ytjgbofonigpjaaa.Ev
open Go
set_option linter.unusedSimpArgs false
set_option linter.unusedVariables false
set_option maxRecDepth 10000
set_option maxHeartbeats 4000000
/-- A function that answers a number does asx the command does. -/
def WInt (l : List Tok) (tg f : Nat) (av : List EV) (k : Nat) (c : Cmd) : Prop := ∀ (st : RS) (m : Mem) (b : Nat) (P : Nat → Prop) (s1 : RS) (r : List Int) (X : Option Fin), StOk l st → 8 * (l.length - st.pos) + c.rank < k → goF l k c st = some (s1, r) → Rd m b tg l st P → run U f (.ptr b 0 :: av) m = X → ∃ m', X = some (.ret (.int .i64 (r.headD 0)) m') ∧ Rd m' b tg l s1 P ∧ Kp m m' P
theorem one_of {r : List Int} (h : r.length = 1) : ∃ x, r = [x] := by
  match r, h with
  | [x], _ => exact ⟨x, rfl⟩
section
variable {l : List Tok} {tg : Nat} (ht : TokOk l) {k : Nat}
include ht
theorem expr_walk (ih : WInt l tg n_expr_Reader_climb [.int .i64 1] k (.climb 1)) : WInt l tg n_expr_Reader_Expr [] (k + 1) .expr := by
  intro st m b P s1 r X o hk hgo h hX
  have hk' : 8 * (l.length - st.pos) + (Cmd.climb 1).rank < k := by simp only [Cmd.rank] at *; omega
  obtain ⟨s2, r2, e, g, a, _⟩ := go_ok ht k (.climb 1) st o.p hk' trivial
  obtain ⟨x, rfl⟩ := one_of a
  simp only [goF, e, Option.bind_some, Option.some.injEq, Prod.mk.injEq] at hgo
  obtain ⟨rfl, rfl⟩ := hgo
  rw [run_p2 (by simp [F_expr_Reader_Expr])] at hX
  simp +contextual -implicitDefEqProofs (maxSteps := 1000000) (maxDischargeDepth := 8) only [F_expr_Reader_Expr, zz0, zz1, zz2, zz3, zz4, zz5, zz6, zz7, zz8, zz9, argsF, reduceIte, reduceCtorEq, Nat.reduceEqDiff, Nat.reduceBEq, Nat.reduceAdd, Int.reduceLT, Int.reduceLE, Int.reduceEq, Int.reduceToNat, Int.reduceNeg, Nat.reduceLeDiff, Int.reducePow, implies_true, UInt8.reduceToNat, Int.reduceSub, Int.reduceAdd, Nat.reduceLT, Nat.reduceMul, Nat.reduceSub, Nat.reduceBNe] at hX
  generalize hC : run U n_expr_Reader_climb _ m = C at hX
  obtain ⟨m1, rfl, h1, k1⟩ := ih st m b P _ _ _ o hk' e h hC
  have hf := fineC (b := b) (tg := tg) (l := l) (st := s2) (P := P)
  by_cases hfe : s2.fe = 0
  · simp +contextual -implicitDefEqProofs (maxSteps := 1000000) (maxDischargeDepth := 8) only [hf, h1, hfe, rd_ext, rd_bump, zz0, zz1, zz2, zz3, zz4, zz5, zz6, zz7, zz8, zz9, argsF, reduceIte, reduceCtorEq, Nat.reduceEqDiff, Nat.reduceBEq, Nat.reduceAdd, Int.reduceLT, Int.reduceLE, Int.reduceEq, Int.reduceToNat, Int.reduceNeg, Nat.reduceLeDiff, Int.reducePow, implies_true, UInt8.reduceToNat, Int.reduceSub, Int.reduceAdd, Nat.reduceLT, Nat.reduceMul, Nat.reduceSub, Nat.reduceBNe] at hX
    subst hX
    simp only [hfe, if_true]
    exact ⟨_, rfl, rd_bump h1, k1.trans (kp_bump h1)⟩
  · simp +contextual -implicitDefEqProofs (maxSteps := 1000000) (maxDischargeDepth := 8) only [hf, h1, hfe, bo_ff, rd_ext, rd_bump, zz0, zz1, zz2, zz3, zz4, zz5, zz6, zz7, zz8, zz9, argsF, reduceIte, reduceCtorEq, Nat.reduceEqDiff, Nat.reduceBEq, Nat.reduceAdd, Int.reduceLT, Int.reduceLE, Int.reduceEq, Int.reduceToNat, Int.reduceNeg, Nat.reduceLeDiff, Int.reducePow, implies_true, UInt8.reduceToNat, Int.reduceSub, Int.reduceAdd, Nat.reduceLT, Nat.reduceMul, Nat.reduceSub, Nat.reduceBNe] at hX
    subst hX
    simp only [hfe, if_false]
    exact ⟨_, rfl, rd_bump h1, k1.trans (kp_bump h1)⟩
theorem inner_walk {a z : Txt} (ih : WInt l tg n_expr_Reader_Expr [] k .expr) : WInt l tg n_expr_Reader_Inner [.str a, .str z] (k + 1) (.inner a z) := by
  intro st m b P s1 r X o hk hgo h hX
  rw [run_p2 (by simp [F_expr_Reader_Inner])] at hX
  have hT := tokenC (b := b) (tg := tg) (P := P) ht o
  simp +contextual -implicitDefEqProofs (maxSteps := 1000000) (maxDischargeDepth := 8) only [F_expr_Reader_Inner, hT, h, rd_ext, rd_bump, zz0, zz1, zz2, zz3, zz4, zz5, zz6, zz7, zz8, zz9, argsF, reduceIte, reduceCtorEq, Nat.reduceEqDiff, Nat.reduceBEq, Nat.reduceAdd, Int.reduceLT, Int.reduceLE, Int.reduceEq, Int.reduceToNat, Int.reduceNeg, Nat.reduceLeDiff, Int.reducePow, implies_true, UInt8.reduceToNat, Int.reduceSub, Int.reduceAdd, Nat.reduceLT, Nat.reduceMul, Nat.reduceSub, Nat.reduceBNe] at hX
  generalize hC : run U n_expr_Reader_Want _ _ = C at hX
  obtain ⟨m1, rfl, h1, k1⟩ := wantC ht o (rd_bump h) hC
  clear hC
  have k1 : Kp m m1 P := (kp_bump h).trans k1
  by_cases ha : st.is l a
  · have hn := is_lt ht o.p ha
    have hw : st.want l a = st.next := by unfold RS.want; rw [if_pos ha]
    rw [hw] at h1
    have on : StOk l st.next := (Gr.next hn).ok o
    rw [bo_pos ha] at hX
    simp +contextual -implicitDefEqProofs (maxSteps := 1000000) (maxDischargeDepth := 8) only [zz0, zz1, zz2, zz3, zz4, zz5, zz6, zz7, zz8, zz9, argsF, reduceIte, reduceCtorEq, Nat.reduceEqDiff, Nat.reduceBEq, Nat.reduceAdd, Int.reduceLT, Int.reduceLE, Int.reduceEq, Int.reduceToNat, Int.reduceNeg, Nat.reduceLeDiff, Int.reducePow, implies_true, UInt8.reduceToNat, Int.reduceSub, Int.reduceAdd, Nat.reduceLT, Nat.reduceMul, Nat.reduceSub, Nat.reduceBNe] at hX
    generalize hC : run U n_expr_Reader_Open _ _ = C at hX
    obtain ⟨m2, rfl, h2, k2⟩ := openC ht on h1 hC
    clear hC
    have go := Gr.open hn (p := ((st.now l).pos : Int))
    have oo := go.ok o
    obtain ⟨o1, o2, o3⟩ := open_pos (st := st.next) (p := ((st.now l).pos : Int))
    simp only [goF, if_pos ha] at hgo
    by_cases hf : (st.next.open (st.now l).pos).fe = 0
    · rw [if_pos hf] at hgo
      rw [bo_pos hf] at hX
      have hk' : 8 * (l.length - (st.next.open (st.now l).pos).pos) + Cmd.expr.rank < k := by rw [o1]; simp only [Cmd.rank, RS.next] at *; omega
      obtain ⟨s2, r2, e, g, ar, _⟩ := go_ok ht k .expr _ go.pl hk' trivial
      obtain ⟨x, rfl⟩ := one_of ar
      simp only [e, Option.bind_some, Option.some.injEq, Prod.mk.injEq] at hgo
      obtain ⟨rfl, rfl⟩ := hgo
      simp +contextual -implicitDefEqProofs (maxSteps := 1000000) (maxDischargeDepth := 8) only [zz0, zz1, zz2, zz3, zz4, zz5, zz6, zz7, zz8, zz9, argsF, reduceIte, reduceCtorEq, Nat.reduceEqDiff, Nat.reduceBEq, Nat.reduceAdd, Int.reduceLT, Int.reduceLE, Int.reduceEq, Int.reduceToNat, Int.reduceNeg, Nat.reduceLeDiff, Int.reducePow, implies_true, UInt8.reduceToNat, Int.reduceSub, Int.reduceAdd, Nat.reduceLT, Nat.reduceMul, Nat.reduceSub, Nat.reduceBNe] at hX
      generalize hC : run U n_expr_Reader_Expr _ _ = C at hX
      obtain ⟨m3, rfl, h3, k3⟩ := ih _ _ _ _ _ _ _ oo hk' e h2 hC
      clear hC
      have o2' := g.ok oo
      simp +contextual -implicitDefEqProofs (maxSteps := 1000000) (maxDischargeDepth := 8) only [zz0, zz1, zz2, zz3, zz4, zz5, zz6, zz7, zz8, zz9, argsF, reduceIte, reduceCtorEq, Nat.reduceEqDiff, Nat.reduceBEq, Nat.reduceAdd, Int.reduceLT, Int.reduceLE, Int.reduceEq, Int.reduceToNat, Int.reduceNeg, Nat.reduceLeDiff, Int.reducePow, implies_true, UInt8.reduceToNat, Int.reduceSub, Int.reduceAdd, Nat.reduceLT, Nat.reduceMul, Nat.reduceSub, Nat.reduceBNe] at hX
      generalize hC : run U n_expr_Reader_Want _ _ = C at hX
      obtain ⟨m4, rfl, h4, k4⟩ := wantC ht o2' h3 hC
      clear hC
      have o4 := (Gr.want ht o2'.p (s := z)).ok o2'
      simp +contextual -implicitDefEqProofs (maxSteps := 1000000) (maxDischargeDepth := 8) only [zz0, zz1, zz2, zz3, zz4, zz5, zz6, zz7, zz8, zz9, argsF, reduceIte, reduceCtorEq, Nat.reduceEqDiff, Nat.reduceBEq, Nat.reduceAdd, Int.reduceLT, Int.reduceLE, Int.reduceEq, Int.reduceToNat, Int.reduceNeg, Nat.reduceLeDiff, Int.reducePow, implies_true, UInt8.reduceToNat, Int.reduceSub, Int.reduceAdd, Nat.reduceLT, Nat.reduceMul, Nat.reduceSub, Nat.reduceBNe] at hX
      generalize hC : run U n_expr_Reader_Close _ _ = C at hX
      obtain ⟨m5, rfl, h5, k5⟩ := closeC ht o4 h4 hC
      clear hC
      have hfi := fineC (b := b) (tg := tg) (l := l) (st := (s2.want l z).close) (P := P)
      have hcl : (s2.want l z).close.fe = (s2.want l z).fe := rfl
      have kk := (((k1.trans k2).trans k3).trans k4).trans k5
      have k6 := kp_bump (k := 0) h5
      by_cases hfe : (s2.want l z).fe = 0
      · simp +contextual -implicitDefEqProofs (maxSteps := 1000000) (maxDischargeDepth := 8) only [hfi, h5, hcl, hfe, bo_tt, rd_ext, rd_bump, zz0, zz1, zz2, zz3, zz4, zz5, zz6, zz7, zz8, zz9, argsF, reduceIte, reduceCtorEq, Nat.reduceEqDiff, Nat.reduceBEq, Nat.reduceAdd, Int.reduceLT, Int.reduceLE, Int.reduceEq, Int.reduceToNat, Int.reduceNeg, Nat.reduceLeDiff, Int.reducePow, implies_true, UInt8.reduceToNat, Int.reduceSub, Int.reduceAdd, Nat.reduceLT, Nat.reduceMul, Nat.reduceSub, Nat.reduceBNe] at hX
        subst hX
        simp only [hfe, if_true]
        exact ⟨_, rfl, rd_bump h5, kk.trans k6⟩
      · simp +contextual -implicitDefEqProofs (maxSteps := 1000000) (maxDischargeDepth := 8) only [hfi, h5, hcl, hfe, bo_ff, rd_ext, rd_bump, zz0, zz1, zz2, zz3, zz4, zz5, zz6, zz7, zz8, zz9, argsF, reduceIte, reduceCtorEq, Nat.reduceEqDiff, Nat.reduceBEq, Nat.reduceAdd, Int.reduceLT, Int.reduceLE, Int.reduceEq, Int.reduceToNat, Int.reduceNeg, Nat.reduceLeDiff, Int.reducePow, implies_true, UInt8.reduceToNat, Int.reduceSub, Int.reduceAdd, Nat.reduceLT, Nat.reduceMul, Nat.reduceSub, Nat.reduceBNe] at hX
        subst hX
        simp only [hfe, if_false]
        exact ⟨_, rfl, rd_bump h5, kk.trans k6⟩
    · rw [if_neg hf] at hgo
      rw [bo_neg hf] at hX
      simp only [Option.some.injEq, Prod.mk.injEq] at hgo
      obtain ⟨rfl, rfl⟩ := hgo
      simp +contextual -implicitDefEqProofs (maxSteps := 1000000) (maxDischargeDepth := 8) only [zz0, zz1, zz2, zz3, zz4, zz5, zz6, zz7, zz8, zz9, argsF, reduceIte, reduceCtorEq, Nat.reduceEqDiff, Nat.reduceBEq, Nat.reduceAdd, Int.reduceLT, Int.reduceLE, Int.reduceEq, Int.reduceToNat, Int.reduceNeg, Nat.reduceLeDiff, Int.reducePow, implies_true, UInt8.reduceToNat, Int.reduceSub, Int.reduceAdd, Nat.reduceLT, Nat.reduceMul, Nat.reduceSub, Nat.reduceBNe] at hX
      subst hX
      exact ⟨_, rfl, h2, k1.trans k2⟩
  · have hw : st.want l a = st.fail 8 (st.now l).pos := by unfold RS.want; rw [if_neg ha]
    rw [hw] at h1
    simp only [goF, if_neg ha, Option.some.injEq, Prod.mk.injEq] at hgo
    obtain ⟨rfl, rfl⟩ := hgo
    rw [bo_neg ha] at hX
    simp +contextual -implicitDefEqProofs (maxSteps := 1000000) (maxDischargeDepth := 8) only [zz0, zz1, zz2, zz3, zz4, zz5, zz6, zz7, zz8, zz9, argsF, reduceIte, reduceCtorEq, Nat.reduceEqDiff, Nat.reduceBEq, Nat.reduceAdd, Int.reduceLT, Int.reduceLE, Int.reduceEq, Int.reduceToNat, Int.reduceNeg, Nat.reduceLeDiff, Int.reducePow, implies_true, UInt8.reduceToNat, Int.reduceSub, Int.reduceAdd, Nat.reduceLT, Nat.reduceMul, Nat.reduceSub, Nat.reduceBNe] at hX
    subst hX
    exact ⟨_, rfl, h1, k1⟩
end
end Go.Proofs.Ytjgbofonigpjaaa.Ev
end
section
namespace Go.Proofs.Ytjgbofonigpjaaa.Ev
open Go
set_option linter.unusedSimpArgs false
set_option linter.unusedVariables false
set_option maxRecDepth 10000
set_option maxHeartbeats 4000000
section
variable {l : List Tok} {tg : Nat} (ht : TokOk l) {k : Nat}
include ht
theorem front_walk (ih1 : WInt l tg n_expr_Reader_front [] k .front) (ih2 : WInt l tg n_expr_Reader_atom [] k .atom) (ih3 : ∀ left, WInt l tg n_expr_Reader_cells [.int .i64 left] k (.cellsL left)) : WInt l tg n_expr_Reader_front [] (k + 1) .front := by
  intro st m b P s1 r X o hk hgo h hX
  rw [run_p2 (by simp [F_expr_Reader_front])] at hX
  have hT := tokenC (b := b) (tg := tg) (P := P) ht o
  have hlt := h.lt
  simp +contextual -implicitDefEqProofs (maxSteps := 1000000) (maxDischargeDepth := 8) only [F_expr_Reader_front, hT, h, rd_ext, rd_bump, zz0, zz1, zz2, zz3, zz4, zz5, zz6, zz7, zz8, zz9, argsF, reduceIte, reduceCtorEq, Nat.reduceEqDiff, Nat.reduceBEq, Nat.reduceAdd, Int.reduceLT, Int.reduceLE, Int.reduceEq, Int.reduceToNat, Int.reduceNeg, Nat.reduceLeDiff, Int.reducePow, implies_true, UInt8.reduceToNat, Int.reduceSub, Int.reduceAdd, Nat.reduceLT, Nat.reduceMul, Nat.reduceSub, Nat.reduceBNe] at hX
  have h0 := h.box 19 [.cells [.int .i64 ((st.now l).kind : Int), .str (st.now l).text, .int .i64 ((st.now l).n : Int), .int .i64 ((st.now l).pos : Int)] 4 38 false]
  have k0 := kp_box h 19 [.cells [.int .i64 ((st.now l).kind : Int), .str (st.now l).text, .int .i64 ((st.now l).n : Int), .int .i64 ((st.now l).pos : Int)] 4 38 false]
  have p0 : Pr P m.next (nb m.next (19 + 1)) (nb m.next 19) := pr_of (by decide)
  have b0 : (ext (bump m 19) [.cells [.int .i64 ((st.now l).kind : Int), .str (st.now l).text, .int .i64 ((st.now l).n : Int), .int .i64 ((st.now l).pos : Int)] 4 38 false]).get (nb m.next 19) = .cells [.int .i64 ((st.now l).kind : Int), .str (st.now l).text, .int .i64 ((st.now l).n : Int), .int .i64 ((st.now l).pos : Int)] 4 38 false := by
    rw [← Nat.add_zero 19, ← nb_nb]
    exact (get_ext_nb (m := bump m 19) (i := 0) rfl (by simp)).trans rfl
  generalize hC : run U n_expr_Reader_Skip _ _ = C at hX
  obtain ⟨m1, rfl, h1, k1⟩ := skipC ht o h0 hC
  clear hC
  have b1 := (k1.k _ p0).trans b0
  have n1 : (ext (bump m 19) [Blk.dead]).next ≤ m1.next := by have := k1.n; rw [next_ext] at this ⊢; exact this
  by_cases ha : st.is l [45]
  · skip
    have hn := is_lt ht o.p ha
    have hw : st.skip l [45] = st.next := by unfold RS.skip; rw [if_pos ha]
    rw [hw] at h1
    have on : StOk l st.next := (Gr.next hn).ok o
    rw [bo_pos ha] at hX
    simp +contextual -implicitDefEqProofs (maxSteps := 1000000) (maxDischargeDepth := 8) only [b1, zz0, zz1, zz2, zz3, zz4, zz5, zz6, zz7, zz8, zz9, argsF, reduceIte, reduceCtorEq, Nat.reduceEqDiff, Nat.reduceBEq, Nat.reduceAdd, Int.reduceLT, Int.reduceLE, Int.reduceEq, Int.reduceToNat, Int.reduceNeg, Nat.reduceLeDiff, Int.reducePow, implies_true, UInt8.reduceToNat, Int.reduceSub, Int.reduceAdd, Nat.reduceLT, Nat.reduceMul, Nat.reduceSub, Nat.reduceBNe] at hX
    generalize hC : run U n_expr_Reader_Open _ _ = C at hX
    obtain ⟨m2, rfl, h2, k2⟩ := openC ht on h1 hC
    clear hC
    have b2 := (k2.k _ p0).trans b1
    have go := Gr.open hn (p := ((st.now l).pos : Int))
    have oo := go.ok o
    obtain ⟨o1, o2, o3⟩ := open_pos (st := st.next) (p := ((st.now l).pos : Int))
    simp only [goF, if_pos ha] at hgo
    by_cases hf : (st.next.open (st.now l).pos).fe = 0
    · rw [if_pos hf] at hgo
      rw [bo_pos hf] at hX
      have hk' : 8 * (l.length - (st.next.open (st.now l).pos).pos) + Cmd.front.rank < k := by rw [o1]; simp only [Cmd.rank, RS.next] at *; omega
      obtain ⟨s2, r2, e, g, ar, _⟩ := go_ok ht k .front _ go.pl hk' trivial
      obtain ⟨x, rfl⟩ := one_of ar
      simp only [e, Option.bind_some, Option.some.injEq, Prod.mk.injEq] at hgo
      obtain ⟨rfl, rfl⟩ := hgo
      simp +contextual -implicitDefEqProofs (maxSteps := 1000000) (maxDischargeDepth := 8) only [zz0, zz1, zz2, zz3, zz4, zz5, zz6, zz7, zz8, zz9, argsF, reduceIte, reduceCtorEq, Nat.reduceEqDiff, Nat.reduceBEq, Nat.reduceAdd, Int.reduceLT, Int.reduceLE, Int.reduceEq, Int.reduceToNat, Int.reduceNeg, Nat.reduceLeDiff, Int.reducePow, implies_true, UInt8.reduceToNat, Int.reduceSub, Int.reduceAdd, Nat.reduceLT, Nat.reduceMul, Nat.reduceSub, Nat.reduceBNe] at hX
      generalize hC : run U n_expr_Reader_front _ _ = C at hX
      obtain ⟨m3, rfl, h3, k3⟩ := ih1 _ _ _ _ _ _ _ oo hk' e h2 hC
      clear hC
      have b3 := (k3.k _ p0).trans b2
      have o3' := g.ok oo
      simp +contextual -implicitDefEqProofs (maxSteps := 1000000) (maxDischargeDepth := 8) only [zz0, zz1, zz2, zz3, zz4, zz5, zz6, zz7, zz8, zz9, argsF, reduceIte, reduceCtorEq, Nat.reduceEqDiff, Nat.reduceBEq, Nat.reduceAdd, Int.reduceLT, Int.reduceLE, Int.reduceEq, Int.reduceToNat, Int.reduceNeg, Nat.reduceLeDiff, Int.reducePow, implies_true, UInt8.reduceToNat, Int.reduceSub, Int.reduceAdd, Nat.reduceLT, Nat.reduceMul, Nat.reduceSub, Nat.reduceBNe] at hX
      generalize hC : run U n_expr_Reader_Close _ _ = C at hX
      obtain ⟨m4, rfl, h4, k4⟩ := closeC ht o3' h3 hC
      clear hC
      have b4 := (k4.k _ p0).trans b3
      have o4 : StOk l s2.close := ((go.trans g).close (by have := g.d0; rw [o2] at this; simp only [RS.next] at this; exact this)).ok o
      have l4 : nb m.next 19 < m4.next := Nat.lt_of_lt_of_le (show nb m.next 19 < (ext (bump m 19) [Blk.dead]).next by rw [next_ext, next_bump, nb_nb]; unfold nb; simp) (Nat.le_trans n1 (Nat.le_trans k2.n (Nat.le_trans k3.n k4.n)))
      simp +contextual -implicitDefEqProofs (maxSteps := 1000000) (maxDischargeDepth := 8) only [b4, l4, zz0, zz1, zz2, zz3, zz4, zz5, zz6, zz7, zz8, zz9, argsF, reduceIte, reduceCtorEq, Nat.reduceEqDiff, Nat.reduceBEq, Nat.reduceAdd, Int.reduceLT, Int.reduceLE, Int.reduceEq, Int.reduceToNat, Int.reduceNeg, Nat.reduceLeDiff, Int.reducePow, implies_true, UInt8.reduceToNat, Int.reduceSub, Int.reduceAdd, Nat.reduceLT, Nat.reduceMul, Nat.reduceSub, Nat.reduceBNe] at hX
      generalize hC : run U n_expr_Reader_Put _ _ = C at hX
      obtain ⟨m5, rfl, h5, k5⟩ := putC ht o4 (h4.boxe _) (kids := [x]) (by simp) (own_row (by rfl)) (fun c hc => by rw [notOff_slice hc]; exact pr_of (by simp)) (fun c hc => ⟨.inl hc, Off.of (by have := h4.plt hc; unfold nb; omega)⟩) (by simp) hC
      clear hC
      simp +contextual -implicitDefEqProofs (maxSteps := 1000000) (maxDischargeDepth := 8) only [zz0, zz1, zz2, zz3, zz4, zz5, zz6, zz7, zz8, zz9, argsF, reduceIte, reduceCtorEq, Nat.reduceEqDiff, Nat.reduceBEq, Nat.reduceAdd, Int.reduceLT, Int.reduceLE, Int.reduceEq, Int.reduceToNat, Int.reduceNeg, Nat.reduceLeDiff, Int.reducePow, implies_true, UInt8.reduceToNat, Int.reduceSub, Int.reduceAdd, Nat.reduceLT, Nat.reduceMul, Nat.reduceSub, Nat.reduceBNe] at hX
      subst hX
      refine ⟨_, rfl, (h5.weak fun c hc => .inl hc), ?_⟩
      exact (k0.trans (((((k1.trans k2).trans k3).trans k4).trans (kp_boxe h4 _)).weak fun c hc => .inl hc)).trans (k5.weak fun c hc => .inl hc)
    · rw [if_neg hf] at hgo
      rw [bo_neg hf] at hX
      simp only [Option.some.injEq, Prod.mk.injEq] at hgo
      obtain ⟨rfl, rfl⟩ := hgo
      simp +contextual -implicitDefEqProofs (maxSteps := 1000000) (maxDischargeDepth := 8) only [zz0, zz1, zz2, zz3, zz4, zz5, zz6, zz7, zz8, zz9, argsF, reduceIte, reduceCtorEq, Nat.reduceEqDiff, Nat.reduceBEq, Nat.reduceAdd, Int.reduceLT, Int.reduceLE, Int.reduceEq, Int.reduceToNat, Int.reduceNeg, Nat.reduceLeDiff, Int.reducePow, implies_true, UInt8.reduceToNat, Int.reduceSub, Int.reduceAdd, Nat.reduceLT, Nat.reduceMul, Nat.reduceSub, Nat.reduceBNe] at hX
      subst hX
      exact ⟨_, rfl, h2.weak fun c hc => .inl hc, k0.trans ((k1.trans k2).weak fun c hc => .inl hc)⟩
  · have hw : st.skip l [45] = st := by unfold RS.skip; rw [if_neg ha]
    rw [hw] at h1
    rw [bo_neg ha] at hX
    simp +contextual -implicitDefEqProofs (maxSteps := 1000000) (maxDischargeDepth := 8) only [zz0, zz1, zz2, zz3, zz4, zz5, zz6, zz7, zz8, zz9, argsF, reduceIte, reduceCtorEq, Nat.reduceEqDiff, Nat.reduceBEq, Nat.reduceAdd, Int.reduceLT, Int.reduceLE, Int.reduceEq, Int.reduceToNat, Int.reduceNeg, Nat.reduceLeDiff, Int.reducePow, implies_true, UInt8.reduceToNat, Int.reduceSub, Int.reduceAdd, Nat.reduceLT, Nat.reduceMul, Nat.reduceSub, Nat.reduceBNe] at hX
    have k10 := k1
    have hna := ha
    clear ha
    generalize hC : run U n_expr_Reader_Skip _ _ = C at hX
    obtain ⟨m1', rfl, h1, k1⟩ := skipC ht o h1 hC
    clear hC
    have b1 := (k1.k _ p0).trans b1
    have k1 := k10.trans k1
    have n1 : (ext (bump m 19) [Blk.dead]).next ≤ m1'.next := by have := k1.n; rw [next_ext] at this ⊢; exact this
    by_cases ha : st.is l [33]
    · skip
      have hn := is_lt ht o.p ha
      have hw : st.skip l [33] = st.next := by unfold RS.skip; rw [if_pos ha]
      rw [hw] at h1
      have on : StOk l st.next := (Gr.next hn).ok o
      rw [bo_pos ha] at hX
      simp +contextual -implicitDefEqProofs (maxSteps := 1000000) (maxDischargeDepth := 8) only [b1, zz0, zz1, zz2, zz3, zz4, zz5, zz6, zz7, zz8, zz9, argsF, reduceIte, reduceCtorEq, Nat.reduceEqDiff, Nat.reduceBEq, Nat.reduceAdd, Int.reduceLT, Int.reduceLE, Int.reduceEq, Int.reduceToNat, Int.reduceNeg, Nat.reduceLeDiff, Int.reducePow, implies_true, UInt8.reduceToNat, Int.reduceSub, Int.reduceAdd, Nat.reduceLT, Nat.reduceMul, Nat.reduceSub, Nat.reduceBNe] at hX
      generalize hC : run U n_expr_Reader_Open _ _ = C at hX
      obtain ⟨m2, rfl, h2, k2⟩ := openC ht on h1 hC
      clear hC
      have b2 := (k2.k _ p0).trans b1
      have go := Gr.open hn (p := ((st.now l).pos : Int))
      have oo := go.ok o
      obtain ⟨o1, o2, o3⟩ := open_pos (st := st.next) (p := ((st.now l).pos : Int))
      simp only [goF, if_neg hna, if_pos ha] at hgo
      by_cases hf : (st.next.open (st.now l).pos).fe = 0
      · rw [if_pos hf] at hgo
        rw [bo_pos hf] at hX
        have hk' : 8 * (l.length - (st.next.open (st.now l).pos).pos) + Cmd.front.rank < k := by rw [o1]; simp only [Cmd.rank, RS.next] at *; omega
        obtain ⟨s2, r2, e, g, ar, _⟩ := go_ok ht k .front _ go.pl hk' trivial
        obtain ⟨x, rfl⟩ := one_of ar
        simp only [e, Option.bind_some, Option.some.injEq, Prod.mk.injEq] at hgo
        obtain ⟨rfl, rfl⟩ := hgo
        simp +contextual -implicitDefEqProofs (maxSteps := 1000000) (maxDischargeDepth := 8) only [zz0, zz1, zz2, zz3, zz4, zz5, zz6, zz7, zz8, zz9, argsF, reduceIte, reduceCtorEq, Nat.reduceEqDiff, Nat.reduceBEq, Nat.reduceAdd, Int.reduceLT, Int.reduceLE, Int.reduceEq, Int.reduceToNat, Int.reduceNeg, Nat.reduceLeDiff, Int.reducePow, implies_true, UInt8.reduceToNat, Int.reduceSub, Int.reduceAdd, Nat.reduceLT, Nat.reduceMul, Nat.reduceSub, Nat.reduceBNe] at hX
        generalize hC : run U n_expr_Reader_front _ _ = C at hX
        obtain ⟨m3, rfl, h3, k3⟩ := ih1 _ _ _ _ _ _ _ oo hk' e h2 hC
        clear hC
        have b3 := (k3.k _ p0).trans b2
        have o3' := g.ok oo
        simp +contextual -implicitDefEqProofs (maxSteps := 1000000) (maxDischargeDepth := 8) only [zz0, zz1, zz2, zz3, zz4, zz5, zz6, zz7, zz8, zz9, argsF, reduceIte, reduceCtorEq, Nat.reduceEqDiff, Nat.reduceBEq, Nat.reduceAdd, Int.reduceLT, Int.reduceLE, Int.reduceEq, Int.reduceToNat, Int.reduceNeg, Nat.reduceLeDiff, Int.reducePow, implies_true, UInt8.reduceToNat, Int.reduceSub, Int.reduceAdd, Nat.reduceLT, Nat.reduceMul, Nat.reduceSub, Nat.reduceBNe] at hX
        generalize hC : run U n_expr_Reader_Close _ _ = C at hX
        obtain ⟨m4, rfl, h4, k4⟩ := closeC ht o3' h3 hC
        clear hC
        have b4 := (k4.k _ p0).trans b3
        have o4 : StOk l s2.close := ((go.trans g).close (by have := g.d0; rw [o2] at this; simp only [RS.next] at this; exact this)).ok o
        have l4 : nb m.next 19 < m4.next := Nat.lt_of_lt_of_le (show nb m.next 19 < (ext (bump m 19) [Blk.dead]).next by rw [next_ext, next_bump, nb_nb]; unfold nb; simp) (Nat.le_trans n1 (Nat.le_trans k2.n (Nat.le_trans k3.n k4.n)))
        simp +contextual -implicitDefEqProofs (maxSteps := 1000000) (maxDischargeDepth := 8) only [b4, l4, zz0, zz1, zz2, zz3, zz4, zz5, zz6, zz7, zz8, zz9, argsF, reduceIte, reduceCtorEq, Nat.reduceEqDiff, Nat.reduceBEq, Nat.reduceAdd, Int.reduceLT, Int.reduceLE, Int.reduceEq, Int.reduceToNat, Int.reduceNeg, Nat.reduceLeDiff, Int.reducePow, implies_true, UInt8.reduceToNat, Int.reduceSub, Int.reduceAdd, Nat.reduceLT, Nat.reduceMul, Nat.reduceSub, Nat.reduceBNe] at hX
        generalize hC : run U n_expr_Reader_Put _ _ = C at hX
        obtain ⟨m5, rfl, h5, k5⟩ := putC ht o4 (h4.boxe _) (kids := [x]) (by simp) (own_row (by rfl)) (fun c hc => by rw [notOff_slice hc]; exact pr_of (by simp)) (fun c hc => ⟨.inl hc, Off.of (by have := h4.plt hc; unfold nb; omega)⟩) (by simp) hC
        clear hC
        simp +contextual -implicitDefEqProofs (maxSteps := 1000000) (maxDischargeDepth := 8) only [zz0, zz1, zz2, zz3, zz4, zz5, zz6, zz7, zz8, zz9, argsF, reduceIte, reduceCtorEq, Nat.reduceEqDiff, Nat.reduceBEq, Nat.reduceAdd, Int.reduceLT, Int.reduceLE, Int.reduceEq, Int.reduceToNat, Int.reduceNeg, Nat.reduceLeDiff, Int.reducePow, implies_true, UInt8.reduceToNat, Int.reduceSub, Int.reduceAdd, Nat.reduceLT, Nat.reduceMul, Nat.reduceSub, Nat.reduceBNe] at hX
        subst hX
        refine ⟨_, rfl, (h5.weak fun c hc => .inl hc), ?_⟩
        exact (k0.trans (((((k1.trans k2).trans k3).trans k4).trans (kp_boxe h4 _)).weak fun c hc => .inl hc)).trans (k5.weak fun c hc => .inl hc)
      · rw [if_neg hf] at hgo
        rw [bo_neg hf] at hX
        simp only [Option.some.injEq, Prod.mk.injEq] at hgo
        obtain ⟨rfl, rfl⟩ := hgo
        simp +contextual -implicitDefEqProofs (maxSteps := 1000000) (maxDischargeDepth := 8) only [zz0, zz1, zz2, zz3, zz4, zz5, zz6, zz7, zz8, zz9, argsF, reduceIte, reduceCtorEq, Nat.reduceEqDiff, Nat.reduceBEq, Nat.reduceAdd, Int.reduceLT, Int.reduceLE, Int.reduceEq, Int.reduceToNat, Int.reduceNeg, Nat.reduceLeDiff, Int.reducePow, implies_true, UInt8.reduceToNat, Int.reduceSub, Int.reduceAdd, Nat.reduceLT, Nat.reduceMul, Nat.reduceSub, Nat.reduceBNe] at hX
        subst hX
        exact ⟨_, rfl, h2.weak fun c hc => .inl hc, k0.trans ((k1.trans k2).weak fun c hc => .inl hc)⟩
    · have hw : st.skip l [33] = st := by unfold RS.skip; rw [if_neg ha]
      rw [hw] at h1
      rw [bo_neg ha] at hX
      simp +contextual -implicitDefEqProofs (maxSteps := 1000000) (maxDischargeDepth := 8) only [zz0, zz1, zz2, zz3, zz4, zz5, zz6, zz7, zz8, zz9, argsF, reduceIte, reduceCtorEq, Nat.reduceEqDiff, Nat.reduceBEq, Nat.reduceAdd, Int.reduceLT, Int.reduceLE, Int.reduceEq, Int.reduceToNat, Int.reduceNeg, Nat.reduceLeDiff, Int.reducePow, implies_true, UInt8.reduceToNat, Int.reduceSub, Int.reduceAdd, Nat.reduceLT, Nat.reduceMul, Nat.reduceSub, Nat.reduceBNe] at hX
      simp only [goF, if_neg hna, if_neg ha] at hgo
      have hk' : 8 * (l.length - st.pos) + Cmd.atom.rank < k := by simp only [Cmd.rank] at *; omega
      obtain ⟨s2, r2, e, g, ar, _⟩ := go_ok ht k .atom _ o.p hk' trivial
      obtain ⟨x, rfl⟩ := one_of ar
      simp only [e, Option.bind_some, List.headD_cons] at hgo
      generalize hC : run U n_expr_Reader_atom _ _ = C at hX
      obtain ⟨m2, rfl, h2, k2⟩ := ih2 _ _ _ _ _ _ _ o hk' e h1 hC
      clear hC
      simp +contextual -implicitDefEqProofs (maxSteps := 1000000) (maxDischargeDepth := 8) only [List.headD_cons, zz0, zz1, zz2, zz3, zz4, zz5, zz6, zz7, zz8, zz9, argsF, reduceIte, reduceCtorEq, Nat.reduceEqDiff, Nat.reduceBEq, Nat.reduceAdd, Int.reduceLT, Int.reduceLE, Int.reduceEq, Int.reduceToNat, Int.reduceNeg, Nat.reduceLeDiff, Int.reducePow, implies_true, UInt8.reduceToNat, Int.reduceSub, Int.reduceAdd, Nat.reduceLT, Nat.reduceMul, Nat.reduceSub, Nat.reduceBNe] at hX
      generalize hC : run U n_expr_Reader_cells _ _ = C at hX
      obtain ⟨m3, rfl, h3, k3⟩ := ih3 x _ _ _ _ _ _ _ (g.ok o) (by have := g.p; simp only [Cmd.rank] at *; omega) hgo h2 hC
      clear hC
      simp +contextual -implicitDefEqProofs (maxSteps := 1000000) (maxDischargeDepth := 8) only [zz0, zz1, zz2, zz3, zz4, zz5, zz6, zz7, zz8, zz9, argsF, reduceIte, reduceCtorEq, Nat.reduceEqDiff, Nat.reduceBEq, Nat.reduceAdd, Int.reduceLT, Int.reduceLE, Int.reduceEq, Int.reduceToNat, Int.reduceNeg, Nat.reduceLeDiff, Int.reducePow, implies_true, UInt8.reduceToNat, Int.reduceSub, Int.reduceAdd, Nat.reduceLT, Nat.reduceMul, Nat.reduceSub, Nat.reduceBNe] at hX
      subst hX
      exact ⟨_, rfl, h3.weak fun c hc => .inl hc, k0.trans (((k1.trans k2).trans k3).weak fun c hc => .inl hc)⟩
end
end Go.Proofs.Ytjgbofonigpjaaa.Ev
end
section
namespace Go.Proofs.Ytjgbofonigpjaaa.Ev
open Go
set_option linter.unusedSimpArgs false
set_option linter.unusedVariables false
set_option maxRecDepth 10000
set_option maxHeartbeats 4000000
/-- And a row of the caller's. -/
def Pv (P : Nat → Prop) (v : EV) : Nat → Prop := fun c => P c ∨ ¬ Off v c
theorem Rd.grow {m : Mem} {b tg : Nat} {l : List Tok} {st : RS} {P : Nat → Prop} {v : EV} {e n : Nat} {cs : List EV} (h : Rd m b tg l st (Pv P v)) (hP : ∀ c, P c → Off v c) : Rd (grow m v e 1 cs) b tg l st (Pv P (.slice (nb m.next 0) 0 n none)) := by
  obtain ⟨tv, hv, xs, h⟩ := h
  have hn : m.next ≤ (Ev.grow m v e 1 cs).next := by rw [grow_next]; exact le_nb
  have hold : ∀ c, c < m.next → Off v c → (Ev.grow m v e 1 cs).get c = m.get c := fun c hc ho => grow_old hc ho
  have hv : ∀ c, (¬ Off v c) → Fre b tv hv c ∧ ∀ x ∈ xs, Off x.kv c := fun c hc => ⟨(h.p c (.inr hc)).2, h.pk c (.inr hc)⟩
  have hof : ∀ c, (Fre b tv _ c → (∀ x ∈ xs, Off x.kv c) → False) → Off v c := fun c q => Classical.byContradiction fun w => q (hv c w).1 (hv c w).2
  refine ⟨tv, _, xs, ?_, Nat.lt_of_lt_of_le h.lt hn, ?_, ?_, h.a, h.x, h.hl, ?_, ?_, ?_⟩
  · rw [hold b h.lt (hof b fun f _ => f.ne rfl)]; exact h.g
  · exact h.t.keep' hn fun c hc _ ho => hold c hc (hof c fun f _ => ho f.t)
  · exact h.h.keep' hn fun c hc _ ho => hold c hc (hof c fun f _ => ho f.h)
  · exact fun x hx => ⟨(h.k x hx).o.keep' hn fun c hc _ ho => hold c hc (hof c fun _ f => ho (f x hx)), (h.k x hx).f, (h.k x hx).nl, (h.k x hx).z⟩
  · rintro c (hc | hc)
    · exact ⟨Nat.lt_of_lt_of_le (h.p c (.inl hc)).1 hn, (h.p c (.inl hc)).2⟩
    · rw [notOff_slice hc]
      exact ⟨by rw [grow_next]; unfold nb; simp, h.fresh (Nat.le_refl _)⟩
  · rintro c (hc | hc)
    · exact h.pk c (.inl hc)
    · rw [notOff_slice hc]
      exact h.freshK (Nat.le_refl _)
/-- The loop of cells. -/
def WCells (l : List Tok) (tg k : Nat) : Prop := ∀ (left : Int) (st : RS) (fr : Fr) (m : Mem) (b : Nat) (P : Nat → Prop) (s1 : RS) (r : List Int) (X : Option Out), StOk l st → 8 * (l.length - st.pos) + (Cmd.cellsL left).rank < k → goF l k (.cellsL left) st = some (s1, r) → Rd m b tg l st P → fr.get 0 = .ptr b 0 → fr.get 1 = .int .i64 left → fr.defers = [] → exec U (.loop F_expr_Reader_cells_l0) fr m = X → ∃ fr' m', X = some (.exit 0 fr' m') ∧ fr'.get 1 = .int .i64 (r.headD 0) ∧ fr'.defers = [] ∧ Rd m' b tg l s1 P ∧ Kp m m' P
section
variable {l : List Tok} {tg : Nat} (ht : TokOk l) {k : Nat}
include ht
theorem cells_loop (ih1 : WInt l tg n_expr_Reader_Inner [.str [91], .str [93]] k (.inner [91] [93])) (ih2 : WCells l tg k) : WCells l tg (k + 1) := by
  intro left st fr m b P s1 r X o hk hgo h h0 h1 hd hX
  rw [exec_loop] at hX
  generalize hL : exec U (.loop F_expr_Reader_cells_l0) = L at hX
  have hI := isC (b := b) (tg := tg) (P := P) ht o
  by_cases ha : st.is l [91]
  · have hT := tokenC (b := b) (tg := tg) (P := P) ht o
    simp +contextual -implicitDefEqProofs (maxSteps := 1000000) (maxDischargeDepth := 8) only [F_expr_Reader_cells_l0, h0, h1, hd, hI, hT, h, ha, bo_tt, rd_ext, rd_bump, zz0, zz1, zz2, zz3, zz4, zz5, zz6, zz7, zz8, zz9, argsF, reduceIte, reduceCtorEq, Nat.reduceEqDiff, Nat.reduceBEq, Nat.reduceAdd, Int.reduceLT, Int.reduceLE, Int.reduceEq, Int.reduceToNat, Int.reduceNeg, Nat.reduceLeDiff, Int.reducePow, implies_true, UInt8.reduceToNat, Int.reduceSub, Int.reduceAdd, Nat.reduceLT, Nat.reduceMul, Nat.reduceSub, Nat.reduceBNe] at hX
    simp only [goF, if_pos ha] at hgo
    have hk' : 8 * (l.length - st.pos) + (Cmd.inner [91] [93]).rank < k := by simp only [Cmd.rank] at *; omega
    obtain ⟨s2, r2, e, g, ar, mo⟩ := go_ok ht k (.inner [91] [93]) st o.p hk' trivial
    obtain ⟨m1', m2'⟩ := mo ha
    obtain ⟨x, rfl⟩ := one_of ar
    simp only [e, Option.bind_some] at hgo
    generalize hC : run U n_expr_Reader_Inner _ _ = C at hX
    obtain ⟨m1, rfl, r1, k1⟩ := ih1 _ _ _ _ _ _ _ o hk' e (rd_bump (rd_bump h)) hC
    clear hC
    have k1 := ((kp_bump h).trans (kp_bump (rd_bump h))).trans k1
    have o2 := g.ok o
    have hcp : copies 2 [EV.int .i64 0] = [EV.int .i64 0, EV.int .i64 0] := rfl
    simp +contextual -implicitDefEqProofs (maxSteps := 1000000) (maxDischargeDepth := 8) only [h0, h1, hcp, evOp_bsliceN, bsF_some, List.headD_cons, zz0, zz1, zz2, zz3, zz4, zz5, zz6, zz7, zz8, zz9, argsF, reduceIte, reduceCtorEq, Nat.reduceEqDiff, Nat.reduceBEq, Nat.reduceAdd, Int.reduceLT, Int.reduceLE, Int.reduceEq, Int.reduceToNat, Int.reduceNeg, Nat.reduceLeDiff, Int.reducePow, implies_true, UInt8.reduceToNat, Int.reduceSub, Int.reduceAdd, Nat.reduceLT, Nat.reduceMul, Nat.reduceSub, Nat.reduceBNe] at hX
    generalize hC : run U n_expr_Reader_Put _ _ = C at hX
    obtain ⟨m5, rfl, h5, k5⟩ := putC (P := P) (kids := [left, x]) ht o2 (r1.boxe _) (by simp) (own_row (by rfl)) (fun c hc => by rw [notOff_slice hc]; exact pr_of (by simp)) (fun c hc => ⟨.inl hc, Off.of (by have := r1.plt hc; unfold nb; omega)⟩) (by simp) hC
    clear hC
    simp +contextual -implicitDefEqProofs (maxSteps := 1000000) (maxDischargeDepth := 8) only [zz0, zz1, zz2, zz3, zz4, zz5, zz6, zz7, zz8, zz9, argsF, reduceIte, reduceCtorEq, Nat.reduceEqDiff, Nat.reduceBEq, Nat.reduceAdd, Int.reduceLT, Int.reduceLE, Int.reduceEq, Int.reduceToNat, Int.reduceNeg, Nat.reduceLeDiff, Int.reducePow, implies_true, UInt8.reduceToNat, Int.reduceSub, Int.reduceAdd, Nat.reduceLT, Nat.reduceMul, Nat.reduceSub, Nat.reduceBNe] at hX
    subst hL
    have k5 := (k1.trans (kp_boxe r1 _)).trans k5
    have g1 := g.put (by omega) (d := nd 8 [left, x] 0 [] (st.now l).pos)
    obtain ⟨fr', m', rfl, f1, fd, h6, k6⟩ := ih2 _ _ _ _ _ _ _ _ _ (g1.ok o) (by
      have hq : (s2.put (nd 8 [left, x] 0 [] (st.now l).pos)).pos = s2.pos := (by unfold RS.put RS.put0; split <;> split <;> first | rfl | exact fail_pos.1)
      have := o.p; have := g.pl
      simp only [Cmd.rank] at *; omega) hgo h5 (by simp only [h0, get_set', selE_t, selE_f, Nat.reduceBEq, set_defers, fr00_get, fr00_defers, put_some, put_none ]) (by simp only [get_set', selE_t, selE_f, Nat.reduceBEq, set_defers, fr00_get, fr00_defers, put_some, put_none ]) (by simp only [hd, get_set', selE_t, selE_f, Nat.reduceBEq, set_defers, fr00_get, fr00_defers, put_some, put_none ]) hX
    exact ⟨fr', m', rfl, f1, fd, h6, k5.trans k6⟩
  · simp +contextual -implicitDefEqProofs (maxSteps := 1000000) (maxDischargeDepth := 8) only [F_expr_Reader_cells_l0, h0, h1, hd, hI, h, ha, bo_ff, rd_ext, rd_bump, zz0, zz1, zz2, zz3, zz4, zz5, zz6, zz7, zz8, zz9, argsF, reduceIte, reduceCtorEq, Nat.reduceEqDiff, Nat.reduceBEq, Nat.reduceAdd, Int.reduceLT, Int.reduceLE, Int.reduceEq, Int.reduceToNat, Int.reduceNeg, Nat.reduceLeDiff, Int.reducePow, implies_true, UInt8.reduceToNat, Int.reduceSub, Int.reduceAdd, Nat.reduceLT, Nat.reduceMul, Nat.reduceSub, Nat.reduceBNe] at hX
    simp only [goF, if_neg ha, Option.some.injEq, Prod.mk.injEq] at hgo
    obtain ⟨rfl, rfl⟩ := hgo
    subst hX
    exact ⟨_, _, rfl, by simp only [h1, List.headD_cons, get_set', selE_t, selE_f, Nat.reduceBEq, set_defers, fr00_get, fr00_defers, put_some, put_none ], by simp only [hd, get_set', selE_t, selE_f, Nat.reduceBEq, set_defers, fr00_get, fr00_defers, put_some, put_none ], rd_bump h, kp_bump h⟩
omit ht in
theorem cells_walk (h : WCells l tg k) (left : Int) : WInt l tg n_expr_Reader_cells [.int .i64 left] k (.cellsL left) := by
  intro st m b P s1 r X o hk hgo hr hX
  rw [run_p2 (by simp [F_expr_Reader_cells])] at hX
  generalize hL : exec (UT B K) (ICode.loop F_expr_Reader_cells_l0) = L
  simp +contextual -implicitDefEqProofs (maxSteps := 1000000) (maxDischargeDepth := 8) only [F_expr_Reader_cells, zz0, zz1, zz2, zz3, zz4, zz5, zz6, zz7, zz8, zz9, argsF, reduceIte, reduceCtorEq, Nat.reduceEqDiff, Nat.reduceBEq, Nat.reduceAdd, Int.reduceLT, Int.reduceLE, Int.reduceEq, Int.reduceToNat, Int.reduceNeg, Nat.reduceLeDiff, Int.reducePow, implies_true, UInt8.reduceToNat, Int.reduceSub, Int.reduceAdd, Nat.reduceLT, Nat.reduceMul, Nat.reduceSub, Nat.reduceBNe] at hX
  subst hL
  generalize hC : exec _ (.loop F_expr_Reader_cells_l0) _ _ = C at hX
  obtain ⟨fr', m', rfl, f1, fd, h6, k6⟩ := h _ _ _ _ _ _ _ _ _ o hk hgo hr (by simp only [get_set', selE_t, selE_f, Nat.reduceBEq, set_defers, fr00_get, fr00_defers, put_some, put_none ]) (by simp only [get_set', selE_t, selE_f, Nat.reduceBEq, set_defers, fr00_get, fr00_defers, put_some, put_none ]) (by simp only [get_set', selE_t, selE_f, Nat.reduceBEq, set_defers, fr00_get, fr00_defers, put_some, put_none ]) hC
  simp +contextual -implicitDefEqProofs (maxSteps := 1000000) (maxDischargeDepth := 8) only [f1, fd, zz0, zz1, zz2, zz3, zz4, zz5, zz6, zz7, zz8, zz9, argsF, reduceIte, reduceCtorEq, Nat.reduceEqDiff, Nat.reduceBEq, Nat.reduceAdd, Int.reduceLT, Int.reduceLE, Int.reduceEq, Int.reduceToNat, Int.reduceNeg, Nat.reduceLeDiff, Int.reducePow, implies_true, UInt8.reduceToNat, Int.reduceSub, Int.reduceAdd, Nat.reduceLT, Nat.reduceMul, Nat.reduceSub, Nat.reduceBNe] at hX
  subst hX
  exact ⟨_, rfl, h6, k6⟩
end
end Go.Proofs.Ytjgbofonigpjaaa.Ev
end
