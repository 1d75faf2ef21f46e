/- WTree2, WTree3, PUp, WTree4, WIx0, WIxs, WTr1, WTr2, WTr3, WTr3b, PTr1, WTr4, PTr2, WTr5, EvLive, EvCard, WTw. -/
import Derived.LaidMore
import Derived.Lib.LaidTab
import Derived.Test.YtblcomejcahkdaaDoorMf
set_option linter.unusedSimpArgs false
set_option linter.unusedVariables false
set_option linter.unusedSectionVars false
section
namespace Go.Proofs.YtblcomejcahkdaaDoor.Ev
open Go
set_option maxRecDepth 10000
set_option maxHeartbeats 4000000
def validK (l : List Nd) (k : List Int) : Prop := ∀ x ∈ k, 0 ≤ x ∧ x < (l.length : Int)
theorem exprs_loop {l : List Nd} {k : List Int} {n t1 t2 : Nat} {nl1 nl2 : Bool} (hv : validK l k) (hk : n ≤ k.length) (hl : k.length < 1000000000) {m0 : Mem} {fr : Fr} (h0 : fr.get 0 = row nl1 t1 5 (nds l)) (h1 : fr.get 1 = row nl2 t2 1 (ints k)) (h2 : fr.get 2 = .int .i64 (n : Int)) (h7 : fr.get 7 = .int .i64 0) (hd : fr.defers = []) :
    ∃ o, exec U (.loop F_r06_exprs_l0) fr m0 = some o ∧ ((¬ (∀ x ∈ k.take n, exprK (kindOf l x)) ∧ ∃ fr', o = .ret fr' m0 ∧ fr'.get 6 = .bool false ∧ fr'.defers = []) ∨ ((∀ x ∈ k.take n, exprK (kindOf l x)) ∧ ∃ fr', o = .exit 0 fr' m0 ∧ fr'.defers = [])) := by
  refine loop_w (σ := Nat) (fun i fr m => m = m0 ∧ i ≤ n ∧ (∀ x ∈ k.take i, exprK (kindOf l x)) ∧ fr.get 0 = row nl1 t1 5 (nds l) ∧ fr.get 1 = row nl2 t2 1 (ints k) ∧ fr.get 2 = .int .i64 (n : Int) ∧ fr.get 7 = .int .i64 (i : Int) ∧ fr.defers = []) (fun i => n - i) _ ?_ 0 fr m0 ⟨rfl, Nat.zero_le _, by simp, h0, h1, h2, h7, hd⟩
  rintro i fr m ⟨rfl, hi, hn, h0, h1, h2, h7, hd⟩
  generalize hX : exec U F_r06_exprs_l0 fr m = X
  by_cases hlt : i < n
  · have hc : (i : Int) < (n : Int) := by omega
    have hlk : i < k.length := by omega
    have hg : k[i]? = some k[i] := List.getElem?_eq_getElem hlk
    obtain ⟨x0, x1⟩ := hv k[i] (List.getElem_mem hlk)
    obtain ⟨d, hd1, hd2⟩ := node_at x0 x1
    have hix := idx_int (k := .i64) x0 x1
    have hw1 := wrap_succ (i := i) (by omega)
    have hnot : ∀ q : Prop, (¬ q) = (¬ q) := fun _ => rfl
    simp +contextual -implicitDefEqProofs (maxSteps := 1000000) (maxDischargeDepth := 8) only [F_r06_exprs_l0, h0, h1, h2, h7, hd, hc, hg, hlk, hw1, idx_cast, ints_get, ints_len, nds_get, nds_len, hix, hd1, Nd.cells, expr_eq, zza, argsF, reduceIte, reduceCtorEq, Nat.reduceEqDiff, Nat.reduceBEq, Nat.reduceAdd, Int.reduceLT, Int.reduceLE, Int.reduceEq, Int.reduceToNat, Int.reduceNeg, Nat.reduceLeDiff, Int.reducePow, implies_true, UInt8.reduceToNat, Int.reduceSub, Int.reduceAdd, Nat.reduceLT, Nat.reduceMul, Nat.reduceSub, Nat.reduceBNe] at hX
    subst hX
    refine lw_iF (fun he => lw_ret (Or.inl ⟨fun q => he ?_, _, rfl, by simp only [zzf, Nat.reduceBEq ], by simp only [hd, zzf, Nat.reduceBEq ]⟩)) (fun he => lw_norm (i + 1) (by omega) ⟨rfl, hlt, ?_, by simp only [h0, zzf, Nat.reduceBEq ], by simp only [h1, zzf, Nat.reduceBEq ], by simp only [h2, zzf, Nat.reduceBEq ], by simp only [zzf, Nat.reduceBEq ], by simp only [hd, zzf, Nat.reduceBEq ]⟩)
    · rw [← hd2]; exact q _ (List.mem_take_iff_getElem.2 ⟨i, by omega, rfl⟩)
    · intro x hx
      rw [List.take_succ_eq_append_getElem hlk, List.mem_append] at hx
      rcases hx with hx | hx
      · exact hn x hx
      · rw [List.mem_singleton.1 hx, hd2]; exact Classical.not_not.1 he
  · have hc : ¬ ((i : Int) < (n : Int)) := by omega
    obtain rfl : i = n := by omega
    simp +contextual -implicitDefEqProofs (maxSteps := 1000000) (maxDischargeDepth := 8) only [F_r06_exprs_l0, h0, h1, h2, h7, hd, hc, zza, argsF, reduceIte, reduceCtorEq, Nat.reduceEqDiff, Nat.reduceBEq, Nat.reduceAdd, Int.reduceLT, Int.reduceLE, Int.reduceEq, Int.reduceToNat, Int.reduceNeg, Nat.reduceLeDiff, Int.reducePow, implies_true, UInt8.reduceToNat, Int.reduceSub, Int.reduceAdd, Nat.reduceLT, Nat.reduceMul, Nat.reduceSub, Nat.reduceBNe] at hX
    subst hX
    exact lw_exit (Or.inr ⟨hn, _, rfl, by simp only [hd, zzf, Nat.reduceBEq ]⟩)
theorem exprs_eq {l : List Nd} {k : List Int} {n t1 t2 : Nat} {nl1 nl2 : Bool} (hv : validK l k) (hl : k.length < 1000000000) (hn : n < 1000000000) : pureR B K n_r06_exprs [row nl1 t1 5 (nds l), row nl2 t2 1 (ints k), .int .i64 (n : Int)] = some (bo (exprsP l k n)) := by
  rw [pure_at (by simp [F_r06_exprs])]
  generalize hL : exec (UT B K) (ICode.loop F_r06_exprs_l0) = L
  by_cases hk : n ≤ k.length
  · have hc : ¬ ((k.length : Int) < (n : Int)) := by omega
    simp +contextual -implicitDefEqProofs (maxSteps := 1000000) (maxDischargeDepth := 8) only [F_r06_exprs, hc, ints_len, zza, argsF, reduceIte, reduceCtorEq, Nat.reduceEqDiff, Nat.reduceBEq, Nat.reduceAdd, Int.reduceLT, Int.reduceLE, Int.reduceEq, Int.reduceToNat, Int.reduceNeg, Nat.reduceLeDiff, Int.reducePow, implies_true, UInt8.reduceToNat, Int.reduceSub, Int.reduceAdd, Nat.reduceLT, Nat.reduceMul, Nat.reduceSub, Nat.reduceBNe]
    subst hL
    generalize hX : exec _ (.loop F_r06_exprs_l0) _ _ = X
    obtain ⟨o, rfl, h⟩ := looped hX (exprs_loop (l := l) (k := k) (n := n) (t1 := t1) (t2 := t2) (nl1 := nl1) (nl2 := nl2) hv hk hl (by simp only [zzf, Nat.reduceBEq ]) (by simp only [zzf, Nat.reduceBEq ]) (by simp only [zzf, Nat.reduceBEq ]) (by simp only [zzf, Nat.reduceBEq ]) (by simp only [zzf, Nat.reduceBEq ]))
    rcases h with ⟨h, fr', rfl, h2, hd⟩ | ⟨h, fr', rfl, hd⟩
    · simp +contextual -implicitDefEqProofs (maxSteps := 1000000) (maxDischargeDepth := 8) only [h2, hd, zza, argsF, reduceIte, reduceCtorEq, Nat.reduceEqDiff, Nat.reduceBEq, Nat.reduceAdd, Int.reduceLT, Int.reduceLE, Int.reduceEq, Int.reduceToNat, Int.reduceNeg, Nat.reduceLeDiff, Int.reducePow, implies_true, UInt8.reduceToNat, Int.reduceSub, Int.reduceAdd, Nat.reduceLT, Nat.reduceMul, Nat.reduceSub, Nat.reduceBNe]
      exact congrArg some (ff_bo fun q => h q.2)
    · simp +contextual -implicitDefEqProofs (maxSteps := 1000000) (maxDischargeDepth := 8) only [hd, zza, argsF, reduceIte, reduceCtorEq, Nat.reduceEqDiff, Nat.reduceBEq, Nat.reduceAdd, Int.reduceLT, Int.reduceLE, Int.reduceEq, Int.reduceToNat, Int.reduceNeg, Nat.reduceLeDiff, Int.reducePow, implies_true, UInt8.reduceToNat, Int.reduceSub, Int.reduceAdd, Nat.reduceLT, Nat.reduceMul, Nat.reduceSub, Nat.reduceBNe]
      exact congrArg some (tt_bo ⟨hk, h⟩)
  · have hc : (k.length : Int) < (n : Int) := by omega
    simp +contextual -implicitDefEqProofs (maxSteps := 1000000) (maxDischargeDepth := 8) only [F_r06_exprs, hc, ints_len, zza, argsF, reduceIte, reduceCtorEq, Nat.reduceEqDiff, Nat.reduceBEq, Nat.reduceAdd, Int.reduceLT, Int.reduceLE, Int.reduceEq, Int.reduceToNat, Int.reduceNeg, Nat.reduceLeDiff, Int.reducePow, implies_true, UInt8.reduceToNat, Int.reduceSub, Int.reduceAdd, Nat.reduceLT, Nat.reduceMul, Nat.reduceSub, Nat.reduceBNe]
    exact congrArg some (ff_bo fun q => hk q.1)
theorem all_loop {l : List Nd} {k : List Int} {t1 t2 : Nat} {nl1 nl2 : Bool} {kd : Int} {v3 : EV} (hv : validK l k) (hl : k.length < 1000000000) {m0 : Mem} {fr : Fr} (h0 : fr.get 0 = row nl1 t1 5 (nds l)) (h1 : fr.get 1 = row nl2 t2 1 (ints k)) (h2 : fr.get 2 = .int .i64 kd) (h3 : fr.get 3 = v3) (h9 : fr.get 9 = .int .i64 0) (hd : fr.defers = []) :
    ∃ o, exec U (.loop F_r06_all_l0) fr m0 = some o ∧ ((¬ (∀ x ∈ k, kindOf l x = kd) ∧ ∃ fr', o = .ret fr' m0 ∧ fr'.get 8 = .bool false ∧ fr'.defers = []) ∨ ((∀ x ∈ k, kindOf l x = kd) ∧ ∃ fr', o = .exit 0 fr' m0 ∧ fr'.get 1 = row nl2 t2 1 (ints k) ∧ fr'.get 3 = v3 ∧ fr'.defers = [])) := by
  refine loop_w (σ := Nat) (fun i fr m => m = m0 ∧ i ≤ k.length ∧ (∀ x ∈ k.take i, kindOf l x = kd) ∧ fr.get 0 = row nl1 t1 5 (nds l) ∧ fr.get 1 = row nl2 t2 1 (ints k) ∧ fr.get 2 = .int .i64 kd ∧ fr.get 3 = v3 ∧ fr.get 9 = .int .i64 (i : Int) ∧ fr.defers = []) (fun i => k.length - i) _ ?_ 0 fr m0 ⟨rfl, Nat.zero_le _, by simp, h0, h1, h2, h3, h9, hd⟩
  rintro i fr m ⟨rfl, hi, hn, h0, h1, h2, h3, h9, hd⟩
  generalize hX : exec U F_r06_all_l0 fr m = X
  by_cases hlk : i < k.length
  · have hc : (i : Int) < (k.length : Int) := by omega
    have hg : k[i]? = some k[i] := List.getElem?_eq_getElem hlk
    obtain ⟨x0, x1⟩ := hv k[i] (List.getElem_mem hlk)
    obtain ⟨d, hd1, hd2⟩ := node_at x0 x1
    have hix := idx_int (k := .i64) x0 x1
    have hw1 := wrap_succ (i := i) (by omega)
    simp +contextual -implicitDefEqProofs (maxSteps := 1000000) (maxDischargeDepth := 8) only [F_r06_all_l0, h0, h1, h2, h3, h9, hd, hc, hg, hlk, hw1, idx_cast, ints_get, ints_len, nds_get, nds_len, hix, hd1, Nd.cells, zza, argsF, reduceIte, reduceCtorEq, Nat.reduceEqDiff, Nat.reduceBEq, Nat.reduceAdd, Int.reduceLT, Int.reduceLE, Int.reduceEq, Int.reduceToNat, Int.reduceNeg, Nat.reduceLeDiff, Int.reducePow, implies_true, UInt8.reduceToNat, Int.reduceSub, Int.reduceAdd, Nat.reduceLT, Nat.reduceMul, Nat.reduceSub, Nat.reduceBNe] at hX
    subst hX
    refine lw_iF (fun he => lw_ret (Or.inl ⟨fun q => he ?_, _, rfl, by simp only [zzf, Nat.reduceBEq ], by simp only [hd, zzf, Nat.reduceBEq ]⟩)) (fun he => lw_norm (i + 1) (by omega) ⟨rfl, hlk, ?_, by simp only [h0, zzf, Nat.reduceBEq ], by simp only [h1, zzf, Nat.reduceBEq ], by simp only [h2, zzf, Nat.reduceBEq ], by simp only [h3, zzf, Nat.reduceBEq ], by simp only [zzf, Nat.reduceBEq ], by simp only [hd, zzf, Nat.reduceBEq ]⟩)
    · rw [← hd2]; exact q _ (List.getElem_mem hlk)
    · intro x hx
      rw [List.take_succ_eq_append_getElem hlk, List.mem_append] at hx
      rcases hx with hx | hx
      · exact hn x hx
      · rw [List.mem_singleton.1 hx, hd2]; exact Classical.not_not.1 he
  · have hc : ¬ ((i : Int) < (k.length : Int)) := by omega
    rw [List.take_of_length_le (by omega)] at hn
    simp +contextual -implicitDefEqProofs (maxSteps := 1000000) (maxDischargeDepth := 8) only [F_r06_all_l0, h0, h1, h2, h3, h9, hd, hc, ints_len, zza, argsF, reduceIte, reduceCtorEq, Nat.reduceEqDiff, Nat.reduceBEq, Nat.reduceAdd, Int.reduceLT, Int.reduceLE, Int.reduceEq, Int.reduceToNat, Int.reduceNeg, Nat.reduceLeDiff, Int.reducePow, implies_true, UInt8.reduceToNat, Int.reduceSub, Int.reduceAdd, Nat.reduceLT, Nat.reduceMul, Nat.reduceSub, Nat.reduceBNe] at hX
    subst hX
    exact lw_exit (Or.inr ⟨hn, _, rfl, by simp only [h1, zzf, Nat.reduceBEq ], by simp only [h3, zzf, Nat.reduceBEq ], by simp only [hd, zzf, Nat.reduceBEq ]⟩)
theorem all_eq {l : List Nd} {k : List Int} {t1 t2 : Nat} {nl1 nl2 : Bool} {kd : Int} {n : Nat} (hv : validK l k) (hl : k.length < 1000000000) : pureR B K n_r06_all [row nl1 t1 5 (nds l), row nl2 t2 1 (ints k), .int .i64 kd, .int .i64 (n : Int)] = some (bo (allP l k kd n)) := by
  rw [pure_at (by simp [F_r06_all])]
  generalize hL : exec (UT B K) (ICode.loop F_r06_all_l0) = L
  simp +contextual -implicitDefEqProofs (maxSteps := 1000000) (maxDischargeDepth := 8) only [F_r06_all, zza, argsF, reduceIte, reduceCtorEq, Nat.reduceEqDiff, Nat.reduceBEq, Nat.reduceAdd, Int.reduceLT, Int.reduceLE, Int.reduceEq, Int.reduceToNat, Int.reduceNeg, Nat.reduceLeDiff, Int.reducePow, implies_true, UInt8.reduceToNat, Int.reduceSub, Int.reduceAdd, Nat.reduceLT, Nat.reduceMul, Nat.reduceSub, Nat.reduceBNe]
  subst hL
  generalize hX : exec _ (.loop F_r06_all_l0) _ _ = X
  obtain ⟨o, rfl, h⟩ := looped hX (all_loop (l := l) (k := k) (t1 := t1) (t2 := t2) (nl1 := nl1) (nl2 := nl2) (kd := kd) hv hl (by simp only [zzf, Nat.reduceBEq ]) (by simp only [zzf, Nat.reduceBEq ]) (by simp only [zzf, Nat.reduceBEq ]) rfl (by simp only [zzf, Nat.reduceBEq ]) (by simp only [zzf, Nat.reduceBEq ]))
  rcases h with ⟨h, fr', rfl, h2, hd⟩ | ⟨h, fr', rfl, h1, h3, hd⟩
  · simp +contextual -implicitDefEqProofs (maxSteps := 1000000) (maxDischargeDepth := 8) only [h2, hd, zza, argsF, reduceIte, reduceCtorEq, Nat.reduceEqDiff, Nat.reduceBEq, Nat.reduceAdd, Int.reduceLT, Int.reduceLE, Int.reduceEq, Int.reduceToNat, Int.reduceNeg, Nat.reduceLeDiff, Int.reducePow, implies_true, UInt8.reduceToNat, Int.reduceSub, Int.reduceAdd, Nat.reduceLT, Nat.reduceMul, Nat.reduceSub, Nat.reduceBNe]
    exact congrArg some (ff_bo fun q => h q.1)
  · simp only [zzf, Nat.reduceBEq ] at h3
    simp +contextual -implicitDefEqProofs (maxSteps := 1000000) (maxDischargeDepth := 8) only [h1, h3, hd, ints_len, zza, argsF, reduceIte, reduceCtorEq, Nat.reduceEqDiff, Nat.reduceBEq, Nat.reduceAdd, Int.reduceLT, Int.reduceLE, Int.reduceEq, Int.reduceToNat, Int.reduceNeg, Nat.reduceLeDiff, Int.reducePow, implies_true, UInt8.reduceToNat, Int.reduceSub, Int.reduceAdd, Nat.reduceLT, Nat.reduceMul, Nat.reduceSub, Nat.reduceBNe]
    exact bo_some ⟨fun q => ⟨h, by omega⟩, fun q => by have := q.2; omega⟩
theorem kids_loop {l : List Nd} {k : List Int} {t1 t2 : Nat} {nl1 nl2 : Bool} (hv : validK l k) (hl : k.length < 1000000000) {m0 : Mem} {fr : Fr} (h0 : fr.get 0 = row nl1 t1 5 (nds l)) (h5 : fr.get 5 = row nl2 t2 1 (ints k)) (h6 : fr.get 6 = .int .i64 0) (hd : fr.defers = []) :
    ∃ o, exec U (.loop F_r06_kids_l0) fr m0 = some o ∧ ((¬ (∀ x ∈ k, stmtK (kindOf l x)) ∧ ∃ fr', o = .ret fr' m0 ∧ fr'.get 4 = .bool false ∧ fr'.defers = []) ∨ ((∀ x ∈ k, stmtK (kindOf l x)) ∧ ∃ fr', o = .exit 1 fr' m0 ∧ fr'.defers = [])) := by
  refine loop_w (σ := Nat) (fun i fr m => m = m0 ∧ i ≤ k.length ∧ (∀ x ∈ k.take i, stmtK (kindOf l x)) ∧ fr.get 0 = row nl1 t1 5 (nds l) ∧ fr.get 5 = row nl2 t2 1 (ints k) ∧ fr.get 6 = .int .i64 (i : Int) ∧ fr.defers = []) (fun i => k.length - i) _ ?_ 0 fr m0 ⟨rfl, Nat.zero_le _, by simp, h0, h5, h6, hd⟩
  rintro i fr m ⟨rfl, hi, hn, h0, h5, h6, hd⟩
  generalize hX : exec U F_r06_kids_l0 fr m = X
  by_cases hlk : i < k.length
  · have hc : (i : Int) < (k.length : Int) := by omega
    have hg : k[i]? = some k[i] := List.getElem?_eq_getElem hlk
    obtain ⟨x0, x1⟩ := hv k[i] (List.getElem_mem hlk)
    obtain ⟨d, hd1, hd2⟩ := node_at x0 x1
    have hix := idx_int (k := .i64) x0 x1
    have hw1 := wrap_succ (i := i) (by omega)
    simp +contextual -implicitDefEqProofs (maxSteps := 1000000) (maxDischargeDepth := 8) only [F_r06_kids_l0, h0, h5, h6, hd, hc, hg, hlk, hw1, idx_cast, ints_get, ints_len, nds_get, nds_len, hix, hd1, Nd.cells, stmt_eq, zza, argsF, reduceIte, reduceCtorEq, Nat.reduceEqDiff, Nat.reduceBEq, Nat.reduceAdd, Int.reduceLT, Int.reduceLE, Int.reduceEq, Int.reduceToNat, Int.reduceNeg, Nat.reduceLeDiff, Int.reducePow, implies_true, UInt8.reduceToNat, Int.reduceSub, Int.reduceAdd, Nat.reduceLT, Nat.reduceMul, Nat.reduceSub, Nat.reduceBNe] at hX
    subst hX
    refine lw_iF (fun he => lw_ret (Or.inl ⟨fun q => he ?_, _, rfl, by simp only [zzf, Nat.reduceBEq ], by simp only [hd, zzf, Nat.reduceBEq ]⟩)) (fun he => lw_norm (i + 1) (by omega) ⟨rfl, hlk, ?_, by simp only [h0, zzf, Nat.reduceBEq ], by simp only [h5, zzf, Nat.reduceBEq ], by simp only [zzf, Nat.reduceBEq ], by simp only [hd, zzf, Nat.reduceBEq ]⟩)
    · rw [← hd2]; exact q _ (List.getElem_mem hlk)
    · intro x hx
      rw [List.take_succ_eq_append_getElem hlk, List.mem_append] at hx
      rcases hx with hx | hx
      · exact hn x hx
      · rw [List.mem_singleton.1 hx, hd2]; exact Classical.not_not.1 he
  · have hc : ¬ ((i : Int) < (k.length : Int)) := by omega
    rw [List.take_of_length_le (by omega)] at hn
    simp +contextual -implicitDefEqProofs (maxSteps := 1000000) (maxDischargeDepth := 8) only [F_r06_kids_l0, h0, h5, h6, hd, hc, ints_len, zza, argsF, reduceIte, reduceCtorEq, Nat.reduceEqDiff, Nat.reduceBEq, Nat.reduceAdd, Int.reduceLT, Int.reduceLE, Int.reduceEq, Int.reduceToNat, Int.reduceNeg, Nat.reduceLeDiff, Int.reducePow, implies_true, UInt8.reduceToNat, Int.reduceSub, Int.reduceAdd, Nat.reduceLT, Nat.reduceMul, Nat.reduceSub, Nat.reduceBNe] at hX
    subst hX
    exact lw_exit (Or.inr ⟨hn, _, rfl, by simp only [hd, zzf, Nat.reduceBEq ]⟩)
theorem kids_eq {l : List Nd} {d : Nd} {t1 : Nat} {nl1 : Bool} (hv : validK l d.kids) (hl : d.kids.length < 1000000000) : pureR B K n_r06_kids [row nl1 t1 5 (nds l), .agg d.cells] = some (bo (kidsP l d)) := by
  rw [pure_at (by simp [F_r06_kids])]
  generalize hL : exec (UT B K) (ICode.loop F_r06_kids_l0) = L
  obtain ⟨kind, kids, nl, n, s, pos⟩ := d
  simp only at hv hl
  have e1 : ∀ t1 t2 nl1 nl2, pureR B K n_r06_exprs [row nl1 t1 5 (nds l), row nl2 t2 1 (ints kids), .int .i64 1] = some (bo (exprsP l kids 1)) := fun t1 t2 nl1 nl2 => exprs_eq (n := 1) hv hl (by omega)
  have e2 : ∀ t1 t2 nl1 nl2, pureR B K n_r06_exprs [row nl1 t1 5 (nds l), row nl2 t2 1 (ints kids), .int .i64 2] = some (bo (exprsP l kids 2)) := fun t1 t2 nl1 nl2 => exprs_eq (n := 2) hv hl (by omega)
  have ek : ∀ t1 t2 nl1 nl2, pureR B K n_r06_exprs [row nl1 t1 5 (nds l), row nl2 t2 1 (ints kids), .int .i64 (kids.length : Int)] = some (bo (exprsP l kids kids.length)) := fun t1 t2 nl1 nl2 => exprs_eq hv hl hl
  have hsub : ∀ k : List Int, (∀ x ∈ k, x ∈ kids) → k.length ≤ kids.length → ∀ (kd : Int) (n t1 t2 : Nat) (nl1 nl2 : Bool), pureR B K n_r06_all [row nl1 t1 5 (nds l), row nl2 t2 1 (ints k), .int .i64 kd, .int .i64 (n : Int)] = some (bo (allP l k kd n)) := fun k h1 h2 kd n t1 t2 nl1 nl2 => all_eq (fun x hx => hv x (h1 x hx)) (by omega)
  have a1 : ∀ t1 t2 nl1 nl2, pureR B K n_r06_all [row nl1 t1 5 (nds l), row nl2 t2 1 (ints (kids.drop 1)), .int .i64 23, .int .i64 1] = some (bo (allP l (kids.drop 1) 23 1)) := hsub _ (fun x hx => List.mem_of_mem_drop hx) (by rw [List.length_drop]; omega) 23 1
  have a2 : ∀ t1 t2 nl1 nl2, pureR B K n_r06_all [row nl1 t1 5 (nds l), row nl2 t2 1 (ints (kids.drop 1)), .int .i64 23, .int .i64 2] = some (bo (allP l (kids.drop 1) 23 2)) := hsub _ (fun x hx => List.mem_of_mem_drop hx) (by rw [List.length_drop]; omega) 23 2
  have a3 : ∀ t1 t2 nl1 nl2, pureR B K n_r06_all [row nl1 t1 5 (nds l), row nl2 t2 1 (ints (kids.drop 2)), .int .i64 23, .int .i64 1] = some (bo (allP l (kids.drop 2) 23 1)) := hsub _ (fun x hx => List.mem_of_mem_drop hx) (by rw [List.length_drop]; omega) 23 1
  have a4 : ∀ t1 t2 nl1 nl2, pureR B K n_r06_all [row nl1 t1 5 (nds l), row nl2 t2 1 (ints (kids.take (kids.length - 1))), .int .i64 24, .int .i64 8] = some (bo (allP l (kids.take (kids.length - 1)) 24 8)) := hsub _ (fun x hx => List.mem_of_mem_take hx) (by rw [List.length_take]; omega) 24 8
  have a5 : ∀ t1 t2 nl1 nl2, pureR B K n_r06_all [row nl1 t1 5 (nds l), row nl2 t2 1 (ints kids), .int .i64 25, .int .i64 200] = some (bo (allP l kids 25 200)) := hsub _ (fun x hx => hx) (Nat.le_refl _) 25 200
  have c0 : ((kids.length : Int) = 0) = (kids.length = 0) := propext (by omega)
  have c1 : ((kids.length : Int) = 1) = (kids.length = 1) := propext (by omega)
  have c2 : ((kids.length : Int) = 2) = (kids.length = 2) := propext (by omega)
  have c3 : ((kids.length : Int) = 3) = (kids.length = 3) := propext (by omega)
  have c8 : ((kids.length : Int) ≤ 8) = (kids.length ≤ 8) := propext (by omega)
  have d1 : ((1 : Int) ≤ (kids.length : Int)) = (1 ≤ kids.length) := propext (by omega)
  have d2 : ((2 : Int) ≤ (kids.length : Int)) = (2 ≤ kids.length) := propext (by omega)
  by_cases k5 : kind = 5
  · subst k5
    simp +contextual -implicitDefEqProofs (maxSteps := 1000000) (maxDischargeDepth := 8) only [F_r06_kids, Nd.cells, ints_len, c2, e2, zza, argsF, reduceIte, reduceCtorEq, Nat.reduceEqDiff, Nat.reduceBEq, Nat.reduceAdd, Int.reduceLT, Int.reduceLE, Int.reduceEq, Int.reduceToNat, Int.reduceNeg, Nat.reduceLeDiff, Int.reducePow, implies_true, UInt8.reduceToNat, Int.reduceSub, Int.reduceAdd, Nat.reduceLT, Nat.reduceMul, Nat.reduceSub, Nat.reduceBNe]
    refine bo_some ?_
    simp only [kidsP]
    grind
  by_cases k8 : kind = 8
  · subst k8
    simp +contextual -implicitDefEqProofs (maxSteps := 1000000) (maxDischargeDepth := 8) only [F_r06_kids, Nd.cells, ints_len, c2, e2, zza, argsF, reduceIte, reduceCtorEq, Nat.reduceEqDiff, Nat.reduceBEq, Nat.reduceAdd, Int.reduceLT, Int.reduceLE, Int.reduceEq, Int.reduceToNat, Int.reduceNeg, Nat.reduceLeDiff, Int.reducePow, implies_true, UInt8.reduceToNat, Int.reduceSub, Int.reduceAdd, Nat.reduceLT, Nat.reduceMul, Nat.reduceSub, Nat.reduceBNe]
    refine bo_some ?_
    simp only [kidsP]
    grind
  by_cases k14 : kind = 14
  · subst k14
    simp +contextual -implicitDefEqProofs (maxSteps := 1000000) (maxDischargeDepth := 8) only [F_r06_kids, Nd.cells, ints_len, c2, e2, zza, argsF, reduceIte, reduceCtorEq, Nat.reduceEqDiff, Nat.reduceBEq, Nat.reduceAdd, Int.reduceLT, Int.reduceLE, Int.reduceEq, Int.reduceToNat, Int.reduceNeg, Nat.reduceLeDiff, Int.reducePow, implies_true, UInt8.reduceToNat, Int.reduceSub, Int.reduceAdd, Nat.reduceLT, Nat.reduceMul, Nat.reduceSub, Nat.reduceBNe]
    refine bo_some ?_
    simp only [kidsP]
    grind
  by_cases k6 : kind = 6
  · subst k6
    simp +contextual -implicitDefEqProofs (maxSteps := 1000000) (maxDischargeDepth := 8) only [F_r06_kids, Nd.cells, ints_len, c1, e1, zza, argsF, reduceIte, reduceCtorEq, Nat.reduceEqDiff, Nat.reduceBEq, Nat.reduceAdd, Int.reduceLT, Int.reduceLE, Int.reduceEq, Int.reduceToNat, Int.reduceNeg, Nat.reduceLeDiff, Int.reducePow, implies_true, UInt8.reduceToNat, Int.reduceSub, Int.reduceAdd, Nat.reduceLT, Nat.reduceMul, Nat.reduceSub, Nat.reduceBNe]
    refine bo_some ?_
    simp only [kidsP]
    grind
  by_cases k7 : kind = 7
  · subst k7
    simp +contextual -implicitDefEqProofs (maxSteps := 1000000) (maxDischargeDepth := 8) only [F_r06_kids, Nd.cells, ints_len, c1, e1, zza, argsF, reduceIte, reduceCtorEq, Nat.reduceEqDiff, Nat.reduceBEq, Nat.reduceAdd, Int.reduceLT, Int.reduceLE, Int.reduceEq, Int.reduceToNat, Int.reduceNeg, Nat.reduceLeDiff, Int.reducePow, implies_true, UInt8.reduceToNat, Int.reduceSub, Int.reduceAdd, Nat.reduceLT, Nat.reduceMul, Nat.reduceSub, Nat.reduceBNe]
    refine bo_some ?_
    simp only [kidsP]
    grind
  by_cases k9 : kind = 9
  · subst k9
    simp +contextual -implicitDefEqProofs (maxSteps := 1000000) (maxDischargeDepth := 8) only [F_r06_kids, Nd.cells, ints_len, c1, e1, zza, argsF, reduceIte, reduceCtorEq, Nat.reduceEqDiff, Nat.reduceBEq, Nat.reduceAdd, Int.reduceLT, Int.reduceLE, Int.reduceEq, Int.reduceToNat, Int.reduceNeg, Nat.reduceLeDiff, Int.reducePow, implies_true, UInt8.reduceToNat, Int.reduceSub, Int.reduceAdd, Nat.reduceLT, Nat.reduceMul, Nat.reduceSub, Nat.reduceBNe]
    refine bo_some ?_
    simp only [kidsP]
    grind
  by_cases k10 : kind = 10
  · subst k10
    simp +contextual -implicitDefEqProofs (maxSteps := 1000000) (maxDischargeDepth := 8) only [F_r06_kids, Nd.cells, ints_len, c1, e1, zza, argsF, reduceIte, reduceCtorEq, Nat.reduceEqDiff, Nat.reduceBEq, Nat.reduceAdd, Int.reduceLT, Int.reduceLE, Int.reduceEq, Int.reduceToNat, Int.reduceNeg, Nat.reduceLeDiff, Int.reducePow, implies_true, UInt8.reduceToNat, Int.reduceSub, Int.reduceAdd, Nat.reduceLT, Nat.reduceMul, Nat.reduceSub, Nat.reduceBNe]
    refine bo_some ?_
    simp only [kidsP]
    grind
  by_cases k12 : kind = 12
  · subst k12
    simp +contextual -implicitDefEqProofs (maxSteps := 1000000) (maxDischargeDepth := 8) only [F_r06_kids, Nd.cells, ints_len, c1, e1, zza, argsF, reduceIte, reduceCtorEq, Nat.reduceEqDiff, Nat.reduceBEq, Nat.reduceAdd, Int.reduceLT, Int.reduceLE, Int.reduceEq, Int.reduceToNat, Int.reduceNeg, Nat.reduceLeDiff, Int.reducePow, implies_true, UInt8.reduceToNat, Int.reduceSub, Int.reduceAdd, Nat.reduceLT, Nat.reduceMul, Nat.reduceSub, Nat.reduceBNe]
    refine bo_some ?_
    simp only [kidsP]
    grind
  by_cases k13 : kind = 13
  · subst k13
    simp +contextual -implicitDefEqProofs (maxSteps := 1000000) (maxDischargeDepth := 8) only [F_r06_kids, Nd.cells, ints_len, c1, e1, zza, argsF, reduceIte, reduceCtorEq, Nat.reduceEqDiff, Nat.reduceBEq, Nat.reduceAdd, Int.reduceLT, Int.reduceLE, Int.reduceEq, Int.reduceToNat, Int.reduceNeg, Nat.reduceLeDiff, Int.reducePow, implies_true, UInt8.reduceToNat, Int.reduceSub, Int.reduceAdd, Nat.reduceLT, Nat.reduceMul, Nat.reduceSub, Nat.reduceBNe]
    refine bo_some ?_
    simp only [kidsP]
    grind
  by_cases k20 : kind = 20
  · subst k20
    simp +contextual -implicitDefEqProofs (maxSteps := 1000000) (maxDischargeDepth := 8) only [F_r06_kids, Nd.cells, ints_len, c1, e1, zza, argsF, reduceIte, reduceCtorEq, Nat.reduceEqDiff, Nat.reduceBEq, Nat.reduceAdd, Int.reduceLT, Int.reduceLE, Int.reduceEq, Int.reduceToNat, Int.reduceNeg, Nat.reduceLeDiff, Int.reducePow, implies_true, UInt8.reduceToNat, Int.reduceSub, Int.reduceAdd, Nat.reduceLT, Nat.reduceMul, Nat.reduceSub, Nat.reduceBNe]
    refine bo_some ?_
    simp only [kidsP]
    grind
  by_cases k21 : kind = 21
  · subst k21
    simp +contextual -implicitDefEqProofs (maxSteps := 1000000) (maxDischargeDepth := 8) only [F_r06_kids, Nd.cells, ints_len, c1, e1, zza, argsF, reduceIte, reduceCtorEq, Nat.reduceEqDiff, Nat.reduceBEq, Nat.reduceAdd, Int.reduceLT, Int.reduceLE, Int.reduceEq, Int.reduceToNat, Int.reduceNeg, Nat.reduceLeDiff, Int.reducePow, implies_true, UInt8.reduceToNat, Int.reduceSub, Int.reduceAdd, Nat.reduceLT, Nat.reduceMul, Nat.reduceSub, Nat.reduceBNe]
    refine bo_some ?_
    simp only [kidsP]
    grind
  by_cases k11 : kind = 11
  · subst k11
    simp +contextual -implicitDefEqProofs (maxSteps := 1000000) (maxDischargeDepth := 8) only [F_r06_kids, Nd.cells, ints_len, c8, ek, zza, argsF, reduceIte, reduceCtorEq, Nat.reduceEqDiff, Nat.reduceBEq, Nat.reduceAdd, Int.reduceLT, Int.reduceLE, Int.reduceEq, Int.reduceToNat, Int.reduceNeg, Nat.reduceLeDiff, Int.reducePow, implies_true, UInt8.reduceToNat, Int.reduceSub, Int.reduceAdd, Nat.reduceLT, Nat.reduceMul, Nat.reduceSub, Nat.reduceBNe]
    refine bo_some ?_
    simp only [kidsP]
    grind
  by_cases k26 : kind = 26
  · subst k26
    simp +contextual -implicitDefEqProofs (maxSteps := 1000000) (maxDischargeDepth := 8) only [F_r06_kids, Nd.cells, ints_len, a5, zza, argsF, reduceIte, reduceCtorEq, Nat.reduceEqDiff, Nat.reduceBEq, Nat.reduceAdd, Int.reduceLT, Int.reduceLE, Int.reduceEq, Int.reduceToNat, Int.reduceNeg, Nat.reduceLeDiff, Int.reducePow, implies_true, UInt8.reduceToNat, Int.reduceSub, Int.reduceAdd, Nat.reduceLT, Nat.reduceMul, Nat.reduceSub, Nat.reduceBNe]
    refine bo_some ?_
    simp only [kidsP]
    grind
  by_cases k23 : kind = 23
  · subst k23
    simp +contextual -implicitDefEqProofs (maxSteps := 1000000) (maxDischargeDepth := 8) only [F_r06_kids, Nd.cells, ints_len, zza, argsF, reduceIte, reduceCtorEq, Nat.reduceEqDiff, Nat.reduceBEq, Nat.reduceAdd, Int.reduceLT, Int.reduceLE, Int.reduceEq, Int.reduceToNat, Int.reduceNeg, Nat.reduceLeDiff, Int.reducePow, implies_true, UInt8.reduceToNat, Int.reduceSub, Int.reduceAdd, Nat.reduceLT, Nat.reduceMul, Nat.reduceSub, Nat.reduceBNe]
    subst hL
    generalize hX : exec _ (.loop F_r06_kids_l0) _ _ = X
    obtain ⟨o, rfl, h⟩ := looped hX (kids_loop (l := l) (k := kids) (t1 := t1) (t2 := 0) (nl1 := nl1) (nl2 := nl) hv hl (by simp only [zzf, Nat.reduceBEq ]) (by simp only [zzf, Nat.reduceBEq ]) (by simp only [zzf, Nat.reduceBEq ]) (by simp only [zzf, Nat.reduceBEq ]))
    rcases h with ⟨h, fr', rfl, h2, hd⟩ | ⟨h, fr', rfl, hd⟩
    · simp +contextual -implicitDefEqProofs (maxSteps := 1000000) (maxDischargeDepth := 8) only [h2, hd, zza, argsF, reduceIte, reduceCtorEq, Nat.reduceEqDiff, Nat.reduceBEq, Nat.reduceAdd, Int.reduceLT, Int.reduceLE, Int.reduceEq, Int.reduceToNat, Int.reduceNeg, Nat.reduceLeDiff, Int.reducePow, implies_true, UInt8.reduceToNat, Int.reduceSub, Int.reduceAdd, Nat.reduceLT, Nat.reduceMul, Nat.reduceSub, Nat.reduceBNe]
      refine congrArg some (ff_bo fun q => h ?_)
      simp only [kidsP] at q
      grind
    · simp +contextual -implicitDefEqProofs (maxSteps := 1000000) (maxDischargeDepth := 8) only [hd, zza, argsF, reduceIte, reduceCtorEq, Nat.reduceEqDiff, Nat.reduceBEq, Nat.reduceAdd, Int.reduceLT, Int.reduceLE, Int.reduceEq, Int.reduceToNat, Int.reduceNeg, Nat.reduceLeDiff, Int.reducePow, implies_true, UInt8.reduceToNat, Int.reduceSub, Int.reduceAdd, Nat.reduceLT, Nat.reduceMul, Nat.reduceSub, Nat.reduceBNe]
      refine congrArg some (tt_bo ?_)
      simp only [kidsP]
      grind
  by_cases k22 : kind = 22
  · subst k22
    by_cases h1 : kids.length = 1
    · obtain ⟨x, rfl⟩ : ∃ x, kids = [x] := List.length_eq_one_iff.1 h1
      obtain ⟨x0, x1⟩ := hv x (by simp)
      obtain ⟨d, hd1, hd2⟩ := node_at x0 x1
      have hix := idx_int (k := .i64) x0 x1
      have hg : ([x] : List Int)[0]? = some x := rfl
      have hlt : 0 < ([x] : List Int).length := Nat.zero_lt_one
      have c1' : (([x] : List Int).length : Int) = 1 := rfl
      simp +contextual -implicitDefEqProofs (maxSteps := 1000000) (maxDischargeDepth := 8) only [F_r06_kids, Nd.cells, ints_len, c1', hg, hlt, idx_lit0, ints_get, nds_get, nds_len, hix, hd1, zza, argsF, reduceIte, reduceCtorEq, Nat.reduceEqDiff, Nat.reduceBEq, Nat.reduceAdd, Int.reduceLT, Int.reduceLE, Int.reduceEq, Int.reduceToNat, Int.reduceNeg, Nat.reduceLeDiff, Int.reducePow, implies_true, UInt8.reduceToNat, Int.reduceSub, Int.reduceAdd, Nat.reduceLT, Nat.reduceMul, Nat.reduceSub, Nat.reduceBNe]
      refine bo_some ?_
      simp only [kidsP]
      rw [← hd2]; simp
    · simp +contextual -implicitDefEqProofs (maxSteps := 1000000) (maxDischargeDepth := 8) only [F_r06_kids, Nd.cells, ints_len, c1, h1, zza, argsF, reduceIte, reduceCtorEq, Nat.reduceEqDiff, Nat.reduceBEq, Nat.reduceAdd, Int.reduceLT, Int.reduceLE, Int.reduceEq, Int.reduceToNat, Int.reduceNeg, Nat.reduceLeDiff, Int.reducePow, implies_true, UInt8.reduceToNat, Int.reduceSub, Int.reduceAdd, Nat.reduceLT, Nat.reduceMul, Nat.reduceSub, Nat.reduceBNe]
      refine congrArg some (ff_bo fun q => h1 ?_)
      simp only [kidsP] at q
      grind
  have s1 : 1 ≤ kids.length → bound (some (.int .i64 1)) 0 kids.length = some 1 := fun h => bound_cast (i := 1) h
  have s2 : 2 ≤ kids.length → bound (some (.int .i64 2)) 0 kids.length = some 2 := fun h => bound_cast (i := 2) h
  have sn : bound none kids.length kids.length = some kids.length := rfl
  have st : (ints kids).take kids.length = ints kids := List.take_of_length_le (by rw [ints_len]; omega)
  have g1 : (2 ≤ kids.length) → 1 ≤ kids.length := by omega
  have g2 : (kids.length = 2) → 1 ≤ kids.length := by omega
  have g3 : (kids.length = 3) → 2 ≤ kids.length := by omega
  by_cases k15 : kind = 15
  · subst k15
    by_cases hk : 1 ≤ kids.length
    · have sb := s1 hk
      simp +contextual -implicitDefEqProofs (maxSteps := 1000000) (maxDischargeDepth := 8) only [F_r06_kids, Nd.cells, ints_len, ints_drop, d2, e1, a2, sb, sn, st, zza, argsF, reduceIte, reduceCtorEq, Nat.reduceEqDiff, Nat.reduceBEq, Nat.reduceAdd, Int.reduceLT, Int.reduceLE, Int.reduceEq, Int.reduceToNat, Int.reduceNeg, Nat.reduceLeDiff, Int.reducePow, implies_true, UInt8.reduceToNat, Int.reduceSub, Int.reduceAdd, Nat.reduceLT, Nat.reduceMul, Nat.reduceSub, Nat.reduceBNe]
      refine bo_some ?_
      simp only [kidsP]
      grind
    · have hne : ¬ exprsP l kids 1 := fun q => hk q.1
      simp +contextual -implicitDefEqProofs (maxSteps := 1000000) (maxDischargeDepth := 8) only [F_r06_kids, Nd.cells, ints_len, d2, e1, a2, hne, zza, argsF, reduceIte, reduceCtorEq, Nat.reduceEqDiff, Nat.reduceBEq, Nat.reduceAdd, Int.reduceLT, Int.reduceLE, Int.reduceEq, Int.reduceToNat, Int.reduceNeg, Nat.reduceLeDiff, Int.reducePow, implies_true, UInt8.reduceToNat, Int.reduceSub, Int.reduceAdd, Nat.reduceLT, Nat.reduceMul, Nat.reduceSub, Nat.reduceBNe]
      refine congrArg some (ff_bo fun q => ?_)
      simp only [kidsP] at q
      grind
  by_cases k16 : kind = 16
  · subst k16
    by_cases hk : kids.length = 2
    · have sb : bound (some (.int .i64 1)) 0 2 = some 1 := rfl
      have sn : bound none 2 2 = some 2 := rfl
      have st : (ints kids).take 2 = ints kids := List.take_of_length_le (by rw [ints_len]; omega)
      simp +contextual -implicitDefEqProofs (maxSteps := 1000000) (maxDischargeDepth := 8) only [F_r06_kids, Nd.cells, ints_len, ints_drop, hk, e1, a1, sb, sn, st, c2, zza, argsF, reduceIte, reduceCtorEq, Nat.reduceEqDiff, Nat.reduceBEq, Nat.reduceAdd, Int.reduceLT, Int.reduceLE, Int.reduceEq, Int.reduceToNat, Int.reduceNeg, Nat.reduceLeDiff, Int.reducePow, implies_true, UInt8.reduceToNat, Int.reduceSub, Int.reduceAdd, Nat.reduceLT, Nat.reduceMul, Nat.reduceSub, Nat.reduceBNe]
      refine bo_some ?_
      simp only [kidsP]
      grind
    · simp +contextual -implicitDefEqProofs (maxSteps := 1000000) (maxDischargeDepth := 8) only [F_r06_kids, Nd.cells, ints_len, e1, c2, hk, zza, argsF, reduceIte, reduceCtorEq, Nat.reduceEqDiff, Nat.reduceBEq, Nat.reduceAdd, Int.reduceLT, Int.reduceLE, Int.reduceEq, Int.reduceToNat, Int.reduceNeg, Nat.reduceLeDiff, Int.reducePow, implies_true, UInt8.reduceToNat, Int.reduceSub, Int.reduceAdd, Nat.reduceLT, Nat.reduceMul, Nat.reduceSub, Nat.reduceBNe]
      refine congrArg some (ff_bo fun q => ?_)
      simp only [kidsP] at q
      grind
  by_cases k17 : kind = 17
  · subst k17
    by_cases hk : kids.length = 3
    · have sb : bound (some (.int .i64 2)) 0 3 = some 2 := rfl
      have sn : bound none 3 3 = some 3 := rfl
      have st : (ints kids).take 3 = ints kids := List.take_of_length_le (by rw [ints_len]; omega)
      simp +contextual -implicitDefEqProofs (maxSteps := 1000000) (maxDischargeDepth := 8) only [F_r06_kids, Nd.cells, ints_len, ints_drop, hk, e2, a3, sb, sn, st, c3, zza, argsF, reduceIte, reduceCtorEq, Nat.reduceEqDiff, Nat.reduceBEq, Nat.reduceAdd, Int.reduceLT, Int.reduceLE, Int.reduceEq, Int.reduceToNat, Int.reduceNeg, Nat.reduceLeDiff, Int.reducePow, implies_true, UInt8.reduceToNat, Int.reduceSub, Int.reduceAdd, Nat.reduceLT, Nat.reduceMul, Nat.reduceSub, Nat.reduceBNe]
      refine bo_some ?_
      simp only [kidsP]
      grind
    · simp +contextual -implicitDefEqProofs (maxSteps := 1000000) (maxDischargeDepth := 8) only [F_r06_kids, Nd.cells, ints_len, e2, c3, hk, zza, argsF, reduceIte, reduceCtorEq, Nat.reduceEqDiff, Nat.reduceBEq, Nat.reduceAdd, Int.reduceLT, Int.reduceLE, Int.reduceEq, Int.reduceToNat, Int.reduceNeg, Nat.reduceLeDiff, Int.reducePow, implies_true, UInt8.reduceToNat, Int.reduceSub, Int.reduceAdd, Nat.reduceLT, Nat.reduceMul, Nat.reduceSub, Nat.reduceBNe]
      refine congrArg some (ff_bo fun q => ?_)
      simp only [kidsP] at q
      grind
  by_cases k25 : kind = 25
  · subst k25
    by_cases hk : 1 ≤ kids.length
    · have hlt : kids.length - 1 < kids.length := by omega
      have hg : kids[kids.length - 1]? = some kids[kids.length - 1] := List.getElem?_eq_getElem hlt
      obtain ⟨x0, x1⟩ := hv kids[kids.length - 1] (List.getElem_mem hlt)
      obtain ⟨d, hd1, hd2⟩ := node_at x0 x1
      have hix := idx_int (k := .i64) x0 x1
      have hw : IntKind.i64.wrap ((kids.length : Int) - 1) = ((kids.length - 1 : Nat) : Int) := by rw [wrap_i64 (by omega) (by omega)]; omega
      have sb : bound (some (.int .i64 ((kids.length - 1 : Nat) : Int))) kids.length kids.length = some (kids.length - 1) := bound_cast (by omega)
      have s0 : ∀ n, bound none 0 n = some 0 := fun _ => rfl
      have hk' : (1 : Int) ≤ (kids.length : Int) := by omega
      simp +contextual -implicitDefEqProofs (maxSteps := 1000000) (maxDischargeDepth := 8) only [F_r06_kids, Nd.cells, ints_len, ints_take, hk', hw, hg, hlt, sb, s0, a4, idx_cast, ints_get, nds_get, nds_len, hix, hd1, List.drop_zero, zza, argsF, reduceIte, reduceCtorEq, Nat.reduceEqDiff, Nat.reduceBEq, Nat.reduceAdd, Int.reduceLT, Int.reduceLE, Int.reduceEq, Int.reduceToNat, Int.reduceNeg, Nat.reduceLeDiff, Int.reducePow, implies_true, UInt8.reduceToNat, Int.reduceSub, Int.reduceAdd, Nat.reduceLT, Nat.reduceMul, Nat.reduceSub, Nat.reduceBNe]
      refine bo_some ?_
      simp only [kidsP]
      rw [← hd2, List.getLast?_eq_getElem?, hg]; simp [hk]
    · have hk' : ¬ (1 : Int) ≤ (kids.length : Int) := by omega
      simp +contextual -implicitDefEqProofs (maxSteps := 1000000) (maxDischargeDepth := 8) only [F_r06_kids, Nd.cells, ints_len, hk', zza, argsF, reduceIte, reduceCtorEq, Nat.reduceEqDiff, Nat.reduceBEq, Nat.reduceAdd, Int.reduceLT, Int.reduceLE, Int.reduceEq, Int.reduceToNat, Int.reduceNeg, Nat.reduceLeDiff, Int.reducePow, implies_true, UInt8.reduceToNat, Int.reduceSub, Int.reduceAdd, Nat.reduceLT, Nat.reduceMul, Nat.reduceSub, Nat.reduceBNe]
      refine congrArg some (ff_bo fun q => ?_)
      simp only [kidsP] at q
      grind
  simp +contextual -implicitDefEqProofs (maxSteps := 1000000) (maxDischargeDepth := 8) only [F_r06_kids, Nd.cells, ints_len, c0, k5, k8, k14, k6, k7, k9, k10, k12, k13, k20, k21, k11, k26, k23, k22, k15, k16, k17, k25, zza, argsF, reduceIte, reduceCtorEq, Nat.reduceEqDiff, Nat.reduceBEq, Nat.reduceAdd, Int.reduceLT, Int.reduceLE, Int.reduceEq, Int.reduceToNat, Int.reduceNeg, Nat.reduceLeDiff, Int.reducePow, implies_true, UInt8.reduceToNat, Int.reduceSub, Int.reduceAdd, Nat.reduceLT, Nat.reduceMul, Nat.reduceSub, Nat.reduceBNe]
  refine bo_some ?_
  simp only [kidsP]
  grind
end Go.Proofs.YtblcomejcahkdaaDoor.Ev
end
section
namespace Go.Proofs.YtblcomejcahkdaaDoor.Ev
open Go
set_option maxRecDepth 10000
set_option maxHeartbeats 4000000
theorem highF_more {l : List Nd} (hk : kidsLt l) : ∀ (f i : Nat), i < f → highF l f i = highN l i := by
  have key : ∀ (i f g : Nat), i < f → i < g → highF l f i = highF l g i := by
    intro i
    induction i using Nat.strongRecOn with
    | _ i ih =>
      intro f g hf hg
      obtain ⟨f, rfl⟩ : ∃ f', f = f' + 1 := ⟨f - 1, by omega⟩
      obtain ⟨g, rfl⟩ : ∃ g', g = g' + 1 := ⟨g - 1, by omega⟩
      simp only [highF]
      cases hd : l[i]? with
      | none => rfl
      | some d =>
        simp only
        have hx := hk i d hd
        generalize d.kids = ks at hx
        have : ∀ (ks : List Int) (a : Nat), (∀ x ∈ ks, 0 ≤ x ∧ x < (i : Int)) → ks.foldl (fun h x => max h (1 + highF l f x.toNat)) a = ks.foldl (fun h x => max h (1 + highF l g x.toNat)) a := by
          intro ks
          induction ks with
          | nil => intro a _; rfl
          | cons x ks ihk =>
            intro a h
            have := h x (by simp)
            rw [List.foldl_cons, List.foldl_cons, ih x.toNat (by omega) f g (by omega) (by omega)]
            exact ihk _ fun y hy => h y (by simp [hy])
        exact this ks 1 hx
  intro f i h
  exact key i f (i + 1) h (by omega)
theorem highN_eq {l : List Nd} (hk : kidsLt l) {i : Nat} {d : Nd} (hd : l[i]? = some d) : highN l i = d.kids.foldl (fun h x => max h (1 + highN l x.toNat)) 1 := by
  unfold highN
  rw [highF]
  simp only [hd]
  have hx := hk i d hd
  generalize d.kids = ks at hx
  have : ∀ (ks : List Int) (a : Nat), (∀ x ∈ ks, 0 ≤ x ∧ x < (i : Int)) → ks.foldl (fun h x => max h (1 + highF l i x.toNat)) a = ks.foldl (fun h x => max h (1 + highF l (x.toNat + 1) x.toNat)) a := by
    intro ks
    induction ks with
    | nil => intro a _; rfl
    | cons x ks ihk =>
      intro a h
      have := h x (by simp)
      rw [List.foldl_cons, List.foldl_cons, highF_more hk i x.toNat (by omega)]
      exact ihk _ fun y hy => h y (by simp [hy])
  exact this ks 1 hx
theorem highN_le {l : List Nd} (hk : kidsLt l) : ∀ i, highN l i ≤ i + 1 := by
  intro i
  induction i using Nat.strongRecOn with
  | _ i ih =>
    cases hd : l[i]? with
    | none => unfold highN highF; rw [hd]; simp
    | some d =>
      rw [highN_eq hk hd]
      have hx := hk i d hd
      generalize d.kids = ks at hx
      have : ∀ (ks : List Int) (a : Nat), a ≤ i + 1 → (∀ x ∈ ks, 0 ≤ x ∧ x < (i : Int)) → ks.foldl (fun h x => max h (1 + highN l x.toNat)) a ≤ i + 1 := by
        intro ks
        induction ks with
        | nil => intro a h _; exact h
        | cons x ks ihk =>
          intro a ha h
          have h1 := h x (by simp)
          have h2 := ih x.toNat (by omega)
          rw [List.foldl_cons]
          exact ihk _ (by omega) fun y hy => h y (by simp [hy])
      exact this ks 1 (by omega) hx
theorem height_loop {l : List Nd} {t : Nat} {nl : Bool} {i : Nat} {d : Nd} (hk : kidsLt l) (hl : l.length < 1000000) (hd0 : l[i]? = some d) (hkl : d.kids.length < 1000000000) (ih : ∀ j : Nat, j < i → pureR B K n_r06_Height [row nl 1 5 (nds l), .int .i64 (j : Int)] = some (.int .i64 (highN l j : Int))) {m0 : Mem} {fr : Fr} (h0 : fr.get 0 = row nl t 5 (nds l)) (h1 : fr.get 1 = .int .i64 (i : Int)) (h5 : fr.get 5 = .int .i64 1) (h6 : fr.get 6 = .int .i64 0) (hd : fr.defers = []) :
    ∃ o, exec U (.loop F_r06_Height_l0) fr m0 = some o ∧ ∃ fr', o = .exit 0 fr' m0 ∧ fr'.get 5 = .int .i64 (highN l i : Int) ∧ fr'.defers = [] := by
  have hxs := hk i d hd0
  have hil : i < l.length := (List.getElem?_eq_some_iff.1 hd0).1
  have hmax : ∀ (ks : List Int) (a : Nat), (∀ x ∈ ks, 0 ≤ x ∧ x < (i : Int)) → a ≤ i + 1 → ks.foldl (fun h x => max h (1 + highN l x.toNat)) a ≤ i + 1 := by
    intro ks
    induction ks with
    | nil => intro a _ h; exact h
    | cons x ks ihk =>
      intro a h ha
      have h1 := h x (by simp)
      have h2 := highN_le hk x.toNat
      rw [List.foldl_cons]
      exact ihk _ (fun y hy => h y (by simp [hy])) (by omega)
  refine loop_w (σ := Nat) (fun j fr m => m = m0 ∧ j ≤ d.kids.length ∧ fr.get 0 = row nl t 5 (nds l) ∧ fr.get 1 = .int .i64 (i : Int) ∧ fr.get 5 = .int .i64 (((d.kids.take j).foldl (fun h x => max h (1 + highN l x.toNat)) 1 : Nat) : Int) ∧ fr.get 6 = .int .i64 (j : Int) ∧ fr.defers = []) (fun j => d.kids.length - j) _ ?_ 0 fr m0 ⟨rfl, Nat.zero_le _, h0, h1, by simpa using h5, h6, hd⟩
  rintro j fr m ⟨rfl, hj, h0, h1, h5, h6, hd⟩
  generalize hX : exec U F_r06_Height_l0 fr m = X
  by_cases hlt : j < d.kids.length
  · have hc : (j : Int) < (d.kids.length : Int) := by omega
    have hg : d.kids[j]? = some d.kids[j] := List.getElem?_eq_getElem hlt
    obtain ⟨x0, x1⟩ := hxs d.kids[j] (List.getElem_mem hlt)
    have hih := ih d.kids[j].toNat (by omega)
    have hfl : (d.kids.take (j + 1)).foldl (fun h x => max h (1 + highN l x.toNat)) 1 = max ((d.kids.take j).foldl (fun h x => max h (1 + highN l x.toNat)) 1) (1 + highN l d.kids[j].toNat) := by
      rw [List.take_succ_eq_append_getElem hlt, List.foldl_append]; rfl
    have hle := hmax (d.kids.take j) 1 (fun x hx => hxs x (List.mem_of_mem_take hx)) (by omega)
    have hle2 := highN_le hk d.kids[j].toNat
    have hxx : ((d.kids[j].toNat : Nat) : Int) = d.kids[j] := Int.toNat_of_nonneg x0
    rw [hxx] at hih
    generalize d.kids[j] = x at *
    generalize hA : (d.kids.take j).foldl (fun h x => max h (1 + highN l x.toNat)) 1 = A at *
    have hw1 := wrap_succ (i := j) (by omega)
    have hw2 : IntKind.i64.wrap (1 + (highN l x.toNat : Int)) = ((1 + highN l x.toNat : Nat) : Int) := by rw [wrap_i64 (by omega) (by omega)]; omega
    have hmx : evMax [.int .i64 (A : Int), .int .i64 ((1 + highN l x.toNat : Nat) : Int)] = some (.int .i64 ((max A (1 + highN l x.toNat) : Nat) : Int)) := by
      simp only [evMax, maxFrom, Nat.beq_refl, cond_true]
      congr 2
      split <;> omega
    simp +contextual -implicitDefEqProofs (maxSteps := 1000000) (maxDischargeDepth := 8) only [F_r06_Height_l0, h0, h1, h5, h6, hd, hd0, hil, hc, hg, hlt, hw1, hw2, hmx, idx_cast, ints_get, ints_len, nds_get, nds_len, Nd.cells, hih, zza, argsF, reduceIte, reduceCtorEq, Nat.reduceEqDiff, Nat.reduceBEq, Nat.reduceAdd, Int.reduceLT, Int.reduceLE, Int.reduceEq, Int.reduceToNat, Int.reduceNeg, Nat.reduceLeDiff, Int.reducePow, implies_true, UInt8.reduceToNat, Int.reduceSub, Int.reduceAdd, Nat.reduceLT, Nat.reduceMul, Nat.reduceSub, Nat.reduceBNe] at hX
    subst hX
    exact lw_norm (j + 1) (by omega) ⟨rfl, hlt, by simp only [h0, zzf, Nat.reduceBEq ], by simp only [h1, zzf, Nat.reduceBEq ], by simp only [hfl, zzf, Nat.reduceBEq ], by simp only [zzf, Nat.reduceBEq ], by simp only [hd, zzf, Nat.reduceBEq ]⟩
  · have hc : ¬ ((j : Int) < (d.kids.length : Int)) := by omega
    rw [List.take_of_length_le (by omega), ← highN_eq hk hd0] at h5
    simp +contextual -implicitDefEqProofs (maxSteps := 1000000) (maxDischargeDepth := 8) only [F_r06_Height_l0, h0, h1, h5, h6, hd, hd0, hil, hc, idx_cast, ints_len, nds_get, nds_len, Nd.cells, zza, argsF, reduceIte, reduceCtorEq, Nat.reduceEqDiff, Nat.reduceBEq, Nat.reduceAdd, Int.reduceLT, Int.reduceLE, Int.reduceEq, Int.reduceToNat, Int.reduceNeg, Nat.reduceLeDiff, Int.reducePow, implies_true, UInt8.reduceToNat, Int.reduceSub, Int.reduceAdd, Nat.reduceLT, Nat.reduceMul, Nat.reduceSub, Nat.reduceBNe] at hX
    subst hX
    exact lw_exit ⟨_, rfl, by simp only [h5, zzf, Nat.reduceBEq ], by simp only [hd, zzf, Nat.reduceBEq ]⟩
theorem height_eq {l : List Nd} {nl : Bool} (hk : kidsLt l) (hl : l.length < 1000000) (hkl : ∀ d ∈ l, d.kids.length < 1000000000) : ∀ i : Nat, i < l.length → ∀ t, pureR B K n_r06_Height [row nl t 5 (nds l), .int .i64 (i : Int)] = some (.int .i64 (highN l i : Int)) := by
  intro i
  induction i using Nat.strongRecOn with
  | _ i ih =>
    intro hil t
    have hd0 : l[i]? = some l[i] := List.getElem?_eq_getElem hil
    rw [pure_at (by simp [F_r06_Height])]
    generalize hL : exec (UT B K) (ICode.loop F_r06_Height_l0) = L
    simp +contextual -implicitDefEqProofs (maxSteps := 1000000) (maxDischargeDepth := 8) only [F_r06_Height, zza, argsF, reduceIte, reduceCtorEq, Nat.reduceEqDiff, Nat.reduceBEq, Nat.reduceAdd, Int.reduceLT, Int.reduceLE, Int.reduceEq, Int.reduceToNat, Int.reduceNeg, Nat.reduceLeDiff, Int.reducePow, implies_true, UInt8.reduceToNat, Int.reduceSub, Int.reduceAdd, Nat.reduceLT, Nat.reduceMul, Nat.reduceSub, Nat.reduceBNe]
    subst hL
    generalize hX : exec _ (.loop F_r06_Height_l0) _ _ = X
    obtain ⟨o, rfl, fr', rfl, h5, hd⟩ := looped hX (height_loop (l := l) (t := t) (nl := nl) (i := i) hk hl hd0 (hkl _ (List.getElem_mem hil)) (fun j hj => ih j hj (by omega) 1) (by simp only [zzf, Nat.reduceBEq ]) (by simp only [zzf, Nat.reduceBEq ]) (by simp only [zzf, Nat.reduceBEq ]) (by simp only [zzf, Nat.reduceBEq ]) (by simp only [zzf, Nat.reduceBEq ]))
    simp +contextual -implicitDefEqProofs (maxSteps := 1000000) (maxDischargeDepth := 8) only [h5, hd, zza, argsF, reduceIte, reduceCtorEq, Nat.reduceEqDiff, Nat.reduceBEq, Nat.reduceAdd, Int.reduceLT, Int.reduceLE, Int.reduceEq, Int.reduceToNat, Int.reduceNeg, Nat.reduceLeDiff, Int.reducePow, implies_true, UInt8.reduceToNat, Int.reduceSub, Int.reduceAdd, Nat.reduceLT, Nat.reduceMul, Nat.reduceSub, Nat.reduceBNe]
end Go.Proofs.YtblcomejcahkdaaDoor.Ev
end
section
namespace Go.Proofs.YtblcomejcahkdaaDoor.Ev
open Go
theorem len_of_sub {α : Type} [DecidableEq α] : ∀ {a b : List α}, a.Nodup → (∀ x ∈ a, x ∈ b) → a.length ≤ b.length
  | [], b, _, _ => Nat.zero_le _
  | x :: a, b, h, hs => by
    rw [List.nodup_cons] at h
    have h1 := len_of_sub (b := b.erase x) h.2 fun y hy => by
      have hne : y ≠ x := by rintro rfl; exact h.1 hy
      exact (List.mem_erase_of_ne hne).2 (hs y (by simp [hy]))
    have h2 := List.length_erase_of_mem (hs x (by simp))
    have h3 := List.length_pos_of_mem (hs x (by simp))
    rw [List.length_cons]
    omega
def upto (n : Nat) : List Int := (List.range n).map fun (j : Nat) => (j : Int)
theorem upto_len {n : Nat} : (upto n).length = n := by simp [upto]
theorem upto_mem {n : Nat} {x : Int} : x ∈ upto n ↔ 0 ≤ x ∧ x < (n : Int) := by
  unfold upto
  rw [List.mem_map]
  constructor
  · rintro ⟨j, hj, rfl⟩; have := List.mem_range.1 hj; omega
  · rintro ⟨h1, h2⟩; exact ⟨x.toNat, List.mem_range.2 (by omega), by omega⟩
theorem upto_nodup {n : Nat} : (upto n).Nodup := by
  unfold upto
  induction n with
  | zero => simp
  | succ n ih =>
    rw [List.range_succ, List.map_append, List.nodup_append]
    refine ⟨ih, by simp, fun a ha b hb => ?_⟩
    rw [List.mem_map] at ha
    obtain ⟨j, hj, rfl⟩ := ha
    have := List.mem_range.1 hj
    simp at hb
    omega
theorem usedL_mem {l : List Nd} {x : Int} : x ∈ usedL l ↔ ∃ (i : Nat) (d : Nd), l[i]? = some d ∧ x ∈ d.kids := by
  unfold usedL
  rw [List.mem_flatten]
  constructor
  · rintro ⟨k, hk, hx⟩
    obtain ⟨d, hd, rfl⟩ := List.mem_map.1 hk
    obtain ⟨i, hi⟩ := List.mem_iff_getElem?.1 hd
    exact ⟨i, d, hi, hx⟩
  · rintro ⟨i, d, hi, hx⟩
    exact ⟨d.kids, List.mem_map.2 ⟨d, List.mem_iff_getElem?.2 ⟨i, hi⟩, rfl⟩, hx⟩
theorem kids_few {i : Nat} {ks : List Int} (h : ∀ x ∈ ks, 0 ≤ x ∧ x < (i : Int)) (hn : ks.Nodup) : ks.length ≤ i := by
  have := len_of_sub (b := upto i) hn fun x hx => upto_mem.2 (h x hx)
  rwa [upto_len] at this
theorem used_few {l : List Nd} {i : Nat} (h : ∀ (j : Nat) (d : Nd), j < i → l[j]? = some d → ∀ x ∈ d.kids, 0 ≤ x ∧ x < (j : Int)) : ∀ x ∈ usedL (l.take i), 0 ≤ x ∧ x < (i : Int) := by
  intro x hx
  obtain ⟨j, d, hj, hxd⟩ := usedL_mem.1 hx
  rw [List.getElem?_take] at hj
  split at hj
  · have := h j d ‹_› hj x hxd; omega
  · cases hj
end Go.Proofs.YtblcomejcahkdaaDoor.Ev
end
section
namespace Go.Proofs.YtblcomejcahkdaaDoor.Ev
open Go
set_option maxRecDepth 10000
set_option maxHeartbeats 4000000
theorem ints_snoc (l : List Int) (x : Int) : (ints (l ++ [x])).flatten = (ints l).flatten ++ [.int .i64 x] := by rw [ints_flat, ints_flat]; simp
theorem right_l0 {l : List Nd} {t : Nat} {nl : Bool} {i lo : Nat} {d : Nd} {u : List Int} (hd0 : l[i]? = some d) (hkl : d.kids.length ≤ 9223372036854775807) (hil2 : i < 100000) (hu0 : ∀ x ∈ u, 0 ≤ x ∧ x < (i : Int)) (hu : u.Nodup) {m0 : Mem} {fr : Fr} {v : EV} (h0 : fr.get 0 = row nl t 5 (nds l)) (h3 : fr.get 3 = v) (hown : Own m0 v (ints u).flatten u.length 1 lo) (hlo : lo ≤ m0.next) (h4 : fr.get 4 = .int .i64 (i : Int)) (h5 : fr.get 5 = .int .i64 0) (hd : fr.defers = []) :
    ∃ o, exec U (.loop F_r06_Right_l0) fr m0 = some o ∧ ((((∀ x ∈ d.kids, 0 ≤ x ∧ x < (i : Int)) ∧ (u ++ d.kids).Nodup) ∧ ∃ fr' m' v', o = .exit 2 fr' m' ∧ fr'.get 0 = row nl t 5 (nds l) ∧ fr'.get 3 = v' ∧ Own m' v' (ints (u ++ d.kids)).flatten (u ++ d.kids).length 1 lo ∧ lo ≤ m'.next ∧ fr'.get 4 = .int .i64 (i : Int) ∧ fr'.defers = []) ∨
      (¬ ((∀ x ∈ d.kids, 0 ≤ x ∧ x < (i : Int)) ∧ (u ++ d.kids).Nodup) ∧ ∃ fr' m', o = .ret fr' m' ∧ fr'.get 2 = .bool false ∧ fr'.defers = [])) := by
  have hil : i < l.length := (List.getElem?_eq_some_iff.1 hd0).1
  refine loop_w (σ := Nat) (fun j fr m => j ≤ d.kids.length ∧ fr.get 0 = row nl t 5 (nds l) ∧ (∃ v, fr.get 3 = v ∧ Own m v (ints (u ++ d.kids.take j)).flatten (u ++ d.kids.take j).length 1 lo) ∧ lo ≤ m.next ∧ (∀ x ∈ d.kids.take j, 0 ≤ x ∧ x < (i : Int)) ∧ (u ++ d.kids.take j).Nodup ∧ fr.get 4 = .int .i64 (i : Int) ∧ fr.get 5 = .int .i64 (j : Int) ∧ fr.defers = []) (fun j => d.kids.length - j) _ ?_ 0 fr m0
    ⟨Nat.zero_le _, h0, ⟨v, h3, by simpa using hown⟩, hlo, by simp, by simpa using hu, h4, h5, hd⟩
  rintro j fr m ⟨hj, h0, ⟨v, h3, hown⟩, hlo, hall, hnd, h4, h5, hd⟩
  generalize hX : exec U F_r06_Right_l0 fr m = X
  by_cases hlt : j < d.kids.length
  · have hc : (j : Int) < (d.kids.length : Int) := by omega
    have hg : d.kids[j]? = some d.kids[j] := List.getElem?_eq_getElem hlt
    have htk : d.kids.take (j + 1) = d.kids.take j ++ [d.kids[j]] := List.take_succ_eq_append_getElem hlt
    have hmem := List.getElem_mem hlt
    have hw1 := wrap_succ (i := j) (by omega)
    have hul' : (u ++ d.kids.take j).length < 600000000 := by
      have := kids_few (i := i) (fun x hx => (List.mem_append.1 hx).elim (hu0 x) (hall x)) hnd
      omega
    obtain ⟨nl2, hfz⟩ := hown.frz (by rw [ints_len]) (ints_els _) (ints_plain _)
    generalize hx : d.kids[j] = x at *
    have hhas := fun t2 nl2 => hasInt_eq (l := u ++ d.kids.take j) (t := t2) (nl := nl2) (x := x) (by omega)
    have hM : (ext m [.cells [EV.int .i64 x] 1 t_int false]).get (nb m.next 0) = .cells [EV.int .i64 x] 1 t_int false := by rw [get_ext_nb rfl (by simp)]; rfl
    obtain ⟨ha, hown'⟩ := append_grow (e := t_int) (hown.ext [.cells [EV.int .i64 x] 1 t_int false]) (by rw [next_ext]; unfold nb; omega) (source_at (cap := some 1) hM rfl) rfl (by decide) (by unfold room; omega)
    rw [next_ext, nb_nb] at ha
    generalize hG : grow _ v t_int 1 _ = M2 at ha hown'
    have hMn : lo ≤ M2.next := by rw [← hG, grow_next, next_ext]; unfold nb; omega
    simp +contextual -implicitDefEqProofs (maxSteps := 1000000) (maxDischargeDepth := 8) only [F_r06_Right_l0, h0, h3, h4, h5, hd, hd0, hil, hc, hg, hlt, hw1, idx_cast, ints_get, ints_len, nds_get, nds_len, Nd.cells, hfz, hhas, ha, zza, argsF, reduceIte, reduceCtorEq, Nat.reduceEqDiff, Nat.reduceBEq, Nat.reduceAdd, Int.reduceLT, Int.reduceLE, Int.reduceEq, Int.reduceToNat, Int.reduceNeg, Nat.reduceLeDiff, Int.reducePow, implies_true, UInt8.reduceToNat, Int.reduceSub, Int.reduceAdd, Nat.reduceLT, Nat.reduceMul, Nat.reduceSub, Nat.reduceBNe] at hX
    subst hX
    refine lw_iF (fun hp => lw_ret (Or.inr ⟨fun q => ?_, _, _, rfl, by simp only [zzf, Nat.reduceBEq ], by simp only [hd, zzf, Nat.reduceBEq ]⟩)) (fun hp => lw_norm (j + 1) (by omega) ⟨hlt, by simp only [h0, zzf, Nat.reduceBEq ], ⟨_, by simp only [zzf, Nat.reduceBEq ]; rfl, ?_⟩, hMn, ?_, ?_, by simp only [h4, zzf, Nat.reduceBEq ], by simp only [zzf, Nat.reduceBEq ], by simp only [hd, zzf, Nat.reduceBEq ]⟩)
    · have q1 := q.1 x hmem
      rcases hp with (hp | hp) | hp
      · omega
      · omega
      · have q2 : (u ++ d.kids.take j ++ [x]).Nodup := by
          rw [List.append_assoc, ← htk]
          exact List.Nodup.sublist (List.Sublist.append (List.Sublist.refl u) (List.take_sublist _ _)) q.2
        rw [List.nodup_append] at q2
        exact q2.2.2 x hp x (by simp) rfl
    · rw [htk, ← List.append_assoc, ints_snoc]
      simp only [List.length_append, List.length_cons, List.length_nil, next_ext, nb_nb, Nat.zero_add, Nat.add_zero] at hown' ⊢
      exact hown'
    · intro y hy
      rw [htk, List.mem_append] at hy
      rcases hy with hy | hy
      · exact hall y hy
      · rw [List.mem_singleton.1 hy]; omega
    · rw [htk, ← List.append_assoc, List.nodup_append]
      refine ⟨hnd, by simp, fun a ha2 b hb => ?_⟩
      rw [List.mem_singleton.1 hb]
      rintro rfl
      exact hp (.inr ha2)
  · have hc : ¬ ((j : Int) < (d.kids.length : Int)) := by omega
    have htk : d.kids.take j = d.kids := List.take_of_length_le (by omega)
    rw [htk] at hall hnd hown
    simp +contextual -implicitDefEqProofs (maxSteps := 1000000) (maxDischargeDepth := 8) only [F_r06_Right_l0, h0, h3, h4, h5, hd, hd0, hil, hc, idx_cast, ints_len, nds_get, nds_len, Nd.cells, zza, argsF, reduceIte, reduceCtorEq, Nat.reduceEqDiff, Nat.reduceBEq, Nat.reduceAdd, Int.reduceLT, Int.reduceLE, Int.reduceEq, Int.reduceToNat, Int.reduceNeg, Nat.reduceLeDiff, Int.reducePow, implies_true, UInt8.reduceToNat, Int.reduceSub, Int.reduceAdd, Nat.reduceLT, Nat.reduceMul, Nat.reduceSub, Nat.reduceBNe] at hX
    subst hX
    exact lw_exit (Or.inl ⟨⟨hall, hnd⟩, _, _, v, rfl, by simp only [h0, zzf, Nat.reduceBEq ], by simp only [h3, zzf, Nat.reduceBEq ], hown, hlo, by simp only [h4, zzf, Nat.reduceBEq ], by simp only [hd, zzf, Nat.reduceBEq ]⟩)
def rightTo (l : List Nd) (i : Nat) : Prop := (∀ (j : Nat) (d : Nd), j < i → l[j]? = some d → (∀ x ∈ d.kids, 0 ≤ x ∧ x < (j : Int)) ∧ ownP d ∧ kidsP l d) ∧ (usedL (l.take i)).Nodup
theorem usedL_snoc {l : List Nd} {i : Nat} {d : Nd} (h : l[i]? = some d) : usedL (l.take (i + 1)) = usedL (l.take i) ++ d.kids := by
  obtain ⟨h1, h2⟩ := List.getElem?_eq_some_iff.1 h
  unfold usedL
  rw [List.take_succ_eq_append_getElem h1, h2]; simp
theorem usedL_pre {l : List Nd} (i : Nat) : List.Sublist (usedL (l.take i)) (usedL l) := by
  unfold usedL
  conv => rhs; rw [← List.take_append_drop i l, List.map_append, List.flatten_append]
  exact List.sublist_append_left _ _
structure Small (l : List Nd) : Prop where
  len : l.length < 100000
  kids : ∀ d ∈ l, d.kids.length ≤ 9223372036854775807
  s : ∀ d ∈ l, d.s.length < 1000000
theorem kids_sub {l : List Nd} {d : Nd} (h : d ∈ l) : List.Sublist d.kids (usedL l) := by
  obtain ⟨i, hi⟩ := List.mem_iff_getElem?.1 h
  have h1 := usedL_snoc hi
  have h2 := usedL_pre (l := l) (i + 1)
  rw [h1] at h2
  exact (List.sublist_append_right _ _).trans h2
theorem kids_of {l : List Nd} (hk : kidsLt l) (hu : (usedL l).Nodup) {d : Nd} (h : d ∈ l) : d.kids.length ≤ l.length := by
  obtain ⟨i, hi⟩ := List.mem_iff_getElem?.1 h
  have h1 := kids_few (hk i d hi) (hu.sublist (kids_sub h))
  have := (List.getElem?_eq_some_iff.1 hi).1
  omega
theorem right_l1 {l : List Nd} {t : Nat} {nl : Bool} (hs : Small l) {m0 : Mem} {fr : Fr} {v : EV} {lo : Nat} (h0 : fr.get 0 = row nl t 5 (nds l)) (h3 : fr.get 3 = v) (hown : Own m0 v [] 0 1 lo) (hlo : lo ≤ m0.next) (h4 : fr.get 4 = .int .i64 0) (hd : fr.defers = []) :
    ∃ o, exec U (.loop F_r06_Right_l1) fr m0 = some o ∧ ((rightTo l l.length ∧ ∃ fr' m' v', o = .exit 0 fr' m' ∧ fr'.get 0 = row nl t 5 (nds l) ∧ fr'.get 3 = v' ∧ Own m' v' (ints (usedL l)).flatten (usedL l).length 1 lo ∧ fr'.defers = []) ∨
      (¬ rightTo l l.length ∧ ∃ fr' m', o = .ret fr' m' ∧ fr'.get 2 = .bool false ∧ fr'.defers = [])) := by
  have hlen := hs.len
  refine loop_w (σ := Nat) (fun i fr m => i ≤ l.length ∧ rightTo l i ∧ fr.get 0 = row nl t 5 (nds l) ∧ (∃ v, fr.get 3 = v ∧ Own m v (ints (usedL (l.take i))).flatten (usedL (l.take i)).length 1 lo) ∧ lo ≤ m.next ∧ fr.get 4 = .int .i64 (i : Int) ∧ fr.defers = []) (fun i => l.length - i) _ ?_ 0 fr m0
    ⟨Nat.zero_le _, ⟨fun j d hj => by omega, by simp [usedL]⟩, h0, ⟨v, h3, hown⟩, hlo, h4, hd⟩
  rintro i fr m ⟨hi, hr, h0, ⟨v, h3, hown⟩, hlo, h4, hd⟩
  generalize hX : exec U F_r06_Right_l1 fr m = X
  by_cases hlt : i < l.length
  · have hc : (i : Int) < (l.length : Int) := by omega
    have hd0 : l[i]? = some l[i] := List.getElem?_eq_getElem hlt
    have hmem := List.getElem_mem hlt
    have hk1 := hs.kids _ hmem
    have hk2 := hs.s _ hmem
    have hsn := usedL_snoc hd0
    generalize l[i] = d at *
    have hw1 := wrap_succ (i := i) (by omega)
    generalize hL : exec (UT B K) (ICode.loop F_r06_Right_l0) = L
    simp +contextual -implicitDefEqProofs (maxSteps := 1000000) (maxDischargeDepth := 8) only [F_r06_Right_l1, h0, h3, h4, hd, hc, nds_len, zza, argsF, reduceIte, reduceCtorEq, Nat.reduceEqDiff, Nat.reduceBEq, Nat.reduceAdd, Int.reduceLT, Int.reduceLE, Int.reduceEq, Int.reduceToNat, Int.reduceNeg, Nat.reduceLeDiff, Int.reducePow, implies_true, UInt8.reduceToNat, Int.reduceSub, Int.reduceAdd, Nat.reduceLT, Nat.reduceMul, Nat.reduceSub, Nat.reduceBNe] at hX
    subst hL
    generalize hY : exec _ (.loop F_r06_Right_l0) _ _ = Y at hX
    obtain ⟨o, rfl, h⟩ := looped hY (right_l0 (l := l) (t := t) (nl := nl) (i := i) (d := d) (u := usedL (l.take i)) hd0 hk1 (by omega) (used_few fun j d hj hd => (hr.1 j d hj hd).1) hr.2 (by simp only [h0, zzf, Nat.reduceBEq ]) (by simp only [h3, zzf, Nat.reduceBEq ]) hown hlo (by simp only [h4, zzf, Nat.reduceBEq ]) (by simp only [zzf, Nat.reduceBEq ]) (by simp only [hd, zzf, Nat.reduceBEq ]))
    rcases h with ⟨⟨g1, g2⟩, fr', m', v', rfl, h0, h3, hown, hlo, h4, hd⟩ | ⟨g, fr', m', rfl, h2, hd⟩
    · have hv : validK l d.kids := fun x hx => by have := g1 x hx; omega
      have hkk := kids_few g1 (List.nodup_append.1 g2).2.1
      have ho : pureR B K n_r06_own [.agg [.int .i64 d.kind, row d.nl 0 1 (ints d.kids), .int .i64 d.n, .str d.s, .int .i64 d.pos]] = some (bo (ownP d)) := own_eq (d := d) (by omega)
      have hkd : ∀ t1 nl1, pureR B K n_r06_kids [row nl1 t1 5 (nds l), .agg [.int .i64 d.kind, row d.nl 0 1 (ints d.kids), .int .i64 d.n, .str d.s, .int .i64 d.pos]] = some (bo (kidsP l d)) := fun t1 nl1 => kids_eq (l := l) (d := d) (t1 := t1) (nl1 := nl1) hv (by omega)
      simp +contextual -implicitDefEqProofs (maxSteps := 1000000) (maxDischargeDepth := 8) only [h0, h3, h4, hd, hd0, hlt, hw1, idx_cast, nds_get, nds_len, Nd.cells, ho, hkd, zza, argsF, reduceIte, reduceCtorEq, Nat.reduceEqDiff, Nat.reduceBEq, Nat.reduceAdd, Int.reduceLT, Int.reduceLE, Int.reduceEq, Int.reduceToNat, Int.reduceNeg, Nat.reduceLeDiff, Int.reducePow, implies_true, UInt8.reduceToNat, Int.reduceSub, Int.reduceAdd, Nat.reduceLT, Nat.reduceMul, Nat.reduceSub, Nat.reduceBNe] at hX
      subst hX
      refine lw_iF (fun hp => lw_ret (Or.inr ⟨fun q => ?_, _, _, rfl, by simp only [zzf, Nat.reduceBEq ], by simp only [hd, zzf, Nat.reduceBEq ]⟩)) (fun hp => lw_norm (i + 1) (by omega) ⟨hlt, ⟨fun j e hj he => ?_, by rw [hsn]; exact g2⟩, by simp only [h0, zzf, Nat.reduceBEq ], ⟨v', by simp only [h3, zzf, Nat.reduceBEq ], by rw [hsn]; exact hown⟩, hlo, by simp only [zzf, Nat.reduceBEq ], by simp only [hd, zzf, Nat.reduceBEq ]⟩)
      · obtain ⟨_, q1, q2⟩ := q.1 i d hlt hd0
        exact hp.elim (fun h => h q1) (fun h => h q2)
      · by_cases hji : j < i
        · exact hr.1 j e hji he
        · obtain rfl : j = i := by omega
          rw [hd0] at he; cases he
          exact ⟨g1, Classical.byContradiction fun h => hp (.inl h), Classical.byContradiction fun h => hp (.inr h)⟩
    · simp +contextual -implicitDefEqProofs (maxSteps := 1000000) (maxDischargeDepth := 8) only [h2, hd, zza, argsF, reduceIte, reduceCtorEq, Nat.reduceEqDiff, Nat.reduceBEq, Nat.reduceAdd, Int.reduceLT, Int.reduceLE, Int.reduceEq, Int.reduceToNat, Int.reduceNeg, Nat.reduceLeDiff, Int.reducePow, implies_true, UInt8.reduceToNat, Int.reduceSub, Int.reduceAdd, Nat.reduceLT, Nat.reduceMul, Nat.reduceSub, Nat.reduceBNe] at hX
      subst hX
      refine lw_ret (Or.inr ⟨fun q => g ⟨(q.1 i d hlt hd0).1, ?_⟩, _, _, rfl, h2, hd⟩)
      rw [← hsn]
      exact q.2.sublist (by rw [List.take_of_length_le (Nat.le_refl _)]; exact usedL_pre _)
  · have hc : ¬ ((i : Int) < (l.length : Int)) := by omega
    obtain rfl : i = l.length := by omega
    rw [List.take_of_length_le (Nat.le_refl _)] at hown
    simp +contextual -implicitDefEqProofs (maxSteps := 1000000) (maxDischargeDepth := 8) only [F_r06_Right_l1, h0, h3, h4, hd, hc, nds_len, zza, argsF, reduceIte, reduceCtorEq, Nat.reduceEqDiff, Nat.reduceBEq, Nat.reduceAdd, Int.reduceLT, Int.reduceLE, Int.reduceEq, Int.reduceToNat, Int.reduceNeg, Nat.reduceLeDiff, Int.reducePow, implies_true, UInt8.reduceToNat, Int.reduceSub, Int.reduceAdd, Nat.reduceLT, Nat.reduceMul, Nat.reduceSub, Nat.reduceBNe] at hX
    subst hX
    exact lw_exit (Or.inl ⟨hr, _, _, v, rfl, by simp only [h0, zzf, Nat.reduceBEq ], by simp only [h3, zzf, Nat.reduceBEq ], hown, by simp only [hd, zzf, Nat.reduceBEq ]⟩)
theorem rightTo_iff {l : List Nd} : rightTo l l.length ↔ kidsLt l ∧ (usedL l).Nodup ∧ ∀ d ∈ l, ownP d ∧ kidsP l d := by
  unfold rightTo
  rw [List.take_of_length_le (Nat.le_refl _)]
  constructor
  · rintro ⟨h1, h2⟩
    refine ⟨fun i d hd => (h1 i d (List.getElem?_eq_some_iff.1 hd).1 hd).1, h2, fun d hd => ?_⟩
    obtain ⟨i, hi⟩ := List.mem_iff_getElem?.1 hd
    exact (h1 i d (List.getElem?_eq_some_iff.1 hi).1 hi).2
  · rintro ⟨h1, h2, h3⟩
    exact ⟨fun j d _ hd => ⟨h1 j d hd, h3 d (List.mem_iff_getElem?.2 ⟨j, hd⟩)⟩, h2⟩
theorem right_eq {l : List Nd} {t : Nat} {nl : Bool} (hs : Small l) : pureR B K n_r06_Right [row nl t 5 (nds l)] = some (bo (rightP l)) := by
  have hlen := hs.len
  rw [pure_at (by simp [F_r06_Right])]
  generalize hL : exec (UT B K) (ICode.loop F_r06_Right_l1) = L
  simp +contextual -implicitDefEqProofs (maxSteps := 1000000) (maxDischargeDepth := 8) only [F_r06_Right, zza, argsF, reduceIte, reduceCtorEq, Nat.reduceEqDiff, Nat.reduceBEq, Nat.reduceAdd, Int.reduceLT, Int.reduceLE, Int.reduceEq, Int.reduceToNat, Int.reduceNeg, Nat.reduceLeDiff, Int.reducePow, implies_true, UInt8.reduceToNat, Int.reduceSub, Int.reduceAdd, Nat.reduceLT, Nat.reduceMul, Nat.reduceSub, Nat.reduceBNe]
  subst hL
  generalize hX : exec _ (.loop F_r06_Right_l1) _ _ = X
  obtain ⟨o, rfl, h⟩ := looped hX (right_l1 (l := l) (t := t) (nl := nl) hs (v := .slice (nb mem00.next 0) 0 0 (some 0)) (lo := mem00.next) (by simp only [zzf, Nat.reduceBEq ]) (by simp only [zzf, Nat.reduceBEq ]) ⟨.inr ⟨_, _, t_int, rfl, Nat.le_refl _, by rw [next_ext]; unfold nb; simp, by rw [get_ext_nb rfl (by simp)]; rfl, .inr rfl⟩, rfl⟩ (by rw [next_ext]; exact le_nb) (by simp only [zzf, Nat.reduceBEq ]) (by simp only [zzf, Nat.reduceBEq ]))
  rcases h with ⟨h, fr', m', v', rfl, h0, h3, hown, hd⟩ | ⟨h, fr', m', rfl, h2, hd⟩
  · have hr := rightTo_iff.1 h
    by_cases hl0 : l.length = 0
    · have : ¬ rightP l := fun q => by have := q.2.1; omega
      rcases hown.len with _
      simp +contextual -implicitDefEqProofs (maxSteps := 1000000) (maxDischargeDepth := 8) only [h0, h3, hd, hl0, nds_len, zza, argsF, reduceIte, reduceCtorEq, Nat.reduceEqDiff, Nat.reduceBEq, Nat.reduceAdd, Int.reduceLT, Int.reduceLE, Int.reduceEq, Int.reduceToNat, Int.reduceNeg, Nat.reduceLeDiff, Int.reducePow, implies_true, UInt8.reduceToNat, Int.reduceSub, Int.reduceAdd, Nat.reduceLT, Nat.reduceMul, Nat.reduceSub, Nat.reduceBNe]
      exact congrArg some (ff_bo this)
    · have hc : (0 : Int) < (l.length : Int) := by omega
      have hw : IntKind.i64.wrap ((l.length : Int) - 1) = ((l.length - 1 : Nat) : Int) := by rw [wrap_i64 (by omega) (by omega)]; omega
      have hh := fun t => height_eq (l := l) (nl := nl) hr.1 (by omega) (fun d hd => by have := kids_of hr.1 hr.2.1 hd; omega) (l.length - 1) (by omega) t
      have hlv : ∀ m, lenE v' m = some (.val (.int .i64 ((usedL l).length : Int)) m) := by
        intro m
        rcases hown.is with ⟨rfl, q, _⟩ | ⟨b, cap, ty, rfl, _⟩
        · rw [q]; rfl
        · rfl
      have hq : (((usedL l).length : Int) = ((l.length - 1 : Nat) : Int)) = ((usedL l).length = l.length - 1) := propext (by omega)
      have hq2 : ((highN l (l.length - 1) : Int) ≤ 200) = (highN l (l.length - 1) ≤ 200) := propext (by omega)
      simp +contextual -implicitDefEqProofs (maxSteps := 1000000) (maxDischargeDepth := 8) only [h0, h3, hd, hc, hw, hh, hlv, hq, hq2, nds_len, zza, argsF, reduceIte, reduceCtorEq, Nat.reduceEqDiff, Nat.reduceBEq, Nat.reduceAdd, Int.reduceLT, Int.reduceLE, Int.reduceEq, Int.reduceToNat, Int.reduceNeg, Nat.reduceLeDiff, Int.reducePow, implies_true, UInt8.reduceToNat, Int.reduceSub, Int.reduceAdd, Nat.reduceLT, Nat.reduceMul, Nat.reduceSub, Nat.reduceBNe]
      refine bo_some ?_
      unfold rightP
      grind
  · simp +contextual -implicitDefEqProofs (maxSteps := 1000000) (maxDischargeDepth := 8) only [h2, hd, zza, argsF, reduceIte, reduceCtorEq, Nat.reduceEqDiff, Nat.reduceBEq, Nat.reduceAdd, Int.reduceLT, Int.reduceLE, Int.reduceEq, Int.reduceToNat, Int.reduceNeg, Nat.reduceLeDiff, Int.reducePow, implies_true, UInt8.reduceToNat, Int.reduceSub, Int.reduceAdd, Nat.reduceLT, Nat.reduceMul, Nat.reduceSub, Nat.reduceBNe]
    exact congrArg some (ff_bo fun q => h (rightTo_iff.2 q.1))
end Go.Proofs.YtblcomejcahkdaaDoor.Ev
end
section
namespace Go.Proofs.YtblcomejcahkdaaDoor.Ev
open Go
set_option maxRecDepth 10000
set_option maxHeartbeats 4000000
theorem strs1_get {l : List Txt} {i : Nat} : (strs1 l)[i]? = (l[i]?).map fun s => [.str s] := by unfold strs1; rw [List.getElem?_map]
theorem strs1_len {l : List Txt} : (strs1 l).length = l.length := by unfold strs1; rw [List.length_map]
theorem load_gl {l : List Txt} {m : Mem} : m.load none (glV l) = some (.fz 0 1 (strs1 l)) := rfl
def ints1 (l : List Int) : List (List EV) := l.map fun s => [.int .i64 s]
def ixN {α : Type} [DecidableEq α] (x : α) : List α → Nat
  | [] => 0
  | a :: l => if a = x then 0 else ixN x l + 1
theorem ixN_at {α : Type} [DecidableEq α] {x : α} : ∀ {l : List α} {i : Nat}, x ∉ l.take i → l[i]? = some x → ixN x l = i
  | [], i, _, h => by simp at h
  | a :: l, 0, _, h => by simp only [List.getElem?_cons_zero, Option.some.injEq] at h; simp only [ixN, if_pos h]
  | a :: l, i + 1, hn, h => by
    simp only [List.take_succ_cons, List.mem_cons, not_or] at hn
    simp only [ixN, if_neg (Ne.symm hn.1), ixN_at hn.2 (by simpa using h)]
def ixL {α : Type} [DecidableEq α] (x : α) (l : List α) : Int := if x ∈ l then (ixN x l : Int) else -1
theorem ixL_pos {α : Type} [DecidableEq α] {x : α} {l : List α} : (0 ≤ ixL x l) = (x ∈ l) := by
  unfold ixL
  by_cases h : x ∈ l
  · rw [if_pos h]; simp [h]
  · rw [if_neg h]; simp [h]
end Go.Proofs.YtblcomejcahkdaaDoor.Ev
end
section
namespace Go.Proofs.YtblcomejcahkdaaDoor.Ev
open Go
set_option maxRecDepth 10000
set_option maxHeartbeats 4000000
theorem stringidx_loop {l : List Txt} {x : Txt} (hl : l.length < 1000000000) {tg : Nat} {m0 : Mem} {fr : Fr} (h0 : fr.get 0 = .fz tg 1 (strs1 l)) (h1 : fr.get 1 = .str x) (h7 : fr.get 7 = .int .i64 (l.length : Int)) (h8 : fr.get 8 = .int .i64 0) (hd : fr.defers = []) :
    ∃ o, exec U (.loop F_slices_Index_string_l0) fr m0 = some o ∧ ((x ∈ l ∧ ∃ fr', o = .ret fr' m0 ∧ fr'.get 4 = .int .i64 (ixN x l : Int) ∧ fr'.defers = []) ∨ (x ∉ l ∧ ∃ fr', o = .exit 0 fr' m0 ∧ fr'.defers = [])) := by
  refine loop_w (σ := Nat) (fun i fr m => m = m0 ∧ i ≤ l.length ∧ x ∉ l.take i ∧ fr.get 0 = .fz tg 1 (strs1 l) ∧ fr.get 1 = .str x ∧ fr.get 7 = .int .i64 (l.length : Int) ∧ fr.get 8 = .int .i64 (i : Int) ∧ fr.defers = []) (fun i => l.length - i) _ ?_ 0 fr m0 ⟨rfl, Nat.zero_le _, by simp, h0, h1, h7, h8, hd⟩
  rintro i fr m ⟨rfl, hi, hn, h0, h1, h7, h8, hd⟩
  generalize hX : exec U F_slices_Index_string_l0 fr m = X
  by_cases hlt : i < l.length
  · have hc : (i : Int) < (l.length : Int) := by omega
    have hg : l[i]? = some l[i] := List.getElem?_eq_getElem hlt
    have hw1 := wrap_succ (i := i) (by omega)
    simp +contextual -implicitDefEqProofs (maxSteps := 1000000) (maxDischargeDepth := 8) only [F_slices_Index_string_l0, h0, h1, h7, h8, hd, hc, hg, hlt, hw1, idx_cast, strs1_get, strs1_len, zza, argsF, reduceIte, reduceCtorEq, Nat.reduceEqDiff, Nat.reduceBEq, Nat.reduceAdd, Int.reduceLT, Int.reduceLE, Int.reduceEq, Int.reduceToNat, Int.reduceNeg, Nat.reduceLeDiff, Int.reducePow, implies_true, UInt8.reduceToNat, Int.reduceSub, Int.reduceAdd, Nat.reduceLT, Nat.reduceMul, Nat.reduceSub, Nat.reduceBNe] at hX
    subst hX
    refine lw_iF (fun he => lw_ret (.inl ⟨by rw [he]; exact List.getElem_mem hlt, _, rfl, ?_, by simp only [hd, zzf, Nat.reduceBEq ]⟩)) (fun he => lw_norm (i + 1) (by omega) ⟨rfl, hlt, ?_, by simp only [h0, zzf, Nat.reduceBEq ], by simp only [h1, zzf, Nat.reduceBEq ], by simp only [h7, zzf, Nat.reduceBEq ], by simp only [zzf, Nat.reduceBEq ], by simp only [hd, zzf, Nat.reduceBEq ]⟩)
    · have : ixN x l = i := ixN_at hn (by rw [hg, he])
      rw [this]; simp only [zzf, Nat.reduceBEq ]
    · rw [List.take_succ_eq_append_getElem hlt, List.mem_append]
      rintro (q | q)
      · exact hn q
      · exact he (List.mem_singleton.1 q)
  · have hc : ¬ ((i : Int) < (l.length : Int)) := by omega
    simp +contextual -implicitDefEqProofs (maxSteps := 1000000) (maxDischargeDepth := 8) only [F_slices_Index_string_l0, h0, h7, h8, hd, hc, zza, argsF, reduceIte, reduceCtorEq, Nat.reduceEqDiff, Nat.reduceBEq, Nat.reduceAdd, Int.reduceLT, Int.reduceLE, Int.reduceEq, Int.reduceToNat, Int.reduceNeg, Nat.reduceLeDiff, Int.reducePow, implies_true, UInt8.reduceToNat, Int.reduceSub, Int.reduceAdd, Nat.reduceLT, Nat.reduceMul, Nat.reduceSub, Nat.reduceBNe] at hX
    subst hX
    have : l.take i = l := List.take_of_length_le (by omega)
    rw [this] at hn
    exact lw_exit (.inr ⟨hn, _, rfl, by simp only [hd, zzf, Nat.reduceBEq ]⟩)
theorem stringidx_run {l : List Txt} {x : Txt} (hl : l.length < 1000000000) {tg : Nat} {m : Mem} : run U n_slices_Index_string [.fz tg 1 (strs1 l), .str x] m = some (.ret (.int .i64 (ixL x l)) m) := by
  rw [run_p2 (by simp [F_slices_Index_string])]
  generalize hL : exec (UT B K) (ICode.loop F_slices_Index_string_l0) = L
  simp +contextual -implicitDefEqProofs (maxSteps := 1000000) (maxDischargeDepth := 8) only [F_slices_Index_string, strs1_len, zza, argsF, reduceIte, reduceCtorEq, Nat.reduceEqDiff, Nat.reduceBEq, Nat.reduceAdd, Int.reduceLT, Int.reduceLE, Int.reduceEq, Int.reduceToNat, Int.reduceNeg, Nat.reduceLeDiff, Int.reducePow, implies_true, UInt8.reduceToNat, Int.reduceSub, Int.reduceAdd, Nat.reduceLT, Nat.reduceMul, Nat.reduceSub, Nat.reduceBNe]
  subst hL
  generalize hX : exec _ (.loop F_slices_Index_string_l0) _ _ = X
  obtain ⟨o, rfl, h⟩ := looped hX (stringidx_loop (l := l) (x := x) hl (tg := tg) (by simp only [zzf, Nat.reduceBEq ]) (by simp only [zzf, Nat.reduceBEq ]) (by simp only [zzf, Nat.reduceBEq ]) (by simp only [zzf, Nat.reduceBEq ]) (by simp only [zzf, Nat.reduceBEq ]))
  rcases h with ⟨h, fr', rfl, h4, hd⟩ | ⟨h, fr', rfl, hd⟩
  · simp +contextual -implicitDefEqProofs (maxSteps := 1000000) (maxDischargeDepth := 8) only [h, h4, hd, ixL, zza, argsF, reduceIte, reduceCtorEq, Nat.reduceEqDiff, Nat.reduceBEq, Nat.reduceAdd, Int.reduceLT, Int.reduceLE, Int.reduceEq, Int.reduceToNat, Int.reduceNeg, Nat.reduceLeDiff, Int.reducePow, implies_true, UInt8.reduceToNat, Int.reduceSub, Int.reduceAdd, Nat.reduceLT, Nat.reduceMul, Nat.reduceSub, Nat.reduceBNe]
  · simp +contextual -implicitDefEqProofs (maxSteps := 1000000) (maxDischargeDepth := 8) only [h, hd, ixL, zza, argsF, reduceIte, reduceCtorEq, Nat.reduceEqDiff, Nat.reduceBEq, Nat.reduceAdd, Int.reduceLT, Int.reduceLE, Int.reduceEq, Int.reduceToNat, Int.reduceNeg, Nat.reduceLeDiff, Int.reducePow, implies_true, UInt8.reduceToNat, Int.reduceSub, Int.reduceAdd, Nat.reduceLT, Nat.reduceMul, Nat.reduceSub, Nat.reduceBNe]
theorem stringhas_run {l : List Txt} {x : Txt} (hl : l.length < 1000000000) {tg : Nat} {m : Mem} : run U n_slices_Contains_string [.fz tg 1 (strs1 l), .str x] m = some (.ret (bo (x ∈ l)) m) := by
  rw [run_p2 (by simp [F_slices_Contains_string])]
  have h := fun m => stringidx_run (x := x) hl (tg := tg) (m := m)
  simp +contextual -implicitDefEqProofs (maxSteps := 1000000) (maxDischargeDepth := 8) only [F_slices_Contains_string, h, ixL_pos, zza, argsF, reduceIte, reduceCtorEq, Nat.reduceEqDiff, Nat.reduceBEq, Nat.reduceAdd, Int.reduceLT, Int.reduceLE, Int.reduceEq, Int.reduceToNat, Int.reduceNeg, Nat.reduceLeDiff, Int.reducePow, implies_true, UInt8.reduceToNat, Int.reduceSub, Int.reduceAdd, Nat.reduceLT, Nat.reduceMul, Nat.reduceSub, Nat.reduceBNe]
end Go.Proofs.YtblcomejcahkdaaDoor.Ev
end
section
namespace Go.Proofs.YtblcomejcahkdaaDoor.Ev
open Go
set_option maxRecDepth 10000
set_option maxHeartbeats 8000000
def sortP (k s : Int) : Prop := if s = 0 then 1 ≤ k ∧ k ≤ 11 else if s = 1 then 12 ≤ k ∧ k ≤ 22 else if s = 2 then k = 23 else if s = 3 then k = 11 else if s = 4 then k = 24 else k = 25
theorem tree_is {k s : Int} : pureR B K n_tree_is [.int .i64 k, .int .i64 s] = some (bo (sortP k s)) := by
  rw [pure_at (by simp [F_tree_is])]
  unfold sortP
  by_cases a : s = 0
  · subst a; simp +contextual -implicitDefEqProofs (maxSteps := 1000000) (maxDischargeDepth := 8) only [F_tree_is, if_true, zza, argsF, reduceIte, reduceCtorEq, Nat.reduceEqDiff, Nat.reduceBEq, Nat.reduceAdd, Int.reduceLT, Int.reduceLE, Int.reduceEq, Int.reduceToNat, Int.reduceNeg, Nat.reduceLeDiff, Int.reducePow, implies_true, UInt8.reduceToNat, Int.reduceSub, Int.reduceAdd, Nat.reduceLT, Nat.reduceMul, Nat.reduceSub, Nat.reduceBNe]
  · by_cases b : s = 1
    · subst b; simp +contextual -implicitDefEqProofs (maxSteps := 1000000) (maxDischargeDepth := 8) only [F_tree_is, if_true, if_false, zza, argsF, reduceIte, reduceCtorEq, Nat.reduceEqDiff, Nat.reduceBEq, Nat.reduceAdd, Int.reduceLT, Int.reduceLE, Int.reduceEq, Int.reduceToNat, Int.reduceNeg, Nat.reduceLeDiff, Int.reducePow, implies_true, UInt8.reduceToNat, Int.reduceSub, Int.reduceAdd, Nat.reduceLT, Nat.reduceMul, Nat.reduceSub, Nat.reduceBNe]
    · by_cases c : s = 2
      · subst c; simp +contextual -implicitDefEqProofs (maxSteps := 1000000) (maxDischargeDepth := 8) only [F_tree_is, if_true, if_false, zza, argsF, reduceIte, reduceCtorEq, Nat.reduceEqDiff, Nat.reduceBEq, Nat.reduceAdd, Int.reduceLT, Int.reduceLE, Int.reduceEq, Int.reduceToNat, Int.reduceNeg, Nat.reduceLeDiff, Int.reducePow, implies_true, UInt8.reduceToNat, Int.reduceSub, Int.reduceAdd, Nat.reduceLT, Nat.reduceMul, Nat.reduceSub, Nat.reduceBNe]
      · by_cases d : s = 3
        · subst d; simp +contextual -implicitDefEqProofs (maxSteps := 1000000) (maxDischargeDepth := 8) only [F_tree_is, if_true, if_false, zza, argsF, reduceIte, reduceCtorEq, Nat.reduceEqDiff, Nat.reduceBEq, Nat.reduceAdd, Int.reduceLT, Int.reduceLE, Int.reduceEq, Int.reduceToNat, Int.reduceNeg, Nat.reduceLeDiff, Int.reducePow, implies_true, UInt8.reduceToNat, Int.reduceSub, Int.reduceAdd, Nat.reduceLT, Nat.reduceMul, Nat.reduceSub, Nat.reduceBNe]
        · by_cases e : s = 4
          · subst e; simp +contextual -implicitDefEqProofs (maxSteps := 1000000) (maxDischargeDepth := 8) only [F_tree_is, if_true, if_false, zza, argsF, reduceIte, reduceCtorEq, Nat.reduceEqDiff, Nat.reduceBEq, Nat.reduceAdd, Int.reduceLT, Int.reduceLE, Int.reduceEq, Int.reduceToNat, Int.reduceNeg, Nat.reduceLeDiff, Int.reducePow, implies_true, UInt8.reduceToNat, Int.reduceSub, Int.reduceAdd, Nat.reduceLT, Nat.reduceMul, Nat.reduceSub, Nat.reduceBNe]
          · simp +contextual -implicitDefEqProofs (maxSteps := 1000000) (maxDischargeDepth := 8) only [F_tree_is, a, b, c, d, e, if_false, zza, argsF, reduceIte, reduceCtorEq, Nat.reduceEqDiff, Nat.reduceBEq, Nat.reduceAdd, Int.reduceLT, Int.reduceLE, Int.reduceEq, Int.reduceToNat, Int.reduceNeg, Nat.reduceLeDiff, Int.reducePow, implies_true, UInt8.reduceToNat, Int.reduceSub, Int.reduceAdd, Nat.reduceLT, Nat.reduceMul, Nat.reduceSub, Nat.reduceBNe]
theorem or32_all : ∀ n : _root_.Fin 256, (97 ≤ ior .u8 ((n.val : Nat) : Int) 32 ∧ ior .u8 ((n.val : Nat) : Int) 32 ≤ 122) ↔ ((97 ≤ n.val ∧ n.val ≤ 122) ∨ (65 ≤ n.val ∧ n.val ≤ 90)) := by decide +kernel
theorem or32 (c : UInt8) : ((97 ≤ ior .u8 (cI c) 32 ∧ ior .u8 (cI c) 32 ≤ 122) ∨ cI c = 95) ↔ LetterP (cI c) := by
  have h := or32_all ⟨c.toNat, c.toNat_lt⟩
  unfold LetterP
  have e : cI c = ((c.toNat : Nat) : Int) := rfl
  rw [e]
  simp only at h
  rw [h]
  omega
theorem cv_bytes {e : Nat} {m : Mem} {s : Txt} : evConv (.bytes e) m (.str s) = some (.slice (nb m.next 0) 0 s.length none, ext m [.cells (s.map fun b => .int .u8 (b.toNat : Int)) 1 e false]) := by
  simp only [evConv, nb, Nat.add_zero]
  rw [new_eq]
theorem tname_loop {s : Txt} (hs : s.length < 1000000000) {b t : Nat} {m0 : Mem} (hb : m0.get b = .cells (s.map fun c => .int .u8 (cI c)) 1 t false) {fr : Fr} (h0 : fr.get 0 = .str s) (h7 : fr.get 7 = .slice b 0 s.length none) (h8 : fr.get 8 = .int .i64 (s.length : Int)) (h9 : fr.get 9 = .int .i64 0) (hd : fr.defers = []) :
    ∃ o, exec U (.loop S_tree_name_l0) fr m0 = some o ∧ ((¬ (∀ (i : Nat) (c : UInt8), s[i]? = some c → LetterP (cI c) ∨ i ≠ 0 ∧ DigitP (cI c)) ∧ ∃ fr', o = .ret fr' m0 ∧ fr'.get 2 = .bool false ∧ fr'.defers = []) ∨
      ((∀ (i : Nat) (c : UInt8), s[i]? = some c → LetterP (cI c) ∨ i ≠ 0 ∧ DigitP (cI c)) ∧ ∃ fr', o = .exit 0 fr' m0 ∧ fr'.get 0 = .str s ∧ fr'.defers = [])) := by
  refine loop_w (σ := Nat) (fun i fr m => m = m0 ∧ i ≤ s.length ∧ fr.get 0 = .str s ∧ fr.get 7 = .slice b 0 s.length none ∧ fr.get 8 = .int .i64 (s.length : Int) ∧ fr.get 9 = .int .i64 (i : Int) ∧ (∀ (j : Nat) (c : UInt8), j < i → s[j]? = some c → LetterP (cI c) ∨ j ≠ 0 ∧ DigitP (cI c)) ∧ fr.defers = []) (fun i => s.length - i) _ ?_ 0 fr m0 ⟨rfl, Nat.zero_le _, h0, h7, h8, h9, by omega, hd⟩
  rintro i fr m ⟨rfl, hi, h0, h7, h8, h9, hall, hd⟩
  generalize hX : exec U S_tree_name_l0 fr m = X
  by_cases hlt : i < s.length
  · have hc : (i : Int) < (s.length : Int) := by omega
    have hg : s[i]? = some s[i] := List.getElem?_eq_getElem hlt
    have hw1 := wrap_succ (i := i) (by omega)
    have hi0 : ((i : Int) = 0) = (i = 0) := by simp
    generalize s[i] = c at hg
    have hor := or32 c
    simp +contextual -implicitDefEqProofs (maxSteps := 1000000) (maxDischargeDepth := 8) only [S_tree_name_l0, h0, h7, h8, h9, hd, hc, hb, hg, hlt, Nat.mul_one, hw1, hi0, hor, idx_cast, zza, argsF, reduceIte, reduceCtorEq, Nat.reduceEqDiff, Nat.reduceBEq, Nat.reduceAdd, Int.reduceLT, Int.reduceLE, Int.reduceEq, Int.reduceToNat, Int.reduceNeg, Nat.reduceLeDiff, Int.reducePow, implies_true, UInt8.reduceToNat, Int.reduceSub, Int.reduceAdd, Nat.reduceLT, Nat.reduceMul, Nat.reduceSub, Nat.reduceBNe] at hX
    subst hX
    refine lw_iF (fun hp => lw_ret (Or.inl ⟨fun q => ?_, _, rfl, by simp only [zzf, Nat.reduceBEq ], by simp only [hd, zzf, Nat.reduceBEq ]⟩)) (fun hp => lw_norm (i + 1) (by omega) ⟨rfl, hlt, by simp only [h0, zzf, Nat.reduceBEq ], by simp only [h7, zzf, Nat.reduceBEq ], by simp only [h8, zzf, Nat.reduceBEq ], by simp only [zzf, Nat.reduceBEq ], fun j d hj hjd => ?_, by simp only [hd, zzf, Nat.reduceBEq ]⟩)
    · rcases q i c hg with q | ⟨q1, q2⟩
      · exact hp.1 q
      · unfold DigitP at q2; omega
    · by_cases hji : j < i
      · exact hall j d hji hjd
      · obtain rfl : j = i := by omega
        rw [hg] at hjd; cases hjd
        by_cases q : LetterP (cI c)
        · exact .inl q
        · refine .inr ?_
          have : ¬ ((j = 0 ∨ cI c < 48) ∨ 57 < cI c) := fun r => hp ⟨q, r⟩
          unfold DigitP; omega
  · have hc : ¬ ((i : Int) < (s.length : Int)) := by omega
    simp +contextual -implicitDefEqProofs (maxSteps := 1000000) (maxDischargeDepth := 8) only [S_tree_name_l0, h0, h7, h8, h9, hd, hc, zza, argsF, reduceIte, reduceCtorEq, Nat.reduceEqDiff, Nat.reduceBEq, Nat.reduceAdd, Int.reduceLT, Int.reduceLE, Int.reduceEq, Int.reduceToNat, Int.reduceNeg, Nat.reduceLeDiff, Int.reducePow, implies_true, UInt8.reduceToNat, Int.reduceSub, Int.reduceAdd, Nat.reduceLT, Nat.reduceMul, Nat.reduceSub, Nat.reduceBNe] at hX
    subst hX
    exact lw_exit (Or.inr ⟨fun j c hj => hall j c (by have := (List.getElem?_eq_some_iff.1 hj).1; omega) hj, _, rfl, by simp only [h0, zzf, Nat.reduceBEq ], by simp only [hd, zzf, Nat.reduceBEq ]⟩)
theorem words_L : L_tree_words = wordsL := rfl
theorem tree_name {s : Txt} (hs : s.length < 1000000000) : pureR B K n_tree_name [.str s] = some (bo (nameP s)) := by
  rw [pure_at (by simp [S_tree_name])]
  generalize hL : exec (UT B K) (ICode.loop S_tree_name_l0) = L
  have hl := fun m => load_gl (l := wordsL) (m := m)
  have h := fun m => stringhas_run (l := wordsL) (x := s) (by decide) (tg := 0) (m := m)
  simp +contextual -implicitDefEqProofs (maxSteps := 1000000) (maxDischargeDepth := 8) only [S_tree_name, cv_bytes, zza, argsF, reduceIte, reduceCtorEq, Nat.reduceEqDiff, Nat.reduceBEq, Nat.reduceAdd, Int.reduceLT, Int.reduceLE, Int.reduceEq, Int.reduceToNat, Int.reduceNeg, Nat.reduceLeDiff, Int.reducePow, implies_true, UInt8.reduceToNat, Int.reduceSub, Int.reduceAdd, Nat.reduceLT, Nat.reduceMul, Nat.reduceSub, Nat.reduceBNe]
  subst hL
  generalize hX : exec _ (.loop S_tree_name_l0) _ _ = X
  obtain ⟨o, rfl, hq⟩ := looped hX (tname_loop (s := s) (b := nb mem00.next 0) (t := t_uint8) hs (by rw [get_ext_nb rfl (by simp)]; rfl) (by simp only [zzf, Nat.reduceBEq ]) (by simp only [zzf, Nat.reduceBEq ]) (by simp only [zzf, Nat.reduceBEq ]) (by simp only [zzf, Nat.reduceBEq ]) (by simp only [zzf, Nat.reduceBEq ]))
  rcases hq with ⟨hq, fr', rfl, h2, hd⟩ | ⟨hq, fr', rfl, h0, hd⟩
  · have : ¬ nameP s := fun q => hq q.1
    simp +contextual -implicitDefEqProofs (maxSteps := 1000000) (maxDischargeDepth := 8) only [this, h2, hd, bo_ff, zza, argsF, reduceIte, reduceCtorEq, Nat.reduceEqDiff, Nat.reduceBEq, Nat.reduceAdd, Int.reduceLT, Int.reduceLE, Int.reduceEq, Int.reduceToNat, Int.reduceNeg, Nat.reduceLeDiff, Int.reducePow, implies_true, UInt8.reduceToNat, Int.reduceSub, Int.reduceAdd, Nat.reduceLT, Nat.reduceMul, Nat.reduceSub, Nat.reduceBNe]
  · simp +contextual -implicitDefEqProofs (maxSteps := 1000000) (maxDischargeDepth := 8) only [h0, hd, words_L, hl, h, zza, argsF, reduceIte, reduceCtorEq, Nat.reduceEqDiff, Nat.reduceBEq, Nat.reduceAdd, Int.reduceLT, Int.reduceLE, Int.reduceEq, Int.reduceToNat, Int.reduceNeg, Nat.reduceLeDiff, Int.reducePow, implies_true, UInt8.reduceToNat, Int.reduceSub, Int.reduceAdd, Nat.reduceLT, Nat.reduceMul, Nat.reduceSub, Nat.reduceBNe]
    refine congrArg some (bo_iff' ?_)
    have hne : s ≠ [] ↔ 0 < s.length := List.length_pos_iff.symm
    unfold nameP
    constructor
    · rintro ⟨⟨q1, q2⟩, q3⟩; exact ⟨hq, hne.1 q1, by omega, q3⟩
    · rintro ⟨_, q1, q2, q3⟩; exact ⟨⟨hne.2 q1, by omega⟩, q3⟩
end Go.Proofs.YtblcomejcahkdaaDoor.Ev
end
section
namespace Go.Proofs.YtblcomejcahkdaaDoor.Ev
open Go
set_option maxRecDepth 20000
set_option maxHeartbeats 8000000
structure KRow where
  word : Txt
  name : Bool
  low : Int
  high : Int
  more : Int
  sort : Int
  kids : List Int
  maybe : Bool
def zeroR : KRow := ⟨[], false, 0, 0, 0, 0, [], false⟩
def rowsL : List KRow := [⟨[], false, 0, 9223372036854775807, 0, 0, [], false⟩, ⟨[], false, 0, 1, 0, 0, [], false⟩, ⟨[110, 105, 108], false, 0, 0, 0, 0, [], false⟩, ⟨[], true, 0, 0, 0, 0, [], false⟩,
  ⟨[], false, 1, 16, 0, 0, [0, 0], false⟩, ⟨[110, 101, 103], false, 0, 0, 0, 0, [0], false⟩, ⟨[110, 111, 116], false, 0, 0, 0, 0, [0], false⟩, ⟨[97, 116], false, 0, 0, 0, 0, [0, 0], false⟩,
  ⟨[108, 101, 110], false, 0, 0, 0, 0, [0], false⟩, ⟨[110, 101, 119], false, 0, 0, 0, 0, [0], false⟩, ⟨[99, 97, 108, 108], true, 0, 0, 8, 0, [], false⟩, ⟨[118, 97, 114], true, 0, 0, 0, 0, [0], false⟩,
  ⟨[115, 101, 116], true, 0, 0, 0, 0, [0], false⟩, ⟨[112, 117, 116], true, 0, 0, 0, 0, [0, 0], false⟩, ⟨[105, 102], false, 0, 0, 0, 0, [0, 2, 2], true⟩, ⟨[119, 104, 105, 108, 101], false, 0, 0, 0, 0, [0, 2], false⟩,
  ⟨[102, 111, 114], true, 0, 0, 0, 0, [0, 0, 2], false⟩, ⟨[98, 114, 101, 97, 107], false, 0, 0, 0, 0, [], false⟩, ⟨[99, 111, 110, 116, 105, 110, 117, 101], false, 0, 0, 0, 0, [], false⟩, ⟨[114, 101, 116, 117, 114, 110], false, 0, 0, 0, 0, [0], false⟩,
  ⟨[112, 114, 105, 110, 116], false, 0, 0, 0, 0, [0], false⟩, ⟨[100, 111], false, 0, 0, 0, 0, [3], false⟩, ⟨[98, 108, 111, 99, 107], false, 0, 0, 4611686018427387904, 1, [], false⟩, ⟨[], true, 1, 3, 0, 0, [], false⟩,
  ⟨[102, 110], true, 1, 3, 8, 4, [2], false⟩, ⟨[112, 114, 111, 103], false, 0, 0, 200, 5, [], false⟩]
def rowF (k : Int) : KRow := if 1 ≤ k ∧ k ≤ 26 then rowsL.getD (k - 1).toNat zeroR else zeroR
def KRow.cellsB (r : KRow) : List EV := [.str r.word, .bool r.name, .int .i64 r.low, .int .i64 r.high, .int .i64 r.more, .int .i64 r.sort, row r.kids.isEmpty 0 1 (ints r.kids), .bool r.maybe]
noncomputable def KRow.cells (r : KRow) : List EV := [.str r.word, bo (r.name = true), .int .i64 r.low, .int .i64 r.high, .int .i64 r.more, .int .i64 r.sort, row r.kids.isEmpty 0 1 (ints r.kids), bo (r.maybe = true)]
theorem bool_bo (b : Bool) : EV.bool b = bo (b = true) := by cases b <;> simp [bo]
theorem KRow.cells_eq (r : KRow) : r.cellsB = r.cells := by unfold KRow.cellsB KRow.cells; rw [bool_bo r.name, bool_bo r.maybe]
theorem rows_in (n : Nat) (h : n < 26) : pureR B K n_tree_rows [.int .i64 ((n : Int) + 1)] = some (.tuple [.agg (rowsL.getD n zeroR).cellsB, .bool true]) := by
  have hc : n = 0 ∨ n = 1 ∨ n = 2 ∨ n = 3 ∨ n = 4 ∨ n = 5 ∨ n = 6 ∨ n = 7 ∨ n = 8 ∨ n = 9 ∨ n = 10 ∨ n = 11 ∨ n = 12 ∨ n = 13 ∨ n = 14 ∨ n = 15 ∨ n = 16 ∨ n = 17 ∨ n = 18 ∨ n = 19 ∨ n = 20 ∨ n = 21 ∨ n = 22 ∨ n = 23 ∨ n = 24 ∨ n = 25 := by omega
  rcases hc with rfl | rfl | rfl | rfl | rfl | rfl | rfl | rfl | rfl | rfl | rfl | rfl | rfl | rfl | rfl | rfl | rfl | rfl | rfl | rfl | rfl | rfl | rfl | rfl | rfl | rfl
  all_goals exact pure_closed 10 fun call => by kernel_rfl
def ICode.fst : ICode → ICode
  | .seq a _ => a
  | c => c
def ICode.snd : ICode → ICode
  | .seq _ b => b
  | c => c
theorem exec_assoc {T : Nat → Option Ent} {a b c : ICode} {fr : Fr} {m : Mem} : exec T (.seq a (.seq b c)) fr m = thenE (exec T (.seq a b) fr m) (exec T c) := by
  rw [exec_seq, exec_seq]
  cases exec T a fr m with
  | none => rfl
  | some o =>
    cases o with
    | norm fr m => simp only [thenE]; rw [exec_seq]; rfl
    | exit id fr m => rfl
    | ret fr m => rfl
    | pan v fr m => rfl
def lookR (o : Option Out) : Option (EV × EV × Blk × List (Nat × List EV)) := match o with
  | some (.norm fr m) => some (fr.get 0, fr.get 2, m.get 0, fr.defers)
  | _ => none
theorem lookR_inv {o : Option Out} {a b : EV} {c : Blk} {d : List (Nat × List EV)} (h : lookR o = some (a, b, c, d)) : ∃ fr m, o = some (.norm fr m) ∧ fr.get 0 = a ∧ fr.get 2 = b ∧ m.get 0 = c ∧ fr.defers = d := by
  unfold lookR at h
  split at h
  · simp only [Option.some.injEq, Prod.mk.injEq] at h
    exact ⟨_, _, rfl, h.1, h.2.1, h.2.2.1, h.2.2.2⟩
  · cases h
theorem rows_head (k : Int) (call : Call) : lookR (evCode call 0 (.seq F_tree_rows.body.fst F_tree_rows.body.snd.fst) (argsF [.int .i64 k] 0 fr00) mem00) = some (.int .i64 k, .ptr 0 0, .cells zeroR.cellsB 8 t_tree_row false, []) := by kernel_rfl
theorem rows_body : F_tree_rows.body = .seq F_tree_rows.body.fst (.seq F_tree_rows.body.snd.fst F_tree_rows.body.snd.snd) := rfl
theorem rows_out {k : Int} (h : ¬ (1 ≤ k ∧ k ≤ 26)) : pureR B K n_tree_rows [.int .i64 k] = some (.tuple [.agg zeroR.cellsB, .bool false]) := by
  rw [pure_at (by simp [F_tree_rows]), rows_body, exec_assoc]
  obtain ⟨fr, m, h1, g0, g2, gm, gd⟩ := lookR_inv (rows_head k (evFun (UT B K) 0))
  rw [exec_iff.2 ⟨0, h1⟩]
  by_cases a : k < 1
  · simp +contextual -implicitDefEqProofs (maxSteps := 1000000) (maxDischargeDepth := 8) only [F_tree_rows, ICode.snd, g0, g2, gm, gd, zeroR, KRow.cellsB, List.isEmpty_nil, a, zza, argsF, reduceIte, reduceCtorEq, Nat.reduceEqDiff, Nat.reduceBEq, Nat.reduceAdd, Int.reduceLT, Int.reduceLE, Int.reduceEq, Int.reduceToNat, Int.reduceNeg, Nat.reduceLeDiff, Int.reducePow, implies_true, UInt8.reduceToNat, Int.reduceSub, Int.reduceAdd, Nat.reduceLT, Nat.reduceMul, Nat.reduceSub, Nat.reduceBNe]
    rfl
  · have b : 27 ≤ k := by omega
    simp +contextual -implicitDefEqProofs (maxSteps := 1000000) (maxDischargeDepth := 8) only [F_tree_rows, ICode.snd, g0, g2, gm, gd, zeroR, KRow.cellsB, List.isEmpty_nil, a, b, zza, argsF, reduceIte, reduceCtorEq, Nat.reduceEqDiff, Nat.reduceBEq, Nat.reduceAdd, Int.reduceLT, Int.reduceLE, Int.reduceEq, Int.reduceToNat, Int.reduceNeg, Nat.reduceLeDiff, Int.reducePow, implies_true, UInt8.reduceToNat, Int.reduceSub, Int.reduceAdd, Nat.reduceLT, Nat.reduceMul, Nat.reduceSub, Nat.reduceBNe]
    rfl
theorem tree_rows {k : Int} : pureR B K n_tree_rows [.int .i64 k] = some (.tuple [.agg (rowF k).cells, bo (1 ≤ k ∧ k ≤ 26)]) := by
  by_cases h : 1 ≤ k ∧ k ≤ 26
  · obtain ⟨n, rfl⟩ : ∃ n : Nat, k = (n : Int) + 1 := ⟨(k - 1).toNat, by omega⟩
    rw [rows_in n (by omega), KRow.cells_eq, show rowF ((n : Int) + 1) = rowsL.getD n zeroR by unfold rowF; rw [if_pos h, show ((n : Int) + 1 - 1).toNat = n by omega], ← tt_bo h]
  · rw [rows_out h, KRow.cells_eq, show rowF k = zeroR by unfold rowF; rw [if_neg h], ← ff_bo h]
end Go.Proofs.YtblcomejcahkdaaDoor.Ev
end
section
namespace Go.Proofs.YtblcomejcahkdaaDoor.Ev
open Go
set_option maxRecDepth 20000
set_option maxHeartbeats 8000000
def lastN (r : KRow) (k : List Int) : Nat := if 0 < r.more then k.length - r.kids.length else 0
def sortsP (l : List Nd) (ks : List Int) (ss : List Int) : Prop := ∀ (i : Nat) (x s : Int), ks[i]? = some x → ss[i]? = some s → sortP (kindOf l x) s
def hasP (l : List Nd) (d : Nd) : Prop :=
  let r := rowF d.kind
  (1 ≤ d.kind ∧ d.kind ≤ 26) ∧ 0 ≤ d.pos ∧ r.low ≤ d.n ∧ d.n ≤ r.high ∧ (r.name = true ↔ d.s ≠ []) ∧ (r.name = true → nameP d.s) ∧
  (∀ x ∈ d.kids.take (lastN r d.kids), sortP (kindOf l x) r.sort) ∧ (0 < r.more → (lastN r d.kids : Int) ≤ r.more) ∧
  ((d.kids.drop (lastN r d.kids)).length = r.kids.length ∨ r.maybe = true ∧ (d.kids.drop (lastN r d.kids)).length + 1 = r.kids.length) ∧
  sortsP l (d.kids.drop (lastN r d.kids)) r.kids
def SameM (m0 m : Mem) : Prop := m0.next ≤ m.next ∧ ∀ b, m.get b = m0.get b
theorem SameM.refl (m : Mem) : SameM m m := ⟨Nat.le_refl _, fun _ => rfl⟩
theorem SameM.bump {m0 m : Mem} (h : SameM m0 m) (k : Nat) : SameM m0 (Ev.bump m k) := ⟨by rw [next_bump]; have := h.1; unfold nb; omega, fun b => by rw [get_bump]; exact h.2 b⟩
theorem has_l0 {l : List Nd} {r : KRow} {k : List Int} {t1 t2 b5 ty : Nat} {nl1 nl2 : Bool} {v7 v8 : EV} (hv : validK l k) (hl : k.length < 1000000000) {m0 : Mem} (hb5 : m0.get b5 = .cells r.cells 8 ty false) {fr : Fr} (h0 : fr.get 0 = row nl1 t1 5 (nds l)) (h5 : fr.get 5 = .ptr b5 0) (h7 : fr.get 7 = v7) (h8 : fr.get 8 = v8) (h72 : fr.get 72 = row nl2 t2 1 (ints k)) (h73 : fr.get 73 = .int .i64 (k.length : Int)) (h74 : fr.get 74 = .int .i64 0) (hd : fr.defers = []) :
    ∃ o, exec U (.loop F_tree_has_l0) fr m0 = some o ∧ ((¬ (∀ x ∈ k, sortP (kindOf l x) r.sort) ∧ ∃ fr' m', o = .ret fr' m' ∧ fr'.get 4 = .bool false ∧ fr'.defers = []) ∨ ((∀ x ∈ k, sortP (kindOf l x) r.sort) ∧ ∃ fr' m', o = .exit 0 fr' m' ∧ SameM m0 m' ∧ fr'.get 0 = row nl1 t1 5 (nds l) ∧ fr'.get 5 = .ptr b5 0 ∧ fr'.get 7 = v7 ∧ fr'.get 8 = v8 ∧ fr'.defers = [])) := by
  refine loop_w (σ := Nat) (fun i fr m => SameM m0 m ∧ i ≤ k.length ∧ (∀ x ∈ k.take i, sortP (kindOf l x) r.sort) ∧ fr.get 0 = row nl1 t1 5 (nds l) ∧ fr.get 5 = .ptr b5 0 ∧ fr.get 7 = v7 ∧ fr.get 8 = v8 ∧ fr.get 72 = row nl2 t2 1 (ints k) ∧ fr.get 73 = .int .i64 (k.length : Int) ∧ fr.get 74 = .int .i64 (i : Int) ∧ fr.defers = []) (fun i => k.length - i) _ ?_ 0 fr m0 ⟨.refl _, Nat.zero_le _, by simp, h0, h5, h7, h8, h72, h73, h74, hd⟩
  rintro i fr m ⟨hm, hi, hn, h0, h5, h7, h8, h72, h73, h74, hd⟩
  replace hb5 := (hm.2 b5).trans hb5
  generalize hX : exec U F_tree_has_l0 fr m = X
  by_cases hlk : i < k.length
  · have hc : (i : Int) < (k.length : Int) := by omega
    have hg : k[i]? = some k[i] := List.getElem?_eq_getElem hlk
    obtain ⟨x0, x1⟩ := hv k[i] (List.getElem_mem hlk)
    obtain ⟨d, hd1, hd2⟩ := node_at x0 x1
    have hix := idx_int (k := .i64) x0 x1
    have hw1 := wrap_succ (i := i) (by omega)
    simp +contextual -implicitDefEqProofs (maxSteps := 1000000) (maxDischargeDepth := 8) only [F_tree_has_l0, h0, h5, h7, h8, h72, h73, h74, hd, hc, hg, hlk, hw1, hb5, KRow.cells, idx_cast, ints_get, ints_len, nds_get, nds_len, hix, hd1, Nd.cells, tree_is, zza, argsF, reduceIte, reduceCtorEq, Nat.reduceEqDiff, Nat.reduceBEq, Nat.reduceAdd, Int.reduceLT, Int.reduceLE, Int.reduceEq, Int.reduceToNat, Int.reduceNeg, Nat.reduceLeDiff, Int.reducePow, implies_true, UInt8.reduceToNat, Int.reduceSub, Int.reduceAdd, Nat.reduceLT, Nat.reduceMul, Nat.reduceSub, Nat.reduceBNe] at hX
    subst hX
    refine lw_iF (fun he => lw_ret (Or.inl ⟨fun q => he ?_, _, _, rfl, by simp only [zzf, Nat.reduceBEq ], by simp only [hd, zzf, Nat.reduceBEq ]⟩)) (fun he => lw_norm (i + 1) (by omega) ⟨hm.bump _, hlk, ?_, by simp only [h0, zzf, Nat.reduceBEq ], by simp only [h5, zzf, Nat.reduceBEq ], by simp only [h7, zzf, Nat.reduceBEq ], by simp only [h8, zzf, Nat.reduceBEq ], by simp only [h72, zzf, Nat.reduceBEq ], by simp only [h73, zzf, Nat.reduceBEq ], by simp only [zzf, Nat.reduceBEq ], by simp only [hd, zzf, Nat.reduceBEq ]⟩)
    · rw [← hd2]; exact q _ (List.getElem_mem hlk)
    · intro x hx
      rw [List.take_succ_eq_append_getElem hlk, List.mem_append] at hx
      rcases hx with hx | hx
      · exact hn x hx
      · rw [List.mem_singleton.1 hx, hd2]; exact Classical.not_not.1 he
  · have hc : ¬ ((i : Int) < (k.length : Int)) := by omega
    rw [List.take_of_length_le (by omega)] at hn
    simp +contextual -implicitDefEqProofs (maxSteps := 1000000) (maxDischargeDepth := 8) only [F_tree_has_l0, h0, h5, h7, h8, h72, h73, h74, hd, hc, zza, argsF, reduceIte, reduceCtorEq, Nat.reduceEqDiff, Nat.reduceBEq, Nat.reduceAdd, Int.reduceLT, Int.reduceLE, Int.reduceEq, Int.reduceToNat, Int.reduceNeg, Nat.reduceLeDiff, Int.reducePow, implies_true, UInt8.reduceToNat, Int.reduceSub, Int.reduceAdd, Nat.reduceLT, Nat.reduceMul, Nat.reduceSub, Nat.reduceBNe] at hX
    subst hX
    exact lw_exit (Or.inr ⟨hn, _, _, rfl, hm, by simp only [h0, zzf, Nat.reduceBEq ], by simp only [h5, zzf, Nat.reduceBEq ], by simp only [h7, zzf, Nat.reduceBEq ], by simp only [h8, zzf, Nat.reduceBEq ], by simp only [hd, zzf, Nat.reduceBEq ]⟩)
theorem has_l1 {l : List Nd} {r : KRow} {k : List Int} {t1 t2 b5 ty : Nat} {nl1 nl2 : Bool} (hv : validK l k) (hkl : k.length ≤ r.kids.length) (hl : k.length < 1000000000) {m0 : Mem} (hb5 : m0.get b5 = .cells r.cells 8 ty false) {fr : Fr} (h0 : fr.get 0 = row nl1 t1 5 (nds l)) (h5 : fr.get 5 = .ptr b5 0) (h115 : fr.get 115 = row nl2 t2 1 (ints k)) (h116 : fr.get 116 = .int .i64 (k.length : Int)) (h117 : fr.get 117 = .int .i64 0) (hd : fr.defers = []) :
    ∃ o, exec U (.loop F_tree_has_l1) fr m0 = some o ∧ ((¬ sortsP l k r.kids ∧ ∃ fr' m', o = .ret fr' m' ∧ fr'.get 4 = .bool false ∧ fr'.defers = []) ∨ (sortsP l k r.kids ∧ ∃ fr' m', o = .exit 2 fr' m' ∧ SameM m0 m' ∧ fr'.defers = [])) := by
  refine loop_w (σ := Nat) (fun i fr m => SameM m0 m ∧ i ≤ k.length ∧ sortsP l (k.take i) r.kids ∧ fr.get 0 = row nl1 t1 5 (nds l) ∧ fr.get 5 = .ptr b5 0 ∧ fr.get 115 = row nl2 t2 1 (ints k) ∧ fr.get 116 = .int .i64 (k.length : Int) ∧ fr.get 117 = .int .i64 (i : Int) ∧ fr.defers = []) (fun i => k.length - i) _ ?_ 0 fr m0 ⟨.refl _, Nat.zero_le _, fun i x s h => by simp at h, h0, h5, h115, h116, h117, hd⟩
  rintro i fr m ⟨hm, hi, hn, h0, h5, h115, h116, h117, hd⟩
  replace hb5 := (hm.2 b5).trans hb5
  generalize hX : exec U F_tree_has_l1 fr m = X
  by_cases hlk : i < k.length
  · have hc : (i : Int) < (k.length : Int) := by omega
    have hg : k[i]? = some k[i] := List.getElem?_eq_getElem hlk
    have hlr : i < r.kids.length := by omega
    have hgr : r.kids[i]? = some r.kids[i] := List.getElem?_eq_getElem hlr
    obtain ⟨x0, x1⟩ := hv k[i] (List.getElem_mem hlk)
    obtain ⟨d, hd1, hd2⟩ := node_at x0 x1
    have hix := idx_int (k := .i64) x0 x1
    have hw1 := wrap_succ (i := i) (by omega)
    have hr0 : ∀ y, idx r.kids.length (.int .i64 (i : Int)) = some y ↔ i = y := fun y => by rw [idx_cast hlr]; simp
    simp +contextual -implicitDefEqProofs (maxSteps := 1000000) (maxDischargeDepth := 8) only [F_tree_has_l1, h0, h5, h115, h116, h117, hd, hc, hg, hgr, hlk, hlr, hw1, hb5, KRow.cells, idx_cast, ints_get, ints_len, nds_get, nds_len, hix, hd1, Nd.cells, tree_is, zza, argsF, reduceIte, reduceCtorEq, Nat.reduceEqDiff, Nat.reduceBEq, Nat.reduceAdd, Int.reduceLT, Int.reduceLE, Int.reduceEq, Int.reduceToNat, Int.reduceNeg, Nat.reduceLeDiff, Int.reducePow, implies_true, UInt8.reduceToNat, Int.reduceSub, Int.reduceAdd, Nat.reduceLT, Nat.reduceMul, Nat.reduceSub, Nat.reduceBNe] at hX
    subst hX
    refine lw_iF (fun he => lw_ret (Or.inl ⟨fun q => he ?_, _, _, rfl, by simp only [zzf, Nat.reduceBEq ], by simp only [hd, zzf, Nat.reduceBEq ]⟩)) (fun he => lw_norm (i + 1) (by omega) ⟨hm.bump _, hlk, ?_, by simp only [h0, zzf, Nat.reduceBEq ], by simp only [h5, zzf, Nat.reduceBEq ], by simp only [h115, zzf, Nat.reduceBEq ], by simp only [h116, zzf, Nat.reduceBEq ], by simp only [zzf, Nat.reduceBEq ], by simp only [hd, zzf, Nat.reduceBEq ]⟩)
    · rw [← hd2]; exact q i _ _ hg hgr
    · intro j x s hj hs
      rw [List.getElem?_take] at hj
      split at hj
      · rename_i hji
        by_cases hij : j < i
        · exact hn j x s (by rw [List.getElem?_take, if_pos hij]; exact hj) hs
        · obtain rfl : j = i := by omega
          rw [hg] at hj; rw [hgr] at hs
          cases hj; cases hs
          rw [hd2]; exact Classical.not_not.1 he
      · cases hj
  · have hc : ¬ ((i : Int) < (k.length : Int)) := by omega
    rw [List.take_of_length_le (by omega)] at hn
    simp +contextual -implicitDefEqProofs (maxSteps := 1000000) (maxDischargeDepth := 8) only [F_tree_has_l1, h0, h5, h115, h116, h117, hd, hc, zza, argsF, reduceIte, reduceCtorEq, Nat.reduceEqDiff, Nat.reduceBEq, Nat.reduceAdd, Int.reduceLT, Int.reduceLE, Int.reduceEq, Int.reduceToNat, Int.reduceNeg, Nat.reduceLeDiff, Int.reducePow, implies_true, UInt8.reduceToNat, Int.reduceSub, Int.reduceAdd, Nat.reduceLT, Nat.reduceMul, Nat.reduceSub, Nat.reduceBNe] at hX
    subst hX
    exact lw_exit (Or.inr ⟨hn, _, _, rfl, hm, by simp only [hd, zzf, Nat.reduceBEq ]⟩)
end Go.Proofs.YtblcomejcahkdaaDoor.Ev
end
section
namespace Go.Proofs.YtblcomejcahkdaaDoor.Ev
open Go
set_option maxRecDepth 20000
set_option maxHeartbeats 8000000
theorem ifO_split {p : Prop} {a b v : Option EV} (h1 : p → a = v) (h2 : ¬ p → b = v) : ifO p a b = v := by
  by_cases h : p
  · rw [ifO_pos h]; exact h1 h
  · rw [ifO_neg h]; exact h2 h
theorem rows_small (k : Int) : (rowF k).kids.length ≤ 3 := by
  unfold rowF
  split
  · have : ∀ n : Nat, n < 26 → ((rowsL.getD n zeroR).kids.length ≤ 3) := by decide
    exact this _ (by omega)
  · decide
theorem max0 {n : Nat} {m : Nat} (h : n < 1000000000) (h2 : m ≤ 3) : evMax [.int .i64 0, .int .i64 (IntKind.i64.wrap ((n : Int) - (m : Int)))] = some (.int .i64 ((n - m : Nat) : Int)) := by
  rw [wrap_i64 (by omega) (by omega)]
  simp only [evMax, maxFrom, Nat.beq_refl, cond_true]
  congr 2
  split <;> omega
theorem hasP_iff {l : List Nd} {kind n pos : Int} {kids : List Int} {nl : Bool} {s : Txt} {r : KRow} {n0 : Nat} (hr : rowF kind = r) (hn : lastN r kids = n0) : hasP l ⟨kind, kids, nl, n, s, pos⟩ ↔ ((1 ≤ kind ∧ kind ≤ 26) ∧ 0 ≤ pos ∧ r.low ≤ n ∧ n ≤ r.high ∧ (r.name = true ↔ s ≠ []) ∧ (r.name = true → nameP s) ∧
  (∀ x ∈ kids.take n0, sortP (kindOf l x) r.sort) ∧ (0 < r.more → (n0 : Int) ≤ r.more) ∧ ((kids.drop n0).length = r.kids.length ∨ r.maybe = true ∧ (kids.drop n0).length + 1 = r.kids.length) ∧ sortsP l (kids.drop n0) r.kids) := by
  subst hr hn; exact Iff.rfl
theorem tree_has {l : List Nd} {d : Nd} {t1 : Nat} {nl1 : Bool} (hv : validK l d.kids) (hl : d.kids.length < 1000000000) (hs : d.s.length < 1000000000) : pureR B K n_tree_has [row nl1 t1 5 (nds l), .agg d.cells] = some (bo (hasP l d)) := by
  rw [pure_at (by simp [F_tree_has])]
  generalize hL0 : exec (UT B K) (ICode.loop F_tree_has_l0) = L0
  generalize hL1 : exec (UT B K) (ICode.loop F_tree_has_l1) = L1
  have hrow := tree_rows (k := d.kind)
  have hnm := tree_name hs
  have hr3 := rows_small d.kind
  obtain ⟨kind, kids, nl, n, s, pos⟩ := d
  simp only at hv hl hs hrow hnm hr3
  generalize hr : rowF kind = r at *
  generalize hn0 : lastN r kids = n0 at *
  have hP := hasP_iff (l := l) (kind := kind) (n := n) (pos := pos) (kids := kids) (nl := nl) (s := s) hr hn0
  have hmx := max0 hl hr3
  have hvt : validK l (kids.take n0) := fun x hx => hv x (List.mem_of_mem_take hx)
  have hvd : validK l (kids.drop n0) := fun x hx => hv x (List.mem_of_mem_drop hx)
  have hw3 : IntKind.i64.wrap ((r.kids.length : Int) - 1) = (r.kids.length : Int) - 1 := wrap_i64 (by omega) (by omega)
  have e1 : (((kids.drop n0).length : Int) = (r.kids.length : Int)) = ((kids.drop n0).length = r.kids.length) := propext (by omega)
  have e2 : (((kids.drop n0).length : Int) = (r.kids.length : Int) - 1) = ((kids.drop n0).length + 1 = r.kids.length) := propext (by omega)
  have e3 : ((kids.length : Int) = (r.kids.length : Int)) = (kids.length = r.kids.length) := propext (by omega)
  have e4 : ((kids.length : Int) = (r.kids.length : Int) - 1) = (kids.length + 1 = r.kids.length) := propext (by omega)
  have fin : ∀ {fr : Fr} {m : Mem} {b5 : Nat} {nl2 : Bool} {t2 ty : Nat}, m.get b5 = .cells r.cells 8 ty false → fr.get 0 = row nl1 t1 5 (nds l) → fr.get 5 = .ptr b5 0 → fr.get 115 = row nl2 t2 1 (ints (kids.drop n0)) → fr.get 116 = .int .i64 ((kids.drop n0).length : Int) → fr.get 117 = .int .i64 0 → fr.defers = [] → (kids.drop n0).length ≤ r.kids.length →
      ∃ o, exec U (.loop F_tree_has_l1) fr m = some o ∧ ((¬ sortsP l (kids.drop n0) r.kids ∧ ∃ fr' m', o = .ret fr' m' ∧ fr'.get 4 = .bool false ∧ fr'.defers = []) ∨ (sortsP l (kids.drop n0) r.kids ∧ ∃ fr' m', o = .exit 2 fr' m' ∧ SameM m m' ∧ fr'.defers = [])) :=
    fun g0 g1 g2 g3 g4 g5 g6 g7 => has_l1 hvd g7 (by rw [List.length_drop]; omega) g0 g1 g2 g3 g4 g5 g6
  by_cases hm : 0 < r.more
  · have hlast : n0 = kids.length - r.kids.length := by rw [← hn0]; exact if_pos hm
    have hle : n0 ≤ kids.length := by omega
    have hlt : (kids.take n0).length = n0 := by rw [List.length_take]; omega
    rw [← hlast] at hmx
    cases hb : r.name
    all_goals
      simp +contextual -implicitDefEqProofs (maxSteps := 1000000) (maxDischargeDepth := 8) only [F_tree_has, Nd.cells, KRow.cells, hrow, hnm, hm, hb, Bool.false_eq_true, ints_len, hmx, hle, bound_cast, bound_none, ints_take, ints_drop, zza, argsF, reduceIte, reduceCtorEq, Nat.reduceEqDiff, Nat.reduceBEq, Nat.reduceAdd, Int.reduceLT, Int.reduceLE, Int.reduceEq, Int.reduceToNat, Int.reduceNeg, Nat.reduceLeDiff, Int.reducePow, implies_true, UInt8.reduceToNat, Int.reduceSub, Int.reduceAdd, Nat.reduceLT, Nat.reduceMul, Nat.reduceSub, Nat.reduceBNe]
      refine ifO_split (fun hc => congrArg some (ff_bo fun q => ?_)) (fun hc => ?_)
      · rw [hP] at q
        grind
      subst hL0
      generalize hX : exec _ (.loop F_tree_has_l0) _ _ = X
      have hb5 : (Blk.cells [EV.str r.word, bo (r.name = true), EV.int IntKind.i64 r.low, EV.int IntKind.i64 r.high, EV.int IntKind.i64 r.more, EV.int IntKind.i64 r.sort, row r.kids.isEmpty 0 1 (ints r.kids), bo (r.maybe = true)] 8 t_tree_row false) = .cells r.cells 8 t_tree_row false := rfl
      simp only [hb, Bool.false_eq_true, bo_tt, bo_ff] at hb5
      obtain ⟨o, rfl, h⟩ := looped hX (has_l0 (l := l) (r := r) (k := kids.take n0) (b5 := nb mem00.next 2) (ty := t_tree_row) (t1 := t1) (nl1 := nl1) (nl2 := nl && (ints kids).isEmpty) (t2 := 0) (v7 := row nl 0 1 (ints kids)) (v8 := .int .i64 (n0 : Int)) hvt (by omega) (by simp +contextual -implicitDefEqProofs (maxSteps := 1000000) (maxDischargeDepth := 8) only [hb5, zza, argsF, reduceIte, reduceCtorEq, Nat.reduceEqDiff, Nat.reduceBEq, Nat.reduceAdd, Int.reduceLT, Int.reduceLE, Int.reduceEq, Int.reduceToNat, Int.reduceNeg, Nat.reduceLeDiff, Int.reducePow, implies_true, UInt8.reduceToNat, Int.reduceSub, Int.reduceAdd, Nat.reduceLT, Nat.reduceMul, Nat.reduceSub, Nat.reduceBNe]) (by simp only [zzf, Nat.reduceBEq ]) (by simp only [zzf, Nat.reduceBEq ]) (by simp only [zzf, Nat.reduceBEq ]) (by simp only [zzf, Nat.reduceBEq ]) (by simp only [zzf, Nat.reduceBEq ]) (by simp only [hlt, zzf, Nat.reduceBEq ]) (by simp only [zzf, Nat.reduceBEq ]) (by simp only [zzf, Nat.reduceBEq ]))
      rcases h with ⟨h, fr', m', rfl, g4, gd⟩ | ⟨h, fr', m', rfl, hsm, g0, g5, g7, g8, gd⟩
      · simp +contextual -implicitDefEqProofs (maxSteps := 1000000) (maxDischargeDepth := 8) only [g4, gd, zza, argsF, reduceIte, reduceCtorEq, Nat.reduceEqDiff, Nat.reduceBEq, Nat.reduceAdd, Int.reduceLT, Int.reduceLE, Int.reduceEq, Int.reduceToNat, Int.reduceNeg, Nat.reduceLeDiff, Int.reducePow, implies_true, UInt8.reduceToNat, Int.reduceSub, Int.reduceAdd, Nat.reduceLT, Nat.reduceMul, Nat.reduceSub, Nat.reduceBNe]
        exact congrArg some (ff_bo fun q => h (hP.1 q).2.2.2.2.2.2.1)
      have hb6 : m'.get (nb mem00.next 2) = .cells r.cells 8 t_tree_row false := (hsm.2 _).trans (by simp +contextual -implicitDefEqProofs (maxSteps := 1000000) (maxDischargeDepth := 8) only [hb5, zza, argsF, reduceIte, reduceCtorEq, Nat.reduceEqDiff, Nat.reduceBEq, Nat.reduceAdd, Int.reduceLT, Int.reduceLE, Int.reduceEq, Int.reduceToNat, Int.reduceNeg, Nat.reduceLeDiff, Int.reducePow, implies_true, UInt8.reduceToNat, Int.reduceSub, Int.reduceAdd, Nat.reduceLT, Nat.reduceMul, Nat.reduceSub, Nat.reduceBNe])
      have hb7 := hb6
      simp only [KRow.cells] at hb6
      by_cases hmore : r.more < (n0 : Int)
      · simp +contextual -implicitDefEqProofs (maxSteps := 1000000) (maxDischargeDepth := 8) only [g0, g5, g7, g8, gd, hb6, hmore, zza, argsF, reduceIte, reduceCtorEq, Nat.reduceEqDiff, Nat.reduceBEq, Nat.reduceAdd, Int.reduceLT, Int.reduceLE, Int.reduceEq, Int.reduceToNat, Int.reduceNeg, Nat.reduceLeDiff, Int.reducePow, implies_true, UInt8.reduceToNat, Int.reduceSub, Int.reduceAdd, Nat.reduceLT, Nat.reduceMul, Nat.reduceSub, Nat.reduceBNe]
        exact congrArg some (ff_bo fun q => by have := (hP.1 q).2.2.2.2.2.2.2.1 hm; omega)
      simp +contextual -implicitDefEqProofs (maxSteps := 1000000) (maxDischargeDepth := 8) only [g0, g5, g7, g8, gd, hb6, hmore, hle, bound_cast, bound_none, List.take_length, ints_take, ints_drop, ints_len, hw3, e1, e2, zza, argsF, reduceIte, reduceCtorEq, Nat.reduceEqDiff, Nat.reduceBEq, Nat.reduceAdd, Int.reduceLT, Int.reduceLE, Int.reduceEq, Int.reduceToNat, Int.reduceNeg, Nat.reduceLeDiff, Int.reducePow, implies_true, UInt8.reduceToNat, Int.reduceSub, Int.reduceAdd, Nat.reduceLT, Nat.reduceMul, Nat.reduceSub, Nat.reduceBNe]
      refine ifO_split (fun hc => congrArg some (ff_bo fun q => ?_)) (fun hc2 => ?_)
      · have := (hP.1 q).2.2.2.2.2.2.2.2.1
        grind
      subst hL1
      generalize hY : exec _ (.loop F_tree_has_l1) _ _ = Y
      obtain ⟨o, rfl, h2⟩ := looped hY (fin (b5 := nb mem00.next 2) (ty := t_tree_row) (nl2 := nl && (ints kids).isEmpty) (t2 := 0) (by simp +contextual -implicitDefEqProofs (maxSteps := 1000000) (maxDischargeDepth := 8) only [hb7, zza, argsF, reduceIte, reduceCtorEq, Nat.reduceEqDiff, Nat.reduceBEq, Nat.reduceAdd, Int.reduceLT, Int.reduceLE, Int.reduceEq, Int.reduceToNat, Int.reduceNeg, Nat.reduceLeDiff, Int.reducePow, implies_true, UInt8.reduceToNat, Int.reduceSub, Int.reduceAdd, Nat.reduceLT, Nat.reduceMul, Nat.reduceSub, Nat.reduceBNe]) (by simp only [g0, zzf, Nat.reduceBEq ]) (by simp only [g5, zzf, Nat.reduceBEq ]) (by simp only [zzf, Nat.reduceBEq ]) (by simp only [zzf, Nat.reduceBEq ]) (by simp only [zzf, Nat.reduceBEq ]) (by simp only [gd, zzf, Nat.reduceBEq ]) (by grind))
      rcases h2 with ⟨h2, fr2, m2, rfl, k4, kd⟩ | ⟨h2, fr2, m2, rfl, hsm2, kd⟩
      · simp +contextual -implicitDefEqProofs (maxSteps := 1000000) (maxDischargeDepth := 8) only [k4, kd, zza, argsF, reduceIte, reduceCtorEq, Nat.reduceEqDiff, Nat.reduceBEq, Nat.reduceAdd, Int.reduceLT, Int.reduceLE, Int.reduceEq, Int.reduceToNat, Int.reduceNeg, Nat.reduceLeDiff, Int.reducePow, implies_true, UInt8.reduceToNat, Int.reduceSub, Int.reduceAdd, Nat.reduceLT, Nat.reduceMul, Nat.reduceSub, Nat.reduceBNe]
        exact congrArg some (ff_bo fun q => h2 (hP.1 q).2.2.2.2.2.2.2.2.2)
      · simp +contextual -implicitDefEqProofs (maxSteps := 1000000) (maxDischargeDepth := 8) only [kd, zza, argsF, reduceIte, reduceCtorEq, Nat.reduceEqDiff, Nat.reduceBEq, Nat.reduceAdd, Int.reduceLT, Int.reduceLE, Int.reduceEq, Int.reduceToNat, Int.reduceNeg, Nat.reduceLeDiff, Int.reducePow, implies_true, UInt8.reduceToNat, Int.reduceSub, Int.reduceAdd, Nat.reduceLT, Nat.reduceMul, Nat.reduceSub, Nat.reduceBNe]
        refine congrArg some (tt_bo (hP.2 ?_))
        grind
  · have hlast : n0 = 0 := by rw [← hn0]; exact if_neg hm
    subst hlast
    rw [List.drop_zero] at *
    cases hb : r.name
    all_goals
      simp +contextual -implicitDefEqProofs (maxSteps := 1000000) (maxDischargeDepth := 8) only [F_tree_has, Nd.cells, KRow.cells, hrow, hnm, hm, hb, Bool.false_eq_true, ints_len, hw3, e3, e4, zza, argsF, reduceIte, reduceCtorEq, Nat.reduceEqDiff, Nat.reduceBEq, Nat.reduceAdd, Int.reduceLT, Int.reduceLE, Int.reduceEq, Int.reduceToNat, Int.reduceNeg, Nat.reduceLeDiff, Int.reducePow, implies_true, UInt8.reduceToNat, Int.reduceSub, Int.reduceAdd, Nat.reduceLT, Nat.reduceMul, Nat.reduceSub, Nat.reduceBNe]
      refine ifO_split (fun hc => congrArg some (ff_bo fun q => ?_)) (fun hc => ?_)
      · rw [hP] at q
        grind
      refine ifO_split (fun hc => congrArg some (ff_bo fun q => ?_)) (fun hc2 => ?_)
      · have := (hP.1 q).2.2.2.2.2.2.2.2.1
        grind
      subst hL1
      have hb5 : (Blk.cells [EV.str r.word, bo (r.name = true), EV.int IntKind.i64 r.low, EV.int IntKind.i64 r.high, EV.int IntKind.i64 r.more, EV.int IntKind.i64 r.sort, row r.kids.isEmpty 0 1 (ints r.kids), bo (r.maybe = true)] 8 t_tree_row false) = .cells r.cells 8 t_tree_row false := rfl
      simp only [hb, Bool.false_eq_true, bo_tt, bo_ff] at hb5
      generalize hY : exec _ (.loop F_tree_has_l1) _ _ = Y
      obtain ⟨o, rfl, h2⟩ := looped hY (fin (b5 := nb mem00.next 2) (ty := t_tree_row) (nl2 := nl) (t2 := 0) (by simp +contextual -implicitDefEqProofs (maxSteps := 1000000) (maxDischargeDepth := 8) only [hb5, zza, argsF, reduceIte, reduceCtorEq, Nat.reduceEqDiff, Nat.reduceBEq, Nat.reduceAdd, Int.reduceLT, Int.reduceLE, Int.reduceEq, Int.reduceToNat, Int.reduceNeg, Nat.reduceLeDiff, Int.reducePow, implies_true, UInt8.reduceToNat, Int.reduceSub, Int.reduceAdd, Nat.reduceLT, Nat.reduceMul, Nat.reduceSub, Nat.reduceBNe]) (by simp only [zzf, Nat.reduceBEq ]) (by simp only [zzf, Nat.reduceBEq ]) (by simp only [zzf, Nat.reduceBEq ]) (by simp only [zzf, Nat.reduceBEq ]) (by simp only [zzf, Nat.reduceBEq ]) (by simp only [zzf, Nat.reduceBEq ]) (by grind))
      rcases h2 with ⟨h2, fr2, m2, rfl, k4, kd⟩ | ⟨h2, fr2, m2, rfl, hsm2, kd⟩
      · simp +contextual -implicitDefEqProofs (maxSteps := 1000000) (maxDischargeDepth := 8) only [k4, kd, zza, argsF, reduceIte, reduceCtorEq, Nat.reduceEqDiff, Nat.reduceBEq, Nat.reduceAdd, Int.reduceLT, Int.reduceLE, Int.reduceEq, Int.reduceToNat, Int.reduceNeg, Nat.reduceLeDiff, Int.reducePow, implies_true, UInt8.reduceToNat, Int.reduceSub, Int.reduceAdd, Nat.reduceLT, Nat.reduceMul, Nat.reduceSub, Nat.reduceBNe]
        exact congrArg some (ff_bo fun q => h2 (hP.1 q).2.2.2.2.2.2.2.2.2)
      · simp +contextual -implicitDefEqProofs (maxSteps := 1000000) (maxDischargeDepth := 8) only [kd, zza, argsF, reduceIte, reduceCtorEq, Nat.reduceEqDiff, Nat.reduceBEq, Nat.reduceAdd, Int.reduceLT, Int.reduceLE, Int.reduceEq, Int.reduceToNat, Int.reduceNeg, Nat.reduceLeDiff, Int.reducePow, implies_true, UInt8.reduceToNat, Int.reduceSub, Int.reduceAdd, Nat.reduceLT, Nat.reduceMul, Nat.reduceSub, Nat.reduceBNe]
        refine congrArg some (tt_bo (hP.2 ?_))
        have : ∀ x ∈ List.take 0 kids, sortP (kindOf l x) r.sort := by simp
        grind
end Go.Proofs.YtblcomejcahkdaaDoor.Ev
end
section
namespace Go.Proofs.YtblcomejcahkdaaDoor.Ev
open Go
set_option maxRecDepth 20000
set_option maxHeartbeats 8000000
theorem sorts_nil {l : List Nd} {ss : List Int} : sortsP l [] ss ↔ True := ⟨fun _ => trivial, fun _ i x s h => by simp at h⟩
theorem sorts_none {l : List Nd} {ks : List Int} : sortsP l ks [] ↔ True := ⟨fun _ => trivial, fun _ i x s _ h => by simp at h⟩
theorem sorts_cons {l : List Nd} {k s : Int} {ks ss : List Int} : sortsP l (k :: ks) (s :: ss) ↔ sortP (kindOf l k) s ∧ sortsP l ks ss := by
  constructor
  · intro h
    exact ⟨h 0 k s rfl rfl, fun i x t hx ht => h (i + 1) x t (by simpa using hx) (by simpa using ht)⟩
  · rintro ⟨h1, h2⟩ i x t hx ht
    cases i with
    | zero => simp at hx ht; subst hx; subst ht; exact h1
    | succ i => exact h2 i x t (by simpa using hx) (by simpa using ht)
theorem own_row {k : Int} {d : Nd} (hd : d.kind = k) {name : Bool} {low high : Int} (hn : (k ∈ namedL) ↔ name = true) (hr : 1 ≤ k ∧ k ≤ 26) (hi : (if k = 1 then 0 ≤ d.n else if k = 2 then d.n = 0 ∨ d.n = 1 else if k = 5 then 1 ≤ d.n ∧ d.n ≤ 16 else if k = 24 ∨ k = 25 then 1 ≤ d.n ∧ d.n ≤ 3 else d.n = 0) ↔ (low ≤ d.n ∧ d.n ≤ high)) :
    ownP d ↔ (0 ≤ d.pos ∧ low ≤ d.n ∧ d.n ≤ high ∧ (name = true ↔ d.s ≠ []) ∧ (name = true → nameP d.s)) := by
  unfold ownP
  rw [hd, hi, hn]
  constructor
  · rintro ⟨h1, h2, h3⟩
    simp only [not_or, Classical.not_not] at h1
    refine ⟨by omega, h3.1, h3.2, h1.2, fun h => ?_⟩
    have := h1.2.1 h
    exact Classical.byContradiction fun q => h2 ⟨this, q⟩
  · rintro ⟨h1, h2, h3, h4, h5⟩
    refine ⟨?_, fun q => q.2 (h5 (h4.2 q.1)), h2, h3⟩
    simp only [not_or, Classical.not_not]
    exact ⟨⟨⟨by omega, by omega⟩, by omega⟩, h4⟩
theorem hasP_doc {l : List Nd} {d : Nd} (hn : d.n ≤ 9223372036854775807) (hk : d.kids.length < 1000000000) : hasP l d ↔ ownP d ∧ kidsP l d := by
  by_cases h : 1 ≤ d.kind ∧ d.kind ≤ 26
  · have hc : d.kind = 1 ∨ d.kind = 2 ∨ d.kind = 3 ∨ d.kind = 4 ∨ d.kind = 5 ∨ d.kind = 6 ∨ d.kind = 7 ∨ d.kind = 8 ∨ d.kind = 9 ∨ d.kind = 10 ∨ d.kind = 11 ∨ d.kind = 12 ∨ d.kind = 13 ∨ d.kind = 14 ∨ d.kind = 15 ∨ d.kind = 16 ∨ d.kind = 17 ∨ d.kind = 18 ∨ d.kind = 19 ∨ d.kind = 20 ∨ d.kind = 21 ∨ d.kind = 22 ∨ d.kind = 23 ∨ d.kind = 24 ∨ d.kind = 25 ∨ d.kind = 26 := by omega
    have key : ∀ r : KRow, rowF d.kind = r → (((d.kind ∈ namedL) ↔ r.name = true) ∧ ((if d.kind = 1 then 0 ≤ d.n else if d.kind = 2 then d.n = 0 ∨ d.n = 1 else if d.kind = 5 then 1 ≤ d.n ∧ d.n ≤ 16 else if d.kind = 24 ∨ d.kind = 25 then 1 ≤ d.n ∧ d.n ≤ 3 else d.n = 0) ↔ (r.low ≤ d.n ∧ d.n ≤ r.high)) ∧
        (kidsP l d ↔ (∀ x ∈ d.kids.take (lastN r d.kids), sortP (kindOf l x) r.sort) ∧ (0 < r.more → (lastN r d.kids : Int) ≤ r.more) ∧ ((d.kids.drop (lastN r d.kids)).length = r.kids.length ∨ r.maybe = true ∧ (d.kids.drop (lastN r d.kids)).length + 1 = r.kids.length) ∧ sortsP l (d.kids.drop (lastN r d.kids)) r.kids)) →
        (hasP l d ↔ ownP d ∧ kidsP l d) := by
      rintro r hr ⟨h1, h2, h3⟩
      rw [own_row (k := d.kind) rfl h1 h h2, h3]
      unfold hasP
      rw [hr]
      simp only
      constructor
      · rintro ⟨_, a1, a2, a3, a4, a5, a6, a7, a8, a9⟩; exact ⟨⟨a1, a2, a3, a4, a5⟩, a6, a7, a8, a9⟩
      · rintro ⟨⟨a1, a2, a3, a4, a5⟩, a6, a7, a8, a9⟩; exact ⟨h, a1, a2, a3, a4, a5, a6, a7, a8, a9⟩
    obtain ⟨kind, kids, nl, n, s, pos⟩ := d
    simp only at *
    have l0 : ∀ {p q r : Prop}, True := trivial
    rcases hc with rfl | rfl | rfl | rfl | rfl | rfl | rfl | rfl | rfl | rfl | rfl | rfl | rfl | rfl | rfl | rfl | rfl | rfl | rfl | rfl | rfl | rfl | rfl | rfl | rfl | rfl
    all_goals refine key _ rfl ⟨by simp [namedL, rowF, rowsL], by simp [rowF, rowsL] <;> omega, ?_⟩
    case inr.inr.inr.inr.inr.inr.inr.inr.inr.inr.inl =>
      have e : lastN (rowF 11) kids = kids.length := by simp [lastN, rowF, rowsL]
      rw [e, List.take_length, List.drop_length]
      simp [kidsP, sorts_nil, sortP, exprsP, exprK, rowF, rowsL]
      exact ⟨fun q => ⟨q.2, by omega⟩, fun q => ⟨by omega, q.1⟩⟩
    case inr.inr.inr.inr.inr.inr.inr.inr.inr.inr.inr.inr.inr.inr.inr.inr.inr.inr.inr.inr.inr.inr.inl =>
      have e : lastN (rowF 23) kids = kids.length := by simp [lastN, rowF, rowsL]
      rw [e, List.take_length, List.drop_length]
      simp [kidsP, sorts_nil, sortP, stmtK, rowF, rowsL]
      intros
      omega
    case inr.inr.inr.inr.inr.inr.inr.inr.inr.inr.inr.inr.inr.inr.inr.inr.inr.inr.inr.inr.inr.inr.inr.inr.inl =>
      have e : lastN (rowF 25) kids = kids.length - 1 := by simp [lastN, rowF, rowsL]
      rw [e]
      rcases List.eq_nil_or_concat kids with rfl | ⟨ks, x, rfl⟩
      · simp [kidsP, rowF, rowsL]
      · simp [kidsP, sorts_nil, sorts_cons, sortP, allP, rowF, rowsL]
        grind
    case inr.inr.inr.inr.inr.inr.inr.inr.inr.inr.inr.inr.inr.inr.inr.inr.inr.inr.inr.inr.inr.inr.inr.inr.inr =>
      have e : lastN (rowF 26) kids = kids.length := by simp [lastN, rowF, rowsL]
      rw [e, List.take_length, List.drop_length]
      simp [kidsP, sorts_nil, sortP, allP, rowF, rowsL]
      grind
    all_goals
      rcases kids with _ | ⟨a, _ | ⟨b, _ | ⟨c, _ | ⟨e, ks⟩⟩⟩⟩ <;> simp [kidsP, lastN, sorts_nil, sorts_none, sorts_cons, sortP, exprsP, allP, exprK, stmtK, rowF, rowsL] <;> grind
  · constructor
    · intro q; exact absurd q.1 h
    · rintro ⟨q, _⟩
      unfold ownP at q
      refine absurd ?_ h
      have := q.1
      simp only [not_or] at this
      omega
end Go.Proofs.YtblcomejcahkdaaDoor.Ev
end
section
namespace Go.Proofs.YtblcomejcahkdaaDoor.Ev
open Go
set_option maxRecDepth 20000
set_option maxHeartbeats 8000000
theorem max2 {k : IntKind} {a b : Int} : evMax [.int k a, .int k b] = some (.int k (max a b)) := by
  simp only [evMax, maxFrom, Nat.beq_refl, cond_true]
  congr 2
  split <;> omega
def outs (l : List Nd) (i : Nat) (h : Int) : List EV := (List.range l.length).map fun j => .int .i64 (if j < i then (highN l j : Int) else if j = i then h else 0)
noncomputable def useds (n : Nat) (u : List Int) : List EV := (List.range n).map fun (j : Nat) => bo ((j : Int) ∈ u)
theorem outs_len {l : List Nd} {i : Nat} {h : Int} : (outs l i h).length = l.length := by simp [outs]
theorem useds_len {n : Nat} {u : List Int} : (useds n u).length = n := by simp [useds]
theorem outs_at {l : List Nd} {i : Nat} {h : Int} (hi : i < l.length) : (outs l i h)[i]? = some (.int .i64 h) := by
  unfold outs; rw [List.getElem?_map, List.getElem?_range hi]; simp
theorem outs_lt {l : List Nd} {i j : Nat} {h : Int} (hi : i ≤ l.length) (hj : j < i) : (outs l i h)[j]? = some (.int .i64 (highN l j : Int)) := by
  unfold outs; rw [List.getElem?_map, List.getElem?_range (by omega)]; simp [hj]
theorem outs_set {l : List Nd} {i : Nat} {h h2 : Int} (hi : i < l.length) : (outs l i h).take i ++ [.int .i64 h2] ++ (outs l i h).drop (i + 1) = outs l i h2 := by
  apply List.ext_getElem?
  intro j
  have hl := outs_len (l := l) (i := i) (h := h)
  have e : ∀ h, (outs l i h)[j]? = if j < l.length then some (.int .i64 (if j < i then (highN l j : Int) else if j = i then h else 0)) else none := by
    intro h
    unfold outs
    rw [List.getElem?_map]
    by_cases q : j < l.length
    · rw [List.getElem?_range q, if_pos q]; rfl
    · rw [List.getElem?_eq_none (by simp; omega), if_neg q]; rfl
  rw [e]
  by_cases h1 : j < i
  · rw [List.append_assoc, List.getElem?_append_left (by rw [List.length_take]; omega), List.getElem?_take, if_pos h1, e]
    simp [h1]
  · by_cases hji : j = i
    · subst hji
      rw [List.append_assoc, List.getElem?_append_right (by rw [List.length_take]; omega), List.length_take, hl, show j - min j l.length = 0 by omega]
      simp [hi]
    · rw [List.getElem?_append_right (by simp; omega), List.getElem?_drop]
      rw [show i + 1 + (j - ((outs l i h).take i ++ [EV.int .i64 h2]).length) = j by simp [outs_len]; omega, e]
      simp [h1, hji]
theorem outs_next {l : List Nd} {i : Nat} : outs l i (highN l i : Int) = outs l (i + 1) 0 := by
  unfold outs
  refine List.map_congr_left fun j _ => ?_
  by_cases h1 : j < i
  · rw [if_pos h1, if_pos (by omega)]
  · by_cases h2 : j = i
    · subst h2; rw [if_neg (by omega), if_pos rfl, if_pos (by omega)]
    · rw [if_neg h1, if_neg h2, if_neg (by omega)]; split <;> rfl
theorem outs_0 {l : List Nd} : copies l.length [.int .i64 0] = outs l 0 0 := by
  unfold copies outs
  apply List.ext_getElem?
  intro j
  have : (List.replicate l.length [EV.int .i64 0]).flatten = List.replicate l.length (EV.int .i64 0) := by
    generalize l.length = n
    induction n with
    | zero => rfl
    | succ n ih => rw [List.replicate_succ, List.flatten_cons, ih]; rfl
  rw [this, List.getElem?_replicate, List.getElem?_map]
  by_cases q : j < l.length
  · rw [if_pos q, List.getElem?_range q]
    simp
  · rw [if_neg q, List.getElem?_eq_none (by simp; omega)]; rfl
theorem outs_end {l : List Nd} : outs l l.length 0 = (ints ((List.range l.length).map fun j => (highN l j : Int))).flatten := by
  unfold outs
  rw [ints_flat, List.map_map]
  refine List.map_congr_left fun j hj => ?_
  rw [if_pos (List.mem_range.1 hj)]; rfl
theorem useds_at {n j : Nat} {u : List Int} (h : j < n) : (useds n u)[j]? = some (bo ((j : Int) ∈ u)) := by
  unfold useds; rw [List.getElem?_map, List.getElem?_range h]; rfl
theorem useds_set {n x : Nat} {u : List Int} (hx : x < n) : (useds n u).take x ++ [.bool true] ++ (useds n u).drop (x + 1) = useds n (u ++ [(x : Int)]) := by
  apply List.ext_getElem?
  intro j
  have hl := useds_len (n := n) (u := u)
  have e : ∀ u, (useds n u)[j]? = if j < n then some (bo ((j : Int) ∈ u)) else none := by
    intro u
    unfold useds
    rw [List.getElem?_map]
    by_cases q : j < n
    · rw [List.getElem?_range q, if_pos q]; rfl
    · rw [List.getElem?_eq_none (by simp; omega), if_neg q]; rfl
  rw [e (u ++ [(x : Int)])]
  by_cases h1 : j < x
  · rw [List.append_assoc, List.getElem?_append_left (by rw [List.length_take]; omega), List.getElem?_take, if_pos h1, e, if_pos (by omega), if_pos (by omega)]
    refine congrArg some (bo_iff' ?_)
    simp; omega
  · by_cases h2 : j = x
    · subst h2
      rw [List.append_assoc, List.getElem?_append_right (by rw [List.length_take]; omega), List.length_take, hl, show j - min j n = 0 by omega, if_pos hx]
      simp [bo]
    · rw [List.getElem?_append_right (by simp; omega), List.getElem?_drop, show x + 1 + (j - ((useds n u).take x ++ [EV.bool true]).length) = j by simp [useds_len]; omega, e]
      by_cases q : j < n
      · rw [if_pos q, if_pos q]
        refine congrArg some (bo_iff' ?_)
        simp; omega
      · rw [if_neg q, if_neg q]
theorem useds_0 {n : Nat} : copies n [.bool false] = useds n [] := by
  unfold copies useds
  apply List.ext_getElem?
  intro j
  have : (List.replicate n [EV.bool false]).flatten = List.replicate n (EV.bool false) := by
    clear j
    induction n with
    | zero => rfl
    | succ n ih => rw [List.replicate_succ, List.flatten_cons, ih]; rfl
  rw [this, List.getElem?_replicate, List.getElem?_map]
  by_cases q : j < n
  · rw [if_pos q, List.getElem?_range q]
    simp [bo]
  · rw [if_neg q, List.getElem?_eq_none (by simp; omega)]; rfl
def foldH (l : List Nd) (ks : List Int) : Nat := ks.foldl (fun h x => max h (1 + highN l x.toNat)) 1
theorem foldH_snoc {l : List Nd} {ks : List Int} {x : Int} : foldH l (ks ++ [x]) = max (foldH l ks) (1 + highN l x.toNat) := by unfold foldH; rw [List.foldl_append]; rfl
theorem highF_take {l : List Nd} {i : Nat} (hk : kidsLt (l.take i)) : ∀ (f y : Nat), y < i → highF (l.take i) f y = highF l f y
  | 0, y, _ => rfl
  | f + 1, y, hy => by
    simp only [highF]
    rw [List.getElem?_take, if_pos hy]
    cases hd : l[y]? with
    | none => rfl
    | some d =>
      simp only
      have hx := hk y d (by rw [List.getElem?_take, if_pos hy, hd])
      generalize d.kids = ks at hx
      have : ∀ (ks : List Int) (a : Nat), (∀ x ∈ ks, 0 ≤ x ∧ x < (y : Int)) → ks.foldl (fun h x => max h (1 + highF (l.take i) f x.toNat)) a = ks.foldl (fun h x => max h (1 + highF l f x.toNat)) a := by
        intro ks
        induction ks with
        | nil => intro a _; rfl
        | cons x ks ihk =>
          intro a h
          have := h x (by simp)
          rw [List.foldl_cons, List.foldl_cons, highF_take hk f x.toNat (by omega)]
          exact ihk _ fun z hz => h z (by simp [hz])
      exact this ks 1 hx
theorem highN_take {l : List Nd} {i y : Nat} (hy : y < i) (hk : kidsLt (l.take i)) : highN (l.take i) y = highN l y := highF_take hk _ _ hy
theorem heights_l0 {l : List Nd} {i bo_ bu to tu : Nat} {d : Nd} {u : List Int} {v0 v6 : EV} {nl : Bool} {t : Nat} {w15 w16 w17 : EV} (hk : kidsLt (l.take i)) (hs : Small l) (hd0 : l[i]? = some d) (hu : u.Nodup) {m0 : Mem} {fr : Fr} (hne : bo_ ≠ bu)
    (hbo : m0.get bo_ = .cells (outs l i 1) 1 to false) (hbu : m0.get bu = .cells (useds l.length u) 1 tu false) (h0 : fr.get 0 = v0) (h6 : fr.get 6 = v6)
    (h3 : fr.get 3 = .slice bo_ 0 l.length (some l.length)) (h4 : fr.get 4 = .slice bu 0 l.length (some l.length)) (h5 : fr.get 5 = .int .i64 (i : Int))
    (h15 : fr.get 15 = w15) (h16 : fr.get 16 = w16) (h17 : fr.get 17 = w17)
    (h26 : fr.get 26 = row nl t 1 (ints d.kids)) (h27 : fr.get 27 = .int .i64 (d.kids.length : Int)) (h28 : fr.get 28 = .int .i64 0) (hd : fr.defers = []) :
    ∃ o, exec U (.loop F_tree_Heights_l0) fr m0 = some o ∧ ((((∀ x ∈ d.kids, 0 ≤ x ∧ x < (i : Int)) ∧ (u ++ d.kids).Nodup) ∧ ∃ fr' m', o = .exit 2 fr' m' ∧ m'.get bo_ = .cells (outs l i (foldH l d.kids : Int)) 1 to false ∧ m'.get bu = .cells (useds l.length (u ++ d.kids)) 1 tu false ∧
        m0.next ≤ m'.next ∧ (∀ b, b ≠ bo_ → b ≠ bu → m'.get b = m0.get b) ∧ fr'.get 0 = v0 ∧ fr'.get 6 = v6 ∧ fr'.get 3 = .slice bo_ 0 l.length (some l.length) ∧ fr'.get 4 = .slice bu 0 l.length (some l.length) ∧ fr'.get 5 = .int .i64 (i : Int) ∧ fr'.get 15 = w15 ∧ fr'.get 16 = w16 ∧ fr'.get 17 = w17 ∧ fr'.defers = []) ∨
      (¬ ((∀ x ∈ d.kids, 0 ≤ x ∧ x < (i : Int)) ∧ (u ++ d.kids).Nodup) ∧ ∃ fr' m', o = .ret fr' m' ∧ fr'.get 2 = .nilslice ∧ fr'.defers = [])) := by
  have hil : i < l.length := (List.getElem?_eq_some_iff.1 hd0).1
  have hlen := hs.len
  have hkl := hs.kids d (List.mem_of_getElem? hd0)
  refine loop_w (σ := Nat) (fun j fr m => j ≤ d.kids.length ∧ (∀ x ∈ d.kids.take j, 0 ≤ x ∧ x < (i : Int)) ∧ (u ++ d.kids.take j).Nodup ∧ m.get bo_ = .cells (outs l i (foldH l (d.kids.take j) : Int)) 1 to false ∧ m.get bu = .cells (useds l.length (u ++ d.kids.take j)) 1 tu false ∧
      m0.next ≤ m.next ∧ (∀ b, b ≠ bo_ → b ≠ bu → m.get b = m0.get b) ∧ fr.get 0 = v0 ∧ fr.get 6 = v6 ∧ fr.get 3 = .slice bo_ 0 l.length (some l.length) ∧ fr.get 4 = .slice bu 0 l.length (some l.length) ∧ fr.get 5 = .int .i64 (i : Int) ∧ fr.get 15 = w15 ∧ fr.get 16 = w16 ∧ fr.get 17 = w17 ∧
      fr.get 26 = row nl t 1 (ints d.kids) ∧ fr.get 27 = .int .i64 (d.kids.length : Int) ∧ fr.get 28 = .int .i64 (j : Int) ∧ fr.defers = []) (fun j => d.kids.length - j) _ ?_ 0 fr m0
    ⟨Nat.zero_le _, by simp, by simpa using hu, hbo, by simpa using hbu, Nat.le_refl _, fun _ _ _ => rfl, h0, h6, h3, h4, h5, h15, h16, h17, h26, h27, h28, hd⟩
  rintro j fr m ⟨hj, hall, hnd, hbo, hbu, hnx, hkeep, h0, h6, h3, h4, h5, h15, h16, h17, h26, h27, h28, hd⟩
  generalize hX : exec U F_tree_Heights_l0 fr m = X
  by_cases hlt : j < d.kids.length
  · have hc : (j : Int) < (d.kids.length : Int) := by omega
    have hg : d.kids[j]? = some d.kids[j] := List.getElem?_eq_getElem hlt
    have htk : d.kids.take (j + 1) = d.kids.take j ++ [d.kids[j]] := List.take_succ_eq_append_getElem hlt
    have hmem := List.getElem_mem hlt
    have hw1 := wrap_succ (i := j) (by omega)
    generalize d.kids[j] = x at *
    by_cases x0 : x < 0
    · simp +contextual -implicitDefEqProofs (maxSteps := 1000000) (maxDischargeDepth := 8) only [F_tree_Heights_l0, h3, h4, h5, h26, h27, h28, hd, hc, hg, hlt, idx_cast, ints_get, ints_len, x0, zza, argsF, reduceIte, reduceCtorEq, Nat.reduceEqDiff, Nat.reduceBEq, Nat.reduceAdd, Int.reduceLT, Int.reduceLE, Int.reduceEq, Int.reduceToNat, Int.reduceNeg, Nat.reduceLeDiff, Int.reducePow, implies_true, UInt8.reduceToNat, Int.reduceSub, Int.reduceAdd, Nat.reduceLT, Nat.reduceMul, Nat.reduceSub, Nat.reduceBNe] at hX
      subst hX
      exact lw_ret (Or.inr ⟨fun q => by have := q.1 x hmem; omega, _, _, rfl, by simp only [zzf, Nat.reduceBEq ], by simp only [hd, zzf, Nat.reduceBEq ]⟩)
    · by_cases x1 : (i : Int) ≤ x
      · simp +contextual -implicitDefEqProofs (maxSteps := 1000000) (maxDischargeDepth := 8) only [F_tree_Heights_l0, h3, h4, h5, h26, h27, h28, hd, hc, hg, hlt, idx_cast, ints_get, ints_len, x0, x1, zza, argsF, reduceIte, reduceCtorEq, Nat.reduceEqDiff, Nat.reduceBEq, Nat.reduceAdd, Int.reduceLT, Int.reduceLE, Int.reduceEq, Int.reduceToNat, Int.reduceNeg, Nat.reduceLeDiff, Int.reducePow, implies_true, UInt8.reduceToNat, Int.reduceSub, Int.reduceAdd, Nat.reduceLT, Nat.reduceMul, Nat.reduceSub, Nat.reduceBNe] at hX
        subst hX
        exact lw_ret (Or.inr ⟨fun q => by have := q.1 x hmem; omega, _, _, rfl, by simp only [zzf, Nat.reduceBEq ], by simp only [hd, zzf, Nat.reduceBEq ]⟩)
      · obtain ⟨y, rfl⟩ := Int.eq_ofNat_of_zero_le (show 0 ≤ x by omega)
        have hyi : y < i := by omega
        have hyl : y < l.length := by omega
        have hix : idx l.length (.int .i64 (y : Int)) = some y := idx_cast hyl
        have hii : idx l.length (.int .i64 (i : Int)) = some i := idx_cast hil
        have hua := useds_at (u := u ++ d.kids.take j) hyl
        by_cases hused : (y : Int) ∈ u ++ d.kids.take j
        · simp +contextual -implicitDefEqProofs (maxSteps := 1000000) (maxDischargeDepth := 8) only [F_tree_Heights_l0, h3, h4, h5, h26, h27, h28, hd, hc, hg, hlt, idx_cast, ints_get, ints_len, x0, x1, hix, hua, hbu, hused, bo_tt, Nat.mul_one, zza, argsF, reduceIte, reduceCtorEq, Nat.reduceEqDiff, Nat.reduceBEq, Nat.reduceAdd, Int.reduceLT, Int.reduceLE, Int.reduceEq, Int.reduceToNat, Int.reduceNeg, Nat.reduceLeDiff, Int.reducePow, implies_true, UInt8.reduceToNat, Int.reduceSub, Int.reduceAdd, Nat.reduceLT, Nat.reduceMul, Nat.reduceSub, Nat.reduceBNe] at hX
          subst hX
          refine lw_ret (Or.inr ⟨fun q => ?_, _, _, rfl, by simp only [zzf, Nat.reduceBEq ], by simp only [hd, zzf, Nat.reduceBEq ]⟩)
          have q2 : (u ++ d.kids.take j ++ [(y : Int)]).Nodup := by
            rw [List.append_assoc, ← htk]
            exact List.Nodup.sublist (List.Sublist.append (List.Sublist.refl u) (List.take_sublist _ _)) q.2
          rw [List.nodup_append] at q2
          exact q2.2.2 _ hused _ (by simp) rfl
        · have hou := outs_at (l := l) (h := (foldH l (d.kids.take j) : Int)) hil
          have hoy := outs_lt (l := l) (h := (foldH l (d.kids.take j) : Int)) (Nat.le_of_lt hil) hyi
          have hul := useds_len (n := l.length) (u := u ++ d.kids.take j)
          have hol := outs_len (l := l) (i := i) (h := (foldH l (d.kids.take j) : Int))
          have hus := useds_set (u := u ++ d.kids.take j) hyl
          have hos := fun h2 => outs_set (l := l) (h := (foldH l (d.kids.take j) : Int)) (h2 := h2) hil
          have hhy : highN l y ≤ y + 1 := by
            have := highN_le hk y
            rw [highN_take hyi hk] at this
            exact this
          have hw2 : IntKind.i64.wrap ((highN l y : Int) + 1) = ((highN l y + 1 : Nat) : Int) := by rw [wrap_i64 (by omega) (by omega)]; omega
          have z1 : y + 1 ≤ l.length := hyl
          have z2 : i + 1 ≤ l.length := hil
          simp +contextual -implicitDefEqProofs (maxSteps := 1000000) (maxDischargeDepth := 8) only [F_tree_Heights_l0, h3, h4, h5, h26, h27, h28, hd, hc, hg, hlt, hw1, idx_cast, ints_get, ints_len, x0, x1, hix, hii, hua, hbu, hbo, hne, hne.symm, hused, hou, hoy, hul, hol, hus, hos, hw2, z1, z2, max2, bo_ff, Nat.mul_one, zza, argsF, reduceIte, reduceCtorEq, Nat.reduceEqDiff, Nat.reduceBEq, Nat.reduceAdd, Int.reduceLT, Int.reduceLE, Int.reduceEq, Int.reduceToNat, Int.reduceNeg, Nat.reduceLeDiff, Int.reducePow, implies_true, UInt8.reduceToNat, Int.reduceSub, Int.reduceAdd, Nat.reduceLT, Nat.reduceMul, Nat.reduceSub, Nat.reduceBNe] at hX
          subst hX
          refine lw_norm (j + 1) (by omega) ⟨hlt, ?_, ?_, ?_, ?_, ?_, ?_, by simp only [h0, zzf, Nat.reduceBEq ], by simp only [h6, zzf, Nat.reduceBEq ], by simp only [h3, zzf, Nat.reduceBEq ], by simp only [h4, zzf, Nat.reduceBEq ], by simp only [h5, zzf, Nat.reduceBEq ], by simp only [h15, zzf, Nat.reduceBEq ], by simp only [h16, zzf, Nat.reduceBEq ], by simp only [h17, zzf, Nat.reduceBEq ], by simp only [h26, zzf, Nat.reduceBEq ], by simp only [h27, zzf, Nat.reduceBEq ], by simp only [zzf, Nat.reduceBEq ], by simp only [hd, zzf, Nat.reduceBEq ]⟩
          · intro z hz
            rw [htk, List.mem_append] at hz
            rcases hz with hz | hz
            · exact hall z hz
            · rw [List.mem_singleton.1 hz]; omega
          · rw [htk, ← List.append_assoc, List.nodup_append]
            refine ⟨hnd, by simp, fun a ha2 b hb => ?_⟩
            rw [List.mem_singleton.1 hb]
            rintro rfl
            exact hused ha2
          · rw [get_bump, get_set_eq, htk, foldH_snoc]
            congr 3
            show max _ _ = ((max _ (1 + highN l (y : Int).toNat) : Nat) : Int)
            rw [show ((y : Nat) : Int).toNat = y by omega]
            omega
          · rw [get_bump, get_set_ne hne.symm, get_set_eq, htk, List.append_assoc]
          · rw [next_bump, next_set, next_set]; unfold nb; omega
          · intro b hb1 hb2
            rw [get_bump, get_set_ne hb1, get_set_ne hb2]; exact hkeep b hb1 hb2
  · have hc : ¬ ((j : Int) < (d.kids.length : Int)) := by omega
    have htk : d.kids.take j = d.kids := List.take_of_length_le (by omega)
    rw [htk] at hall hnd hbo hbu
    simp +contextual -implicitDefEqProofs (maxSteps := 1000000) (maxDischargeDepth := 8) only [F_tree_Heights_l0, h3, h4, h5, h26, h27, h28, hd, hc, zza, argsF, reduceIte, reduceCtorEq, Nat.reduceEqDiff, Nat.reduceBEq, Nat.reduceAdd, Int.reduceLT, Int.reduceLE, Int.reduceEq, Int.reduceToNat, Int.reduceNeg, Nat.reduceLeDiff, Int.reducePow, implies_true, UInt8.reduceToNat, Int.reduceSub, Int.reduceAdd, Nat.reduceLT, Nat.reduceMul, Nat.reduceSub, Nat.reduceBNe] at hX
    subst hX
    exact lw_exit (Or.inl ⟨⟨hall, hnd⟩, _, _, rfl, hbo, hbu, hnx, hkeep, by simp only [h0, zzf, Nat.reduceBEq ], by simp only [h6, zzf, Nat.reduceBEq ], by simp only [h3, zzf, Nat.reduceBEq ], by simp only [h4, zzf, Nat.reduceBEq ], by simp only [h5, zzf, Nat.reduceBEq ], by simp only [h15, zzf, Nat.reduceBEq ], by simp only [h16, zzf, Nat.reduceBEq ], by simp only [h17, zzf, Nat.reduceBEq ], by simp only [hd, zzf, Nat.reduceBEq ]⟩)
end Go.Proofs.YtblcomejcahkdaaDoor.Ev
end
section
namespace Go.Proofs.YtblcomejcahkdaaDoor.Ev
open Go
theorem usedL_lt {l : List Nd} (hk : kidsLt l) : ∀ x ∈ usedL l, x ∈ upto (l.length - 1) := by
  intro x hx
  obtain ⟨i, d, hi, hx⟩ := usedL_mem.1 hx
  have h1 := hk i d hi x hx
  have h2 := (List.getElem?_eq_some_iff.1 hi).1
  exact upto_mem.2 ⟨h1.1, by omega⟩
theorem foldl_max_ge {f : Int → Nat} : ∀ (ks : List Int) (a : Nat), a ≤ ks.foldl (fun h x => max h (f x)) a
  | [], a => Nat.le_refl _
  | x :: ks, a => by rw [List.foldl_cons]; exact Nat.le_trans (Nat.le_max_left _ _) (foldl_max_ge ks _)
theorem foldl_max_mem {f : Int → Nat} {x : Int} : ∀ (ks : List Int) (a : Nat), x ∈ ks → f x ≤ ks.foldl (fun h x => max h (f x)) a
  | y :: ks, a, h => by
    rw [List.foldl_cons]
    rcases List.mem_cons.1 h with rfl | h
    · exact Nat.le_trans (Nat.le_max_right _ _) (foldl_max_ge ks _)
    · exact foldl_max_mem ks _ h
theorem high_kid {l : List Nd} (hk : kidsLt l) {i : Nat} {d : Nd} (hd : l[i]? = some d) {x : Int} (hx : x ∈ d.kids) : highN l x.toNat + 1 ≤ highN l i := by
  rw [highN_eq hk hd, Nat.add_comm]
  exact foldl_max_mem (f := fun x => 1 + highN l x.toNat) _ _ hx
theorem high_top {l : List Nd} (hk : kidsLt l) (hu : ∀ x ∈ upto (l.length - 1), x ∈ usedL l) : ∀ (n j : Nat), l.length - j ≤ n → j < l.length → highN l j ≤ highN l (l.length - 1)
  | 0, j, h, hj => by omega
  | n + 1, j, h, hj => by
    by_cases e : j = l.length - 1
    · rw [e]; exact Nat.le_refl _
    · obtain ⟨i, d, hi, hx⟩ := usedL_mem.1 (hu (j : Int) (upto_mem.2 ⟨by omega, by omega⟩))
      have h1 := hk i d hi _ hx
      have h2 := (List.getElem?_eq_some_iff.1 hi).1
      have h3 := high_kid hk hi hx
      rw [show ((j : Int)).toNat = j by omega] at h3
      have := high_top hk hu n i (by omega) h2
      omega
def heightsTo (l : List Nd) (i : Nat) : Prop := (∀ (j : Nat) (d : Nd), j < i → l[j]? = some d → (∀ x ∈ d.kids, 0 ≤ x ∧ x < (j : Int)) ∧ (ownP d ∧ kidsP l d) ∧ highN l j ≤ 200) ∧ (usedL (l.take i)).Nodup
theorem heights_right {l : List Nd} : rightP l ↔ heightsTo l l.length ∧ 0 < l.length ∧ ∀ x ∈ upto (l.length - 1), x ∈ usedL l := by
  unfold heightsTo
  rw [List.take_of_length_le (Nat.le_refl _)]
  constructor
  · rintro ⟨⟨h1, h2, h3⟩, h4, h5, h6⟩
    have hall : ∀ x ∈ upto (l.length - 1), x ∈ usedL l := by
      intro x hx
      refine Classical.byContradiction fun hn => ?_
      have : (x :: usedL l).length ≤ (upto (l.length - 1)).length := len_of_sub (List.nodup_cons.2 ⟨hn, h2⟩) fun y hy => by
        rcases List.mem_cons.1 hy with rfl | hy
        · exact hx
        · exact usedL_lt h1 y hy
      rw [upto_len, List.length_cons] at this
      omega
    refine ⟨⟨fun j d hj hd => ⟨h1 j d hd, h3 d (List.mem_of_getElem? hd), Nat.le_trans (high_top h1 hall _ j (Nat.le_refl _) hj) h6⟩, h2⟩, h4, hall⟩
  · rintro ⟨⟨h1, h2⟩, h3, h4⟩
    have hk : kidsLt l := fun i d hd => (h1 i d (List.getElem?_eq_some_iff.1 hd).1 hd).1
    refine ⟨⟨hk, h2, fun d hd => ?_⟩, h3, ?_, ?_⟩
    · obtain ⟨i, hi⟩ := List.mem_iff_getElem?.1 hd
      exact (h1 i d (List.getElem?_eq_some_iff.1 hi).1 hi).2.1
    · have a := len_of_sub h2 (usedL_lt hk)
      have b := len_of_sub upto_nodup h4
      rw [upto_len] at a b
      omega
    · obtain ⟨d, hd⟩ : ∃ d, l[l.length - 1]? = some d := ⟨_, List.getElem?_eq_getElem (by omega)⟩
      exact (h1 _ d (by omega) hd).2.2
theorem high_fold {l : List Nd} {i : Nat} {d : Nd} (hk : kidsLt (l.take i)) (hd : l[i]? = some d) (hx : ∀ x ∈ d.kids, 0 ≤ x ∧ x < (i : Int)) : highN l i = foldH l d.kids := by
  have hk2 : kidsLt (l.take (i + 1)) := by
    intro j e he
    rw [List.getElem?_take] at he
    split at he
    · by_cases hj : j < i
      · exact hk j e (by rw [List.getElem?_take, if_pos hj]; exact he)
      · obtain rfl : j = i := by omega
        rw [hd] at he; cases he; exact hx
    · cases he
  have hd2 : (l.take (i + 1))[i]? = some d := by rw [List.getElem?_take, if_pos (by omega), hd]
  have h := highN_eq hk2 hd2
  rw [highN_take (by omega) hk2] at h
  rw [h]
  unfold foldH
  generalize d.kids = ks at hx
  have : ∀ (ks : List Int) (a : Nat), (∀ x ∈ ks, 0 ≤ x ∧ x < (i : Int)) → ks.foldl (fun h x => max h (1 + highN (l.take (i + 1)) x.toNat)) a = ks.foldl (fun h x => max h (1 + highN l x.toNat)) a := by
    intro ks
    induction ks with
    | nil => intro a _; rfl
    | cons x ks ihk =>
      intro a h
      have := h x (by simp)
      rw [List.foldl_cons, List.foldl_cons, highN_take (by omega) hk2]
      exact ihk _ fun z hz => h z (by simp [hz])
  exact this ks 1 hx
end Go.Proofs.YtblcomejcahkdaaDoor.Ev
end
section
namespace Go.Proofs.YtblcomejcahkdaaDoor.Ev
open Go
set_option maxRecDepth 20000
set_option maxHeartbeats 8000000
theorem bidx_loop {n k b ty : Nat} {u : List Int} {cap : Option Nat} (hn : n < 1000000000) (hk : k ≤ n) {m0 : Mem} (hb : m0.get b = .cells (useds n u) 1 ty false) {fr : Fr} (h0 : fr.get 0 = .slice b 0 k cap) (h1 : fr.get 1 = .bool false) (h7 : fr.get 7 = .int .i64 (k : Int)) (h8 : fr.get 8 = .int .i64 0) (hd : fr.defers = []) :
    ∃ o, exec U (.loop F_slices_Index_bool_l0) fr m0 = some o ∧ (((∃ x ∈ upto k, x ∉ u) ∧ ∃ fr' r, o = .ret fr' m0 ∧ fr'.get 4 = .int .i64 r ∧ 0 ≤ r ∧ fr'.defers = []) ∨ ((¬ ∃ x ∈ upto k, x ∉ u) ∧ ∃ fr', o = .exit 0 fr' m0 ∧ fr'.defers = [])) := by
  refine loop_w (σ := Nat) (fun i fr m => m = m0 ∧ i ≤ k ∧ (∀ j : Nat, j < i → (j : Int) ∈ u) ∧ fr.get 0 = .slice b 0 k cap ∧ fr.get 1 = .bool false ∧ fr.get 7 = .int .i64 (k : Int) ∧ fr.get 8 = .int .i64 (i : Int) ∧ fr.defers = []) (fun i => k - i) _ ?_ 0 fr m0 ⟨rfl, Nat.zero_le _, by omega, h0, h1, h7, h8, hd⟩
  rintro i fr m ⟨rfl, hi, hall, h0, h1, h7, h8, hd⟩
  generalize hX : exec U F_slices_Index_bool_l0 fr m = X
  by_cases hlt : i < k
  · have hc : (i : Int) < (k : Int) := by omega
    have hg := useds_at (u := u) (show i < n by omega)
    have hix : idx k (.int .i64 (i : Int)) = some i := idx_cast hlt
    have hw1 := wrap_succ (i := i) (by omega)
    by_cases he : (i : Int) ∈ u
    · simp +contextual -implicitDefEqProofs (maxSteps := 1000000) (maxDischargeDepth := 8) only [F_slices_Index_bool_l0, h0, h1, h7, h8, hd, hc, hb, hg, hix, he, hw1, bo_tt, Nat.mul_one, zza, argsF, reduceIte, reduceCtorEq, Nat.reduceEqDiff, Nat.reduceBEq, Nat.reduceAdd, Int.reduceLT, Int.reduceLE, Int.reduceEq, Int.reduceToNat, Int.reduceNeg, Nat.reduceLeDiff, Int.reducePow, implies_true, UInt8.reduceToNat, Int.reduceSub, Int.reduceAdd, Nat.reduceLT, Nat.reduceMul, Nat.reduceSub, Nat.reduceBNe] at hX
      subst hX
      refine lw_norm (i + 1) (by omega) ⟨rfl, hlt, fun j hj => ?_, by simp only [h0, zzf, Nat.reduceBEq ], by simp only [h1, zzf, Nat.reduceBEq ], by simp only [h7, zzf, Nat.reduceBEq ], by simp only [zzf, Nat.reduceBEq ], by simp only [hd, zzf, Nat.reduceBEq ]⟩
      by_cases hji : j < i
      · exact hall j hji
      · obtain rfl : j = i := by omega
        exact he
    · simp +contextual -implicitDefEqProofs (maxSteps := 1000000) (maxDischargeDepth := 8) only [F_slices_Index_bool_l0, h0, h1, h7, h8, hd, hc, hb, hg, hix, he, hw1, bo_ff, Nat.mul_one, zza, argsF, reduceIte, reduceCtorEq, Nat.reduceEqDiff, Nat.reduceBEq, Nat.reduceAdd, Int.reduceLT, Int.reduceLE, Int.reduceEq, Int.reduceToNat, Int.reduceNeg, Nat.reduceLeDiff, Int.reducePow, implies_true, UInt8.reduceToNat, Int.reduceSub, Int.reduceAdd, Nat.reduceLT, Nat.reduceMul, Nat.reduceSub, Nat.reduceBNe] at hX
      subst hX
      exact lw_ret (.inl ⟨⟨(i : Int), upto_mem.2 ⟨by omega, hc⟩, he⟩, _, (i : Int), rfl, by simp only [zzf, Nat.reduceBEq ], by omega, by simp only [hd, zzf, Nat.reduceBEq ]⟩)
  · have hc : ¬ ((i : Int) < (k : Int)) := by omega
    simp +contextual -implicitDefEqProofs (maxSteps := 1000000) (maxDischargeDepth := 8) only [F_slices_Index_bool_l0, h0, h1, h7, h8, hd, hc, zza, argsF, reduceIte, reduceCtorEq, Nat.reduceEqDiff, Nat.reduceBEq, Nat.reduceAdd, Int.reduceLT, Int.reduceLE, Int.reduceEq, Int.reduceToNat, Int.reduceNeg, Nat.reduceLeDiff, Int.reducePow, implies_true, UInt8.reduceToNat, Int.reduceSub, Int.reduceAdd, Nat.reduceLT, Nat.reduceMul, Nat.reduceSub, Nat.reduceBNe] at hX
    subst hX
    refine lw_exit (.inr ⟨?_, _, rfl, by simp only [hd, zzf, Nat.reduceBEq ]⟩)
    rintro ⟨x, hx, hxu⟩
    have := upto_mem.1 hx
    have h := hall x.toNat (by omega)
    rw [show ((x.toNat : Nat) : Int) = x by omega] at h
    exact hxu h
theorem bidx_run {n k b ty : Nat} {u : List Int} {cap : Option Nat} (hn : n < 1000000000) (hk : k ≤ n) {m : Mem} (hb : m.get b = .cells (useds n u) 1 ty false) : ∃ r, run U n_slices_Index_bool [.slice b 0 k cap, .bool false] m = some (.ret (.int .i64 r) m) ∧ (0 ≤ r ↔ ∃ x ∈ upto k, x ∉ u) := by
  rw [run_p2 (by simp [F_slices_Index_bool])]
  generalize hL : exec (UT B K) (ICode.loop F_slices_Index_bool_l0) = L
  simp +contextual -implicitDefEqProofs (maxSteps := 1000000) (maxDischargeDepth := 8) only [F_slices_Index_bool, zza, argsF, reduceIte, reduceCtorEq, Nat.reduceEqDiff, Nat.reduceBEq, Nat.reduceAdd, Int.reduceLT, Int.reduceLE, Int.reduceEq, Int.reduceToNat, Int.reduceNeg, Nat.reduceLeDiff, Int.reducePow, implies_true, UInt8.reduceToNat, Int.reduceSub, Int.reduceAdd, Nat.reduceLT, Nat.reduceMul, Nat.reduceSub, Nat.reduceBNe]
  subst hL
  generalize hX : exec _ (.loop F_slices_Index_bool_l0) _ _ = X
  obtain ⟨o, rfl, h⟩ := looped hX (bidx_loop (n := n) (k := k) (b := b) (ty := ty) (u := u) (cap := cap) hn hk hb (by simp only [zzf, Nat.reduceBEq ]) (by simp only [zzf, Nat.reduceBEq ]) (by simp only [zzf, Nat.reduceBEq ]) (by simp only [zzf, Nat.reduceBEq ]) (by simp only [zzf, Nat.reduceBEq ]))
  rcases h with ⟨h, fr', r, rfl, h4, hr, hd⟩ | ⟨h, fr', rfl, hd⟩
  · refine ⟨r, ?_, ⟨fun _ => h, fun _ => hr⟩⟩
    simp +contextual -implicitDefEqProofs (maxSteps := 1000000) (maxDischargeDepth := 8) only [h4, hd, zza, argsF, reduceIte, reduceCtorEq, Nat.reduceEqDiff, Nat.reduceBEq, Nat.reduceAdd, Int.reduceLT, Int.reduceLE, Int.reduceEq, Int.reduceToNat, Int.reduceNeg, Nat.reduceLeDiff, Int.reducePow, implies_true, UInt8.reduceToNat, Int.reduceSub, Int.reduceAdd, Nat.reduceLT, Nat.reduceMul, Nat.reduceSub, Nat.reduceBNe]
  · refine ⟨-1, ?_, ⟨fun q => by omega, fun q => absurd q h⟩⟩
    simp +contextual -implicitDefEqProofs (maxSteps := 1000000) (maxDischargeDepth := 8) only [hd, zza, argsF, reduceIte, reduceCtorEq, Nat.reduceEqDiff, Nat.reduceBEq, Nat.reduceAdd, Int.reduceLT, Int.reduceLE, Int.reduceEq, Int.reduceToNat, Int.reduceNeg, Nat.reduceLeDiff, Int.reducePow, implies_true, UInt8.reduceToNat, Int.reduceSub, Int.reduceAdd, Nat.reduceLT, Nat.reduceMul, Nat.reduceSub, Nat.reduceBNe]
theorem bhas_run {n k b ty : Nat} {u : List Int} {cap : Option Nat} (hn : n < 1000000000) (hk : k ≤ n) {m : Mem} (hb : m.get b = .cells (useds n u) 1 ty false) : run U n_slices_Contains_bool [.slice b 0 k cap, .bool false] m = some (.ret (bo (∃ x ∈ upto k, x ∉ u)) m) := by
  rw [run_p2 (by simp [F_slices_Contains_bool])]
  obtain ⟨r, h, hr⟩ := bidx_run (cap := cap) hn hk hb
  simp +contextual -implicitDefEqProofs (maxSteps := 1000000) (maxDischargeDepth := 8) only [F_slices_Contains_bool, h, hr, zza, argsF, reduceIte, reduceCtorEq, Nat.reduceEqDiff, Nat.reduceBEq, Nat.reduceAdd, Int.reduceLT, Int.reduceLE, Int.reduceEq, Int.reduceToNat, Int.reduceNeg, Nat.reduceLeDiff, Int.reducePow, implies_true, UInt8.reduceToNat, Int.reduceSub, Int.reduceAdd, Nat.reduceLT, Nat.reduceMul, Nat.reduceSub, Nat.reduceBNe]
theorem heights_l1 {l : List Nd} {t bo_ bu to tu : Nat} {nl : Bool} (hs : Small l) (hn : ∀ d ∈ l, d.n ≤ 9223372036854775807) {m0 : Mem} {fr : Fr} (hne : bo_ ≠ bu) (hlo : bo_ < m0.next) (hlu : bu < m0.next)
    (hbo : m0.get bo_ = .cells (outs l 0 0) 1 to false) (hbu : m0.get bu = .cells (useds l.length []) 1 tu false) (h0 : fr.get 0 = row nl t 5 (nds l))
    (h3 : fr.get 3 = .slice bo_ 0 l.length (some l.length)) (h4 : fr.get 4 = .slice bu 0 l.length (some l.length)) (h15 : fr.get 15 = row nl t 5 (nds l)) (h16 : fr.get 16 = .int .i64 (l.length : Int)) (h17 : fr.get 17 = .int .i64 0) (hd : fr.defers = []) :
    ∃ o, exec U (.loop F_tree_Heights_l1) fr m0 = some o ∧ ((heightsTo l l.length ∧ ∃ fr' m', o = .exit 0 fr' m' ∧ m'.get bo_ = .cells (outs l l.length 0) 1 to false ∧ m'.get bu = .cells (useds l.length (usedL l)) 1 tu false ∧ bo_ < m'.next ∧ bu < m'.next ∧ fr'.get 0 = row nl t 5 (nds l) ∧ fr'.get 3 = .slice bo_ 0 l.length (some l.length) ∧ fr'.get 4 = .slice bu 0 l.length (some l.length) ∧ fr'.defers = []) ∨
      (¬ heightsTo l l.length ∧ ∃ fr' m', o = .ret fr' m' ∧ fr'.get 2 = .nilslice ∧ fr'.defers = [])) := by
  have hlen := hs.len
  refine loop_w (σ := Nat) (fun i fr m => i ≤ l.length ∧ heightsTo l i ∧ m.get bo_ = .cells (outs l i 0) 1 to false ∧ m.get bu = .cells (useds l.length (usedL (l.take i))) 1 tu false ∧ bo_ < m.next ∧ bu < m.next ∧ fr.get 0 = row nl t 5 (nds l) ∧ fr.get 3 = .slice bo_ 0 l.length (some l.length) ∧ fr.get 4 = .slice bu 0 l.length (some l.length) ∧
      fr.get 15 = row nl t 5 (nds l) ∧ fr.get 16 = .int .i64 (l.length : Int) ∧ fr.get 17 = .int .i64 (i : Int) ∧ fr.defers = []) (fun i => l.length - i) _ ?_ 0 fr m0
    ⟨Nat.zero_le _, ⟨fun j d hj => by omega, by simp [usedL]⟩, hbo, by simpa [usedL] using hbu, hlo, hlu, h0, h3, h4, h15, h16, h17, hd⟩
  rintro i fr m ⟨hi, hr, hbo, hbu, hlo, hlu, h0, h3, h4, h15, h16, h17, hd⟩
  generalize hX : exec U F_tree_Heights_l1 fr m = X
  by_cases hlt : i < l.length
  · have hc : (i : Int) < (l.length : Int) := by omega
    have hd0 : l[i]? = some l[i] := List.getElem?_eq_getElem hlt
    have hmem := List.getElem_mem hlt
    have hk1 := hs.kids _ hmem
    have hk2 := hs.s _ hmem
    have hnn := hn _ hmem
    have hsn := usedL_snoc hd0
    generalize l[i] = d at *
    have hkt : kidsLt (l.take i) := by
      intro j e he
      rw [List.getElem?_take] at he
      split at he
      · exact (hr.1 j e ‹_› he).1
      · cases he
    have hw1 := wrap_succ (i := i) (by omega)
    have hii : idx l.length (.int .i64 (i : Int)) = some i := idx_cast hlt
    have hol := outs_len (l := l) (i := i) (h := 0)
    have hos := outs_set (l := l) (h := 0) (h2 := 1) hlt
    have z2 : i + 1 ≤ l.length := hlt
    generalize hL : exec (UT B K) (ICode.loop F_tree_Heights_l0) = L
    simp +contextual -implicitDefEqProofs (maxSteps := 1000000) (maxDischargeDepth := 8) only [F_tree_Heights_l1, h0, h3, h4, h15, h16, h17, hd, hc, hd0, hii, hbo, hlo, hol, hos, z2, Nat.mul_one, nds_get, nds_len, Nd.cells, zza, argsF, reduceIte, reduceCtorEq, Nat.reduceEqDiff, Nat.reduceBEq, Nat.reduceAdd, Int.reduceLT, Int.reduceLE, Int.reduceEq, Int.reduceToNat, Int.reduceNeg, Nat.reduceLeDiff, Int.reducePow, implies_true, UInt8.reduceToNat, Int.reduceSub, Int.reduceAdd, Nat.reduceLT, Nat.reduceMul, Nat.reduceSub, Nat.reduceBNe] at hX
    subst hL
    generalize hY : exec _ (.loop F_tree_Heights_l0) _ _ = Y at hX
    have b1 : (ext (m.set bo_ (Blk.cells (outs l i 1) 1 to false)) [Blk.cells [EV.int IntKind.i64 d.kind, row d.nl 0 1 (ints d.kids), EV.int IntKind.i64 d.n, EV.str d.s, EV.int IntKind.i64 d.pos] 5 t_api_Node false]).get bo_ = .cells (outs l i 1) 1 to false := by rw [get_ext_old (by rw [next_set]; exact hlo), get_set_eq]
    have b2 : (ext (m.set bo_ (Blk.cells (outs l i 1) 1 to false)) [Blk.cells [EV.int IntKind.i64 d.kind, row d.nl 0 1 (ints d.kids), EV.int IntKind.i64 d.n, EV.str d.s, EV.int IntKind.i64 d.pos] 5 t_api_Node false]).get bu = .cells (useds l.length (usedL (l.take i))) 1 tu false := by rw [get_ext_old (by rw [next_set]; exact hlu), get_set_ne hne.symm, hbu]
    have b3 : (ext (m.set bo_ (Blk.cells (outs l i 1) 1 to false)) [Blk.cells [EV.int IntKind.i64 d.kind, row d.nl 0 1 (ints d.kids), EV.int IntKind.i64 d.n, EV.str d.s, EV.int IntKind.i64 d.pos] 5 t_api_Node false]).get (nb m.next 0) = Blk.cells [EV.int IntKind.i64 d.kind, row d.nl 0 1 (ints d.kids), EV.int IntKind.i64 d.n, EV.str d.s, EV.int IntKind.i64 d.pos] 5 t_api_Node false := by rw [get_ext_nb (by rw [next_set]) (by simp)]; rfl
    have b4 : (ext (m.set bo_ (Blk.cells (outs l i 1) 1 to false)) [Blk.cells [EV.int IntKind.i64 d.kind, row d.nl 0 1 (ints d.kids), EV.int IntKind.i64 d.n, EV.str d.s, EV.int IntKind.i64 d.pos] 5 t_api_Node false]).next = nb m.next 1 := by rw [next_ext, next_set]; rfl
    generalize (ext (m.set bo_ (Blk.cells (outs l i 1) 1 to false)) _) = M1 at b1 b2 b3 b4 hY
    obtain ⟨o, rfl, h⟩ := looped hY (heights_l0 (l := l) (i := i) (bo_ := bo_) (bu := bu) (to := to) (tu := tu) (d := d) (u := usedL (l.take i)) (v0 := row nl t 5 (nds l)) (v6 := .ptr (nb m.next 0) 0) (nl := d.nl) (t := 0) (w15 := row nl t 5 (nds l)) (w16 := .int .i64 (l.length : Int)) (w17 := .int .i64 (i : Int)) hkt hs hd0 hr.2 hne b1 b2
      (by simp only [h0, zzf, Nat.reduceBEq ]) (by simp only [zzf, Nat.reduceBEq ]) (by simp only [h3, zzf, Nat.reduceBEq ]) (by simp only [h4, zzf, Nat.reduceBEq ]) (by simp only [zzf, Nat.reduceBEq ]) (by simp only [h15, zzf, Nat.reduceBEq ]) (by simp only [h16, zzf, Nat.reduceBEq ]) (by simp only [h17, zzf, Nat.reduceBEq ]) (by simp only [zzf, Nat.reduceBEq ]) (by simp only [ints_len, zzf, Nat.reduceBEq ]) (by simp only [zzf, Nat.reduceBEq ]) (by simp only [hd, zzf, Nat.reduceBEq ]))
    rcases h with ⟨⟨g1, g2⟩, fr', m', rfl, c1, c2, c3, c4, h0, h6, h3, h4, h5, h15, h16, h17, hd⟩ | ⟨g, fr', m', rfl, h2, hd⟩
    · have hv : validK l d.kids := fun x hx => by have := g1 x hx; omega
      have hkk := kids_few g1 (List.nodup_append.1 g2).2.1
      have hh := high_fold hkt hd0 g1
      rw [← hh] at c1
      have hhas : ∀ t1 nl1, pureR B K n_tree_has [row nl1 t1 5 (nds l), .agg [.int .i64 d.kind, row d.nl 0 1 (ints d.kids), .int .i64 d.n, .str d.s, .int .i64 d.pos]] = some (bo (ownP d ∧ kidsP l d)) := fun t1 nl1 => by
        have := tree_has (l := l) (d := d) (t1 := t1) (nl1 := nl1) hv (by omega) (by omega)
        rw [bo_iff' (hasP_doc hnn (by omega))] at this
        exact this
      have hn0 : nb m.next 0 = m.next := rfl
      have b5 : m'.get (nb m.next 0) = Blk.cells [EV.int IntKind.i64 d.kind, row d.nl 0 1 (ints d.kids), EV.int IntKind.i64 d.n, EV.str d.s, EV.int IntKind.i64 d.pos] 5 t_api_Node false := (c4 _ (by rw [hn0]; omega) (by rw [hn0]; omega)).trans b3
      have hou := outs_at (l := l) (h := (highN l i : Int)) hlt
      have hq2 : ((200 : Int) < (highN l i : Int)) = (200 < highN l i) := propext (by omega)
      have nx : nb m.next 1 = m.next + 1 := rfl
      simp +contextual -implicitDefEqProofs (maxSteps := 1000000) (maxDischargeDepth := 8) only [h0, h3, h4, h5, h6, h15, h16, h17, hd, hhas, b5, c1, hou, hii, hq2, hw1, Nat.mul_one, zza, argsF, reduceIte, reduceCtorEq, Nat.reduceEqDiff, Nat.reduceBEq, Nat.reduceAdd, Int.reduceLT, Int.reduceLE, Int.reduceEq, Int.reduceToNat, Int.reduceNeg, Nat.reduceLeDiff, Int.reducePow, implies_true, UInt8.reduceToNat, Int.reduceSub, Int.reduceAdd, Nat.reduceLT, Nat.reduceMul, Nat.reduceSub, Nat.reduceBNe] at hX
      subst hX
      refine lw_iF (fun hp => lw_ret (Or.inr ⟨fun q => ?_, _, _, rfl, by simp only [zzf, Nat.reduceBEq ], by simp only [hd, zzf, Nat.reduceBEq ]⟩)) (fun hp => lw_norm (i + 1) (by omega) ⟨hlt, ⟨fun j e hj he => ?_, by rw [hsn]; exact g2⟩, by rw [← outs_next]; exact c1, by rw [hsn]; exact c2, by omega, by omega, by simp only [h0, zzf, Nat.reduceBEq ], by simp only [h3, zzf, Nat.reduceBEq ], by simp only [h4, zzf, Nat.reduceBEq ], by simp only [h15, zzf, Nat.reduceBEq ], by simp only [h16, zzf, Nat.reduceBEq ], by simp only [zzf, Nat.reduceBEq ], by simp only [hd, zzf, Nat.reduceBEq ]⟩)
      · obtain ⟨_, q1, q2⟩ := q.1 i d hlt hd0
        exact hp.elim (fun h => h q1) (fun h => by omega)
      · by_cases hji : j < i
        · exact hr.1 j e hji he
        · obtain rfl : j = i := by omega
          rw [hd0] at he; cases he
          exact ⟨g1, Classical.byContradiction fun h => hp (.inl h), Classical.byContradiction fun h => hp (.inr (by omega))⟩
    · simp +contextual -implicitDefEqProofs (maxSteps := 1000000) (maxDischargeDepth := 8) only [h2, hd, zza, argsF, reduceIte, reduceCtorEq, Nat.reduceEqDiff, Nat.reduceBEq, Nat.reduceAdd, Int.reduceLT, Int.reduceLE, Int.reduceEq, Int.reduceToNat, Int.reduceNeg, Nat.reduceLeDiff, Int.reducePow, implies_true, UInt8.reduceToNat, Int.reduceSub, Int.reduceAdd, Nat.reduceLT, Nat.reduceMul, Nat.reduceSub, Nat.reduceBNe] at hX
      subst hX
      refine lw_ret (Or.inr ⟨fun q => g ⟨(q.1 i d hlt hd0).1, ?_⟩, _, _, rfl, h2, hd⟩)
      rw [← hsn]
      exact q.2.sublist (by rw [List.take_of_length_le (Nat.le_refl _)]; exact usedL_pre _)
  · have hc : ¬ ((i : Int) < (l.length : Int)) := by omega
    obtain rfl : i = l.length := by omega
    rw [List.take_of_length_le (Nat.le_refl _)] at hbu
    simp +contextual -implicitDefEqProofs (maxSteps := 1000000) (maxDischargeDepth := 8) only [F_tree_Heights_l1, h0, h3, h4, h15, h16, h17, hd, hc, zza, argsF, reduceIte, reduceCtorEq, Nat.reduceEqDiff, Nat.reduceBEq, Nat.reduceAdd, Int.reduceLT, Int.reduceLE, Int.reduceEq, Int.reduceToNat, Int.reduceNeg, Nat.reduceLeDiff, Int.reducePow, implies_true, UInt8.reduceToNat, Int.reduceSub, Int.reduceAdd, Nat.reduceLT, Nat.reduceMul, Nat.reduceSub, Nat.reduceBNe] at hX
    subst hX
    exact lw_exit (Or.inl ⟨hr, _, _, rfl, hbo, hbu, hlo, hlu, by simp only [h0, zzf, Nat.reduceBEq ], by simp only [h3, zzf, Nat.reduceBEq ], by simp only [h4, zzf, Nat.reduceBEq ], by simp only [hd, zzf, Nat.reduceBEq ]⟩)
def heightsL (l : List Nd) : List Int := (List.range l.length).map fun j => (highN l j : Int)
open Classical in
noncomputable def heightsV (l : List Nd) : EV := if rightP l then .fz 0 1 (ints (heightsL l)) else .nilslice
theorem ev_take {e b off len c h : Nat} {k : IntKind} (hh : h ≤ c) : evSlice e b off len (some c) none (some (.int k (h : Int))) none = some (.slice b off h (some c)) := by
  have h1 : bound (some (.int k (h : Int))) len c = some h := bound_cast hh
  unfold evSlice
  simp only [bound_none, h1, Nat.zero_mul, Nat.add_zero, Nat.sub_zero]
  cases c.beq 0 <;> rfl
theorem tree_heights {l : List Nd} {t : Nat} {nl : Bool} (hs : Small l) (hn : ∀ d ∈ l, d.n ≤ 9223372036854775807) : pureR B K n_tree_Heights [row nl t 5 (nds l)] = some (heightsV l) := by
  have hlen := hs.len
  rw [pure_at (by simp [F_tree_Heights])]
  generalize hL : exec (UT B K) (ICode.loop F_tree_Heights_l1) = L
  have hcast : ((l.length : Nat) : Int) = Int.ofNat l.length := rfl
  have k1 : l.length.ble l.length = true := Nat.ble_eq_true_of_le (Nat.le_refl _)
  have k2 : l.length.ble room = true := Nat.ble_eq_true_of_le (by unfold room; omega)
  simp +contextual -implicitDefEqProofs (maxSteps := 1000000) (maxDischargeDepth := 8) only [F_tree_Heights, nds_len, hcast, k1, k2, outs_0, useds_0, zza, argsF, reduceIte, reduceCtorEq, Nat.reduceEqDiff, Nat.reduceBEq, Nat.reduceAdd, Int.reduceLT, Int.reduceLE, Int.reduceEq, Int.reduceToNat, Int.reduceNeg, Nat.reduceLeDiff, Int.reducePow, implies_true, UInt8.reduceToNat, Int.reduceSub, Int.reduceAdd, Nat.reduceLT, Nat.reduceMul, Nat.reduceSub, Nat.reduceBNe]
  subst hL
  generalize hX : exec _ (.loop F_tree_Heights_l1) _ _ = X
  have hnn : nb mem00.next 0 = mem00.next := rfl
  obtain ⟨o, rfl, h⟩ := looped hX (heights_l1 (l := l) (t := t) (nl := nl) (bo_ := mem00.next) (bu := nb mem00.next 1) (to := t_int) (tu := t_bool) hs hn (by unfold nb; omega) (by rw [next_ext]; unfold nb; simp) (by rw [next_ext]; unfold nb; simp) (by rw [← hnn, get_ext_nb rfl (by simp)]; rfl) (by rw [get_ext_nb rfl (by simp)]; rfl)
    (by simp only [zzf, Nat.reduceBEq ]) (by simp only [zzf, Nat.reduceBEq ]) (by simp only [zzf, Nat.reduceBEq ]) (by simp only [zzf, Nat.reduceBEq ]) (by simp only [hcast, zzf, Nat.reduceBEq ]) (by simp only [zzf, Nat.reduceBEq ]) (by simp only [zzf, Nat.reduceBEq ]))
  rcases h with ⟨h, fr', m', rfl, c1, c2, c3, c4, h0, h3, h4, hd⟩ | ⟨h, fr', m', rfl, h2, hd⟩
  · by_cases hl0 : l.length = 0
    · have hv : heightsV l = .nilslice := if_neg fun q => by have := q.2.1; omega
      rw [hv]
      simp +contextual -implicitDefEqProofs (maxSteps := 1000000) (maxDischargeDepth := 8) only [h0, hd, hl0, nds_len, zza, argsF, reduceIte, reduceCtorEq, Nat.reduceEqDiff, Nat.reduceBEq, Nat.reduceAdd, Int.reduceLT, Int.reduceLE, Int.reduceEq, Int.reduceToNat, Int.reduceNeg, Nat.reduceLeDiff, Int.reducePow, implies_true, UInt8.reduceToNat, Int.reduceSub, Int.reduceAdd, Nat.reduceLT, Nat.reduceMul, Nat.reduceSub, Nat.reduceBNe]
    · have hc : ¬ ((l.length : Int) = 0) := by omega
      have hw : IntKind.i64.wrap ((l.length : Int) - 1) = ((l.length - 1 : Nat) : Int) := by rw [wrap_i64 (by omega) (by omega)]; omega
      have hsl := fun b => ev_take (e := 1) (b := b) (off := 0) (len := l.length) (c := l.length) (h := l.length - 1) (k := .i64) (by omega)
      have hhas := fun cap => bhas_run (n := l.length) (k := l.length - 1) (cap := cap) (by omega) (by omega) c2
      have hfz : frzV m' (.slice mem00.next 0 l.length (some l.length)) = some (.fz 0 1 (ints (heightsL l))) := by
        have e : (ints (heightsL l)).length = l.length := by rw [ints_len]; simp [heightsL]
        have := frzV_block (m := m') (els := ints (heightsL l)) (e := 1) (b := mem00.next) (cap := some l.length) (ty := t_int) (ro := false) (by rw [c1, outs_end]; rfl) (ints_els _) (ints_plain _) (by rw [e]; simp [capOk])
        rw [e] at this; exact this
      by_cases hex : ∃ x ∈ upto (l.length - 1), x ∉ usedL l
      · have hv : heightsV l = .nilslice := if_neg fun q => by
          obtain ⟨x, hx, hxu⟩ := hex
          exact hxu ((heights_right.1 q).2.2 x hx)
        rw [hv]
        simp +contextual -implicitDefEqProofs (maxSteps := 1000000) (maxDischargeDepth := 8) only [h0, h3, h4, hd, hc, hw, hsl, hhas, hex, bo_tt, nds_len, zza, argsF, reduceIte, reduceCtorEq, Nat.reduceEqDiff, Nat.reduceBEq, Nat.reduceAdd, Int.reduceLT, Int.reduceLE, Int.reduceEq, Int.reduceToNat, Int.reduceNeg, Nat.reduceLeDiff, Int.reducePow, implies_true, UInt8.reduceToNat, Int.reduceSub, Int.reduceAdd, Nat.reduceLT, Nat.reduceMul, Nat.reduceSub, Nat.reduceBNe]
      · have hv : heightsV l = .fz 0 1 (ints (heightsL l)) := if_pos (heights_right.2 ⟨h, by omega, fun x hx => Classical.byContradiction fun q => hex ⟨x, hx, q⟩⟩)
        rw [hv]
        simp +contextual -implicitDefEqProofs (maxSteps := 1000000) (maxDischargeDepth := 8) only [h0, h3, h4, hd, hc, hw, hsl, hhas, hex, bo_ff, nds_len, hfz, zza, argsF, reduceIte, reduceCtorEq, Nat.reduceEqDiff, Nat.reduceBEq, Nat.reduceAdd, Int.reduceLT, Int.reduceLE, Int.reduceEq, Int.reduceToNat, Int.reduceNeg, Nat.reduceLeDiff, Int.reducePow, implies_true, UInt8.reduceToNat, Int.reduceSub, Int.reduceAdd, Nat.reduceLT, Nat.reduceMul, Nat.reduceSub, Nat.reduceBNe]
  · have hv : heightsV l = .nilslice := if_neg fun q => h (heights_right.1 q).1
    rw [hv]
    simp +contextual -implicitDefEqProofs (maxSteps := 1000000) (maxDischargeDepth := 8) only [h2, hd, zza, argsF, reduceIte, reduceCtorEq, Nat.reduceEqDiff, Nat.reduceBEq, Nat.reduceAdd, Int.reduceLT, Int.reduceLE, Int.reduceEq, Int.reduceToNat, Int.reduceNeg, Nat.reduceLeDiff, Int.reducePow, implies_true, UInt8.reduceToNat, Int.reduceSub, Int.reduceAdd, Nat.reduceLT, Nat.reduceMul, Nat.reduceSub, Nat.reduceBNe]
theorem heights_yes {l : List Nd} {t : Nat} {nl : Bool} (hs : Small l) (hn : ∀ d ∈ l, d.n ≤ 9223372036854775807) (h : rightP l) : pureR B K n_tree_Heights [row nl t 5 (nds l)] = some (.fz 0 1 (ints (heightsL l))) := by
  rw [tree_heights hs hn]; exact congrArg some (if_pos h)
theorem heights_no {l : List Nd} {t : Nat} {nl : Bool} (hs : Small l) (hn : ∀ d ∈ l, d.n ≤ 9223372036854775807) (h : ¬ rightP l) : pureR B K n_tree_Heights [row nl t 5 (nds l)] = some .nilslice := by
  rw [tree_heights hs hn]; exact congrArg some (if_neg h)
theorem heightsL_len {l : List Nd} : (heightsL l).length = l.length := by simp [heightsL]
theorem tree_right {l : List Nd} {t : Nat} {nl : Bool} (hs : Small l) (hn : ∀ d ∈ l, d.n ≤ 9223372036854775807) : pureR B K n_tree_Right [row nl t 5 (nds l)] = some (bo (rightP l)) := by
  rw [pure_at (by simp [F_tree_Right])]
  by_cases h : rightP l
  · have e := fun t nl => heights_yes (t := t) (nl := nl) hs hn h
    have hc : (0 : Int) < (l.length : Int) := by have := h.2.1; omega
    simp +contextual -implicitDefEqProofs (maxSteps := 1000000) (maxDischargeDepth := 8) only [F_tree_Right, e, h, heightsL_len, ints_len, hc, bo_tt, zza, argsF, reduceIte, reduceCtorEq, Nat.reduceEqDiff, Nat.reduceBEq, Nat.reduceAdd, Int.reduceLT, Int.reduceLE, Int.reduceEq, Int.reduceToNat, Int.reduceNeg, Nat.reduceLeDiff, Int.reducePow, implies_true, UInt8.reduceToNat, Int.reduceSub, Int.reduceAdd, Nat.reduceLT, Nat.reduceMul, Nat.reduceSub, Nat.reduceBNe]
  · have e := fun t nl => heights_no (t := t) (nl := nl) hs hn h
    simp +contextual -implicitDefEqProofs (maxSteps := 1000000) (maxDischargeDepth := 8) only [F_tree_Right, e, h, bo_ff, zza, argsF, reduceIte, reduceCtorEq, Nat.reduceEqDiff, Nat.reduceBEq, Nat.reduceAdd, Int.reduceLT, Int.reduceLE, Int.reduceEq, Int.reduceToNat, Int.reduceNeg, Nat.reduceLeDiff, Int.reducePow, implies_true, UInt8.reduceToNat, Int.reduceSub, Int.reduceAdd, Nat.reduceLT, Nat.reduceMul, Nat.reduceSub, Nat.reduceBNe]
def wholeP (l : List Nd) : Prop := rightP l ∧ kindOf l ((l.length - 1 : Nat) : Int) = 26
theorem last_at {l : List Nd} (h : 0 < l.length) : ∃ d, l[l.length - 1]? = some d ∧ kindOf l ((l.length - 1 : Nat) : Int) = d.kind := by
  have hd : l[l.length - 1]? = some l[l.length - 1] := List.getElem?_eq_getElem (by omega)
  refine ⟨_, hd, ?_⟩
  unfold kindOf
  rw [show (((l.length - 1 : Nat) : Int)).toNat = l.length - 1 by omega, hd]; rfl
theorem tree_whole {l : List Nd} {t : Nat} {nl : Bool} (hs : Small l) (hn : ∀ d ∈ l, d.n ≤ 9223372036854775807) : pureR B K n_tree_Whole [row nl t 5 (nds l)] = some (bo (wholeP l)) := by
  have hlen := hs.len
  rw [pure_at (by simp [F_tree_Whole])]
  have e := fun t nl => tree_right (t := t) (nl := nl) hs hn
  unfold wholeP
  by_cases h : rightP l
  · have hw : IntKind.i64.wrap ((l.length : Int) - 1) = ((l.length - 1 : Nat) : Int) := by have := h.2.1; rw [wrap_i64 (by omega) (by omega)]; omega
    obtain ⟨d, hd, hk⟩ := last_at h.2.1
    have hi : idx l.length (.int .i64 ((l.length - 1 : Nat) : Int)) = some (l.length - 1) := idx_cast (by have := h.2.1; omega)
    simp +contextual -implicitDefEqProofs (maxSteps := 1000000) (maxDischargeDepth := 8) only [F_tree_Whole, e, h, hw, hk, hi, hd, nds_get, nds_len, Nd.cells, bo_tt, zza, argsF, reduceIte, reduceCtorEq, Nat.reduceEqDiff, Nat.reduceBEq, Nat.reduceAdd, Int.reduceLT, Int.reduceLE, Int.reduceEq, Int.reduceToNat, Int.reduceNeg, Nat.reduceLeDiff, Int.reducePow, implies_true, UInt8.reduceToNat, Int.reduceSub, Int.reduceAdd, Nat.reduceLT, Nat.reduceMul, Nat.reduceSub, Nat.reduceBNe]
  · simp +contextual -implicitDefEqProofs (maxSteps := 1000000) (maxDischargeDepth := 8) only [F_tree_Whole, e, h, bo_ff, zza, argsF, reduceIte, reduceCtorEq, Nat.reduceEqDiff, Nat.reduceBEq, Nat.reduceAdd, Int.reduceLT, Int.reduceLE, Int.reduceEq, Int.reduceToNat, Int.reduceNeg, Nat.reduceLeDiff, Int.reducePow, implies_true, UInt8.reduceToNat, Int.reduceSub, Int.reduceAdd, Nat.reduceLT, Nat.reduceMul, Nat.reduceSub, Nat.reduceBNe]
theorem ref_whole {l : List Nd} {t : Nat} {nl : Bool} (hs : Small l) : pureR B K n_r06_Whole [row nl t 5 (nds l)] = some (bo (wholeP l)) := by
  have hlen := hs.len
  rw [pure_at (by simp [F_r06_Whole])]
  have e := fun t nl => right_eq (t := t) (nl := nl) hs
  unfold wholeP
  by_cases h : rightP l
  · have hw : IntKind.i64.wrap ((l.length : Int) - 1) = ((l.length - 1 : Nat) : Int) := by have := h.2.1; rw [wrap_i64 (by omega) (by omega)]; omega
    obtain ⟨d, hd, hk⟩ := last_at h.2.1
    have hi : idx l.length (.int .i64 ((l.length - 1 : Nat) : Int)) = some (l.length - 1) := idx_cast (by have := h.2.1; omega)
    simp +contextual -implicitDefEqProofs (maxSteps := 1000000) (maxDischargeDepth := 8) only [F_r06_Whole, e, h, hw, hk, hi, hd, nds_get, nds_len, Nd.cells, bo_tt, zza, argsF, reduceIte, reduceCtorEq, Nat.reduceEqDiff, Nat.reduceBEq, Nat.reduceAdd, Int.reduceLT, Int.reduceLE, Int.reduceEq, Int.reduceToNat, Int.reduceNeg, Nat.reduceLeDiff, Int.reducePow, implies_true, UInt8.reduceToNat, Int.reduceSub, Int.reduceAdd, Nat.reduceLT, Nat.reduceMul, Nat.reduceSub, Nat.reduceBNe]
  · simp +contextual -implicitDefEqProofs (maxSteps := 1000000) (maxDischargeDepth := 8) only [F_r06_Whole, e, h, bo_ff, zza, argsF, reduceIte, reduceCtorEq, Nat.reduceEqDiff, Nat.reduceBEq, Nat.reduceAdd, Int.reduceLT, Int.reduceLE, Int.reduceEq, Int.reduceToNat, Int.reduceNeg, Nat.reduceLeDiff, Int.reducePow, implies_true, UInt8.reduceToNat, Int.reduceSub, Int.reduceAdd, Nat.reduceLT, Nat.reduceMul, Nat.reduceSub, Nat.reduceBNe]
end Go.Proofs.YtblcomejcahkdaaDoor.Ev
end
section
namespace Go.Proofs.YtblcomejcahkdaaDoor.Ev
open Go
def Stands (m : Mem) : Prop := ∀ b cs e t ro, m.get b = .cells cs e t ro → b < m.next
theorem in_live {n0 : Nat} {bs : List InB} (hl : (∀ p ∈ globs, p.1 < n0) ∧ ∀ g l, tabl g = some l → g < n0) : Stands (inMem n0 bs) := by
  intro b cs e t ro h
  refine Classical.byContradiction fun q => ?_
  have : (inMem n0 bs).next = n0 + bs.length := rfl
  rw [inMem_dead hl (by omega)] at h
  cases h
end Go.Proofs.YtblcomejcahkdaaDoor.Ev
end
section
namespace Go.Proofs.YtblcomejcahkdaaDoor.Ev
open Go Go.Deep
def GFact (w : World) (g : Nat) (l : List (List UInt8)) : Prop :=
  ∃ (arr : Array Value) (e : TypeId) (fz : Nat × Nat) (blk off cap : Nat) (arr2 : Array Value) (e2 : TypeId) (fz2 : Nat × Nat),
    w.heap[g]? = some (.cells arr e fz) ∧ arr.toList = [.slice (some ⟨blk, off, none⟩) l.length cap] ∧ l.length ≤ cap ∧
    w.heap[blk]? = some (.cells arr2 e2 fz2) ∧ off + l.length ≤ arr2.size ∧ ∀ (j : Nat) (s : List UInt8), l[j]? = some s → ∃ b, arr2[off + j]? = some (.string b) ∧ b.data.toList = s
theorem gfact_of {H : Type} {enc : TypeId × Value → H} {P : Program} {w : World} {base : Nat} {sp : Nat → Bool} {held : Bool} {g : Nat} {t e : TypeId} {name : String} {l : List (List UInt8)} {fuel : Nat} {p : List MemPlace} {cs : Array Value} {D : DataW H} (hne : l ≠ []) (hD : D = .slice (l.map fun s => .lit (.string s)) [])
    (hg : P.globalNamed name = some g) (ht : P.underlying t = some (.slice e)) (hc : P.cellsOf e = 1) (he : P.underlying e = some .string) (hv : w.var? P name = some cs)
    (hd : DataW.trod enc P w base sp held fuel t cs.toList = some (D, p)) : GFact w g l := by
  subst hD
  obtain ⟨a, cap, h1, h2, h3⟩ := open_row ht hc hd
  rw [List.length_map] at h1 h2
  have hcell : ∀ i s, l[i]? = some s → ∃ b, w.cell? (a.add i) = some (.string b) ∧ b.data.toList = s := by
    intro i s hs
    obtain ⟨v, n, q, hv1, hv2⟩ := h3 i (.lit (.string s)) (by rw [List.getElem?_map, hs]; rfl)
    obtain ⟨b, hb, hx, _⟩ := DataW.trod_string he hv2
    simp only [List.cons.injEq, and_true] at hb
    subst hb
    refine ⟨b, hv1, ?_⟩
    simp only [Prod.mk.injEq, DataW.lit.injEq, Lit.string.injEq] at hx
    exact hx.1.symm
  have hpos : 0 < l.length := List.length_pos_iff.2 hne
  obtain ⟨blk, off, arr2, e2, fz2, rfl, harr⟩ : ∃ blk off arr ty fz, a = ⟨blk, off, none⟩ ∧ w.heap[blk]? = some (.cells arr ty fz) := by
    obtain ⟨b, hv, _⟩ := hcell 0 l[0] (List.getElem?_eq_getElem hpos)
    have hv : w.cell? a = some (.string b) := hv
    obtain ⟨blk, off, spot⟩ := a
    unfold World.cell? at hv
    split at hv
    · rename_i c t z hh
      cases spot with
      | none => exact ⟨blk, off, c, t, z, rfl, hh⟩
      | some x => simp at hv
    · cases hv
  have hat : ∀ n, w.cell? ⟨blk, off + n, none⟩ = arr2[off + n]? := fun n => by unfold World.cell?; simp [harr]
  have hget : ∀ (j : Nat) (s : List UInt8), l[j]? = some s → ∃ b, arr2[off + j]? = some (.string b) ∧ b.data.toList = s := by
    intro j s hs
    obtain ⟨b, hb, hbs⟩ := hcell j s hs
    rw [lit_add, hat] at hb
    exact ⟨b, hb, hbs⟩
  have hle : off + l.length ≤ arr2.size := by
    obtain ⟨b, hb, _⟩ := hget (l.length - 1) _ (List.getElem?_eq_getElem (by omega))
    have := (Array.getElem?_eq_some_iff.1 hb).1
    omega
  unfold World.var? at hv
  rw [hg] at hv
  simp only [Option.bind_some] at hv
  split at hv
  · rename_i c t' z hh
    cases hv
    exact ⟨_, _, _, blk, off, cap, arr2, e2, fz2, hh, h1, h2, harr, hle, hget⟩
  · cases hv
def Back (w : World) (g : Nat) (l : List (List UInt8)) (B : InB) : Prop := B.cs = l.map .str ∧ B.esz = 1 ∧
  (∃ (arr : Array Value) (e : TypeId) (fz : Nat × Nat) (cap : Nat), w.heap[g]? = some (.cells arr e fz) ∧ arr.toList = [.slice (some ⟨B.blk, B.off, none⟩) l.length cap] ∧ l.length ≤ cap) ∧
  ∃ (arr : Array Value) (e : TypeId) (fz : Nat × Nat), w.heap[B.blk]? = some (.cells arr e fz) ∧ arr.size = B.total ∧ B.off + l.length ≤ B.total ∧ ∀ (j : Nat) (s : List UInt8), l[j]? = some s → ∃ b, arr[B.off + j]? = some (.string b) ∧ b.data.toList = s
theorem backs {w : World} : ∀ gs : List (Nat × List (List UInt8)), (∀ p ∈ gs, GFact w p.1 p.2) → ∃ bk : List InB, bk.length = gs.length ∧ ∀ (j g : Nat) (l : List (List UInt8)), gs[j]? = some (g, l) → ∃ B, bk[j]? = some B ∧ Back w g l B
  | [], _ => ⟨[], rfl, fun j g l h => by simp at h⟩
  | (g, l) :: gs, h => by
    obtain ⟨bk, h1, h2⟩ := backs gs fun p hp => h p (by simp [hp])
    obtain ⟨arr, e, fz, blk, off, cap, arr2, e2, fz2, a1, a2, a3, a4, a5, a6⟩ := h (g, l) (by simp)
    refine ⟨⟨blk, off, arr2.size, 1, l.map .str⟩ :: bk, by simp [h1], fun j g' l' hj => ?_⟩
    cases j with
    | zero =>
      simp only [List.getElem?_cons_zero, Option.some.injEq, Prod.mk.injEq] at hj
      obtain ⟨rfl, rfl⟩ := hj
      exact ⟨_, rfl, rfl, rfl, ⟨arr, e, fz, cap, a1, a2, a3⟩, arr2, e2, fz2, a4, rfl, a5, a6⟩
    | succ j => exact h2 j g' l' (by simpa using hj)
theorem tfact_of {H : Type} {enc : TypeId × Value → H} {P : Program} {w : World} {base : Nat} {sp : Nat → Bool} {held : Bool} {g : Nat} {t e : TypeId} {n : Nat} {name : String} {l : List Int} {fuel : Nat} {p : List MemPlace} {cs : Array Value} {D : DataW H} (hgn : glob g = none) (hD : D = Go.Lib.tabData .u64 l)
    (hg : P.globalNamed name = some g) (ht : P.underlying t = some (.array n e)) (he : P.underlying e = some (.int .u64)) (hce : P.cellsOf e = 1) (hct : P.cellsOf t = n) (hv : w.var? P name = some cs)
    (hd : DataW.trod enc P w base sp held fuel t cs.toList = some (D, p)) : TFact w g l := by
  subst hD
  have h := Go.Lib.cells_of_tab ht he hce hct hd
  unfold World.var? at hv
  rw [hg] at hv
  simp only [Option.bind_some] at hv
  split at hv
  · rename_i c t' z hh
    cases hv
    exact ⟨hgn, _, _, _, hh, h⟩
  · cases hv
theorem args_card {w : World} {n0 : Nat} {shs : List Sh} {vs : List Value} (hg : (∀ p ∈ globs, GFact w p.1 p.2) ∧ ∀ g l, tabl g = some l → TFact w g l) (hl : (∀ p ∈ globs, p.1 < n0) ∧ ∀ g l, tabl g = some l → g < n0) (h : DecVs w n0 shs vs) :
    ∃ (bs : List InB) (es : List EV) (ds : List Dt), InOk w n0 bs ∧ GlobIn w n0 bs ∧ VRs (inRen n0 bs) es vs ∧ RepVs (inMem n0 bs) shs es ds := by
  obtain ⟨bk, hb1, hb2⟩ := backs globs hg.1
  obtain ⟨k, ds, h⟩ := h
  obtain ⟨es, bs, h1, h2⟩ := h bk.length
  obtain ⟨c1, c2, c3⟩ := h2 (bk ++ bs) (fun i _ => by rw [List.getElem?_append_right (by omega)]; congr 1; omega)
  refine ⟨bk ++ bs, es, ds, fun i B hB => ?_, ⟨hl, hg.2, fun j g l hj => ?_⟩, c1, c3⟩
  · by_cases hi : i < bk.length
    · rw [List.getElem?_append_left hi] at hB
      obtain ⟨⟨g, l⟩, hgl⟩ : ∃ p, globs[i]? = some p := ⟨_, List.getElem?_eq_getElem (by omega)⟩
      obtain ⟨B', hB', q1, q2, q3, arr, e, fz, q4, q5, q6, q7⟩ := hb2 i g l hgl
      rw [hB] at hB'; cases hB'
      refine ⟨arr, e, fz, q4, q5, by rw [q1, List.length_map]; exact q6, fun j v hj => ?_⟩
      rw [q1, List.getElem?_map] at hj
      obtain ⟨s, hs, rfl⟩ := Option.map_eq_some_iff.1 hj
      obtain ⟨b, hb, rfl⟩ := q7 j s hs
      exact ⟨_, hb, .str _, rfl⟩
    · rw [List.getElem?_append_right (by omega)] at hB
      exact c2 _ B hB
  · obtain ⟨B, hB, q1, q2, ⟨arr, e, fz, cap, q3, q4, q5⟩, _⟩ := hb2 j g l hj
    have hlt := (List.getElem?_eq_some_iff.1 hB).1
    have hB' : (bk ++ bs)[j]? = some B := by rw [List.getElem?_append_left hlt]; exact hB
    have hsz : arr.size = 1 := by rw [← Array.length_toList, q4]; rfl
    exact ⟨⟨arr, e, fz, _, q3, hsz, by rw [← Array.getElem?_toList, q4]; rfl, in_slice hB' rfl rfl q5 fun _ => rfl, rfl⟩, B, hB', q1, q2⟩
theorem strs1_flat (l : List (List UInt8)) : (strs1 l).flatten = l.map .str := by
  induction l with
  | nil => rfl
  | cons s l ih => show (([EV.str s] :: strs1 l).flatten) = _; rw [List.flatten_cons, ih]; rfl
theorem glob_still {w : World} {n0 : Nat} {bs : List InB} (h : GlobIn w n0 bs) : GlobOk (still (inMem n0 bs)) := by
  refine ⟨fun g l hg => ?_, fun g l hg => ?_⟩
  case refine_2 =>
    have hlt := h.1.2 g l hg
    have hn : (inMem n0 bs).next = n0 + bs.length := rfl
    show (if g < (inMem n0 bs).next then some ((inMem n0 bs).get g) else none) = _
    rw [if_pos (by rw [hn]; omega), inMem_low hlt]
    have hf := gfind_glob (b := g) globs 0
    have hgn := (h.2.1 g l hg).1
    unfold glob at hgn
    rw [hgn] at hf
    rw [Option.map_eq_none_iff.1 hf, hg]
    rfl
  have hf := gfind_glob (b := g) globs 0
  unfold glob at hg
  rw [hg] at hf
  obtain ⟨⟨p, l'⟩, hp, hl'⟩ := Option.map_eq_some_iff.1 hf
  simp only at hl'
  subst hl'
  have h2 := (gfind_at _ _ hp).2
  rw [Nat.sub_zero] at h2
  have hlt := h.1.1 _ (List.mem_of_getElem? h2)
  obtain ⟨_, B, hB, q1, q2⟩ := h.2.2 p g l' h2
  have m1 : (inMem n0 bs).get g = .cells [.slice (n0 + p) 0 l'.length none] 1 0 true := by rw [inMem_low hlt, hp]; rfl
  have m2 : (inMem n0 bs).get (n0 + p) = .cells (l'.map .str) 1 0 true := by rw [inMem_at hB, q1, q2]
  have hpl := (List.getElem?_eq_some_iff.1 hB).1
  have hn : (inMem n0 bs).next = n0 + bs.length := rfl
  have s1 : (still (inMem n0 bs)).sta g = some (.cells [.slice (n0 + p) 0 l'.length none] 1 0 true) := by
    show (if g < (inMem n0 bs).next then some ((inMem n0 bs).get g) else none) = _
    rw [if_pos (by rw [hn]; omega), m1]
  have s2 : (still (inMem n0 bs)).sta (n0 + p) = some (.cells (l'.map .str) 1 0 true) := by
    show (if n0 + p < (inMem n0 bs).next then some ((inMem n0 bs).get (n0 + p)) else none) = _
    rw [if_pos (by rw [hn]; omega), m2]
  have self : ∀ (θ : Tie) (x : List (List UInt8)), SVs θ (x.map .str) (x.map .str) := fun θ x => by
    induction x with
    | nil => exact .nil
    | cons s x ih => exact .cons (.str s) ih
  have hlen : (strs1 l').length = l'.length := by simp [strs1]
  refine .fptr (.mk (off := 0) s1 (by simp) (by simp) (.cons ?_ .nil)) (by simp) (by simp)
  have := SV.fz (θ := (still (inMem n0 bs)).low) (t := 0) (esz := 1) (els := strs1 l') (b := n0 + p) (off := 0) (cap := none) (.mk s2 (by simp [strs1]) (by simp [hlen]) (by
    rw [strs1_flat, List.drop_zero, hlen, Nat.mul_one, List.take_of_length_le (by simp)]; exact self _ l')) (.inl rfl) (fun c hc => by cases hc)
  rw [hlen] at this
  exact this
end Go.Proofs.YtblcomejcahkdaaDoor.Ev
end
section
namespace Go.Proofs.YtblcomejcahkdaaDoor.Ev
open Go
set_option maxRecDepth 10000
set_option maxHeartbeats 4000000
def opsL : List Txt := [[124, 124], [38, 38], [61, 61], [33, 61], [60], [60, 61], [62], [62, 61], [43], [45], [43, 37], [45, 37], [42], [47], [37], [42, 37]]
theorem ref_signs : pureR B K n_r06_Signs [] = some (.fz 0 1 (strs1 opsL)) := pure_closed 10 fun call => by kernel_rfl
theorem signs_opsL : L_tree_signs = [] :: opsL := rfl
def signT (op : Int) : Txt := if 1 ≤ op ∧ op ≤ 16 then opsL.getD (op - 1).toNat [] else []
theorem tree_sign {op : Int} (h1 : -9223372036854775808 ≤ op) (h2 : op < 9223372036854775808) : pureR B K n_tree_Sign [.int .i64 op] = some (.str (signT op)) := by
  rw [pure_at (by simp [S_tree_Sign])]
  have hl := fun m => load_gl (l := [] :: opsL) (m := m)
  have hlen : (strs1 ([] :: opsL)).length = 17 := rfl
  by_cases a : op < 0
  · have e : signT op = [] := if_neg (by omega)
    rw [e]
    simp +contextual -implicitDefEqProofs (maxSteps := 1000000) (maxDischargeDepth := 8) only [S_tree_Sign, a, zza, argsF, reduceIte, reduceCtorEq, Nat.reduceEqDiff, Nat.reduceBEq, Nat.reduceAdd, Int.reduceLT, Int.reduceLE, Int.reduceEq, Int.reduceToNat, Int.reduceNeg, Nat.reduceLeDiff, Int.reducePow, implies_true, UInt8.reduceToNat, Int.reduceSub, Int.reduceAdd, Nat.reduceLT, Nat.reduceMul, Nat.reduceSub, Nat.reduceBNe]
  · by_cases b : 17 ≤ op
    · have e : signT op = [] := if_neg (by omega)
      rw [e]
      simp +contextual -implicitDefEqProofs (maxSteps := 1000000) (maxDischargeDepth := 8) only [S_tree_Sign, a, signs_opsL, hl, hlen, b, zza, argsF, reduceIte, reduceCtorEq, Nat.reduceEqDiff, Nat.reduceBEq, Nat.reduceAdd, Int.reduceLT, Int.reduceLE, Int.reduceEq, Int.reduceToNat, Int.reduceNeg, Nat.reduceLeDiff, Int.reducePow, implies_true, UInt8.reduceToNat, Int.reduceSub, Int.reduceAdd, Nat.reduceLT, Nat.reduceMul, Nat.reduceSub, Nat.reduceBNe]
    · obtain ⟨n, rfl⟩ : ∃ n : Nat, op = (n : Int) := ⟨op.toNat, by omega⟩
      have hn : n < 17 := by omega
      have hi : idx 17 (.int .i64 (n : Int)) = some n := idx_cast hn
      have hg : ([] :: opsL)[n]? = some (signT (n : Int)) := by
        have : ∀ n : Nat, n < 17 → ([] :: opsL)[n]? = some (signT (n : Int)) := by decide
        exact this n hn
      simp +contextual -implicitDefEqProofs (maxSteps := 1000000) (maxDischargeDepth := 8) only [S_tree_Sign, a, signs_opsL, hl, hlen, b, hi, strs1_get, hg, zza, argsF, reduceIte, reduceCtorEq, Nat.reduceEqDiff, Nat.reduceBEq, Nat.reduceAdd, Int.reduceLT, Int.reduceLE, Int.reduceEq, Int.reduceToNat, Int.reduceNeg, Nat.reduceLeDiff, Int.reducePow, implies_true, UInt8.reduceToNat, Int.reduceSub, Int.reduceAdd, Nat.reduceLT, Nat.reduceMul, Nat.reduceSub, Nat.reduceBNe]
def kindT (k : Int) : Txt := if k = 1 then [105, 110, 116] else if k = 2 then [98, 111, 111, 108] else if k = 3 then [97, 114, 114] else []
theorem tree_kind {k : Int} : pureR B K n_tree_Kind [.int .i64 k] = some (.str (kindT k)) := by
  rw [pure_at (by simp [F_tree_Kind])]
  unfold kindT
  by_cases a : k = 1
  · subst a; simp +contextual -implicitDefEqProofs (maxSteps := 1000000) (maxDischargeDepth := 8) only [F_tree_Kind, zza, argsF, reduceIte, reduceCtorEq, Nat.reduceEqDiff, Nat.reduceBEq, Nat.reduceAdd, Int.reduceLT, Int.reduceLE, Int.reduceEq, Int.reduceToNat, Int.reduceNeg, Nat.reduceLeDiff, Int.reducePow, implies_true, UInt8.reduceToNat, Int.reduceSub, Int.reduceAdd, Nat.reduceLT, Nat.reduceMul, Nat.reduceSub, Nat.reduceBNe]
  · by_cases b : k = 2
    · subst b; simp +contextual -implicitDefEqProofs (maxSteps := 1000000) (maxDischargeDepth := 8) only [F_tree_Kind, zza, argsF, reduceIte, reduceCtorEq, Nat.reduceEqDiff, Nat.reduceBEq, Nat.reduceAdd, Int.reduceLT, Int.reduceLE, Int.reduceEq, Int.reduceToNat, Int.reduceNeg, Nat.reduceLeDiff, Int.reducePow, implies_true, UInt8.reduceToNat, Int.reduceSub, Int.reduceAdd, Nat.reduceLT, Nat.reduceMul, Nat.reduceSub, Nat.reduceBNe]
    · by_cases c : k = 3
      · subst c; simp +contextual -implicitDefEqProofs (maxSteps := 1000000) (maxDischargeDepth := 8) only [F_tree_Kind, zza, argsF, reduceIte, reduceCtorEq, Nat.reduceEqDiff, Nat.reduceBEq, Nat.reduceAdd, Int.reduceLT, Int.reduceLE, Int.reduceEq, Int.reduceToNat, Int.reduceNeg, Nat.reduceLeDiff, Int.reducePow, implies_true, UInt8.reduceToNat, Int.reduceSub, Int.reduceAdd, Nat.reduceLT, Nat.reduceMul, Nat.reduceSub, Nat.reduceBNe]
      · simp +contextual -implicitDefEqProofs (maxSteps := 1000000) (maxDischargeDepth := 8) only [F_tree_Kind, a, b, c, if_false, zza, argsF, reduceIte, reduceCtorEq, Nat.reduceEqDiff, Nat.reduceBEq, Nat.reduceAdd, Int.reduceLT, Int.reduceLE, Int.reduceEq, Int.reduceToNat, Int.reduceNeg, Nat.reduceLeDiff, Int.reducePow, implies_true, UInt8.reduceToNat, Int.reduceSub, Int.reduceAdd, Nat.reduceLT, Nat.reduceMul, Nat.reduceSub, Nat.reduceBNe]
theorem bs_kinds {fr : Fr} {M : Mem} : evOp fr.eval (.bslice t_string 1 3 [.str []] [(0, .const (.str [105, 110, 116])), (1, .const (.str [98, 111, 111, 108])), (2, .const (.str [97, 114, 114]))]) M = some (.val (.slice (nb M.next 0) 0 3 (some 3)) (Ev.ext M [.cells [.str [105, 110, 116], .str [98, 111, 111, 108], .str [97, 114, 114]] 1 t_string false])) := by
  rw [evOp_bsliceN]
  rfl
theorem ref_kind {k : Int} (h1 : -9223372036854775808 ≤ k) (h2 : k < 9223372036854775808) : pureR B K n_r06_Kind [.int .i64 k] = some (.str (kindT k)) := by
  rw [pure_at (by simp [F_r06_Kind])]
  by_cases a : k < 1
  · have e : kindT k = [] := by unfold kindT; rw [if_neg (by omega), if_neg (by omega), if_neg (by omega)]
    rw [e]
    simp +contextual -implicitDefEqProofs (maxSteps := 1000000) (maxDischargeDepth := 8) only [F_r06_Kind, bs_kinds, a, zza, argsF, reduceIte, reduceCtorEq, Nat.reduceEqDiff, Nat.reduceBEq, Nat.reduceAdd, Int.reduceLT, Int.reduceLE, Int.reduceEq, Int.reduceToNat, Int.reduceNeg, Nat.reduceLeDiff, Int.reducePow, implies_true, UInt8.reduceToNat, Int.reduceSub, Int.reduceAdd, Nat.reduceLT, Nat.reduceMul, Nat.reduceSub, Nat.reduceBNe]
  · by_cases b : 3 < k
    · have e : kindT k = [] := by unfold kindT; rw [if_neg (by omega), if_neg (by omega), if_neg (by omega)]
      rw [e]
      simp +contextual -implicitDefEqProofs (maxSteps := 1000000) (maxDischargeDepth := 8) only [F_r06_Kind, bs_kinds, a, b, zza, argsF, reduceIte, reduceCtorEq, Nat.reduceEqDiff, Nat.reduceBEq, Nat.reduceAdd, Int.reduceLT, Int.reduceLE, Int.reduceEq, Int.reduceToNat, Int.reduceNeg, Nat.reduceLeDiff, Int.reducePow, implies_true, UInt8.reduceToNat, Int.reduceSub, Int.reduceAdd, Nat.reduceLT, Nat.reduceMul, Nat.reduceSub, Nat.reduceBNe]
    · have hk : k = 1 ∨ k = 2 ∨ k = 3 := by omega
      have i0 : idx 3 (.int .i64 0) = some 0 := idx_cast (i := 0) (by decide)
      have i1 : idx 3 (.int .i64 1) = some 1 := idx_cast (i := 1) (by decide)
      have i2 : idx 3 (.int .i64 2) = some 2 := idx_cast (i := 2) (by decide)
      have w0 : IntKind.i64.wrap 0 = 0 := by decide
      have w1 : IntKind.i64.wrap 1 = 1 := by decide
      have w2 : IntKind.i64.wrap 2 = 2 := by decide
      rcases hk with rfl | rfl | rfl
      · have e : kindT 1 = [105, 110, 116] := rfl
        rw [e]
        simp +contextual -implicitDefEqProofs (maxSteps := 1000000) (maxDischargeDepth := 8) only [F_r06_Kind, bs_kinds, i0, w0, Nat.mul_one, zza, argsF, reduceIte, reduceCtorEq, Nat.reduceEqDiff, Nat.reduceBEq, Nat.reduceAdd, Int.reduceLT, Int.reduceLE, Int.reduceEq, Int.reduceToNat, Int.reduceNeg, Nat.reduceLeDiff, Int.reducePow, implies_true, UInt8.reduceToNat, Int.reduceSub, Int.reduceAdd, Nat.reduceLT, Nat.reduceMul, Nat.reduceSub, Nat.reduceBNe]
      · have e : kindT 2 = [98, 111, 111, 108] := rfl
        rw [e]
        simp +contextual -implicitDefEqProofs (maxSteps := 1000000) (maxDischargeDepth := 8) only [F_r06_Kind, bs_kinds, i1, w1, Nat.mul_one, zza, argsF, reduceIte, reduceCtorEq, Nat.reduceEqDiff, Nat.reduceBEq, Nat.reduceAdd, Int.reduceLT, Int.reduceLE, Int.reduceEq, Int.reduceToNat, Int.reduceNeg, Nat.reduceLeDiff, Int.reducePow, implies_true, UInt8.reduceToNat, Int.reduceSub, Int.reduceAdd, Nat.reduceLT, Nat.reduceMul, Nat.reduceSub, Nat.reduceBNe]
      · have e : kindT 3 = [97, 114, 114] := rfl
        rw [e]
        simp +contextual -implicitDefEqProofs (maxSteps := 1000000) (maxDischargeDepth := 8) only [F_r06_Kind, bs_kinds, i2, w2, Nat.mul_one, zza, argsF, reduceIte, reduceCtorEq, Nat.reduceEqDiff, Nat.reduceBEq, Nat.reduceAdd, Int.reduceLT, Int.reduceLE, Int.reduceEq, Int.reduceToNat, Int.reduceNeg, Nat.reduceLeDiff, Int.reducePow, implies_true, UInt8.reduceToNat, Int.reduceSub, Int.reduceAdd, Nat.reduceLT, Nat.reduceMul, Nat.reduceSub, Nat.reduceBNe]
end Go.Proofs.YtblcomejcahkdaaDoor.Ev
end
