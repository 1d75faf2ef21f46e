/- ArithSums: the law's own code tells true. -/
import Derived.Test.YtpdpjimopfadfaaSums
namespace Go.Proofs.Ytpdpjimopfadfaa.Ev
open Go
set_option linter.unusedSimpArgs false
theorem sums_run {m : Mem} {b off : Nat} {l : List Int} (hm : Ints m b off l) (hf : ∀ n ∈ l, fits n) : run T 4 [.slice b off l.length none] m = some (.ret (.bool true) m) := by
  rw [run_go' at4 (by simp [F4])]
  by_cases hl : (1000 : Int) < (l.length : Int)
  · simp only [F4, hl, run_true at6, argsF, fr00_get, fr00_defers, put_some, put_none, set_defers, eval_tmp, eval_const, Fr.get_set, reduceIte, reduceCtorEq, Nat.reduceEqDiff, Nat.reduceBEq, Nat.reduceAdd, ofEV_some, ofEM_some, ofM_some, thenV_some, thenC_ret, thenE_norm, thenE_ret, thenE_exit, leave_norm, leave_ret, leave_same, leave_other, thenE_if, leave_if, thenV_if, thenC_if, resR_if, resR_ret, resR_norm, resR_pan, eq_self, res_nil, res_tmp, one_one, one_two, one_nil, bif_decide, bif_not, cond_true, cond_false, eqv_true, eqv_false, bin_add, bin_sub, bin_mul, bin_quo, bin_rem, bin_and, bin_or, bin_xor, bin_andNot, bin_lss, bin_leq, bin_gtr, bin_geq, bin_shl, bin_shr, eq_int, eq_bool, un_neg, un_not, cv_int, exec_seq, exec_region, exec_skip, exec_ret, exec_exit, exec_block, exec_cond', oprs_nil, oprs_val, oprs_call, oprs_guard', evOp, Option.map_some, Option.map_none, List.map_cons, List.map_nil, Bool.false_xor, Bool.true_xor, decide_true, decide_false, Bool.not_true, Bool.not_false, Int.reduceLT, Int.reduceLE, Int.reduceEq, Int.reduceToNat, Int.reduceNeg, IntKind.bits, Nat.min_def, Nat.reduceLeDiff, Int.reducePow]
  · have h1 := arith_sum hm (by omega) hf
    have h2 := ref_sum hm (by omega) hf
    obtain ⟨x, ok, hx⟩ : ∃ x ok, sumTold l = .tuple [.int .i64 x, .bool ok] := by unfold sumTold; split <;> exact ⟨_, _, rfl⟩
    rw [hx] at h1 h2
    simp only [F4, hl, h1, h2, run_true at6, List.getElem?_cons_zero, List.getElem?_cons_succ, beq_self_eq_true, argsF, fr00_get, fr00_defers, put_some, put_none, set_defers, eval_tmp, eval_const, Fr.get_set, reduceIte, reduceCtorEq, Nat.reduceEqDiff, Nat.reduceBEq, Nat.reduceAdd, ofEV_some, ofEM_some, ofM_some, thenV_some, thenC_ret, thenE_norm, thenE_ret, thenE_exit, leave_norm, leave_ret, leave_same, leave_other, thenE_if, leave_if, thenV_if, thenC_if, resR_if, resR_ret, resR_norm, resR_pan, eq_self, res_nil, res_tmp, one_one, one_two, one_nil, bif_decide, bif_not, cond_true, cond_false, eqv_true, eqv_false, bin_add, bin_sub, bin_mul, bin_quo, bin_rem, bin_and, bin_or, bin_xor, bin_andNot, bin_lss, bin_leq, bin_gtr, bin_geq, bin_shl, bin_shr, eq_int, eq_bool, un_neg, un_not, cv_int, exec_seq, exec_region, exec_skip, exec_ret, exec_exit, exec_block, exec_cond', oprs_nil, oprs_val, oprs_call, oprs_guard', evOp, Option.map_some, Option.map_none, List.map_cons, List.map_nil, Bool.false_xor, Bool.true_xor, decide_true, decide_false, Bool.not_true, Bool.not_false, Int.reduceLT, Int.reduceLE, Int.reduceEq, Int.reduceToNat, Int.reduceNeg, IntKind.bits, Nat.min_def, Nat.reduceLeDiff, Int.reducePow]
theorem sums_nil : isTrue (evFun T 5000 4 [.nilslice] (mem0 0)) = true := by kernel_rfl
end Go.Proofs.Ytpdpjimopfadfaa.Ev
