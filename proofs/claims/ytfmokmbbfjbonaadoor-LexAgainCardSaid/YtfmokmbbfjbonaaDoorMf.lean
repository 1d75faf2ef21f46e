/- WPl2, WPl3, WPl4, WPl5, WPl6, WPl7, WPl8, WSk, PLst, WLs, PAg, WAg, WAg2, EvLive, EvCard, LawAg. -/
import Derived.LaidMore
import Derived.Test.YtfmokmbbfjbonaaDoorMe
set_option linter.unusedSimpArgs false
set_option linter.unusedVariables false
section
namespace Go.Proofs.YtfmokmbbfjbonaaDoor.Ev
open Go
set_option linter.unusedSimpArgs false
set_option linter.unusedVariables false
set_option maxRecDepth 10000
set_option maxHeartbeats 4000000
def ints1 (l : List Int) : List (List EV) := l.map fun s => [.int .i64 s]
theorem ints1_get {l : List Int} {i : Nat} : (ints1 l)[i]? = (l[i]?).map fun s => [.int .i64 s] := by unfold ints1; rw [List.getElem?_map]
theorem ints1_len {l : List Int} : (ints1 l).length = l.length := by unfold ints1; rw [List.length_map]
/-- Where a value stands in a row first. -/
def ixN {α : Type} [DecidableEq α] (x : α) : List α → Nat
  | [] => 0
  | a :: l => if a = x then 0 else ixN x l + 1
theorem ixN_at {α : Type} [DecidableEq α] {x : α} : ∀ {l : List α} {i : Nat}, x ∉ l.take i → l[i]? = some x → ixN x l = i
  | [], i, _, h => by simp at h
  | a :: l, 0, _, h => by simp only [List.getElem?_cons_zero, Option.some.injEq] at h; simp only [ixN, if_pos h]
  | a :: l, i + 1, hn, h => by
    simp only [List.take_succ_cons, List.mem_cons, not_or] at hn
    simp only [ixN, if_neg (Ne.symm hn.1), ixN_at hn.2 (by simpa using h)]
def ixL {α : Type} [DecidableEq α] (x : α) (l : List α) : Int := if x ∈ l then (ixN x l : Int) else -1
theorem ixL_pos {α : Type} [DecidableEq α] {x : α} {l : List α} : (0 ≤ ixL x l) = (x ∈ l) := by
  unfold ixL
  by_cases h : x ∈ l
  · rw [if_pos h]; simp [h]
  · rw [if_neg h]; simp [h]
theorem intidx_loop {l : List Int} {x : Int} (hl : l.length < 1000000000) {tg : Nat} {m0 : Mem} {fr : Fr} (h0 : fr.get 0 = .fz tg 1 (ints1 l)) (h1 : fr.get 1 = .int .i64 x) (h7 : fr.get 7 = .int .i64 (l.length : Int)) (h8 : fr.get 8 = .int .i64 0) (hd : fr.defers = []) :
    ∃ o, exec U (.loop F_slices_Index_int_l0) fr m0 = some o ∧ ((x ∈ l ∧ ∃ fr', o = .ret fr' m0 ∧ fr'.get 4 = .int .i64 (ixN x l : Int) ∧ fr'.defers = []) ∨ (x ∉ l ∧ ∃ fr', o = .exit 0 fr' m0 ∧ fr'.defers = [])) := by
  refine loop_w (σ := Nat) (fun i fr m => m = m0 ∧ i ≤ l.length ∧ x ∉ l.take i ∧ fr.get 0 = .fz tg 1 (ints1 l) ∧ fr.get 1 = .int .i64 x ∧ fr.get 7 = .int .i64 (l.length : Int) ∧ fr.get 8 = .int .i64 (i : Int) ∧ fr.defers = []) (fun i => l.length - i) _ ?_ 0 fr m0 ⟨rfl, Nat.zero_le _, by simp, h0, h1, h7, h8, hd⟩
  rintro i fr m ⟨rfl, hi, hn, h0, h1, h7, h8, hd⟩
  generalize hX : exec U F_slices_Index_int_l0 fr m = X
  by_cases hlt : i < l.length
  · have hc : (i : Int) < (l.length : Int) := by omega
    have hg : l[i]? = some l[i] := List.getElem?_eq_getElem hlt
    have hw1 := wrap_succ (i := i) (by omega)
    simp +contextual -implicitDefEqProofs (maxSteps := 1000000) (maxDischargeDepth := 8) only [F_slices_Index_int_l0, h0, h1, h7, h8, hd, hc, hg, hlt, hw1, idx_cast, ints1_get, ints1_len, zz0, zz1, zz2, zz3, zz4, zz5, zz6, zz7, zz8, zz9, argsF, reduceIte, reduceCtorEq, Nat.reduceEqDiff, Nat.reduceBEq, Nat.reduceAdd, Int.reduceLT, Int.reduceLE, Int.reduceEq, Int.reduceToNat, Int.reduceNeg, Nat.reduceLeDiff, Int.reducePow, implies_true, UInt8.reduceToNat, Int.reduceSub, Int.reduceAdd, Nat.reduceLT, Nat.reduceMul, Nat.reduceSub, Nat.reduceBNe] at hX
    subst hX
    refine lw_iF (fun he => lw_ret (.inl ⟨by rw [he]; exact List.getElem_mem hlt, _, rfl, ?_, by simp only [hd, get_set', selE_t, selE_f, Nat.reduceBEq, set_defers, fr00_get, fr00_defers, put_some, put_none ]⟩)) (fun he => lw_norm (i + 1) (by omega) ⟨rfl, hlt, ?_, by simp only [h0, get_set', selE_t, selE_f, Nat.reduceBEq, set_defers, fr00_get, fr00_defers, put_some, put_none ], by simp only [h1, get_set', selE_t, selE_f, Nat.reduceBEq, set_defers, fr00_get, fr00_defers, put_some, put_none ], by simp only [h7, get_set', selE_t, selE_f, Nat.reduceBEq, set_defers, fr00_get, fr00_defers, put_some, put_none ], by simp only [get_set', selE_t, selE_f, Nat.reduceBEq, set_defers, fr00_get, fr00_defers, put_some, put_none ], by simp only [hd, get_set', selE_t, selE_f, Nat.reduceBEq, set_defers, fr00_get, fr00_defers, put_some, put_none ]⟩)
    · have : ixN x l = i := ixN_at hn (by rw [hg, he])
      rw [this]; simp only [get_set', selE_t, selE_f, Nat.reduceBEq, set_defers, fr00_get, fr00_defers, put_some, put_none ]
    · rw [List.take_succ_eq_append_getElem hlt, List.mem_append]
      rintro (q | q)
      · exact hn q
      · exact he (List.mem_singleton.1 q)
  · have hc : ¬ ((i : Int) < (l.length : Int)) := by omega
    simp +contextual -implicitDefEqProofs (maxSteps := 1000000) (maxDischargeDepth := 8) only [F_slices_Index_int_l0, h0, h7, h8, hd, hc, zz0, zz1, zz2, zz3, zz4, zz5, zz6, zz7, zz8, zz9, argsF, reduceIte, reduceCtorEq, Nat.reduceEqDiff, Nat.reduceBEq, Nat.reduceAdd, Int.reduceLT, Int.reduceLE, Int.reduceEq, Int.reduceToNat, Int.reduceNeg, Nat.reduceLeDiff, Int.reducePow, implies_true, UInt8.reduceToNat, Int.reduceSub, Int.reduceAdd, Nat.reduceLT, Nat.reduceMul, Nat.reduceSub, Nat.reduceBNe] at hX
    subst hX
    have : l.take i = l := List.take_of_length_le (by omega)
    rw [this] at hn
    exact lw_exit (.inr ⟨hn, _, rfl, by simp only [hd, get_set', selE_t, selE_f, Nat.reduceBEq, set_defers, fr00_get, fr00_defers, put_some, put_none ]⟩)
theorem intidx_run {l : List Int} {x : Int} (hl : l.length < 1000000000) {tg : Nat} {m : Mem} : run U n_slices_Index_int [.fz tg 1 (ints1 l), .int .i64 x] m = some (.ret (.int .i64 (ixL x l)) m) := by
  rw [run_p2 (by simp [F_slices_Index_int])]
  generalize hL : exec (UT B K) (ICode.loop F_slices_Index_int_l0) = L
  simp +contextual -implicitDefEqProofs (maxSteps := 1000000) (maxDischargeDepth := 8) only [F_slices_Index_int, ints1_len, zz0, zz1, zz2, zz3, zz4, zz5, zz6, zz7, zz8, zz9, argsF, reduceIte, reduceCtorEq, Nat.reduceEqDiff, Nat.reduceBEq, Nat.reduceAdd, Int.reduceLT, Int.reduceLE, Int.reduceEq, Int.reduceToNat, Int.reduceNeg, Nat.reduceLeDiff, Int.reducePow, implies_true, UInt8.reduceToNat, Int.reduceSub, Int.reduceAdd, Nat.reduceLT, Nat.reduceMul, Nat.reduceSub, Nat.reduceBNe]
  subst hL
  generalize hX : exec _ (.loop F_slices_Index_int_l0) _ _ = X
  obtain ⟨o, rfl, h⟩ := looped hX (intidx_loop (l := l) (x := x) hl (tg := tg) (by simp only [get_set', selE_t, selE_f, Nat.reduceBEq, set_defers, fr00_get, fr00_defers, put_some, put_none ]) (by simp only [get_set', selE_t, selE_f, Nat.reduceBEq, set_defers, fr00_get, fr00_defers, put_some, put_none ]) (by simp only [get_set', selE_t, selE_f, Nat.reduceBEq, set_defers, fr00_get, fr00_defers, put_some, put_none ]) (by simp only [get_set', selE_t, selE_f, Nat.reduceBEq, set_defers, fr00_get, fr00_defers, put_some, put_none ]) (by simp only [get_set', selE_t, selE_f, Nat.reduceBEq, set_defers, fr00_get, fr00_defers, put_some, put_none ]))
  rcases h with ⟨h, fr', rfl, h4, hd⟩ | ⟨h, fr', rfl, hd⟩
  · simp +contextual -implicitDefEqProofs (maxSteps := 1000000) (maxDischargeDepth := 8) only [h, h4, hd, ixL, zz0, zz1, zz2, zz3, zz4, zz5, zz6, zz7, zz8, zz9, argsF, reduceIte, reduceCtorEq, Nat.reduceEqDiff, Nat.reduceBEq, Nat.reduceAdd, Int.reduceLT, Int.reduceLE, Int.reduceEq, Int.reduceToNat, Int.reduceNeg, Nat.reduceLeDiff, Int.reducePow, implies_true, UInt8.reduceToNat, Int.reduceSub, Int.reduceAdd, Nat.reduceLT, Nat.reduceMul, Nat.reduceSub, Nat.reduceBNe]
  · simp +contextual -implicitDefEqProofs (maxSteps := 1000000) (maxDischargeDepth := 8) only [h, hd, ixL, zz0, zz1, zz2, zz3, zz4, zz5, zz6, zz7, zz8, zz9, argsF, reduceIte, reduceCtorEq, Nat.reduceEqDiff, Nat.reduceBEq, Nat.reduceAdd, Int.reduceLT, Int.reduceLE, Int.reduceEq, Int.reduceToNat, Int.reduceNeg, Nat.reduceLeDiff, Int.reducePow, implies_true, UInt8.reduceToNat, Int.reduceSub, Int.reduceAdd, Nat.reduceLT, Nat.reduceMul, Nat.reduceSub, Nat.reduceBNe]
theorem inthas_run {l : List Int} {x : Int} (hl : l.length < 1000000000) {tg : Nat} {m : Mem} : run U n_slices_Contains_int [.fz tg 1 (ints1 l), .int .i64 x] m = some (.ret (bo (x ∈ l)) m) := by
  rw [run_p2 (by simp [F_slices_Contains_int])]
  have h := fun m => intidx_run (x := x) hl (tg := tg) (m := m)
  simp +contextual -implicitDefEqProofs (maxSteps := 1000000) (maxDischargeDepth := 8) only [F_slices_Contains_int, h, ixL_pos, zz0, zz1, zz2, zz3, zz4, zz5, zz6, zz7, zz8, zz9, argsF, reduceIte, reduceCtorEq, Nat.reduceEqDiff, Nat.reduceBEq, Nat.reduceAdd, Int.reduceLT, Int.reduceLE, Int.reduceEq, Int.reduceToNat, Int.reduceNeg, Nat.reduceLeDiff, Int.reducePow, implies_true, UInt8.reduceToNat, Int.reduceSub, Int.reduceAdd, Nat.reduceLT, Nat.reduceMul, Nat.reduceSub, Nat.reduceBNe]
theorem stringidx_loop {l : List Txt} {x : Txt} (hl : l.length < 1000000000) {tg : Nat} {m0 : Mem} {fr : Fr} (h0 : fr.get 0 = .fz tg 1 (strs1 l)) (h1 : fr.get 1 = .str x) (h7 : fr.get 7 = .int .i64 (l.length : Int)) (h8 : fr.get 8 = .int .i64 0) (hd : fr.defers = []) :
    ∃ o, exec U (.loop F_slices_Index_string_l0) fr m0 = some o ∧ ((x ∈ l ∧ ∃ fr', o = .ret fr' m0 ∧ fr'.get 4 = .int .i64 (ixN x l : Int) ∧ fr'.defers = []) ∨ (x ∉ l ∧ ∃ fr', o = .exit 0 fr' m0 ∧ fr'.defers = [])) := by
  refine loop_w (σ := Nat) (fun i fr m => m = m0 ∧ i ≤ l.length ∧ x ∉ l.take i ∧ fr.get 0 = .fz tg 1 (strs1 l) ∧ fr.get 1 = .str x ∧ fr.get 7 = .int .i64 (l.length : Int) ∧ fr.get 8 = .int .i64 (i : Int) ∧ fr.defers = []) (fun i => l.length - i) _ ?_ 0 fr m0 ⟨rfl, Nat.zero_le _, by simp, h0, h1, h7, h8, hd⟩
  rintro i fr m ⟨rfl, hi, hn, h0, h1, h7, h8, hd⟩
  generalize hX : exec U F_slices_Index_string_l0 fr m = X
  by_cases hlt : i < l.length
  · have hc : (i : Int) < (l.length : Int) := by omega
    have hg : l[i]? = some l[i] := List.getElem?_eq_getElem hlt
    have hw1 := wrap_succ (i := i) (by omega)
    simp +contextual -implicitDefEqProofs (maxSteps := 1000000) (maxDischargeDepth := 8) only [F_slices_Index_string_l0, h0, h1, h7, h8, hd, hc, hg, hlt, hw1, idx_cast, strs1_get, strs1_len, zz0, zz1, zz2, zz3, zz4, zz5, zz6, zz7, zz8, zz9, argsF, reduceIte, reduceCtorEq, Nat.reduceEqDiff, Nat.reduceBEq, Nat.reduceAdd, Int.reduceLT, Int.reduceLE, Int.reduceEq, Int.reduceToNat, Int.reduceNeg, Nat.reduceLeDiff, Int.reducePow, implies_true, UInt8.reduceToNat, Int.reduceSub, Int.reduceAdd, Nat.reduceLT, Nat.reduceMul, Nat.reduceSub, Nat.reduceBNe] at hX
    subst hX
    refine lw_iF (fun he => lw_ret (.inl ⟨by rw [he]; exact List.getElem_mem hlt, _, rfl, ?_, by simp only [hd, get_set', selE_t, selE_f, Nat.reduceBEq, set_defers, fr00_get, fr00_defers, put_some, put_none ]⟩)) (fun he => lw_norm (i + 1) (by omega) ⟨rfl, hlt, ?_, by simp only [h0, get_set', selE_t, selE_f, Nat.reduceBEq, set_defers, fr00_get, fr00_defers, put_some, put_none ], by simp only [h1, get_set', selE_t, selE_f, Nat.reduceBEq, set_defers, fr00_get, fr00_defers, put_some, put_none ], by simp only [h7, get_set', selE_t, selE_f, Nat.reduceBEq, set_defers, fr00_get, fr00_defers, put_some, put_none ], by simp only [get_set', selE_t, selE_f, Nat.reduceBEq, set_defers, fr00_get, fr00_defers, put_some, put_none ], by simp only [hd, get_set', selE_t, selE_f, Nat.reduceBEq, set_defers, fr00_get, fr00_defers, put_some, put_none ]⟩)
    · have : ixN x l = i := ixN_at hn (by rw [hg, he])
      rw [this]; simp only [get_set', selE_t, selE_f, Nat.reduceBEq, set_defers, fr00_get, fr00_defers, put_some, put_none ]
    · rw [List.take_succ_eq_append_getElem hlt, List.mem_append]
      rintro (q | q)
      · exact hn q
      · exact he (List.mem_singleton.1 q)
  · have hc : ¬ ((i : Int) < (l.length : Int)) := by omega
    simp +contextual -implicitDefEqProofs (maxSteps := 1000000) (maxDischargeDepth := 8) only [F_slices_Index_string_l0, h0, h7, h8, hd, hc, zz0, zz1, zz2, zz3, zz4, zz5, zz6, zz7, zz8, zz9, argsF, reduceIte, reduceCtorEq, Nat.reduceEqDiff, Nat.reduceBEq, Nat.reduceAdd, Int.reduceLT, Int.reduceLE, Int.reduceEq, Int.reduceToNat, Int.reduceNeg, Nat.reduceLeDiff, Int.reducePow, implies_true, UInt8.reduceToNat, Int.reduceSub, Int.reduceAdd, Nat.reduceLT, Nat.reduceMul, Nat.reduceSub, Nat.reduceBNe] at hX
    subst hX
    have : l.take i = l := List.take_of_length_le (by omega)
    rw [this] at hn
    exact lw_exit (.inr ⟨hn, _, rfl, by simp only [hd, get_set', selE_t, selE_f, Nat.reduceBEq, set_defers, fr00_get, fr00_defers, put_some, put_none ]⟩)
theorem stringidx_run {l : List Txt} {x : Txt} (hl : l.length < 1000000000) {tg : Nat} {m : Mem} : run U n_slices_Index_string [.fz tg 1 (strs1 l), .str x] m = some (.ret (.int .i64 (ixL x l)) m) := by
  rw [run_p2 (by simp [F_slices_Index_string])]
  generalize hL : exec (UT B K) (ICode.loop F_slices_Index_string_l0) = L
  simp +contextual -implicitDefEqProofs (maxSteps := 1000000) (maxDischargeDepth := 8) only [F_slices_Index_string, strs1_len, zz0, zz1, zz2, zz3, zz4, zz5, zz6, zz7, zz8, zz9, argsF, reduceIte, reduceCtorEq, Nat.reduceEqDiff, Nat.reduceBEq, Nat.reduceAdd, Int.reduceLT, Int.reduceLE, Int.reduceEq, Int.reduceToNat, Int.reduceNeg, Nat.reduceLeDiff, Int.reducePow, implies_true, UInt8.reduceToNat, Int.reduceSub, Int.reduceAdd, Nat.reduceLT, Nat.reduceMul, Nat.reduceSub, Nat.reduceBNe]
  subst hL
  generalize hX : exec _ (.loop F_slices_Index_string_l0) _ _ = X
  obtain ⟨o, rfl, h⟩ := looped hX (stringidx_loop (l := l) (x := x) hl (tg := tg) (by simp only [get_set', selE_t, selE_f, Nat.reduceBEq, set_defers, fr00_get, fr00_defers, put_some, put_none ]) (by simp only [get_set', selE_t, selE_f, Nat.reduceBEq, set_defers, fr00_get, fr00_defers, put_some, put_none ]) (by simp only [get_set', selE_t, selE_f, Nat.reduceBEq, set_defers, fr00_get, fr00_defers, put_some, put_none ]) (by simp only [get_set', selE_t, selE_f, Nat.reduceBEq, set_defers, fr00_get, fr00_defers, put_some, put_none ]) (by simp only [get_set', selE_t, selE_f, Nat.reduceBEq, set_defers, fr00_get, fr00_defers, put_some, put_none ]))
  rcases h with ⟨h, fr', rfl, h4, hd⟩ | ⟨h, fr', rfl, hd⟩
  · simp +contextual -implicitDefEqProofs (maxSteps := 1000000) (maxDischargeDepth := 8) only [h, h4, hd, ixL, zz0, zz1, zz2, zz3, zz4, zz5, zz6, zz7, zz8, zz9, argsF, reduceIte, reduceCtorEq, Nat.reduceEqDiff, Nat.reduceBEq, Nat.reduceAdd, Int.reduceLT, Int.reduceLE, Int.reduceEq, Int.reduceToNat, Int.reduceNeg, Nat.reduceLeDiff, Int.reducePow, implies_true, UInt8.reduceToNat, Int.reduceSub, Int.reduceAdd, Nat.reduceLT, Nat.reduceMul, Nat.reduceSub, Nat.reduceBNe]
  · simp +contextual -implicitDefEqProofs (maxSteps := 1000000) (maxDischargeDepth := 8) only [h, hd, ixL, zz0, zz1, zz2, zz3, zz4, zz5, zz6, zz7, zz8, zz9, argsF, reduceIte, reduceCtorEq, Nat.reduceEqDiff, Nat.reduceBEq, Nat.reduceAdd, Int.reduceLT, Int.reduceLE, Int.reduceEq, Int.reduceToNat, Int.reduceNeg, Nat.reduceLeDiff, Int.reducePow, implies_true, UInt8.reduceToNat, Int.reduceSub, Int.reduceAdd, Nat.reduceLT, Nat.reduceMul, Nat.reduceSub, Nat.reduceBNe]
theorem stringhas_run {l : List Txt} {x : Txt} (hl : l.length < 1000000000) {tg : Nat} {m : Mem} : run U n_slices_Contains_string [.fz tg 1 (strs1 l), .str x] m = some (.ret (bo (x ∈ l)) m) := by
  rw [run_p2 (by simp [F_slices_Contains_string])]
  have h := fun m => stringidx_run (x := x) hl (tg := tg) (m := m)
  simp +contextual -implicitDefEqProofs (maxSteps := 1000000) (maxDischargeDepth := 8) only [F_slices_Contains_string, h, ixL_pos, zz0, zz1, zz2, zz3, zz4, zz5, zz6, zz7, zz8, zz9, argsF, reduceIte, reduceCtorEq, Nat.reduceEqDiff, Nat.reduceBEq, Nat.reduceAdd, Int.reduceLT, Int.reduceLE, Int.reduceEq, Int.reduceToNat, Int.reduceNeg, Nat.reduceLeDiff, Int.reducePow, implies_true, UInt8.reduceToNat, Int.reduceSub, Int.reduceAdd, Nat.reduceLT, Nat.reduceMul, Nat.reduceSub, Nat.reduceBNe]
theorem lex_word {s : Txt} : pureR B K n_lex_Word [.str s] = some (bo (s ∈ wordsL)) := by
  rw [pure_at (by simp [S_lex_Word])]
  have h := fun m => stringhas_run (l := wordsL) (x := s) (by decide) (tg := 0) (m := m)
  have hl := fun m => load_gl (l := wordsL) (m := m)
  have e : L_lex_words = wordsL := rfl
  simp +contextual -implicitDefEqProofs (maxSteps := 1000000) (maxDischargeDepth := 8) only [S_lex_Word, e, hl, h, zz0, zz1, zz2, zz3, zz4, zz5, zz6, zz7, zz8, zz9, argsF, reduceIte, reduceCtorEq, Nat.reduceEqDiff, Nat.reduceBEq, Nat.reduceAdd, Int.reduceLT, Int.reduceLE, Int.reduceEq, Int.reduceToNat, Int.reduceNeg, Nat.reduceLeDiff, Int.reducePow, implies_true, UInt8.reduceToNat, Int.reduceSub, Int.reduceAdd, Nat.reduceLT, Nat.reduceMul, Nat.reduceSub, Nat.reduceBNe]
end Go.Proofs.YtfmokmbbfjbonaaDoor.Ev
end
section
namespace Go.Proofs.YtfmokmbbfjbonaaDoor.Ev
open Go
set_option linter.unusedSimpArgs false
set_option linter.unusedVariables false
set_option maxRecDepth 10000
set_option maxHeartbeats 4000000
theorem lead_congr {P Q : Int → Prop} [DecidablePred P] [DecidablePred Q] (h : ∀ n, P n ↔ Q n) : ∀ s : Txt, lead P s = lead Q s
  | [] => rfl
  | c :: s => by
    simp only [lead, lead_congr h s]
    by_cases q : Q (cI c)
    · rw [if_pos q, if_pos ((h _).2 q)]
    · rw [if_neg q, if_neg (fun w => q ((h _).1 w))]
abbrev inCl (cl : List Int) : Int → Prop := fun n => classF n ∈ cl
theorem run_loop {s : Txt} {cl : List Int} {tg : Nat} (hs : s.length < 1000000000) (hcl : cl.length < 1000) {m0 : Mem} {fr : Fr} (h0 : fr.get 0 = .str s) (h1 : fr.get 1 = .fz tg 1 (ints1 cl)) (h5 : fr.get 5 = .int .i64 0) (hd : fr.defers = []) :
    ∃ o, exec U (.loop F_lex_run_l0) fr m0 = some o ∧ ∃ fr', o = .exit 0 fr' m0 ∧ fr'.get 5 = .int .i64 (lead (inCl cl) s : Int) ∧ fr'.defers = [] := by
  refine loop_w (σ := Nat) (fun i fr m => m = m0 ∧ i ≤ s.length ∧ fr.get 0 = .str s ∧ fr.get 1 = .fz tg 1 (ints1 cl) ∧ fr.get 5 = .int .i64 (i : Int) ∧ lead (inCl cl) s = i + lead (inCl cl) (s.drop i) ∧ fr.defers = []) (fun i => s.length - i) _ ?_ 0 fr m0 ⟨rfl, Nat.zero_le _, h0, h1, h5, by simp, hd⟩
  rintro i fr m ⟨rfl, hi, h0, h1, h5, hr, hd⟩
  generalize hX : exec U F_lex_run_l0 fr m = X
  by_cases hlt : i < s.length
  · have hc : (i : Int) < (s.length : Int) := by omega
    have hg : s[i]? = some s[i] := List.getElem?_eq_getElem hlt
    have hw1 := wrap_succ (i := i) (by omega)
    rw [drop_cons hlt, lead] at hr
    generalize s[i] = c at hg hr
    have hcl' : pureR B K n_lex_class [.int .u8 (c.toNat : Int)] = some (.int .i64 (classF (cI c))) := class_eq
    have hh := fun m => inthas_run (l := cl) (x := classF (cI c)) (by omega) (tg := tg) (m := m)
    by_cases hq : classF (cI c) ∈ cl
    · rw [if_pos hq] at hr
      simp +contextual -implicitDefEqProofs (maxSteps := 1000000) (maxDischargeDepth := 8) only [F_lex_run_l0, h0, h1, h5, hd, hc, hg, hlt, hw1, hcl', hh, hq, bo_tt, idx_cast, zz0, zz1, zz2, zz3, zz4, zz5, zz6, zz7, zz8, zz9, argsF, reduceIte, reduceCtorEq, Nat.reduceEqDiff, Nat.reduceBEq, Nat.reduceAdd, Int.reduceLT, Int.reduceLE, Int.reduceEq, Int.reduceToNat, Int.reduceNeg, Nat.reduceLeDiff, Int.reducePow, implies_true, UInt8.reduceToNat, Int.reduceSub, Int.reduceAdd, Nat.reduceLT, Nat.reduceMul, Nat.reduceSub, Nat.reduceBNe] at hX
      subst hX
      exact lw_norm (i + 1) (by omega) ⟨rfl, hlt, by simp only [h0, get_set', selE_t, selE_f, Nat.reduceBEq, set_defers, fr00_get, fr00_defers, put_some, put_none ], by simp only [h1, get_set', selE_t, selE_f, Nat.reduceBEq, set_defers, fr00_get, fr00_defers, put_some, put_none ], by simp only [get_set', selE_t, selE_f, Nat.reduceBEq, set_defers, fr00_get, fr00_defers, put_some, put_none ], by omega, by simp only [hd, get_set', selE_t, selE_f, Nat.reduceBEq, set_defers, fr00_get, fr00_defers, put_some, put_none ]⟩
    · rw [if_neg hq] at hr
      simp +contextual -implicitDefEqProofs (maxSteps := 1000000) (maxDischargeDepth := 8) only [F_lex_run_l0, h0, h1, h5, hd, hc, hg, hlt, hw1, hcl', hh, hq, bo_ff, idx_cast, zz0, zz1, zz2, zz3, zz4, zz5, zz6, zz7, zz8, zz9, argsF, reduceIte, reduceCtorEq, Nat.reduceEqDiff, Nat.reduceBEq, Nat.reduceAdd, Int.reduceLT, Int.reduceLE, Int.reduceEq, Int.reduceToNat, Int.reduceNeg, Nat.reduceLeDiff, Int.reducePow, implies_true, UInt8.reduceToNat, Int.reduceSub, Int.reduceAdd, Nat.reduceLT, Nat.reduceMul, Nat.reduceSub, Nat.reduceBNe] at hX
      subst hX
      exact lw_exit ⟨_, rfl, by simp only [h5, hr, Nat.add_zero, get_set', selE_t, selE_f, Nat.reduceBEq, set_defers, fr00_get, fr00_defers, put_some, put_none ], by simp only [hd, get_set', selE_t, selE_f, Nat.reduceBEq, set_defers, fr00_get, fr00_defers, put_some, put_none ]⟩
  · have hc : ¬ ((i : Int) < (s.length : Int)) := by omega
    obtain rfl : i = s.length := by omega
    rw [List.drop_length, lead, Nat.add_zero] at hr
    simp +contextual -implicitDefEqProofs (maxSteps := 1000000) (maxDischargeDepth := 8) only [F_lex_run_l0, h0, h1, h5, hd, hc, zz0, zz1, zz2, zz3, zz4, zz5, zz6, zz7, zz8, zz9, argsF, reduceIte, reduceCtorEq, Nat.reduceEqDiff, Nat.reduceBEq, Nat.reduceAdd, Int.reduceLT, Int.reduceLE, Int.reduceEq, Int.reduceToNat, Int.reduceNeg, Nat.reduceLeDiff, Int.reducePow, implies_true, UInt8.reduceToNat, Int.reduceSub, Int.reduceAdd, Nat.reduceLT, Nat.reduceMul, Nat.reduceSub, Nat.reduceBNe] at hX
    subst hX
    exact lw_exit ⟨_, rfl, by simp only [h5, hr, get_set', selE_t, selE_f, Nat.reduceBEq, set_defers, fr00_get, fr00_defers, put_some, put_none ], by simp only [hd, get_set', selE_t, selE_f, Nat.reduceBEq, set_defers, fr00_get, fr00_defers, put_some, put_none ]⟩
theorem run_eq {s : Txt} {cl : List Int} {tg : Nat} (hs : s.length < 1000000000) (hcl : cl.length < 1000) : pureR B K n_lex_run [.str s, .fz tg 1 (ints1 cl)] = some (.int .i64 (lead (inCl cl) s : Int)) := by
  rw [pure_at (by simp [F_lex_run])]
  generalize hL : exec (UT B K) (ICode.loop F_lex_run_l0) = L
  simp +contextual -implicitDefEqProofs (maxSteps := 1000000) (maxDischargeDepth := 8) only [F_lex_run, zz0, zz1, zz2, zz3, zz4, zz5, zz6, zz7, zz8, zz9, argsF, reduceIte, reduceCtorEq, Nat.reduceEqDiff, Nat.reduceBEq, Nat.reduceAdd, Int.reduceLT, Int.reduceLE, Int.reduceEq, Int.reduceToNat, Int.reduceNeg, Nat.reduceLeDiff, Int.reducePow, implies_true, UInt8.reduceToNat, Int.reduceSub, Int.reduceAdd, Nat.reduceLT, Nat.reduceMul, Nat.reduceSub, Nat.reduceBNe]
  subst hL
  generalize hX : exec _ (.loop F_lex_run_l0) _ _ = X
  obtain ⟨o, rfl, fr', rfl, h5, hd⟩ := looped hX (run_loop (s := s) (cl := cl) (tg := tg) hs hcl (by simp only [get_set', selE_t, selE_f, Nat.reduceBEq, set_defers, fr00_get, fr00_defers, put_some, put_none ]) (by simp only [get_set', selE_t, selE_f, Nat.reduceBEq, set_defers, fr00_get, fr00_defers, put_some, put_none ]) (by simp only [get_set', selE_t, selE_f, Nat.reduceBEq, set_defers, fr00_get, fr00_defers, put_some, put_none ]) (by simp only [get_set', selE_t, selE_f, Nat.reduceBEq, set_defers, fr00_get, fr00_defers, put_some, put_none ]))
  simp +contextual -implicitDefEqProofs (maxSteps := 1000000) (maxDischargeDepth := 8) only [h5, hd, zz0, zz1, zz2, zz3, zz4, zz5, zz6, zz7, zz8, zz9, argsF, reduceIte, reduceCtorEq, Nat.reduceEqDiff, Nat.reduceBEq, Nat.reduceAdd, Int.reduceLT, Int.reduceLE, Int.reduceEq, Int.reduceToNat, Int.reduceNeg, Nat.reduceLeDiff, Int.reducePow, implies_true, UInt8.reduceToNat, Int.reduceSub, Int.reduceAdd, Nat.reduceLT, Nat.reduceMul, Nat.reduceSub, Nat.reduceBNe]
theorem stlite_pre {s x : Txt} : pureR B K n_internal_stringslite_HasPrefix [.str s, .str x] = some (bo (PreP x s)) := by
  rw [pure_at (by simp [F_internal_stringslite_HasPrefix])]
  by_cases h : x.length ≤ s.length
  · have hc : (x.length : Int) ≤ (s.length : Int) := by omega
    have hb : bound (some (.int .i64 (x.length : Int))) s.length s.length = some x.length := bound_cast h
    have hb0 : bound none 0 x.length = some 0 := rfl
    simp +contextual -implicitDefEqProofs (maxSteps := 1000000) (maxDischargeDepth := 8) only [F_internal_stringslite_HasPrefix, hc, hb, hb0, Option.map_none, zz0, zz1, zz2, zz3, zz4, zz5, zz6, zz7, zz8, zz9, argsF, reduceIte, reduceCtorEq, Nat.reduceEqDiff, Nat.reduceBEq, Nat.reduceAdd, Int.reduceLT, Int.reduceLE, Int.reduceEq, Int.reduceToNat, Int.reduceNeg, Nat.reduceLeDiff, Int.reducePow, implies_true, UInt8.reduceToNat, Int.reduceSub, Int.reduceAdd, Nat.reduceLT, Nat.reduceMul, Nat.reduceSub, Nat.reduceBNe]
    exact bo_some ⟨fun q => ⟨h, q⟩, fun q => q.2⟩
  · have hc : ¬ (x.length : Int) ≤ (s.length : Int) := by omega
    simp +contextual -implicitDefEqProofs (maxSteps := 1000000) (maxDischargeDepth := 8) only [F_internal_stringslite_HasPrefix, hc, zz0, zz1, zz2, zz3, zz4, zz5, zz6, zz7, zz8, zz9, argsF, reduceIte, reduceCtorEq, Nat.reduceEqDiff, Nat.reduceBEq, Nat.reduceAdd, Int.reduceLT, Int.reduceLE, Int.reduceEq, Int.reduceToNat, Int.reduceNeg, Nat.reduceLeDiff, Int.reducePow, implies_true, UInt8.reduceToNat, Int.reduceSub, Int.reduceAdd, Nat.reduceLT, Nat.reduceMul, Nat.reduceSub, Nat.reduceBNe]
    exact congrArg some (ff_bo fun q => h q.1)
theorem strings_pre {s x : Txt} : pureR B K n_strings_HasPrefix [.str s, .str x] = some (bo (PreP x s)) := by
  rw [pure_at (by simp [F_strings_HasPrefix])]
  simp +contextual -implicitDefEqProofs (maxSteps := 1000000) (maxDischargeDepth := 8) only [F_strings_HasPrefix, stlite_pre, zz0, zz1, zz2, zz3, zz4, zz5, zz6, zz7, zz8, zz9, argsF, reduceIte, reduceCtorEq, Nat.reduceEqDiff, Nat.reduceBEq, Nat.reduceAdd, Int.reduceLT, Int.reduceLE, Int.reduceEq, Int.reduceToNat, Int.reduceNeg, Nat.reduceLeDiff, Int.reducePow, implies_true, UInt8.reduceToNat, Int.reduceSub, Int.reduceAdd, Nat.reduceLT, Nat.reduceMul, Nat.reduceSub, Nat.reduceBNe]
theorem pre_run {s x : Txt} {b t : Nat} {m : Mem} (hb : m.get b = .cells [.str s] 1 t false) (hlt : b < m.next) : run U n_lex_scanner_next_1 [.str x, .ptr b 0] m = some (.ret (bo (PreP x s)) m) := by
  rw [run_p2 (by simp [F_lex_scanner_next_1])]
  simp +contextual -implicitDefEqProofs (maxSteps := 1000000) (maxDischargeDepth := 8) only [F_lex_scanner_next_1, hb, hlt, strings_pre, zz0, zz1, zz2, zz3, zz4, zz5, zz6, zz7, zz8, zz9, argsF, reduceIte, reduceCtorEq, Nat.reduceEqDiff, Nat.reduceBEq, Nat.reduceAdd, Int.reduceLT, Int.reduceLE, Int.reduceEq, Int.reduceToNat, Int.reduceNeg, Nat.reduceLeDiff, Int.reducePow, implies_true, UInt8.reduceToNat, Int.reduceSub, Int.reduceAdd, Nat.reduceLT, Nat.reduceMul, Nat.reduceSub, Nat.reduceBNe]
theorem find_loop {l : List Txt} {s : Txt} {b t tg : Nat} (hl : l.length < 1000000000) {m0 : Mem} {fr : Fr} (hb : m0.get b = .cells [.str s] 1 t false) (hblt : b < m0.next) (h0 : fr.get 0 = .fz tg 1 (strs1 l)) (h1 : fr.get 1 = .func n_lex_scanner_next_1 [] [.ptr b 0]) (h7 : fr.get 7 = .int .i64 (l.length : Int)) (h8 : fr.get 8 = .int .i64 0) (hd : fr.defers = []) :
    ∃ o, exec U (.loop F_slices_IndexFunc_string_l0) fr m0 = some o ∧ ((∃ (i : Nat) (y : Txt), l[i]? = some y ∧ PreP y s ∧ (∀ j : Nat, j < i → ∀ x, l[j]? = some x → ¬ PreP x s) ∧ ∃ fr', o = .ret fr' m0 ∧ fr'.get 4 = .int .i64 (i : Int) ∧ fr'.defers = []) ∨ ((∀ x ∈ l, ¬ PreP x s) ∧ ∃ fr', o = .exit 0 fr' m0 ∧ fr'.defers = [])) := by
  refine loop_w (σ := Nat) (fun i fr m => m = m0 ∧ i ≤ l.length ∧ (∀ j, j < i → ∀ x, l[j]? = some x → ¬ PreP x s) ∧ fr.get 0 = .fz tg 1 (strs1 l) ∧ fr.get 1 = .func n_lex_scanner_next_1 [] [.ptr b 0] ∧ fr.get 7 = .int .i64 (l.length : Int) ∧ fr.get 8 = .int .i64 (i : Int) ∧ fr.defers = []) (fun i => l.length - i) _ ?_ 0 fr m0 ⟨rfl, Nat.zero_le _, by omega, h0, h1, h7, h8, hd⟩
  rintro i fr m ⟨rfl, hi, hn, h0, h1, h7, h8, hd⟩
  generalize hX : exec U F_slices_IndexFunc_string_l0 fr m = X
  by_cases hlt : i < l.length
  · have hc : (i : Int) < (l.length : Int) := by omega
    have hg : l[i]? = some l[i] := List.getElem?_eq_getElem hlt
    have hw1 := wrap_succ (i := i) (by omega)
    have hp := fun x => pre_run (x := x) hb hblt
    simp +contextual -implicitDefEqProofs (maxSteps := 1000000) (maxDischargeDepth := 8) only [F_slices_IndexFunc_string_l0, h0, h1, h7, h8, hd, hc, hg, hlt, hw1, hp, idx_cast, strs1_get, strs1_len, zz0, zz1, zz2, zz3, zz4, zz5, zz6, zz7, zz8, zz9, argsF, reduceIte, reduceCtorEq, Nat.reduceEqDiff, Nat.reduceBEq, Nat.reduceAdd, Int.reduceLT, Int.reduceLE, Int.reduceEq, Int.reduceToNat, Int.reduceNeg, Nat.reduceLeDiff, Int.reducePow, implies_true, UInt8.reduceToNat, Int.reduceSub, Int.reduceAdd, Nat.reduceLT, Nat.reduceMul, Nat.reduceSub, Nat.reduceBNe] at hX
    subst hX
    refine lw_iF (fun he => lw_ret (.inl ⟨i, l[i], hg, he, hn, _, rfl, by simp only [get_set', selE_t, selE_f, Nat.reduceBEq, set_defers, fr00_get, fr00_defers, put_some, put_none ], by simp only [hd, get_set', selE_t, selE_f, Nat.reduceBEq, set_defers, fr00_get, fr00_defers, put_some, put_none ]⟩)) (fun he => lw_norm (i + 1) (by omega) ⟨rfl, hlt, fun j hj x hx => ?_, by simp only [h0, get_set', selE_t, selE_f, Nat.reduceBEq, set_defers, fr00_get, fr00_defers, put_some, put_none ], by simp only [h1, get_set', selE_t, selE_f, Nat.reduceBEq, set_defers, fr00_get, fr00_defers, put_some, put_none ], by simp only [h7, get_set', selE_t, selE_f, Nat.reduceBEq, set_defers, fr00_get, fr00_defers, put_some, put_none ], by simp only [get_set', selE_t, selE_f, Nat.reduceBEq, set_defers, fr00_get, fr00_defers, put_some, put_none ], by simp only [hd, get_set', selE_t, selE_f, Nat.reduceBEq, set_defers, fr00_get, fr00_defers, put_some, put_none ]⟩)
    by_cases hji : j < i
    · exact hn j hji x hx
    · obtain rfl : j = i := by omega
      rw [hg] at hx; cases hx; exact he
  · have hc : ¬ ((i : Int) < (l.length : Int)) := by omega
    obtain rfl : i = l.length := by omega
    simp +contextual -implicitDefEqProofs (maxSteps := 1000000) (maxDischargeDepth := 8) only [F_slices_IndexFunc_string_l0, h0, h7, h8, hd, hc, zz0, zz1, zz2, zz3, zz4, zz5, zz6, zz7, zz8, zz9, argsF, reduceIte, reduceCtorEq, Nat.reduceEqDiff, Nat.reduceBEq, Nat.reduceAdd, Int.reduceLT, Int.reduceLE, Int.reduceEq, Int.reduceToNat, Int.reduceNeg, Nat.reduceLeDiff, Int.reducePow, implies_true, UInt8.reduceToNat, Int.reduceSub, Int.reduceAdd, Nat.reduceLT, Nat.reduceMul, Nat.reduceSub, Nat.reduceBNe] at hX
    subst hX
    refine lw_exit (.inr ⟨fun x hx => ?_, _, rfl, by simp only [hd, get_set', selE_t, selE_f, Nat.reduceBEq, set_defers, fr00_get, fr00_defers, put_some, put_none ]⟩)
    obtain ⟨j, hj⟩ := List.getElem?_of_mem hx
    exact hn j (List.getElem?_eq_some_iff.1 hj).1 x hj
theorem find_run {l : List Txt} {s : Txt} {b t tg : Nat} (hl : l.length < 1000000000) {m : Mem} (hb : m.get b = .cells [.str s] 1 t false) (hblt : b < m.next) :
    (∃ (i : Nat) (y : Txt), l[i]? = some y ∧ PreP y s ∧ (∀ j : Nat, j < i → ∀ x, l[j]? = some x → ¬ PreP x s) ∧ run U n_slices_IndexFunc_string [.fz tg 1 (strs1 l), .func n_lex_scanner_next_1 [] [.ptr b 0]] m = some (.ret (.int .i64 (i : Int)) m)) ∨
    ((∀ x ∈ l, ¬ PreP x s) ∧ run U n_slices_IndexFunc_string [.fz tg 1 (strs1 l), .func n_lex_scanner_next_1 [] [.ptr b 0]] m = some (.ret (.int .i64 (-1)) m)) := by
  rw [run_p2 (by simp [F_slices_IndexFunc_string])]
  generalize hL : exec (UT B K) (ICode.loop F_slices_IndexFunc_string_l0) = L
  simp +contextual -implicitDefEqProofs (maxSteps := 1000000) (maxDischargeDepth := 8) only [F_slices_IndexFunc_string, strs1_len, zz0, zz1, zz2, zz3, zz4, zz5, zz6, zz7, zz8, zz9, argsF, reduceIte, reduceCtorEq, Nat.reduceEqDiff, Nat.reduceBEq, Nat.reduceAdd, Int.reduceLT, Int.reduceLE, Int.reduceEq, Int.reduceToNat, Int.reduceNeg, Nat.reduceLeDiff, Int.reducePow, implies_true, UInt8.reduceToNat, Int.reduceSub, Int.reduceAdd, Nat.reduceLT, Nat.reduceMul, Nat.reduceSub, Nat.reduceBNe]
  subst hL
  generalize hX : exec _ (.loop F_slices_IndexFunc_string_l0) _ _ = X
  obtain ⟨o, rfl, h⟩ := looped hX (find_loop (l := l) (s := s) hl (tg := tg) hb hblt (by simp only [get_set', selE_t, selE_f, Nat.reduceBEq, set_defers, fr00_get, fr00_defers, put_some, put_none ]) (by simp only [get_set', selE_t, selE_f, Nat.reduceBEq, set_defers, fr00_get, fr00_defers, put_some, put_none ]) (by simp only [get_set', selE_t, selE_f, Nat.reduceBEq, set_defers, fr00_get, fr00_defers, put_some, put_none ]) (by simp only [get_set', selE_t, selE_f, Nat.reduceBEq, set_defers, fr00_get, fr00_defers, put_some, put_none ]) (by simp only [get_set', selE_t, selE_f, Nat.reduceBEq, set_defers, fr00_get, fr00_defers, put_some, put_none ]))
  rcases h with ⟨i, y, h1, h2, h3, fr', rfl, h4, hd⟩ | ⟨h, fr', rfl, hd⟩
  · refine .inl ⟨i, y, h1, h2, h3, ?_⟩
    simp +contextual -implicitDefEqProofs (maxSteps := 1000000) (maxDischargeDepth := 8) only [h4, hd, zz0, zz1, zz2, zz3, zz4, zz5, zz6, zz7, zz8, zz9, argsF, reduceIte, reduceCtorEq, Nat.reduceEqDiff, Nat.reduceBEq, Nat.reduceAdd, Int.reduceLT, Int.reduceLE, Int.reduceEq, Int.reduceToNat, Int.reduceNeg, Nat.reduceLeDiff, Int.reducePow, implies_true, UInt8.reduceToNat, Int.reduceSub, Int.reduceAdd, Nat.reduceLT, Nat.reduceMul, Nat.reduceSub, Nat.reduceBNe]
  · refine .inr ⟨h, ?_⟩
    simp +contextual -implicitDefEqProofs (maxSteps := 1000000) (maxDischargeDepth := 8) only [hd, zz0, zz1, zz2, zz3, zz4, zz5, zz6, zz7, zz8, zz9, argsF, reduceIte, reduceCtorEq, Nat.reduceEqDiff, Nat.reduceBEq, Nat.reduceAdd, Int.reduceLT, Int.reduceLE, Int.reduceEq, Int.reduceToNat, Int.reduceNeg, Nat.reduceLeDiff, Int.reducePow, implies_true, UInt8.reduceToNat, Int.reduceSub, Int.reduceAdd, Nat.reduceLT, Nat.reduceMul, Nat.reduceSub, Nat.reduceBNe]
theorem ix_line : ∀ s : Txt, (Go.Lib.indexByte s 10 = (lineF s : Int) ∧ lineF s < s.length) ∨ (Go.Lib.indexByte s 10 = -1 ∧ lineF s = s.length)
  | [] => .inr ⟨rfl, rfl⟩
  | c :: s => by
    unfold lineF
    rw [lead, Go.Lib.indexByte]
    by_cases h : cI c = 10
    · have hc : c = 10 := UInt8.toNat_inj.1 (by unfold cI at h; simp; omega)
      subst hc
      have h' : (cI 10 ≠ 10) = False := eq_false (by decide)
      simp only [h', if_false, beq_self_eq_true, if_true]
      exact .inl ⟨rfl, by simp⟩
    · have hc : ¬ (c == 10) = true := by
        rw [beq_iff_eq]; rintro rfl; exact h rfl
      rw [if_neg hc, if_pos h]
      rcases ix_line s with ⟨h1, h2⟩ | ⟨h1, h2⟩
      · unfold lineF at h1 h2
        refine .inl ⟨?_, by simp only [List.length_cons]; omega⟩
        rw [h1, if_neg (by simp)]; omega
      · unfold lineF at h2
        refine .inr ⟨?_, by simp only [List.length_cons]; omega⟩
        rw [h1]; rfl
theorem cut_line {s : Txt} (hs : s.length < 1000000000) : ∃ a b, pureR B K n_strings_Cut [.str s, .str [10]] = some (.tuple [.str (s.take (lineF s)), .str a, .bool b]) := by
  have hix : ∀ m : Mem, run U n_internal_stringslite_Index [.str s, .str [10]] m = some (.ret (.int .i64 (Go.Lib.indexByte s 10)) m) := fun m => by
    rw [run_pure (g := xIndex1) (by unfold U UT PT; rfl)]; rfl
  have h2 : ∃ a b, pureR B K n_internal_stringslite_Cut [.str s, .str [10]] = some (.tuple [.str (s.take (lineF s)), .str a, .bool b]) := by
    rw [pure_at (by simp [F_internal_stringslite_Cut])]
    rcases ix_line s with ⟨h1, h2⟩ | ⟨h1, h2⟩
    · have hc : (0 : Int) ≤ (lineF s : Int) := by omega
      have hw : IntKind.i64.wrap ((lineF s : Int) + 1) = ((lineF s + 1 : Nat) : Int) := wrap_succ (by omega)
      have hb : bound (some (.int .i64 (lineF s : Int))) s.length s.length = some (lineF s) := bound_cast (by omega)
      have hb0 : bound none 0 (lineF s) = some 0 := rfl
      have hb2 : bound (some (.int .i64 ((lineF s + 1 : Nat) : Int))) 0 s.length = some (lineF s + 1) := bound_cast (by omega)
      have hbn : bound none s.length s.length = some s.length := rfl
      generalize lineF s = j at *
      simp +contextual -implicitDefEqProofs (maxSteps := 1000000) (maxDischargeDepth := 8) only [F_internal_stringslite_Cut, hix, h1, hc, hw, hb, hb0, hb2, hbn, Option.map_none, zz0, zz1, zz2, zz3, zz4, zz5, zz6, zz7, zz8, zz9, argsF, reduceIte, reduceCtorEq, Nat.reduceEqDiff, Nat.reduceBEq, Nat.reduceAdd, Int.reduceLT, Int.reduceLE, Int.reduceEq, Int.reduceToNat, Int.reduceNeg, Nat.reduceLeDiff, Int.reducePow, implies_true, UInt8.reduceToNat, Int.reduceSub, Int.reduceAdd, Nat.reduceLT, Nat.reduceMul, Nat.reduceSub, Nat.reduceBNe]
      exact ⟨_, _, rfl⟩
    · rw [h2, List.take_length]
      simp +contextual -implicitDefEqProofs (maxSteps := 1000000) (maxDischargeDepth := 8) only [F_internal_stringslite_Cut, hix, h1, zz0, zz1, zz2, zz3, zz4, zz5, zz6, zz7, zz8, zz9, argsF, reduceIte, reduceCtorEq, Nat.reduceEqDiff, Nat.reduceBEq, Nat.reduceAdd, Int.reduceLT, Int.reduceLE, Int.reduceEq, Int.reduceToNat, Int.reduceNeg, Nat.reduceLeDiff, Int.reducePow, implies_true, UInt8.reduceToNat, Int.reduceSub, Int.reduceAdd, Nat.reduceLT, Nat.reduceMul, Nat.reduceSub, Nat.reduceBNe]
      exact ⟨_, _, rfl⟩
  obtain ⟨a, b, h⟩ := h2
  refine ⟨a, b, ?_⟩
  rw [pure_at (by simp [F_strings_Cut])]
  simp +contextual -implicitDefEqProofs (maxSteps := 1000000) (maxDischargeDepth := 8) only [F_strings_Cut, h, zz0, zz1, zz2, zz3, zz4, zz5, zz6, zz7, zz8, zz9, argsF, reduceIte, reduceCtorEq, Nat.reduceEqDiff, Nat.reduceBEq, Nat.reduceAdd, Int.reduceLT, Int.reduceLE, Int.reduceEq, Int.reduceToNat, Int.reduceNeg, Nat.reduceLeDiff, Int.reducePow, implies_true, UInt8.reduceToNat, Int.reduceSub, Int.reduceAdd, Nat.reduceLT, Nat.reduceMul, Nat.reduceSub, Nat.reduceBNe]
end Go.Proofs.YtfmokmbbfjbonaaDoor.Ev
end
section
namespace Go.Proofs.YtfmokmbbfjbonaaDoor.Ev
open Go
set_option linter.unusedSimpArgs false
set_option linter.unusedVariables false
set_option maxRecDepth 10000
set_option maxHeartbeats 4000000
/-- How a scanner stands. -/
structure Sn (m : Mem) (b : Nat) (s : Txt) (p : Nat) (ov : EV) (l : List Tok) : Prop where
  g : m.get b = .cells [.str s, .int .i64 (p : Int), ov] 3 t_lex_scanner false
  lt : b < m.next
  o : Own m ov (toks l).flatten l.length 4 (b + 1)
  n : l.length ≤ p
  le : p ≤ s.length
/-- What a step of it keeps. -/
structure Kn (m m' : Mem) (b : Nat) (ov ov' : EV) : Prop where
  n : m.next ≤ m'.next
  k : ∀ c, c < m.next → c ≠ b → Off ov c → m'.get c = m.get c
  f : ∀ c, c < m.next → c ≠ b → Off ov c → Off ov' c
theorem Kn.trans {m m' m'' : Mem} {b : Nat} {ov ov' ov'' : EV} (h : Kn m m' b ov ov') (h' : Kn m' m'' b ov' ov'') : Kn m m'' b ov ov'' :=
  ⟨Nat.le_trans h.n h'.n, fun c hc hb ho => (h'.k c (Nat.lt_of_lt_of_le hc h.n) hb (h.f c hc hb ho)).trans (h.k c hc hb ho), fun c hc hb ho => h'.f c (Nat.lt_of_lt_of_le hc h.n) hb (h.f c hc hb ho)⟩
theorem put_run {m : Mem} {b p : Nat} {s : Txt} {ov : EV} {l : List Tok} (h : Sn m b s p ov l) {k n num : Nat} (hn : p + n ≤ s.length) (hs : s.length < 1000000) (hnum : num < 9223372036854775808) :
    ∃ m' ov', run U n_lex_scanner_put [.ptr b 0, .int .i64 (k : Int), .int .i64 (n : Int), .int .i64 (num : Int)] m = some (.ret (.tuple []) m') ∧ Own m' ov' (toks (l ++ [⟨k, (s.drop p).take n, num, p⟩])).flatten (l.length + 1) 4 (b + 1) ∧ m'.get b = .cells [.str s, .int .i64 ((p + n : Nat) : Int), ov'] 3 t_lex_scanner false ∧ Kn m m' b ov ov' := by
  rw [run_p2 (by simp [F_lex_scanner_put])]
  have hg := h.g
  have hb := h.lt
  have hw : IntKind.i64.wrap ((p : Int) + (n : Int)) = ((p + n : Nat) : Int) := by rw [wrap_i64 (by omega) (by omega)]; omega
  have hb1 : bound (some (.int .i64 (p : Int))) 0 (p + n) = some p := bound_cast (by omega)
  have hb2 : bound (some (.int .i64 ((p + n : Nat) : Int))) s.length s.length = some (p + n) := bound_cast hn
  have ht : (s.take (p + n)).drop p = (s.drop p).take n := by rw [List.drop_take, Nat.add_sub_cancel_left]
  simp +contextual -implicitDefEqProofs (maxSteps := 1000000) (maxDischargeDepth := 8) only [F_lex_scanner_put, hg, hb, hw, hb1, hb2, ht, zz0, zz1, zz2, zz3, zz4, zz5, zz6, zz7, zz8, zz9, argsF, reduceIte, reduceCtorEq, Nat.reduceEqDiff, Nat.reduceBEq, Nat.reduceAdd, Int.reduceLT, Int.reduceLE, Int.reduceEq, Int.reduceToNat, Int.reduceNeg, Nat.reduceLeDiff, Int.reducePow, implies_true, UInt8.reduceToNat, Int.reduceSub, Int.reduceAdd, Nat.reduceLT, Nat.reduceMul, Nat.reduceSub, Nat.reduceBNe]
  generalize hA : evAppend _ t_api_Token 4 ov _ = A
  generalize hD1 : Mem.mk (nb m.next 32) _ = D1 at hA ⊢
  have d1n : D1.next = nb m.next 32 := by rw [← hD1]
  have d1o : ∀ c, c < m.next → D1.get c = m.get c := fun c hc => by
    rw [← hD1]
    exact (get_ext_old (m := Mem.mk (m.next + 27) (bump m 32).tbl) (by show c < m.next + 27; omega)).trans rfl
  have d1g : D1.get (nb (m.next + 27) 0) = .cells (Tok.cells ⟨k, (s.drop p).take n, num, p⟩) 4 t_api_Token false := by
    rw [← hD1]
    exact (get_ext_nb (m := Mem.mk (m.next + 27) (bump m 32).tbl) rfl (by simp)).trans rfl
  clear hD1
  have ho1 : Own D1 ov (toks l).flatten l.length 4 (b + 1) := h.o.keep' (by rw [d1n]; exact le_nb) fun c hc _ _ => d1o c hc
  have hln := h.n
  obtain ⟨a1, o1⟩ := append_grow (e := t_api_Token) ho1 (by rw [d1n]; unfold nb; omega) (source_at (cap := some 1) d1g rfl) rfl (by decide) (by unfold room; omega)
  rw [a1] at hA
  subst hA
  have g1n : (grow D1 ov t_api_Token 4 ((toks l).flatten ++ Tok.cells ⟨k, (s.drop p).take n, num, p⟩)).next = nb m.next 33 := by rw [grow_next, d1n, nb_nb]
  have g1o : ∀ c, c < D1.next → Off ov c → (grow D1 ov t_api_Token 4 ((toks l).flatten ++ Tok.cells ⟨k, (s.drop p).take n, num, p⟩)).get c = D1.get c := fun c hc ho => grow_old hc ho
  generalize grow D1 ov t_api_Token 4 ((toks l).flatten ++ Tok.cells ⟨k, (s.drop p).take n, num, p⟩) = G1 at *
  rw [← toks_snoc] at o1
  have hbo : Off ov b := h.o.lt (.inr (Nat.lt_succ_self _))
  have hbd : b < D1.next := by rw [d1n]; unfold nb; omega
  have hg2 : G1.get b = .cells [.str s, .int .i64 (p : Int), ov] 3 t_lex_scanner false := by rw [g1o b hbd hbo, d1o b hb, hg]
  simp +contextual -implicitDefEqProofs (maxSteps := 1000000) (maxDischargeDepth := 8) only [hg2, d1n, g1n, nb_nb, hw, zz0, zz1, zz2, zz3, zz4, zz5, zz6, zz7, zz8, zz9, argsF, reduceIte, reduceCtorEq, Nat.reduceEqDiff, Nat.reduceBEq, Nat.reduceAdd, Int.reduceLT, Int.reduceLE, Int.reduceEq, Int.reduceToNat, Int.reduceNeg, Nat.reduceLeDiff, Int.reducePow, implies_true, UInt8.reduceToNat, Int.reduceSub, Int.reduceAdd, Nat.reduceLT, Nat.reduceMul, Nat.reduceSub, Nat.reduceBNe]
  rw [d1n, nb_nb] at o1
  refine ⟨_, _, rfl, o1.keep' (by rw [next_set, next_set]; exact Nat.le_refl _) fun c _ hlo _ => by rw [get_set_ne (by omega), get_set_ne (by omega)], by rw [get_set_eq], ⟨by rw [next_set, next_set, g1n]; exact le_nb, fun c hc hcb ho => ?_, fun c hc hcb ho => Off.of (by unfold nb; omega)⟩⟩
  rw [get_set_ne hcb, get_set_ne hcb, g1o c (by rw [d1n]; unfold nb; omega) ho, d1o c hc]
/-! ### Rows of sorts -/
theorem run_one {M : Mem} {b t : Nat} {x : Int} {s : Txt} (hb : M.get b = .cells [.int .i64 x] 1 t false) (hs : s.length < 1000000000) : run U n_lex_run [.str s, .slice b 0 1 (some 1)] M = some (.ret (.int .i64 (lead (inCl [x]) s : Int)) M) := by
  have h := frzV_block (m := M) (e := 1) (els := ints1 [x]) (ty := t) (b := b) (cap := some 1) (ro := false) (by rw [hb]; rfl) (by simp [ints1]) (by simp [ints1]; rfl) rfl
  have hl : (ints1 [x]).length = 1 := rfl
  rw [hl] at h
  have hr := run_eq (cl := [x]) (tg := 2) hs (by simp)
  simp +contextual -implicitDefEqProofs (maxSteps := 1000000) (maxDischargeDepth := 8) only [h, hr, zz0, zz1, zz2, zz3, zz4, zz5, zz6, zz7, zz8, zz9, argsF, reduceIte, reduceCtorEq, Nat.reduceEqDiff, Nat.reduceBEq, Nat.reduceAdd, Int.reduceLT, Int.reduceLE, Int.reduceEq, Int.reduceToNat, Int.reduceNeg, Nat.reduceLeDiff, Int.reducePow, implies_true, UInt8.reduceToNat, Int.reduceSub, Int.reduceAdd, Nat.reduceLT, Nat.reduceMul, Nat.reduceSub, Nat.reduceBNe]
theorem run_two {M : Mem} {b t : Nat} {x y : Int} {s : Txt} (hb : M.get b = .cells [.int .i64 x, .int .i64 y] 1 t false) (hs : s.length < 1000000000) : run U n_lex_run [.str s, .slice b 0 2 (some 2)] M = some (.ret (.int .i64 (lead (inCl [x, y]) s : Int)) M) := by
  have h := frzV_block (m := M) (e := 1) (els := ints1 [x, y]) (ty := t) (b := b) (cap := some 2) (ro := false) (by rw [hb]; rfl) (by simp [ints1]) (by simp [ints1]; exact ⟨rfl, rfl⟩) rfl
  have hl : (ints1 [x, y]).length = 2 := rfl
  rw [hl] at h
  have hr := run_eq (cl := [x, y]) (tg := 2) hs (by simp)
  simp +contextual -implicitDefEqProofs (maxSteps := 1000000) (maxDischargeDepth := 8) only [h, hr, zz0, zz1, zz2, zz3, zz4, zz5, zz6, zz7, zz8, zz9, argsF, reduceIte, reduceCtorEq, Nat.reduceEqDiff, Nat.reduceBEq, Nat.reduceAdd, Int.reduceLT, Int.reduceLE, Int.reduceEq, Int.reduceToNat, Int.reduceNeg, Nat.reduceLeDiff, Int.reducePow, implies_true, UInt8.reduceToNat, Int.reduceSub, Int.reduceAdd, Nat.reduceLT, Nat.reduceMul, Nat.reduceSub, Nat.reduceBNe]
end Go.Proofs.YtfmokmbbfjbonaaDoor.Ev
end
section
namespace Go.Proofs.YtfmokmbbfjbonaaDoor.Ev
open Go
set_option linter.unusedSimpArgs false
set_option linter.unusedVariables false
set_option maxRecDepth 10000
set_option maxHeartbeats 4000000
theorem num_loop {s : Txt} {k : Nat} (hk : k ≤ s.length) (hs : s.length < 1000000) (hdg : ∀ c ∈ s.take k, DigitP (cI c)) {v0 : EV} {m0 : Mem} {fr : Fr} (h0 : fr.get 0 = v0) (h1 : fr.get 1 = .str s) (h5 : fr.get 5 = .int .i64 0) (h6 : fr.get 6 = .int .i64 (k : Int)) (h12 : fr.get 12 = .int .i64 (k : Int)) (h13 : fr.get 13 = .int .i64 0) (hd : fr.defers = []) :
    ∃ o, exec U (.loop F_lex_scanner_number_l0) fr m0 = some o ∧ ((numF 0 (s.take k) = none ∧ ∃ fr', o = .ret fr' m0 ∧ fr'.get 4 = .int .i64 7 ∧ fr'.defers = []) ∨
      (∃ n : Nat, numF 0 (s.take k) = some n ∧ n < 9223372036854775808 ∧ ∃ fr', o = .exit 0 fr' m0 ∧ fr'.get 0 = v0 ∧ fr'.get 5 = .int .i64 (n : Int) ∧ fr'.get 6 = .int .i64 (k : Int) ∧ fr'.defers = [])) := by
  refine loop_w (σ := Nat) (fun i fr m => m = m0 ∧ i ≤ k ∧ fr.get 0 = v0 ∧ fr.get 1 = .str s ∧ (∃ n : Nat, fr.get 5 = .int .i64 (n : Int) ∧ n ≤ 9223372036854775807 ∧ numF 0 (s.take k) = numF n ((s.take k).drop i)) ∧ fr.get 6 = .int .i64 (k : Int) ∧ fr.get 12 = .int .i64 (k : Int) ∧ fr.get 13 = .int .i64 (i : Int) ∧ fr.defers = []) (fun i => k - i) _ ?_ 0 fr m0 ⟨rfl, Nat.zero_le _, h0, h1, ⟨0, h5, by omega, by simp⟩, h6, h12, h13, hd⟩
  rintro i fr m ⟨rfl, hi, h0, h1, ⟨n, h5, hn, hr⟩, h6, h12, h13, hd⟩
  generalize hX : exec U F_lex_scanner_number_l0 fr m = X
  by_cases hlt : i < k
  · have hc : (i : Int) < (k : Int) := by omega
    have hl : i < (s.take k).length := by rw [List.length_take]; omega
    have hls : i < s.length := by omega
    have hg : s[i]? = some (s.take k)[i] := by rw [List.getElem_take, List.getElem?_eq_getElem hls]
    have hdc := hdg _ (List.getElem_mem hl)
    have hw1 := wrap_succ (i := i) (by omega)
    rw [drop_cons hl, numF] at hr
    generalize (s.take k)[i] = c at hg hr hdc
    unfold DigitP cI at hdc
    obtain ⟨d, hd1, hd2⟩ : ∃ d : Nat, (c.toNat : Int) - 48 = (d : Int) ∧ c.toNat - 48 = d := ⟨c.toNat - 48, by omega, rfl⟩
    rw [hd2] at hr
    have hw2 : IntKind.u8.wrap ((c.toNat : Int) - 48) = (d : Int) := by rw [u8_wrap]; omega
    have hw3 : IntKind.i64.wrap (d : Int) = (d : Int) := wrap_i64 (by omega) (by omega)
    have hw6 : IntKind.i64.wrap (9223372036854775807 - (d : Int)) = 9223372036854775807 - (d : Int) := wrap_i64 (by omega) (by omega)
    have hq : IntKind.i64.wrap ((9223372036854775807 - (d : Int)).tdiv 10) = (9223372036854775807 - (d : Int)) / 10 := by
      rw [Int.tdiv_eq_ediv_of_nonneg (by omega), wrap_i64 (by omega) (by omega)]
    simp +contextual -implicitDefEqProofs (maxSteps := 1000000) (maxDischargeDepth := 8) only [F_lex_scanner_number_l0, h0, h1, h5, h6, h12, h13, hd, hc, hg, hls, hw1, hw2, hw3, hw6, hq, idx_cast, zz0, zz1, zz2, zz3, zz4, zz5, zz6, zz7, zz8, zz9, argsF, reduceIte, reduceCtorEq, Nat.reduceEqDiff, Nat.reduceBEq, Nat.reduceAdd, Int.reduceLT, Int.reduceLE, Int.reduceEq, Int.reduceToNat, Int.reduceNeg, Nat.reduceLeDiff, Int.reducePow, implies_true, UInt8.reduceToNat, Int.reduceSub, Int.reduceAdd, Nat.reduceLT, Nat.reduceMul, Nat.reduceSub, Nat.reduceBNe] at hX
    subst hX
    refine lw_iF (fun hp => lw_ret (Or.inl ⟨?_, _, rfl, ?_, ?_⟩)) (fun hp => ?_)
    · rw [hr, if_pos (by omega)]
    · simp only [get_set', selE_t, selE_f, Nat.reduceBEq, set_defers, fr00_get, fr00_defers, put_some, put_none ]
    · simp only [hd, get_set', selE_t, selE_f, Nat.reduceBEq, set_defers, fr00_get, fr00_defers, put_some, put_none ]
    · have hw4 : IntKind.i64.wrap (10 * (n : Int)) = 10 * (n : Int) := wrap_i64 (by omega) (by omega)
      have hw5 : IntKind.i64.wrap (10 * (n : Int) + (d : Int)) = ((10 * n + d : Nat) : Int) := by rw [wrap_i64 (by omega) (by omega)]; omega
      refine lw_norm (i + 1) (by omega) ⟨rfl, hlt, by simp only [h0, get_set', selE_t, selE_f, Nat.reduceBEq, set_defers, fr00_get, fr00_defers, put_some, put_none ], by simp only [h1, get_set', selE_t, selE_f, Nat.reduceBEq, set_defers, fr00_get, fr00_defers, put_some, put_none ], ⟨10 * n + d, by simp only [hw4, hw5, get_set', selE_t, selE_f, Nat.reduceBEq, set_defers, fr00_get, fr00_defers, put_some, put_none ], by omega, ?_⟩, by simp only [h6, get_set', selE_t, selE_f, Nat.reduceBEq, set_defers, fr00_get, fr00_defers, put_some, put_none ], by simp only [h12, get_set', selE_t, selE_f, Nat.reduceBEq, set_defers, fr00_get, fr00_defers, put_some, put_none ], by simp only [get_set', selE_t, selE_f, Nat.reduceBEq, set_defers, fr00_get, fr00_defers, put_some, put_none ], by simp only [hd, get_set', selE_t, selE_f, Nat.reduceBEq, set_defers, fr00_get, fr00_defers, put_some, put_none ]⟩
      rw [hr, if_neg (by omega)]
  · have hc : ¬ ((i : Int) < (k : Int)) := by omega
    obtain rfl : i = k := by omega
    simp +contextual -implicitDefEqProofs (maxSteps := 1000000) (maxDischargeDepth := 8) only [F_lex_scanner_number_l0, h12, h13, hd, hc, zz0, zz1, zz2, zz3, zz4, zz5, zz6, zz7, zz8, zz9, argsF, reduceIte, reduceCtorEq, Nat.reduceEqDiff, Nat.reduceBEq, Nat.reduceAdd, Int.reduceLT, Int.reduceLE, Int.reduceEq, Int.reduceToNat, Int.reduceNeg, Nat.reduceLeDiff, Int.reducePow, implies_true, UInt8.reduceToNat, Int.reduceSub, Int.reduceAdd, Nat.reduceLT, Nat.reduceMul, Nat.reduceSub, Nat.reduceBNe] at hX
    subst hX
    rw [List.drop_of_length_le (by rw [List.length_take]; omega)] at hr
    simp only [numF] at hr
    exact lw_exit (Or.inr ⟨n, hr, by omega, _, rfl, by simp only [h0, get_set', selE_t, selE_f, Nat.reduceBEq, set_defers, fr00_get, fr00_defers, put_some, put_none ], by simp only [h5, get_set', selE_t, selE_f, Nat.reduceBEq, set_defers, fr00_get, fr00_defers, put_some, put_none ], by simp only [h6, get_set', selE_t, selE_f, Nat.reduceBEq, set_defers, fr00_get, fr00_defers, put_some, put_none ], by simp only [hd, get_set', selE_t, selE_f, Nat.reduceBEq, set_defers, fr00_get, fr00_defers, put_some, put_none ]⟩)
theorem digits_lead (s : Txt) : lead (inCl [4]) s = lead DigitP s := lead_congr (fun n => by
  unfold inCl; rw [List.mem_singleton, class_digit]) s
theorem blanks_lead (s : Txt) : lead (inCl [1]) s = lead BlankP s := lead_congr (fun n => by
  unfold inCl; rw [List.mem_singleton, class_blank]) s
theorem word_lead (s : Txt) : lead (inCl [3, 4]) s = lead (fun n => LetterP n ∨ DigitP n) s := lead_congr (fun n => by
  unfold inCl; rw [List.mem_cons, List.mem_singleton, class_letter, class_digit]) s
theorem Sn.ext {m : Mem} {b p : Nat} {s : Txt} {ov : EV} {l : List Tok} (h : Sn m b s p ov l) (ys : List Blk) : Sn (ext m ys) b s p ov l :=
  ⟨by rw [get_ext_old h.lt]; exact h.g, by rw [next_ext]; exact Nat.lt_of_lt_of_le h.lt le_nb, h.o.ext ys, h.n, h.le⟩
theorem Kn.ext (m : Mem) (b : Nat) (ov : EV) (ys : List Blk) : Kn m (ext m ys) b ov ov :=
  ⟨by rw [next_ext]; exact le_nb, fun c hc _ _ => get_ext_old hc, fun c _ _ ho => ho⟩
/-- What laying the next token comes to. -/
def Laid (m m' : Mem) (b : Nat) (s : Txt) (ov : EV) (l : List Tok) (t : Tok) (q : Nat) : Prop := ∃ ov', Sn m' b s q ov' (l ++ [t]) ∧ Kn m m' b ov ov'
theorem number_run {m : Mem} {b p : Nat} {s : Txt} {ov : EV} {l : List Tok} (h : Sn m b s p ov l) (hs : s.length < 1000000) (hd0 : 0 < lead DigitP (s.drop p)) :
    ∃ m', (numF 0 ((s.drop p).take (lead DigitP (s.drop p))) = none ∧ run U n_lex_scanner_number [.ptr b 0, .str (s.drop p)] m = some (.ret (.int .i64 7) m') ∧ Sn m' b s p ov l ∧ Kn m m' b ov ov) ∨
      (∃ n, numF 0 ((s.drop p).take (lead DigitP (s.drop p))) = some n ∧ run U n_lex_scanner_number [.ptr b 0, .str (s.drop p)] m = some (.ret (.int .i64 0) m') ∧ Laid m m' b s ov l ⟨2, (s.drop p).take (lead DigitP (s.drop p)), n, p⟩ (p + lead DigitP (s.drop p))) := by
  have hlen : (s.drop p).length = s.length - p := List.length_drop ..
  have hle := lead_le DigitP (s.drop p)
  have hdg := lead_take DigitP (s.drop p)
  have hrn : ∀ (M : Mem) (c : Nat), M.get c = .cells [.int .i64 4] 1 t_int false → run U n_lex_run [.str (s.drop p), .slice c 0 1 (some 1)] M = some (.ret (.int .i64 (lead DigitP (s.drop p) : Int)) M) := fun M c hc => by
    rw [run_one hc (by omega), digits_lead]
  rw [run_p2 (by simp [F_lex_scanner_number])]
  generalize hL : exec (UT B K) (ICode.loop F_lex_scanner_number_l0) = L
  have hb := h.lt
  simp +contextual -implicitDefEqProofs (maxSteps := 1000000) (maxDischargeDepth := 8) only [F_lex_scanner_number, hrn, zz0, zz1, zz2, zz3, zz4, zz5, zz6, zz7, zz8, zz9, argsF, reduceIte, reduceCtorEq, Nat.reduceEqDiff, Nat.reduceBEq, Nat.reduceAdd, Int.reduceLT, Int.reduceLE, Int.reduceEq, Int.reduceToNat, Int.reduceNeg, Nat.reduceLeDiff, Int.reducePow, implies_true, UInt8.reduceToNat, Int.reduceSub, Int.reduceAdd, Nat.reduceLT, Nat.reduceMul, Nat.reduceSub, Nat.reduceBNe]
  subst hL
  generalize hX : exec _ (.loop F_lex_scanner_number_l0) _ _ = X
  generalize lead DigitP (s.drop p) = k at *
  obtain ⟨o, rfl, hh⟩ := looped hX (num_loop (s := s.drop p) (k := k) (v0 := .ptr b 0) hle (by omega) hdg (by simp only [get_set', selE_t, selE_f, Nat.reduceBEq, set_defers, fr00_get, fr00_defers, put_some, put_none ]) (by simp only [get_set', selE_t, selE_f, Nat.reduceBEq, set_defers, fr00_get, fr00_defers, put_some, put_none ]) (by simp only [get_set', selE_t, selE_f, Nat.reduceBEq, set_defers, fr00_get, fr00_defers, put_some, put_none ]) (by simp only [get_set', selE_t, selE_f, Nat.reduceBEq, set_defers, fr00_get, fr00_defers, put_some, put_none ]) (by simp only [get_set', selE_t, selE_f, Nat.reduceBEq, set_defers, fr00_get, fr00_defers, put_some, put_none ]) (by simp only [get_set', selE_t, selE_f, Nat.reduceBEq, set_defers, fr00_get, fr00_defers, put_some, put_none ]) (by simp only [get_set', selE_t, selE_f, Nat.reduceBEq, set_defers, fr00_get, fr00_defers, put_some, put_none ]))
  clear hX
  generalize hM1 : Ev.ext m _ = M1 at *
  have h1 : Sn M1 b s p ov l := by rw [← hM1]; exact h.ext _
  have k1 : Kn m M1 b ov ov := by rw [← hM1]; exact Kn.ext ..
  rcases hh with ⟨hn, fr', rfl, f4, fd⟩ | ⟨n, hn, hn2, fr', rfl, f0, f5, f6, fd⟩
  · refine ⟨M1, .inl ⟨hn, ?_, h1, k1⟩⟩
    simp +contextual -implicitDefEqProofs (maxSteps := 1000000) (maxDischargeDepth := 8) only [f4, fd, zz0, zz1, zz2, zz3, zz4, zz5, zz6, zz7, zz8, zz9, argsF, reduceIte, reduceCtorEq, Nat.reduceEqDiff, Nat.reduceBEq, Nat.reduceAdd, Int.reduceLT, Int.reduceLE, Int.reduceEq, Int.reduceToNat, Int.reduceNeg, Nat.reduceLeDiff, Int.reducePow, implies_true, UInt8.reduceToNat, Int.reduceSub, Int.reduceAdd, Nat.reduceLT, Nat.reduceMul, Nat.reduceSub, Nat.reduceBNe]
  · have hpl := h.le
    obtain ⟨m2, ov2, e2, o2, g2, k2⟩ := put_run h1 (k := 2) (n := k) (num := n) (by omega) hs hn2
    refine ⟨m2, .inr ⟨n, hn, ?_, ov2, ⟨g2, ?_, ?_, ?_, by omega⟩, k1.trans k2⟩⟩
    · have e2' : run U n_lex_scanner_put [.ptr b 0, .int .i64 2, .int .i64 (k : Int), .int .i64 (n : Int)] M1 = some (.ret (.tuple []) m2) := e2
      simp +contextual -implicitDefEqProofs (maxSteps := 1000000) (maxDischargeDepth := 8) only [f0, f5, f6, fd, e2', zz0, zz1, zz2, zz3, zz4, zz5, zz6, zz7, zz8, zz9, argsF, reduceIte, reduceCtorEq, Nat.reduceEqDiff, Nat.reduceBEq, Nat.reduceAdd, Int.reduceLT, Int.reduceLE, Int.reduceEq, Int.reduceToNat, Int.reduceNeg, Nat.reduceLeDiff, Int.reducePow, implies_true, UInt8.reduceToNat, Int.reduceSub, Int.reduceAdd, Nat.reduceLT, Nat.reduceMul, Nat.reduceSub, Nat.reduceBNe]
    · have := k2.n; have := h1.lt; omega
    · rw [List.length_append]; exact o2
    · rw [List.length_append, List.length_singleton]; have := h.n; omega
end Go.Proofs.YtfmokmbbfjbonaaDoor.Ev
end
section
namespace Go.Proofs.YtfmokmbbfjbonaaDoor.Ev
open Go
set_option linter.unusedSimpArgs false
set_option linter.unusedVariables false
set_option maxRecDepth 10000
set_option maxHeartbeats 4000000
theorem word_of_lead {c : UInt8} {s : Txt} (h : LetterP (cI c)) : lead (fun n => LetterP n ∨ DigitP n) (c :: s) = wordF (c :: s) := by
  have e0 : wordF (c :: s) = 1 + lead (fun n => LetterP n ∨ DigitP n) s := if_pos h
  have e : lead (fun n => LetterP n ∨ DigitP n) (c :: s) = if LetterP (cI c) ∨ DigitP (cI c) then 1 + lead (fun n => LetterP n ∨ DigitP n) s else 0 := rfl
  rw [e, if_pos (.inl h), e0]
theorem bs_word {fr : Fr} {M : Mem} : evOp fr.eval (.bslice t_int 1 2 [.int .i64 0] [(0, .const (.int .i64 3)), (1, .const (.int .i64 4))]) M = some (.val (.slice (nb M.next 0) 0 2 (some 2)) (Ev.ext M [.cells [.int .i64 3, .int .i64 4] 1 t_int false])) := by
  rw [evOp_bsliceN]
  rfl
theorem word_run {m : Mem} {b p : Nat} {s : Txt} {ov : EV} {l : List Tok} (h : Sn m b s p ov l) (hs : s.length < 1000000) {k : Nat} (hk : lead (fun n => LetterP n ∨ DigitP n) (s.drop p) = k) (hd0 : 0 < k) :
    ∃ m', ((s.drop p).take k ∈ wordsL ∧ run U n_lex_scanner_word [.ptr b 0, .str (s.drop p)] m = some (.ret (.int .i64 0) m') ∧ Laid m m' b s ov l ⟨3, (s.drop p).take k, 0, p⟩ (p + k)) ∨
      (¬ (s.drop p).take k ∈ wordsL ∧ 32 < k ∧ run U n_lex_scanner_word [.ptr b 0, .str (s.drop p)] m = some (.ret (.int .i64 3) m') ∧ Sn m' b s p ov l ∧ Kn m m' b ov ov) ∨
      (¬ (s.drop p).take k ∈ wordsL ∧ ¬ 32 < k ∧ run U n_lex_scanner_word [.ptr b 0, .str (s.drop p)] m = some (.ret (.int .i64 0) m') ∧ Laid m m' b s ov l ⟨1, (s.drop p).take k, 0, p⟩ (p + k)) := by
  have hlen : (s.drop p).length = s.length - p := List.length_drop ..
  have hle := lead_le (fun n => LetterP n ∨ DigitP n) (s.drop p)
  rw [hk] at hle
  have hrn : ∀ (M : Mem) (c : Nat), M.get c = .cells [.int .i64 3, .int .i64 4] 1 t_int false → run U n_lex_run [.str (s.drop p), .slice c 0 2 (some 2)] M = some (.ret (.int .i64 (k : Int)) M) := fun M c hc => by
    rw [run_two hc (by omega), word_lead, hk]
  have hbd : bound (some (.int .i64 (k : Int))) (s.drop p).length (s.drop p).length = some k := bound_cast hle
  have hb0 : bound none 0 k = some 0 := rfl
  have hb := h.lt
  have hpl := h.le
  have hln := h.n
  generalize hM1 : Ev.ext m [.cells [.int .i64 3, .int .i64 4] 1 t_int false] = M1 at *
  have h1 : Sn M1 b s p ov l := by rw [← hM1]; exact h.ext _
  have k1 : Kn m M1 b ov ov := by rw [← hM1]; exact Kn.ext ..
  have g1 : M1.get (nb m.next 0) = .cells [.int .i64 3, .int .i64 4] 1 t_int false := by rw [← hM1, get_ext_nb rfl (by simp)]; rfl
  rw [run_p2 (by simp [F_lex_scanner_word])]
  by_cases hw : (s.drop p).take k ∈ wordsL
  · obtain ⟨m2, ov2, e2, o2, g2, k2⟩ := put_run h1 (k := 3) (n := k) (num := 0) (by omega) hs (by omega)
    have e2' : run U n_lex_scanner_put [.ptr b 0, .int .i64 3, .int .i64 (k : Int), .int .i64 0] M1 = some (.ret (.tuple []) m2) := e2
    have hwd : pureR B K n_lex_Word [.str ((s.drop p).take k)] = some (.bool true) := by rw [lex_word, bo_pos hw]
    refine ⟨m2, .inl ⟨hw, ?_, ov2, ⟨g2, ?_, ?_, ?_, by omega⟩, k1.trans k2⟩⟩
    · simp +contextual -implicitDefEqProofs (maxSteps := 1000000) (maxDischargeDepth := 8) only [F_lex_scanner_word, bs_word, hrn, hM1, g1, hbd, hb0, hwd, e2', Option.map_none, zz0, zz1, zz2, zz3, zz4, zz5, zz6, zz7, zz8, zz9, argsF, reduceIte, reduceCtorEq, Nat.reduceEqDiff, Nat.reduceBEq, Nat.reduceAdd, Int.reduceLT, Int.reduceLE, Int.reduceEq, Int.reduceToNat, Int.reduceNeg, Nat.reduceLeDiff, Int.reducePow, implies_true, UInt8.reduceToNat, Int.reduceSub, Int.reduceAdd, Nat.reduceLT, Nat.reduceMul, Nat.reduceSub, Nat.reduceBNe]
    · have := k2.n; have := h1.lt; omega
    · rw [List.length_append]; exact o2
    · rw [List.length_append, List.length_singleton]; omega
  · have hwd : pureR B K n_lex_Word [.str ((s.drop p).take k)] = some (.bool false) := by rw [lex_word, bo_neg hw]
    by_cases h32 : 32 < k
    · have hc : (32 : Int) < (k : Int) := by omega
      refine ⟨M1, .inr (.inl ⟨hw, h32, ?_, h1, k1⟩)⟩
      simp +contextual -implicitDefEqProofs (maxSteps := 1000000) (maxDischargeDepth := 8) only [F_lex_scanner_word, bs_word, hrn, hM1, g1, hbd, hb0, hwd, hc, Option.map_none, zz0, zz1, zz2, zz3, zz4, zz5, zz6, zz7, zz8, zz9, argsF, reduceIte, reduceCtorEq, Nat.reduceEqDiff, Nat.reduceBEq, Nat.reduceAdd, Int.reduceLT, Int.reduceLE, Int.reduceEq, Int.reduceToNat, Int.reduceNeg, Nat.reduceLeDiff, Int.reducePow, implies_true, UInt8.reduceToNat, Int.reduceSub, Int.reduceAdd, Nat.reduceLT, Nat.reduceMul, Nat.reduceSub, Nat.reduceBNe]
    · have hc : ¬ (32 : Int) < (k : Int) := by omega
      obtain ⟨m2, ov2, e2, o2, g2, k2⟩ := put_run h1 (k := 1) (n := k) (num := 0) (by omega) hs (by omega)
      have e2' : run U n_lex_scanner_put [.ptr b 0, .int .i64 1, .int .i64 (k : Int), .int .i64 0] M1 = some (.ret (.tuple []) m2) := e2
      refine ⟨m2, .inr (.inr ⟨hw, h32, ?_, ov2, ⟨g2, ?_, ?_, ?_, by omega⟩, k1.trans k2⟩)⟩
      · simp +contextual -implicitDefEqProofs (maxSteps := 1000000) (maxDischargeDepth := 8) only [F_lex_scanner_word, bs_word, hrn, hM1, g1, hbd, hb0, hwd, hc, e2', Option.map_none, zz0, zz1, zz2, zz3, zz4, zz5, zz6, zz7, zz8, zz9, argsF, reduceIte, reduceCtorEq, Nat.reduceEqDiff, Nat.reduceBEq, Nat.reduceAdd, Int.reduceLT, Int.reduceLE, Int.reduceEq, Int.reduceToNat, Int.reduceNeg, Nat.reduceLeDiff, Int.reducePow, implies_true, UInt8.reduceToNat, Int.reduceSub, Int.reduceAdd, Nat.reduceLT, Nat.reduceMul, Nat.reduceSub, Nat.reduceBNe]
      · have := k2.n; have := h1.lt; omega
      · rw [List.length_append]; exact o2
      · rw [List.length_append, List.length_singleton]; omega
theorem frz_one {M : Mem} {b t : Nat} {x : Int} (hb : M.get b = .cells [.int .i64 x] 1 t false) : frzV M (.slice b 0 1 (some 1)) = some (.fz 0 1 (ints1 [x])) := by
  have h := frzV_block (m := M) (e := 1) (els := ints1 [x]) (ty := t) (b := b) (cap := some 1) (ro := false) (by rw [hb]; rfl) (by simp [ints1]) (by simp [ints1]; rfl) rfl
  exact h
theorem next_blank {m : Mem} {b p : Nat} {s : Txt} {ov : EV} {l : List Tok} (h : Sn m b s p ov l) (hs : s.length < 1000000) {c : UInt8} {r : Txt} (hc : s.drop p = c :: r) (hcl : classF (cI c) = 1) :
    ∃ m', run U n_lex_scanner_next [.ptr b 0] m = some (.ret (.int .i64 0) m') ∧ Sn m' b s (p + lead BlankP (s.drop p)) ov l ∧ Kn m m' b ov ov := by
  have hlen : (s.drop p).length = s.length - p := List.length_drop ..
  have hle := lead_le BlankP (s.drop p)
  have hpos : 0 < (s.drop p).length := by rw [hc]; simp
  have hg := h.g
  have hb := h.lt
  have hb1 : bound (some (.int .i64 (p : Int))) 0 s.length = some p := bound_cast h.le
  have hbn : bound none s.length s.length = some s.length := rfl
  have hi : idx (s.drop p).length (.int .i64 0) = some 0 := idx_cast (i := 0) hpos
  have h0 : (s.drop p)[0]? = some c := by rw [hc]; rfl
  have hcls : pureR B K n_lex_class [.int .u8 (c.toNat : Int)] = some (.int .i64 1) := by rw [show (c.toNat : Int) = cI c from rfl, class_eq, hcl]
  have hrn : pureR B K n_lex_run [.str (s.drop p), .fz 2 1 (ints1 [1])] = some (.int .i64 (lead BlankP (s.drop p) : Int)) := by
    rw [run_eq (by omega) (by simp), blanks_lead]
  have hpl := h.le
  have hw : IntKind.i64.wrap ((p : Int) + (lead BlankP (s.drop p) : Int)) = ((p + lead BlankP (s.drop p) : Nat) : Int) := by rw [wrap_i64 (by omega) (by omega)]; omega
  rw [run_p2 (by simp [S_lex_scanner_next])]
  simp +contextual -implicitDefEqProofs (maxSteps := 1000000) (maxDischargeDepth := 8) only [S_lex_scanner_next, hg, hb, hb1, hbn, hi, h0, hcls, hrn, hw, List.take_length, Option.map_none, zz0, zz1, zz2, zz3, zz4, zz5, zz6, zz7, zz8, zz9, argsF, reduceIte, reduceCtorEq, Nat.reduceEqDiff, Nat.reduceBEq, Nat.reduceAdd, Int.reduceLT, Int.reduceLE, Int.reduceEq, Int.reduceToNat, Int.reduceNeg, Nat.reduceLeDiff, Int.reducePow, implies_true, UInt8.reduceToNat, Int.reduceSub, Int.reduceAdd, Nat.reduceLT, Nat.reduceMul, Nat.reduceSub, Nat.reduceBNe]
  generalize hD1 : Mem.mk (nb m.next 11) _ = D1
  have d1n : D1.next = nb m.next 11 := by rw [← hD1]
  have d1o : ∀ c, c < m.next → D1.get c = m.get c := fun c hc => by
    rw [← hD1]
    exact (get_ext_old (m := Mem.mk (m.next + 9) (bump m 11).tbl) (by show c < m.next + 9; omega)).trans rfl
  have d1g : D1.get (nb (m.next + 9) 0) = .cells [.str []] 1 t_string false := by
    rw [← hD1]
    exact (get_ext_nb (m := Mem.mk (m.next + 9) (bump m 11).tbl) rfl (by simp)).trans rfl
  clear hD1
  have d1b : D1.get b = .cells [.str s, .int .i64 (p : Int), ov] 3 t_lex_scanner false := by rw [d1o b hb, hg]
  have hne : b ≠ nb (m.next + 9) 0 := by unfold nb; omega
  have hlt1 : b < D1.next := by rw [d1n]; unfold nb; omega
  have hlt2 : nb (m.next + 9) 0 < D1.next := by rw [d1n]; unfold nb; omega
  have hc0 : m.next ≤ nb (m.next + 9) 0 := by unfold nb; omega
  generalize nb (m.next + 9) 0 = c0 at *
  simp +contextual -implicitDefEqProofs (maxSteps := 1000000) (maxDischargeDepth := 8) only [d1g, d1b, hne, hne.symm, hlt1, hlt2, hb1, hbn, hi, h0, hcls, hrn, hw, List.take_length, Option.map_none, zz0, zz1, zz2, zz3, zz4, zz5, zz6, zz7, zz8, zz9, argsF, reduceIte, reduceCtorEq, Nat.reduceEqDiff, Nat.reduceBEq, Nat.reduceAdd, Int.reduceLT, Int.reduceLE, Int.reduceEq, Int.reduceToNat, Int.reduceNeg, Nat.reduceLeDiff, Int.reducePow, implies_true, UInt8.reduceToNat, Int.reduceSub, Int.reduceAdd, Nat.reduceLT, Nat.reduceMul, Nat.reduceSub, Nat.reduceBNe]
  generalize hD2 : Mem.mk (nb D1.next 11) _ = D2
  have d2n : D2.next = nb D1.next 11 := by rw [← hD2]
  have d2o : ∀ c, c < D1.next → c ≠ c0 → D2.get c = D1.get c := fun c hc hc0 => by
    rw [← hD2]
    refine (get_ext_old (m := Mem.mk (D1.next + 5) (bump (D1.set c0 (.cells [.str (s.drop p)] 1 t_string false)) 11).tbl) (by show c < D1.next + 5; omega)).trans ?_
    exact get_set_ne hc0
  have d2g : D2.get (nb (D1.next + 5) 0) = .cells [.int .i64 1] 1 t_int false := by
    rw [← hD2]
    exact (get_ext_nb (m := Mem.mk (D1.next + 5) (bump (D1.set c0 (.cells [.str (s.drop p)] 1 t_string false)) 11).tbl) rfl (by simp)).trans rfl
  clear hD2
  have d2b : D2.get b = .cells [.str s, .int .i64 (p : Int), ov] 3 t_lex_scanner false := by rw [d2o b hlt1 hne, d1b]
  have hf := frz_one d2g
  have hlt3 : b < D2.next := by rw [d2n]; unfold nb; omega
  simp +contextual -implicitDefEqProofs (maxSteps := 1000000) (maxDischargeDepth := 8) only [d2b, hlt3, hf, hrn, hw, zz0, zz1, zz2, zz3, zz4, zz5, zz6, zz7, zz8, zz9, argsF, reduceIte, reduceCtorEq, Nat.reduceEqDiff, Nat.reduceBEq, Nat.reduceAdd, Int.reduceLT, Int.reduceLE, Int.reduceEq, Int.reduceToNat, Int.reduceNeg, Nat.reduceLeDiff, Int.reducePow, implies_true, UInt8.reduceToNat, Int.reduceSub, Int.reduceAdd, Nat.reduceLT, Nat.reduceMul, Nat.reduceSub, Nat.reduceBNe]
  refine ⟨_, rfl, ?_, ?_⟩
  · refine ⟨by rw [get_set_eq], by rw [next_set]; exact hlt3, ?_, by have := h.n; omega, by omega⟩
    refine h.o.keep' (by rw [next_set, d2n, d1n]; unfold nb; omega) fun c hc hlo _ => ?_
    rw [get_set_ne (by omega), d2o c (by rw [d1n]; unfold nb; omega) (by omega), d1o c hc]
  · refine ⟨by rw [next_set, d2n, d1n]; unfold nb; omega, fun c hc hcb ho => ?_, fun c _ _ ho => ho⟩
    rw [get_set_ne hcb, d2o c (by rw [d1n]; unfold nb; omega) (by omega), d1o c hc]
end Go.Proofs.YtfmokmbbfjbonaaDoor.Ev
end
section
namespace Go.Proofs.YtfmokmbbfjbonaaDoor.Ev
open Go
set_option linter.unusedSimpArgs false
set_option linter.unusedVariables false
set_option maxRecDepth 10000
set_option maxHeartbeats 4000000
theorem next_none {m : Mem} {b p : Nat} {s : Txt} {ov : EV} {l : List Tok} (h : Sn m b s p ov l) (hs : s.length < 1000000) {c : UInt8} {r : Txt} (hc : s.drop p = c :: r) (hcl : classF (cI c) = 0) :
    ∃ m', run U n_lex_scanner_next [.ptr b 0] m = some (.ret (.int .i64 6) m') ∧ Sn m' b s p ov l ∧ Kn m m' b ov ov := by
  have hlen : (s.drop p).length = s.length - p := List.length_drop ..
  have hpos : 0 < (s.drop p).length := by rw [hc]; simp
  have hg := h.g
  have hb := h.lt
  have hb1 : bound (some (.int .i64 (p : Int))) 0 s.length = some p := bound_cast h.le
  have hbn : bound none s.length s.length = some s.length := rfl
  have hi : idx (s.drop p).length (.int .i64 0) = some 0 := idx_cast (i := 0) hpos
  have h0 : (s.drop p)[0]? = some c := by rw [hc]; rfl
  have hcls : pureR B K n_lex_class [.int .u8 (c.toNat : Int)] = some (.int .i64 0) := by rw [show (c.toNat : Int) = cI c from rfl, class_eq, hcl]
  have hpl := h.le
  rw [run_p2 (by simp [S_lex_scanner_next])]
  simp +contextual -implicitDefEqProofs (maxSteps := 1000000) (maxDischargeDepth := 8) only [S_lex_scanner_next, hg, hb, hb1, hbn, List.take_length, Option.map_none, zz0, zz1, zz2, zz3, zz4, zz5, zz6, zz7, zz8, zz9, argsF, reduceIte, reduceCtorEq, Nat.reduceEqDiff, Nat.reduceBEq, Nat.reduceAdd, Int.reduceLT, Int.reduceLE, Int.reduceEq, Int.reduceToNat, Int.reduceNeg, Nat.reduceLeDiff, Int.reducePow, implies_true, UInt8.reduceToNat, Int.reduceSub, Int.reduceAdd, Nat.reduceLT, Nat.reduceMul, Nat.reduceSub, Nat.reduceBNe]
  generalize hD1 : Mem.mk (nb m.next 11) _ = D1
  have d1n : D1.next = nb m.next 11 := by rw [← hD1]
  have d1o : ∀ c, c < m.next → D1.get c = m.get c := fun c hc => by
    rw [← hD1]
    exact (get_ext_old (m := Mem.mk (m.next + 9) (bump m 11).tbl) (by show c < m.next + 9; omega)).trans rfl
  have d1g : D1.get (nb (m.next + 9) 0) = .cells [.str []] 1 t_string false := by
    rw [← hD1]
    exact (get_ext_nb (m := Mem.mk (m.next + 9) (bump m 11).tbl) rfl (by simp)).trans rfl
  clear hD1
  have hlt2 : nb (m.next + 9) 0 < D1.next := by rw [d1n]; unfold nb; omega
  have hc0 : m.next ≤ nb (m.next + 9) 0 := by unfold nb; omega
  generalize nb (m.next + 9) 0 = c0 at *
  obtain ⟨M1, hM1⟩ : ∃ M1, D1.set c0 (.cells [.str (s.drop p)] 1 t_string false) = M1 := ⟨_, rfl⟩
  have m1n : M1.next = nb m.next 11 := by rw [← hM1, next_set, d1n]
  have m1o : ∀ c, c < m.next → M1.get c = m.get c := fun c hc => by rw [← hM1, get_set_ne (by omega), d1o c hc]
  have m1g : M1.get c0 = .cells [.str (s.drop p)] 1 t_string false := by rw [← hM1, get_set_eq]
  have m1b : M1.get b = .cells [.str s, .int .i64 (p : Int), ov] 3 t_lex_scanner false := by rw [m1o b hb, hg]
  have hlt1 : b < M1.next := by rw [m1n]; unfold nb; omega
  have hlt3 : c0 < M1.next := by rw [← hM1, next_set]; exact hlt2
  have hS : Sn M1 b s p ov l := ⟨m1b, hlt1, h.o.keep' (by rw [m1n]; exact le_nb) fun c hc _ _ => m1o c hc, h.n, h.le⟩
  have hK : Kn m M1 b ov ov := ⟨by rw [m1n]; exact le_nb, fun c hc _ _ => m1o c hc, fun c _ _ ho => ho⟩
  simp +contextual -implicitDefEqProofs (maxSteps := 1000000) (maxDischargeDepth := 8) only [d1g, hM1, hlt2, m1g, m1b, hlt1, hlt3, hi, h0, hcls, Option.map_none, zz0, zz1, zz2, zz3, zz4, zz5, zz6, zz7, zz8, zz9, argsF, reduceIte, reduceCtorEq, Nat.reduceEqDiff, Nat.reduceBEq, Nat.reduceAdd, Int.reduceLT, Int.reduceLE, Int.reduceEq, Int.reduceToNat, Int.reduceNeg, Nat.reduceLeDiff, Int.reducePow, implies_true, UInt8.reduceToNat, Int.reduceSub, Int.reduceAdd, Nat.reduceLT, Nat.reduceMul, Nat.reduceSub, Nat.reduceBNe]
  exact ⟨_, rfl, hS, hK⟩
theorem next_remark {m : Mem} {b p : Nat} {s : Txt} {ov : EV} {l : List Tok} (h : Sn m b s p ov l) (hs : s.length < 1000000) {c : UInt8} {r : Txt} (hc : s.drop p = c :: r) (hcl : classF (cI c) = 2) :
    ∃ m', run U n_lex_scanner_next [.ptr b 0] m = some (.ret (.int .i64 0) m') ∧ Sn m' b s (p + lineF (s.drop p)) ov l ∧ Kn m m' b ov ov := by
  have hlen : (s.drop p).length = s.length - p := List.length_drop ..
  have hpos : 0 < (s.drop p).length := by rw [hc]; simp
  have hg := h.g
  have hb := h.lt
  have hb1 : bound (some (.int .i64 (p : Int))) 0 s.length = some p := bound_cast h.le
  have hbn : bound none s.length s.length = some s.length := rfl
  have hi : idx (s.drop p).length (.int .i64 0) = some 0 := idx_cast (i := 0) hpos
  have h0 : (s.drop p)[0]? = some c := by rw [hc]; rfl
  have hcls : pureR B K n_lex_class [.int .u8 (c.toNat : Int)] = some (.int .i64 2) := by rw [show (c.toNat : Int) = cI c from rfl, class_eq, hcl]
  have hpl := h.le
  rw [run_p2 (by simp [S_lex_scanner_next])]
  simp +contextual -implicitDefEqProofs (maxSteps := 1000000) (maxDischargeDepth := 8) only [S_lex_scanner_next, hg, hb, hb1, hbn, List.take_length, Option.map_none, zz0, zz1, zz2, zz3, zz4, zz5, zz6, zz7, zz8, zz9, argsF, reduceIte, reduceCtorEq, Nat.reduceEqDiff, Nat.reduceBEq, Nat.reduceAdd, Int.reduceLT, Int.reduceLE, Int.reduceEq, Int.reduceToNat, Int.reduceNeg, Nat.reduceLeDiff, Int.reducePow, implies_true, UInt8.reduceToNat, Int.reduceSub, Int.reduceAdd, Nat.reduceLT, Nat.reduceMul, Nat.reduceSub, Nat.reduceBNe]
  generalize hD1 : Mem.mk (nb m.next 11) _ = D1
  have d1n : D1.next = nb m.next 11 := by rw [← hD1]
  have d1o : ∀ c, c < m.next → D1.get c = m.get c := fun c hc => by
    rw [← hD1]
    exact (get_ext_old (m := Mem.mk (m.next + 9) (bump m 11).tbl) (by show c < m.next + 9; omega)).trans rfl
  have d1g : D1.get (nb (m.next + 9) 0) = .cells [.str []] 1 t_string false := by
    rw [← hD1]
    exact (get_ext_nb (m := Mem.mk (m.next + 9) (bump m 11).tbl) rfl (by simp)).trans rfl
  clear hD1
  have hlt2 : nb (m.next + 9) 0 < D1.next := by rw [d1n]; unfold nb; omega
  have hc0 : m.next ≤ nb (m.next + 9) 0 := by unfold nb; omega
  generalize nb (m.next + 9) 0 = c0 at *
  obtain ⟨M1, hM1⟩ : ∃ M1, D1.set c0 (.cells [.str (s.drop p)] 1 t_string false) = M1 := ⟨_, rfl⟩
  have m1n : M1.next = nb m.next 11 := by rw [← hM1, next_set, d1n]
  have m1o : ∀ c, c < m.next → M1.get c = m.get c := fun c hc => by rw [← hM1, get_set_ne (by omega), d1o c hc]
  have m1g : M1.get c0 = .cells [.str (s.drop p)] 1 t_string false := by rw [← hM1, get_set_eq]
  have m1b : M1.get b = .cells [.str s, .int .i64 (p : Int), ov] 3 t_lex_scanner false := by rw [m1o b hb, hg]
  have hlt1 : b < M1.next := by rw [m1n]; unfold nb; omega
  have hlt3 : c0 < M1.next := by rw [← hM1, next_set]; exact hlt2
  have hS : Sn M1 b s p ov l := ⟨m1b, hlt1, h.o.keep' (by rw [m1n]; exact le_nb) fun c hc _ _ => m1o c hc, h.n, h.le⟩
  have hK : Kn m M1 b ov ov := ⟨by rw [m1n]; exact le_nb, fun c hc _ _ => m1o c hc, fun c _ _ ho => ho⟩
  have hle := lead_le (fun n => n ≠ 10) (s.drop p)
  obtain ⟨a, b', hcut⟩ := cut_line (s := s.drop p) (by omega)
  have htl : ((s.drop p).take (lineF (s.drop p))).length = lineF (s.drop p) := by rw [List.length_take]; unfold lineF; omega
  have hw : IntKind.i64.wrap ((p : Int) + (lineF (s.drop p) : Int)) = ((p + lineF (s.drop p) : Nat) : Int) := by rw [wrap_i64 (by unfold lineF; omega) (by unfold lineF; omega)]; omega
  unfold lineF at *
  generalize lead (fun n => n ≠ 10) (s.drop p) = k at *
  simp +contextual -implicitDefEqProofs (maxSteps := 1000000) (maxDischargeDepth := 8) only [d1g, hM1, hlt2, m1g, m1b, hlt1, hlt3, hi, h0, hcls, Option.map_none, hcut, htl, hw, zz0, zz1, zz2, zz3, zz4, zz5, zz6, zz7, zz8, zz9, argsF, reduceIte, reduceCtorEq, Nat.reduceEqDiff, Nat.reduceBEq, Nat.reduceAdd, Int.reduceLT, Int.reduceLE, Int.reduceEq, Int.reduceToNat, Int.reduceNeg, Nat.reduceLeDiff, Int.reducePow, implies_true, UInt8.reduceToNat, Int.reduceSub, Int.reduceAdd, Nat.reduceLT, Nat.reduceMul, Nat.reduceSub, Nat.reduceBNe]
  refine ⟨_, rfl, ⟨by rw [get_set_eq], by rw [next_set]; exact hlt1, ?_, by have := h.n; omega, by omega⟩, ⟨by rw [next_set]; exact hK.n, fun c hc hcb ho => ?_, fun c _ _ ho => ho⟩⟩
  · exact hS.o.keep' (by rw [next_set]; exact Nat.le_refl _) fun c hc hlo _ => get_set_ne (by omega)
  · rw [get_set_ne hcb, m1o c hc]
theorem next_letter {m : Mem} {b p : Nat} {s : Txt} {ov : EV} {l : List Tok} (h : Sn m b s p ov l) (hs : s.length < 1000000) {c : UInt8} {r : Txt} (hc : s.drop p = c :: r) (hcl : classF (cI c) = 3) :
    ∃ m', (∃ e q, oneF (s.drop p) p = .bad e q ∧ run U n_lex_scanner_next [.ptr b 0] m = some (.ret (.int .i64 (e : Int)) m') ∧ Sn m' b s p ov l ∧ Kn m m' b ov ov) ∨
      (∃ t, oneF (s.drop p) p = .ok t ∧ run U n_lex_scanner_next [.ptr b 0] m = some (.ret (.int .i64 0) m') ∧ Laid m m' b s ov l t (p + t.text.length)) := by
  have hlen : (s.drop p).length = s.length - p := List.length_drop ..
  have hpos : 0 < (s.drop p).length := by rw [hc]; simp
  have hg := h.g
  have hb := h.lt
  have hb1 : bound (some (.int .i64 (p : Int))) 0 s.length = some p := bound_cast h.le
  have hbn : bound none s.length s.length = some s.length := rfl
  have hi : idx (s.drop p).length (.int .i64 0) = some 0 := idx_cast (i := 0) hpos
  have h0 : (s.drop p)[0]? = some c := by rw [hc]; rfl
  have hcls : pureR B K n_lex_class [.int .u8 (c.toNat : Int)] = some (.int .i64 3) := by rw [show (c.toNat : Int) = cI c from rfl, class_eq, hcl]
  have hpl := h.le
  rw [run_p2 (by simp [S_lex_scanner_next])]
  simp +contextual -implicitDefEqProofs (maxSteps := 1000000) (maxDischargeDepth := 8) only [S_lex_scanner_next, hg, hb, hb1, hbn, List.take_length, Option.map_none, zz0, zz1, zz2, zz3, zz4, zz5, zz6, zz7, zz8, zz9, argsF, reduceIte, reduceCtorEq, Nat.reduceEqDiff, Nat.reduceBEq, Nat.reduceAdd, Int.reduceLT, Int.reduceLE, Int.reduceEq, Int.reduceToNat, Int.reduceNeg, Nat.reduceLeDiff, Int.reducePow, implies_true, UInt8.reduceToNat, Int.reduceSub, Int.reduceAdd, Nat.reduceLT, Nat.reduceMul, Nat.reduceSub, Nat.reduceBNe]
  generalize hD1 : Mem.mk (nb m.next 11) _ = D1
  have d1n : D1.next = nb m.next 11 := by rw [← hD1]
  have d1o : ∀ c, c < m.next → D1.get c = m.get c := fun c hc => by
    rw [← hD1]
    exact (get_ext_old (m := Mem.mk (m.next + 9) (bump m 11).tbl) (by show c < m.next + 9; omega)).trans rfl
  have d1g : D1.get (nb (m.next + 9) 0) = .cells [.str []] 1 t_string false := by
    rw [← hD1]
    exact (get_ext_nb (m := Mem.mk (m.next + 9) (bump m 11).tbl) rfl (by simp)).trans rfl
  clear hD1
  have hlt2 : nb (m.next + 9) 0 < D1.next := by rw [d1n]; unfold nb; omega
  have hc0 : m.next ≤ nb (m.next + 9) 0 := by unfold nb; omega
  generalize nb (m.next + 9) 0 = c0 at *
  obtain ⟨M1, hM1⟩ : ∃ M1, D1.set c0 (.cells [.str (s.drop p)] 1 t_string false) = M1 := ⟨_, rfl⟩
  have m1n : M1.next = nb m.next 11 := by rw [← hM1, next_set, d1n]
  have m1o : ∀ c, c < m.next → M1.get c = m.get c := fun c hc => by rw [← hM1, get_set_ne (by omega), d1o c hc]
  have m1g : M1.get c0 = .cells [.str (s.drop p)] 1 t_string false := by rw [← hM1, get_set_eq]
  have m1b : M1.get b = .cells [.str s, .int .i64 (p : Int), ov] 3 t_lex_scanner false := by rw [m1o b hb, hg]
  have hlt1 : b < M1.next := by rw [m1n]; unfold nb; omega
  have hlt3 : c0 < M1.next := by rw [← hM1, next_set]; exact hlt2
  have hS : Sn M1 b s p ov l := ⟨m1b, hlt1, h.o.keep' (by rw [m1n]; exact le_nb) fun c hc _ _ => m1o c hc, h.n, h.le⟩
  have hK : Kn m M1 b ov ov := ⟨by rw [m1n]; exact le_nb, fun c hc _ _ => m1o c hc, fun c _ _ ho => ho⟩
  have hlet := class_letter.1 hcl
  have hk := word_of_lead (s := r) hlet
  rw [← hc] at hk
  have hk0 : 0 < wordF (s.drop p) := by
    have e0 : wordF (c :: r) = 1 + lead (fun n => LetterP n ∨ DigitP n) r := if_pos hlet
    rw [hc, e0]; omega
  have hwl := wordF_le (s.drop p)
  have hnd : ¬ DigitP (cI c) := by unfold DigitP; unfold LetterP at hlet; omega
  have hone : oneF (s.drop p) p = if 0 < wordF (s.drop p) ∧ (s.drop p).take (wordF (s.drop p)) ∈ wordsL then .ok ⟨3, (s.drop p).take (wordF (s.drop p)), 0, p⟩ else if 32 < wordF (s.drop p) then .bad 3 p else .ok ⟨1, (s.drop p).take (wordF (s.drop p)), 0, p⟩ := by
    have h00 : (s.drop p)[0] = c := by have := List.getElem?_eq_getElem hpos; rw [h0] at this; exact (Option.some.inj this).symm
    rw [oneF_eq hpos, h00, if_neg hnd, if_pos hk0]
  have htl : ((s.drop p).take (wordF (s.drop p))).length = wordF (s.drop p) := by rw [List.length_take]; omega
  obtain ⟨m2, hh⟩ := word_run hS hs hk hk0
  generalize wordF (s.drop p) = k at *
  rcases hh with ⟨w1, e2, ov2, q1, q2⟩ | ⟨w1, w2, e2, q1, q2⟩ | ⟨w1, w2, e2, ov2, q1, q2⟩
  · refine ⟨m2, .inr ⟨_, by rw [hone, if_pos ⟨hk0, w1⟩], ?_, ov2, by simp only [htl]; exact q1, hK.trans q2⟩⟩
    simp +contextual -implicitDefEqProofs (maxSteps := 1000000) (maxDischargeDepth := 8) only [d1g, hM1, hlt2, m1g, m1b, hlt1, hlt3, hi, h0, hcls, Option.map_none, e2, zz0, zz1, zz2, zz3, zz4, zz5, zz6, zz7, zz8, zz9, argsF, reduceIte, reduceCtorEq, Nat.reduceEqDiff, Nat.reduceBEq, Nat.reduceAdd, Int.reduceLT, Int.reduceLE, Int.reduceEq, Int.reduceToNat, Int.reduceNeg, Nat.reduceLeDiff, Int.reducePow, implies_true, UInt8.reduceToNat, Int.reduceSub, Int.reduceAdd, Nat.reduceLT, Nat.reduceMul, Nat.reduceSub, Nat.reduceBNe]
  · refine ⟨m2, .inl ⟨3, p, by rw [hone, if_neg (fun q => w1 q.2), if_pos w2], ?_, q1, hK.trans q2⟩⟩
    simp +contextual -implicitDefEqProofs (maxSteps := 1000000) (maxDischargeDepth := 8) only [d1g, hM1, hlt2, m1g, m1b, hlt1, hlt3, hi, h0, hcls, Option.map_none, e2, zz0, zz1, zz2, zz3, zz4, zz5, zz6, zz7, zz8, zz9, argsF, reduceIte, reduceCtorEq, Nat.reduceEqDiff, Nat.reduceBEq, Nat.reduceAdd, Int.reduceLT, Int.reduceLE, Int.reduceEq, Int.reduceToNat, Int.reduceNeg, Nat.reduceLeDiff, Int.reducePow, implies_true, UInt8.reduceToNat, Int.reduceSub, Int.reduceAdd, Nat.reduceLT, Nat.reduceMul, Nat.reduceSub, Nat.reduceBNe]
  · refine ⟨m2, .inr ⟨_, by rw [hone, if_neg (fun q => w1 q.2), if_neg w2], ?_, ov2, by simp only [htl]; exact q1, hK.trans q2⟩⟩
    simp +contextual -implicitDefEqProofs (maxSteps := 1000000) (maxDischargeDepth := 8) only [d1g, hM1, hlt2, m1g, m1b, hlt1, hlt3, hi, h0, hcls, Option.map_none, e2, zz0, zz1, zz2, zz3, zz4, zz5, zz6, zz7, zz8, zz9, argsF, reduceIte, reduceCtorEq, Nat.reduceEqDiff, Nat.reduceBEq, Nat.reduceAdd, Int.reduceLT, Int.reduceLE, Int.reduceEq, Int.reduceToNat, Int.reduceNeg, Nat.reduceLeDiff, Int.reducePow, implies_true, UInt8.reduceToNat, Int.reduceSub, Int.reduceAdd, Nat.reduceLT, Nat.reduceMul, Nat.reduceSub, Nat.reduceBNe]
theorem next_digit {m : Mem} {b p : Nat} {s : Txt} {ov : EV} {l : List Tok} (h : Sn m b s p ov l) (hs : s.length < 1000000) {c : UInt8} {r : Txt} (hc : s.drop p = c :: r) (hcl : classF (cI c) = 4) :
    ∃ m', (∃ e q, oneF (s.drop p) p = .bad e q ∧ run U n_lex_scanner_next [.ptr b 0] m = some (.ret (.int .i64 (e : Int)) m') ∧ Sn m' b s p ov l ∧ Kn m m' b ov ov) ∨
      (∃ t, oneF (s.drop p) p = .ok t ∧ run U n_lex_scanner_next [.ptr b 0] m = some (.ret (.int .i64 0) m') ∧ Laid m m' b s ov l t (p + t.text.length)) := by
  have hlen : (s.drop p).length = s.length - p := List.length_drop ..
  have hpos : 0 < (s.drop p).length := by rw [hc]; simp
  have hg := h.g
  have hb := h.lt
  have hb1 : bound (some (.int .i64 (p : Int))) 0 s.length = some p := bound_cast h.le
  have hbn : bound none s.length s.length = some s.length := rfl
  have hi : idx (s.drop p).length (.int .i64 0) = some 0 := idx_cast (i := 0) hpos
  have h0 : (s.drop p)[0]? = some c := by rw [hc]; rfl
  have hcls : pureR B K n_lex_class [.int .u8 (c.toNat : Int)] = some (.int .i64 4) := by rw [show (c.toNat : Int) = cI c from rfl, class_eq, hcl]
  have hpl := h.le
  rw [run_p2 (by simp [S_lex_scanner_next])]
  simp +contextual -implicitDefEqProofs (maxSteps := 1000000) (maxDischargeDepth := 8) only [S_lex_scanner_next, hg, hb, hb1, hbn, List.take_length, Option.map_none, zz0, zz1, zz2, zz3, zz4, zz5, zz6, zz7, zz8, zz9, argsF, reduceIte, reduceCtorEq, Nat.reduceEqDiff, Nat.reduceBEq, Nat.reduceAdd, Int.reduceLT, Int.reduceLE, Int.reduceEq, Int.reduceToNat, Int.reduceNeg, Nat.reduceLeDiff, Int.reducePow, implies_true, UInt8.reduceToNat, Int.reduceSub, Int.reduceAdd, Nat.reduceLT, Nat.reduceMul, Nat.reduceSub, Nat.reduceBNe]
  generalize hD1 : Mem.mk (nb m.next 11) _ = D1
  have d1n : D1.next = nb m.next 11 := by rw [← hD1]
  have d1o : ∀ c, c < m.next → D1.get c = m.get c := fun c hc => by
    rw [← hD1]
    exact (get_ext_old (m := Mem.mk (m.next + 9) (bump m 11).tbl) (by show c < m.next + 9; omega)).trans rfl
  have d1g : D1.get (nb (m.next + 9) 0) = .cells [.str []] 1 t_string false := by
    rw [← hD1]
    exact (get_ext_nb (m := Mem.mk (m.next + 9) (bump m 11).tbl) rfl (by simp)).trans rfl
  clear hD1
  have hlt2 : nb (m.next + 9) 0 < D1.next := by rw [d1n]; unfold nb; omega
  have hc0 : m.next ≤ nb (m.next + 9) 0 := by unfold nb; omega
  generalize nb (m.next + 9) 0 = c0 at *
  obtain ⟨M1, hM1⟩ : ∃ M1, D1.set c0 (.cells [.str (s.drop p)] 1 t_string false) = M1 := ⟨_, rfl⟩
  have m1n : M1.next = nb m.next 11 := by rw [← hM1, next_set, d1n]
  have m1o : ∀ c, c < m.next → M1.get c = m.get c := fun c hc => by rw [← hM1, get_set_ne (by omega), d1o c hc]
  have m1g : M1.get c0 = .cells [.str (s.drop p)] 1 t_string false := by rw [← hM1, get_set_eq]
  have m1b : M1.get b = .cells [.str s, .int .i64 (p : Int), ov] 3 t_lex_scanner false := by rw [m1o b hb, hg]
  have hlt1 : b < M1.next := by rw [m1n]; unfold nb; omega
  have hlt3 : c0 < M1.next := by rw [← hM1, next_set]; exact hlt2
  have hS : Sn M1 b s p ov l := ⟨m1b, hlt1, h.o.keep' (by rw [m1n]; exact le_nb) fun c hc _ _ => m1o c hc, h.n, h.le⟩
  have hK : Kn m M1 b ov ov := ⟨by rw [m1n]; exact le_nb, fun c hc _ _ => m1o c hc, fun c _ _ ho => ho⟩
  have hdg := class_digit.1 hcl
  have hk0 : 0 < lead DigitP (s.drop p) := by rw [hc, lead, if_pos hdg]; omega
  have hwl := lead_le DigitP (s.drop p)
  have hone : oneF (s.drop p) p = numT ((s.drop p).take (lead DigitP (s.drop p))) p := by
    have h00 : (s.drop p)[0] = c := by have := List.getElem?_eq_getElem hpos; rw [h0] at this; exact (Option.some.inj this).symm
    rw [oneF_eq hpos, h00, if_pos hdg]
  have htl : ((s.drop p).take (lead DigitP (s.drop p))).length = lead DigitP (s.drop p) := by rw [List.length_take]; omega
  obtain ⟨m2, hh⟩ := number_run hS hs hk0
  generalize lead DigitP (s.drop p) = k at *
  rcases hh with ⟨w1, e2, q1, q2⟩ | ⟨n, w1, e2, ov2, q1, q2⟩
  · refine ⟨m2, .inl ⟨7, p, by rw [hone, numT, w1], ?_, q1, hK.trans q2⟩⟩
    simp +contextual -implicitDefEqProofs (maxSteps := 1000000) (maxDischargeDepth := 8) only [d1g, hM1, hlt2, m1g, m1b, hlt1, hlt3, hi, h0, hcls, Option.map_none, e2, zz0, zz1, zz2, zz3, zz4, zz5, zz6, zz7, zz8, zz9, argsF, reduceIte, reduceCtorEq, Nat.reduceEqDiff, Nat.reduceBEq, Nat.reduceAdd, Int.reduceLT, Int.reduceLE, Int.reduceEq, Int.reduceToNat, Int.reduceNeg, Nat.reduceLeDiff, Int.reducePow, implies_true, UInt8.reduceToNat, Int.reduceSub, Int.reduceAdd, Nat.reduceLT, Nat.reduceMul, Nat.reduceSub, Nat.reduceBNe]
  · refine ⟨m2, .inr ⟨_, by rw [hone, numT, w1], ?_, ov2, by simp only [htl]; exact q1, hK.trans q2⟩⟩
    simp +contextual -implicitDefEqProofs (maxSteps := 1000000) (maxDischargeDepth := 8) only [d1g, hM1, hlt2, m1g, m1b, hlt1, hlt3, hi, h0, hcls, Option.map_none, e2, zz0, zz1, zz2, zz3, zz4, zz5, zz6, zz7, zz8, zz9, argsF, reduceIte, reduceCtorEq, Nat.reduceEqDiff, Nat.reduceBEq, Nat.reduceAdd, Int.reduceLT, Int.reduceLE, Int.reduceEq, Int.reduceToNat, Int.reduceNeg, Nat.reduceLeDiff, Int.reducePow, implies_true, UInt8.reduceToNat, Int.reduceSub, Int.reduceAdd, Nat.reduceLT, Nat.reduceMul, Nat.reduceSub, Nat.reduceBNe]
theorem next_sign {m : Mem} {b p : Nat} {s : Txt} {ov : EV} {l : List Tok} (h : Sn m b s p ov l) (hs : s.length < 1000000) {c : UInt8} {r : Txt} (hc : s.drop p = c :: r) (hcl : classF (cI c) = 5) :
    ∃ m', (∃ e q, oneF (s.drop p) p = .bad e q ∧ run U n_lex_scanner_next [.ptr b 0] m = some (.ret (.int .i64 (e : Int)) m') ∧ Sn m' b s p ov l ∧ Kn m m' b ov ov) ∨
      (∃ t, oneF (s.drop p) p = .ok t ∧ run U n_lex_scanner_next [.ptr b 0] m = some (.ret (.int .i64 0) m') ∧ Laid m m' b s ov l t (p + t.text.length)) := by
  have hlen : (s.drop p).length = s.length - p := List.length_drop ..
  have hpos : 0 < (s.drop p).length := by rw [hc]; simp
  have hg := h.g
  have hb := h.lt
  have hb1 : bound (some (.int .i64 (p : Int))) 0 s.length = some p := bound_cast h.le
  have hbn : bound none s.length s.length = some s.length := rfl
  have hi : idx (s.drop p).length (.int .i64 0) = some 0 := idx_cast (i := 0) hpos
  have h0 : (s.drop p)[0]? = some c := by rw [hc]; rfl
  have hcls : pureR B K n_lex_class [.int .u8 (c.toNat : Int)] = some (.int .i64 5) := by rw [show (c.toNat : Int) = cI c from rfl, class_eq, hcl]
  have hpl := h.le
  rw [run_p2 (by simp [S_lex_scanner_next])]
  simp +contextual -implicitDefEqProofs (maxSteps := 1000000) (maxDischargeDepth := 8) only [S_lex_scanner_next, hg, hb, hb1, hbn, List.take_length, Option.map_none, zz0, zz1, zz2, zz3, zz4, zz5, zz6, zz7, zz8, zz9, argsF, reduceIte, reduceCtorEq, Nat.reduceEqDiff, Nat.reduceBEq, Nat.reduceAdd, Int.reduceLT, Int.reduceLE, Int.reduceEq, Int.reduceToNat, Int.reduceNeg, Nat.reduceLeDiff, Int.reducePow, implies_true, UInt8.reduceToNat, Int.reduceSub, Int.reduceAdd, Nat.reduceLT, Nat.reduceMul, Nat.reduceSub, Nat.reduceBNe]
  generalize hD1 : Mem.mk (nb m.next 11) _ = D1
  have d1n : D1.next = nb m.next 11 := by rw [← hD1]
  have d1o : ∀ c, c < m.next → D1.get c = m.get c := fun c hc => by
    rw [← hD1]
    exact (get_ext_old (m := Mem.mk (m.next + 9) (bump m 11).tbl) (by show c < m.next + 9; omega)).trans rfl
  have d1g : D1.get (nb (m.next + 9) 0) = .cells [.str []] 1 t_string false := by
    rw [← hD1]
    exact (get_ext_nb (m := Mem.mk (m.next + 9) (bump m 11).tbl) rfl (by simp)).trans rfl
  clear hD1
  have hlt2 : nb (m.next + 9) 0 < D1.next := by rw [d1n]; unfold nb; omega
  have hc0 : m.next ≤ nb (m.next + 9) 0 := by unfold nb; omega
  generalize nb (m.next + 9) 0 = c0 at *
  obtain ⟨M1, hM1⟩ : ∃ M1, D1.set c0 (.cells [.str (s.drop p)] 1 t_string false) = M1 := ⟨_, rfl⟩
  have m1n : M1.next = nb m.next 11 := by rw [← hM1, next_set, d1n]
  have m1o : ∀ c, c < m.next → M1.get c = m.get c := fun c hc => by rw [← hM1, get_set_ne (by omega), d1o c hc]
  have m1g : M1.get c0 = .cells [.str (s.drop p)] 1 t_string false := by rw [← hM1, get_set_eq]
  have m1b : M1.get b = .cells [.str s, .int .i64 (p : Int), ov] 3 t_lex_scanner false := by rw [m1o b hb, hg]
  have hlt1 : b < M1.next := by rw [m1n]; unfold nb; omega
  have hlt3 : c0 < M1.next := by rw [← hM1, next_set]; exact hlt2
  have hS : Sn M1 b s p ov l := ⟨m1b, hlt1, h.o.keep' (by rw [m1n]; exact le_nb) fun c hc _ _ => m1o c hc, h.n, h.le⟩
  have hK : Kn m M1 b ov ov := ⟨by rw [m1n]; exact le_nb, fun c hc _ _ => m1o c hc, fun c _ _ ho => ho⟩
  have hnd : ¬ DigitP (cI c) := fun q => by have := class_digit.2 q; rw [hcl] at this; exact absurd this (by decide)
  have hnl : ¬ LetterP (cI c) := fun q => by have := class_letter.2 q; rw [hcl] at this; exact absurd this (by decide)
  have hw0 : wordF (s.drop p) = 0 := by rw [hc]; unfold wordF; exact if_neg hnl
  have hone : oneF (s.drop p) p = if signF (s.drop p) = 0 then .bad 6 p else .ok ⟨4, (s.drop p).take (signF (s.drop p)), 0, p⟩ := by
    have h00 : (s.drop p)[0] = c := by have := List.getElem?_eq_getElem hpos; rw [h0] at this; exact (Option.some.inj this).symm
    rw [oneF_eq hpos, h00, if_neg hnd, hw0]; simp
  have hl := fun m => load_gl (l := signsL) (m := m)
  have hL : L_lex_signs = signsL := rfl
  have hsl := signF_le hpos
  have htl : ((s.drop p).take (signF (s.drop p))).length = signF (s.drop p) := by rw [List.length_take]; omega
  rcases find_run (l := signsL) (tg := 0) (by decide) m1g hlt3 with ⟨i, y, f1, f2, f3, f4⟩ | ⟨f3, f4⟩
  · have hsy := sign_found f1 f2 f3
    have hil := (List.getElem?_eq_some_iff.1 f1).1
    have hy0 : 0 < y.length := by rcases signs_at f1 with ⟨_, _, q⟩ | ⟨_, a, _, rfl⟩; omega; simp
    rw [hsy] at hone hsl htl
    rw [if_neg (by omega)] at hone
    obtain ⟨m2, ov2, e2, o2, g2, k2⟩ := put_run hS (k := 4) (n := y.length) (num := 0) (by omega) hs (by omega)
    have e2' : run U n_lex_scanner_put [.ptr b 0, .int .i64 4, .int .i64 (y.length : Int), .int .i64 0] M1 = some (.ret (.tuple []) m2) := e2
    have hge : ¬ ((i : Int) < 0) := by omega
    refine ⟨m2, .inr ⟨_, hone, ?_, ov2, ⟨by simp only [htl]; exact g2, ?_, ?_, ?_, ?_⟩, hK.trans k2⟩⟩
    · simp +contextual -implicitDefEqProofs (maxSteps := 1000000) (maxDischargeDepth := 8) only [d1g, hM1, hlt2, m1g, m1b, hlt1, hlt3, hi, h0, hcls, Option.map_none, hL, hl, f4, f1, hil, hge, e2', strs1_get, strs1_len, idx_cast, zz0, zz1, zz2, zz3, zz4, zz5, zz6, zz7, zz8, zz9, argsF, reduceIte, reduceCtorEq, Nat.reduceEqDiff, Nat.reduceBEq, Nat.reduceAdd, Int.reduceLT, Int.reduceLE, Int.reduceEq, Int.reduceToNat, Int.reduceNeg, Nat.reduceLeDiff, Int.reducePow, implies_true, UInt8.reduceToNat, Int.reduceSub, Int.reduceAdd, Nat.reduceLT, Nat.reduceMul, Nat.reduceSub, Nat.reduceBNe]
    · have := k2.n; omega
    · rw [List.length_append]; exact o2
    · rw [List.length_append, List.length_singleton]; have := h.n; simp only [htl]; omega
    · simp only [htl]; omega
  · have hsy := sign_none f3
    rw [if_pos hsy] at hone
    refine ⟨M1, .inl ⟨6, p, hone, ?_, hS, hK⟩⟩
    simp +contextual -implicitDefEqProofs (maxSteps := 1000000) (maxDischargeDepth := 8) only [d1g, hM1, hlt2, m1g, m1b, hlt1, hlt3, hi, h0, hcls, Option.map_none, hL, hl, f4, zz0, zz1, zz2, zz3, zz4, zz5, zz6, zz7, zz8, zz9, argsF, reduceIte, reduceCtorEq, Nat.reduceEqDiff, Nat.reduceBEq, Nat.reduceAdd, Int.reduceLT, Int.reduceLE, Int.reduceEq, Int.reduceToNat, Int.reduceNeg, Nat.reduceLeDiff, Int.reducePow, implies_true, UInt8.reduceToNat, Int.reduceSub, Int.reduceAdd, Nat.reduceLT, Nat.reduceMul, Nat.reduceSub, Nat.reduceBNe]
end Go.Proofs.YtfmokmbbfjbonaaDoor.Ev
end
section
namespace Go.Proofs.YtfmokmbbfjbonaaDoor.Ev
open Go
set_option linter.unusedSimpArgs false
set_option linter.unusedVariables false
set_option maxRecDepth 10000
set_option maxHeartbeats 4000000
/-- A step. -/
theorem next_run {m : Mem} {b p : Nat} {s : Txt} {ov : EV} {l : List Tok} (h : Sn m b s p ov l) (hs : s.length < 1000000) (hp : p < s.length) :
    ∃ m', (∃ j, 0 < j ∧ p + j ≤ s.length ∧ (∀ k, scanF (k + 1) (s.drop p) p = scanF k (s.drop (p + j)) (p + j)) ∧ run U n_lex_scanner_next [.ptr b 0] m = some (.ret (.int .i64 0) m') ∧ Sn m' b s (p + j) ov l ∧ Kn m m' b ov ov) ∨
      (∃ e : Nat, 0 < e ∧ (∀ k, scanF (k + 1) (s.drop p) p = .bad e p) ∧ run U n_lex_scanner_next [.ptr b 0] m = some (.ret (.int .i64 (e : Int)) m') ∧ Sn m' b s p ov l ∧ Kn m m' b ov ov) ∨
      (∃ t : Tok, 0 < t.text.length ∧ p + t.text.length ≤ s.length ∧ (∀ k, scanF (k + 1) (s.drop p) p = (scanF k (s.drop (p + t.text.length)) (p + t.text.length)).map (t :: ·)) ∧ run U n_lex_scanner_next [.ptr b 0] m = some (.ret (.int .i64 0) m') ∧ Laid m m' b s ov l t (p + t.text.length)) := by
  obtain ⟨c, r, hc⟩ : ∃ c r, s.drop p = c :: r := by
    cases hq : s.drop p with
    | nil => have := congrArg List.length hq; rw [List.length_drop, List.length_nil] at this; omega
    | cons c r => exact ⟨c, r, rfl⟩
  have hlen : (s.drop p).length = s.length - p := List.length_drop ..
  have hpos : 0 < (s.drop p).length := by omega
  have step : ∀ k, scanF (k + 1) (s.drop p) p = if BlankP (cI c) then scanF k ((s.drop p).drop (lead BlankP (s.drop p))) (p + lead BlankP (s.drop p))
    else if cI c = 35 then scanF k ((s.drop p).drop (lineF (s.drop p))) (p + lineF (s.drop p))
    else match oneF (s.drop p) p with
      | .bad e q => .bad e q
      | .ok t => (scanF k ((s.drop p).drop t.text.length) (p + t.text.length)).map (t :: ·) := fun k => by rw [hc]; rfl
  have hle := class_le (n := cI c)
  have tok : ¬ BlankP (cI c) → ¬ cI c = 35 → ∀ m', ((∃ e q, oneF (s.drop p) p = .bad e q ∧ run U n_lex_scanner_next [.ptr b 0] m = some (.ret (.int .i64 (e : Int)) m') ∧ Sn m' b s p ov l ∧ Kn m m' b ov ov) ∨
      (∃ t, oneF (s.drop p) p = .ok t ∧ run U n_lex_scanner_next [.ptr b 0] m = some (.ret (.int .i64 0) m') ∧ Laid m m' b s ov l t (p + t.text.length))) → (∃ e : Nat, 0 < e ∧ (∀ k, scanF (k + 1) (s.drop p) p = .bad e p) ∧ run U n_lex_scanner_next [.ptr b 0] m = some (.ret (.int .i64 (e : Int)) m') ∧ Sn m' b s p ov l ∧ Kn m m' b ov ov) ∨
      (∃ t : Tok, 0 < t.text.length ∧ p + t.text.length ≤ s.length ∧ (∀ k, scanF (k + 1) (s.drop p) p = (scanF k (s.drop (p + t.text.length)) (p + t.text.length)).map (t :: ·)) ∧ run U n_lex_scanner_next [.ptr b 0] m = some (.ret (.int .i64 0) m') ∧ Laid m m' b s ov l t (p + t.text.length)) := by
    rintro n1 n2 m' (⟨e, q, h1, h2, h3, h4⟩ | ⟨t, h1, h2, h3⟩)
    · obtain ⟨rfl, he⟩ := oneF_bad hpos h1
      exact .inl ⟨e, he, fun k => by rw [step, if_neg n1, if_neg n2, h1], h2, h3, h4⟩
    · obtain ⟨g1, g2, _, _⟩ := oneF_len hpos h1
      exact .inr ⟨t, g1, by omega, fun k => by rw [step, if_neg n1, if_neg n2, h1]; simp only; rw [List.drop_drop], h2, h3⟩
  by_cases c1 : classF (cI c) = 1
  · have hb := class_blank.1 c1
    have hl := lead_le BlankP (s.drop p)
    obtain ⟨m', e1, e2, e3⟩ := next_blank h hs hc c1
    refine ⟨m', .inl ⟨lead BlankP (s.drop p), by rw [hc, lead, if_pos hb]; omega, by omega, fun k => by rw [step, if_pos hb, List.drop_drop], e1, e2, e3⟩⟩
  have nb : ¬ BlankP (cI c) := fun q => c1 (class_blank.2 q)
  by_cases c2 : classF (cI c) = 2
  · have hb := class_remark.1 c2
    have hl := lead_le (fun n => n ≠ 10) (s.drop p)
    obtain ⟨m', e1, e2, e3⟩ := next_remark h hs hc c2
    refine ⟨m', .inl ⟨lineF (s.drop p), by rw [hc]; unfold lineF; rw [lead, if_pos (by omega)]; omega, by unfold lineF; omega, fun k => by rw [step, if_neg nb, if_pos hb, List.drop_drop], e1, e2, e3⟩⟩
  have nr : ¬ cI c = 35 := fun q => c2 (class_remark.2 q)
  by_cases c3 : classF (cI c) = 3
  · obtain ⟨m', hh⟩ := next_letter h hs hc c3
    exact ⟨m', .inr (tok nb nr m' hh)⟩
  by_cases c4 : classF (cI c) = 4
  · obtain ⟨m', hh⟩ := next_digit h hs hc c4
    exact ⟨m', .inr (tok nb nr m' hh)⟩
  by_cases c5 : classF (cI c) = 5
  · obtain ⟨m', hh⟩ := next_sign h hs hc c5
    exact ⟨m', .inr (tok nb nr m' hh)⟩
  have c0 : classF (cI c) = 0 := by omega
  obtain ⟨m', e1, e2, e3⟩ := next_none h hs hc c0
  exact ⟨m', .inr (.inl ⟨6, by decide, fun k => by rw [step, if_neg nb, if_neg nr, hc, one_class0 c0], e1, e2, e3⟩)⟩
theorem toks_loop {s : Txt} (hs : s.length < 1000000) {fb b : Nat} {ov : EV} {fr : Fr} {m0 : Mem} (h : Sn m0 b s 0 ov []) (hfb : fb < b) (hb : m0.get fb = .cells [.int .i64 0, .int .i64 0] 2 t_api_Fault false) (h0 : fr.get 0 = .str s) (h3 : fr.get 3 = .ptr fb 0) (h4 : fr.get 4 = .ptr b 0) (hd : fr.defers = []) :
    ∃ o, exec U (.loop F_lex_Tokens_l0) fr m0 = some o ∧ ((∃ l, scanF (s.length + 1) s 0 = .ok l ∧ ∃ fr' m' ov', o = .exit 0 fr' m' ∧ Sn m' b s s.length ov' l ∧ m'.get fb = .cells [.int .i64 0, .int .i64 0] 2 t_api_Fault false ∧ fr'.get 3 = .ptr fb 0 ∧ fr'.get 4 = .ptr b 0 ∧ fr'.defers = []) ∨
      (∃ e p, scanF (s.length + 1) s 0 = .bad e p ∧ ∃ fr' m', o = .ret fr' m' ∧ fr'.get 2 = .nilslice ∧ m'.get fb = .cells [.int .i64 (e : Int), .int .i64 (p : Int)] 2 t_api_Fault false ∧ fr'.get 3 = .ptr fb 0 ∧ fr'.defers = [])) := by
  refine loop_w (σ := Nat) (fun p fr m => (∃ ov l k, Sn m b s p ov l ∧ s.length - p < k ∧ scanF (s.length + 1) s 0 = (scanF k (s.drop p) p).map (l ++ ·)) ∧ m.get fb = .cells [.int .i64 0, .int .i64 0] 2 t_api_Fault false ∧ fr.get 0 = .str s ∧ fr.get 3 = .ptr fb 0 ∧ fr.get 4 = .ptr b 0 ∧ fr.defers = []) (fun p => s.length - p) _ ?_ 0 fr m0
    ⟨⟨ov, [], s.length + 1, h, by omega, by rw [List.drop_zero]; cases scanF (s.length + 1) s 0 <;> rfl⟩, hb, h0, h3, h4, hd⟩
  rintro p fr m ⟨⟨ov, l, k, h, hk, hr⟩, hb, h0, h3, h4, hd⟩
  generalize hX : exec U F_lex_Tokens_l0 fr m = X
  have hg := h.g
  have hlt := h.lt
  by_cases hp : p < s.length
  · have hc : (p : Int) < (s.length : Int) := by omega
    obtain ⟨k, rfl⟩ : ∃ k', k = k' + 1 := ⟨k - 1, by omega⟩
    obtain ⟨m', hh⟩ := next_run h hs hp
    have keep : ∀ {ov' : EV}, Kn m m' b ov ov' → m'.get fb = .cells [.int .i64 0, .int .i64 0] 2 t_api_Fault false := fun q => by
      rw [q.k fb (by omega) (by omega) (h.o.lt (.inr (by omega))), hb]
    rcases hh with ⟨j, j1, j2, j3, e1, e2, e3⟩ | ⟨e, j1, j3, e1, e2, e3⟩ | ⟨t, j1, j2, j3, e1, ov', e2, e3⟩
    · simp +contextual -implicitDefEqProofs (maxSteps := 1000000) (maxDischargeDepth := 8) only [F_lex_Tokens_l0, h0, h3, h4, hd, hg, hlt, hc, e1, zz0, zz1, zz2, zz3, zz4, zz5, zz6, zz7, zz8, zz9, argsF, reduceIte, reduceCtorEq, Nat.reduceEqDiff, Nat.reduceBEq, Nat.reduceAdd, Int.reduceLT, Int.reduceLE, Int.reduceEq, Int.reduceToNat, Int.reduceNeg, Nat.reduceLeDiff, Int.reducePow, implies_true, UInt8.reduceToNat, Int.reduceSub, Int.reduceAdd, Nat.reduceLT, Nat.reduceMul, Nat.reduceSub, Nat.reduceBNe] at hX
      subst hX
      rw [j3] at hr
      exact lw_norm (p + j) (by omega) ⟨⟨ov, l, k, e2, by omega, hr⟩, keep e3, by simp only [h0, get_set', selE_t, selE_f, Nat.reduceBEq, set_defers, fr00_get, fr00_defers, put_some, put_none ], by simp only [h3, get_set', selE_t, selE_f, Nat.reduceBEq, set_defers, fr00_get, fr00_defers, put_some, put_none ], by simp only [h4, get_set', selE_t, selE_f, Nat.reduceBEq, set_defers, fr00_get, fr00_defers, put_some, put_none ], by simp only [hd, get_set', selE_t, selE_f, Nat.reduceBEq, set_defers, fr00_get, fr00_defers, put_some, put_none ]⟩
    · have hne : ¬ ((e : Int) = 0) := by omega
      have hg2 := e2.g
      have hlt2 := e2.lt
      have hf2 := keep e3
      have hfl : fb < m'.next := by omega
      simp +contextual -implicitDefEqProofs (maxSteps := 1000000) (maxDischargeDepth := 8) only [F_lex_Tokens_l0, h0, h3, h4, hd, hg, hlt, hc, e1, hne, hg2, hlt2, hf2, hfl, zz0, zz1, zz2, zz3, zz4, zz5, zz6, zz7, zz8, zz9, argsF, reduceIte, reduceCtorEq, Nat.reduceEqDiff, Nat.reduceBEq, Nat.reduceAdd, Int.reduceLT, Int.reduceLE, Int.reduceEq, Int.reduceToNat, Int.reduceNeg, Nat.reduceLeDiff, Int.reducePow, implies_true, UInt8.reduceToNat, Int.reduceSub, Int.reduceAdd, Nat.reduceLT, Nat.reduceMul, Nat.reduceSub, Nat.reduceBNe] at hX
      subst hX
      rw [j3] at hr
      exact lw_ret (Or.inr ⟨e, p, hr, _, _, rfl, by simp only [get_set', selE_t, selE_f, Nat.reduceBEq, set_defers, fr00_get, fr00_defers, put_some, put_none ], by simp +contextual -implicitDefEqProofs (maxSteps := 1000000) (maxDischargeDepth := 8) only [hf2, hfl, zz0, zz1, zz2, zz3, zz4, zz5, argsF, reduceIte, reduceCtorEq, Nat.reduceEqDiff, Nat.reduceBEq, Nat.reduceAdd, Int.reduceLT, Int.reduceLE, Int.reduceEq, Int.reduceToNat, Int.reduceNeg, Nat.reduceLeDiff, Int.reducePow, implies_true, UInt8.reduceToNat, Int.reduceSub, Int.reduceAdd, Nat.reduceLT, Nat.reduceMul, Nat.reduceSub], by simp only [h3, get_set', selE_t, selE_f, Nat.reduceBEq, set_defers, fr00_get, fr00_defers, put_some, put_none ], by simp only [hd, get_set', selE_t, selE_f, Nat.reduceBEq, set_defers, fr00_get, fr00_defers, put_some, put_none ]⟩)
    · simp +contextual -implicitDefEqProofs (maxSteps := 1000000) (maxDischargeDepth := 8) only [F_lex_Tokens_l0, h0, h3, h4, hd, hg, hlt, hc, e1, zz0, zz1, zz2, zz3, zz4, zz5, zz6, zz7, zz8, zz9, argsF, reduceIte, reduceCtorEq, Nat.reduceEqDiff, Nat.reduceBEq, Nat.reduceAdd, Int.reduceLT, Int.reduceLE, Int.reduceEq, Int.reduceToNat, Int.reduceNeg, Nat.reduceLeDiff, Int.reducePow, implies_true, UInt8.reduceToNat, Int.reduceSub, Int.reduceAdd, Nat.reduceLT, Nat.reduceMul, Nat.reduceSub, Nat.reduceBNe] at hX
      subst hX
      rw [j3, Res.map_map] at hr
      refine lw_norm (p + t.text.length) (by omega) ⟨⟨ov', l ++ [t], k, e2, by omega, ?_⟩, keep e3, by simp only [h0, get_set', selE_t, selE_f, Nat.reduceBEq, set_defers, fr00_get, fr00_defers, put_some, put_none ], by simp only [h3, get_set', selE_t, selE_f, Nat.reduceBEq, set_defers, fr00_get, fr00_defers, put_some, put_none ], by simp only [h4, get_set', selE_t, selE_f, Nat.reduceBEq, set_defers, fr00_get, fr00_defers, put_some, put_none ], by simp only [hd, get_set', selE_t, selE_f, Nat.reduceBEq, set_defers, fr00_get, fr00_defers, put_some, put_none ]⟩
      rw [hr]; simp only [List.append_assoc, List.cons_append, List.nil_append]
  · have hc : ¬ ((p : Int) < (s.length : Int)) := by omega
    obtain rfl : p = s.length := by have := h.le; omega
    simp +contextual -implicitDefEqProofs (maxSteps := 1000000) (maxDischargeDepth := 8) only [F_lex_Tokens_l0, h0, h3, h4, hd, hg, hlt, hc, zz0, zz1, zz2, zz3, zz4, zz5, zz6, zz7, zz8, zz9, argsF, reduceIte, reduceCtorEq, Nat.reduceEqDiff, Nat.reduceBEq, Nat.reduceAdd, Int.reduceLT, Int.reduceLE, Int.reduceEq, Int.reduceToNat, Int.reduceNeg, Nat.reduceLeDiff, Int.reducePow, implies_true, UInt8.reduceToNat, Int.reduceSub, Int.reduceAdd, Nat.reduceLT, Nat.reduceMul, Nat.reduceSub, Nat.reduceBNe] at hX
    subst hX
    obtain ⟨k, rfl⟩ : ∃ k', k = k' + 1 := ⟨k - 1, by omega⟩
    rw [List.drop_length] at hr
    simp only [scanF, Res.map, List.append_nil] at hr
    exact lw_exit (Or.inl ⟨l, hr, _, _, ov, rfl, h, hb, by simp only [h3, get_set', selE_t, selE_f, Nat.reduceBEq, set_defers, fr00_get, fr00_defers, put_some, put_none ], by simp only [h4, get_set', selE_t, selE_f, Nat.reduceBEq, set_defers, fr00_get, fr00_defers, put_some, put_none ], by simp only [hd, get_set', selE_t, selE_f, Nat.reduceBEq, set_defers, fr00_get, fr00_defers, put_some, put_none ]⟩)
theorem lex_tokens {s : Txt} (hs : s.length < 1000000) : pureR B K n_lex_Tokens [.str s] = some (lexV (lexF s)) := by
  rw [pure_at (by simp [F_lex_Tokens])]
  generalize hL : exec (UT B K) (ICode.loop F_lex_Tokens_l0) = L
  by_cases h6 : 65536 < s.length
  · have hc : (65536 : Int) < (s.length : Int) := by omega
    have : lexF s = .bad 3 0 := if_pos h6
    rw [this]
    simp +contextual -implicitDefEqProofs (maxSteps := 1000000) (maxDischargeDepth := 8) only [F_lex_Tokens, hc, lexV, zz0, zz1, zz2, zz3, zz4, zz5, zz6, zz7, zz8, zz9, argsF, reduceIte, reduceCtorEq, Nat.reduceEqDiff, Nat.reduceBEq, Nat.reduceAdd, Int.reduceLT, Int.reduceLE, Int.reduceEq, Int.reduceToNat, Int.reduceNeg, Nat.reduceLeDiff, Int.reducePow, implies_true, UInt8.reduceToNat, Int.reduceSub, Int.reduceAdd, Nat.reduceLT, Nat.reduceMul, Nat.reduceSub, Nat.reduceBNe]
  · have hc : ¬ (65536 : Int) < (s.length : Int) := by omega
    rw [scan_lex (by omega)]
    simp +contextual -implicitDefEqProofs (maxSteps := 1000000) (maxDischargeDepth := 8) only [F_lex_Tokens, hc, zz0, zz1, zz2, zz3, zz4, zz5, zz6, zz7, zz8, zz9, argsF, reduceIte, reduceCtorEq, Nat.reduceEqDiff, Nat.reduceBEq, Nat.reduceAdd, Int.reduceLT, Int.reduceLE, Int.reduceEq, Int.reduceToNat, Int.reduceNeg, Nat.reduceLeDiff, Int.reducePow, implies_true, UInt8.reduceToNat, Int.reduceSub, Int.reduceAdd, Nat.reduceLT, Nat.reduceMul, Nat.reduceSub, Nat.reduceBNe]
    subst hL
    generalize hX : exec _ (.loop F_lex_Tokens_l0) _ _ = X
    generalize hM0 : ext mem00 _ = M0 at hX ⊢
    have hfb : nb mem00.next 0 < nb mem00.next 1 := by unfold nb; omega
    have hS : Sn M0 (nb mem00.next 1) s 0 .nilslice [] := by
      refine ⟨?_, ?_, ⟨.inl ⟨rfl, rfl, rfl⟩, rfl⟩, Nat.zero_le _, Nat.zero_le _⟩
      · rw [← hM0, get_ext_nb rfl (by simp)]; rfl
      · rw [← hM0, next_ext]; unfold nb; simp
    have hf : M0.get (nb mem00.next 0) = .cells [.int .i64 0, .int .i64 0] 2 t_api_Fault false := by rw [← hM0, get_ext_nb rfl (by simp)]; rfl
    clear hM0
    generalize nb mem00.next 0 = fb at *
    generalize nb mem00.next 1 = b at *
    obtain ⟨o, rfl, hh⟩ := looped hX (toks_loop hs hS hfb hf (by simp only [get_set', selE_t, selE_f, Nat.reduceBEq, set_defers, fr00_get, fr00_defers, put_some, put_none ]) (by simp only [get_set', selE_t, selE_f, Nat.reduceBEq, set_defers, fr00_get, fr00_defers, put_some, put_none ]) (by simp only [get_set', selE_t, selE_f, Nat.reduceBEq, set_defers, fr00_get, fr00_defers, put_some, put_none ]) (by simp only [get_set', selE_t, selE_f, Nat.reduceBEq, set_defers, fr00_get, fr00_defers, put_some, put_none ]))
    rcases hh with ⟨l, hl, fr', m', ov', rfl, h2, hf2, f3, f4, fd⟩ | ⟨e, p, hl, fr', m', rfl, f2, hf2, f3, fd⟩
    · rw [hl]
      obtain ⟨m2, ov2, e2, o2, g2, k2⟩ := put_run h2 (k := 0) (n := 0) (num := 0) (by omega) hs (by omega)
      have e2' : run U n_lex_scanner_put [.ptr b 0, .int .i64 0, .int .i64 0, .int .i64 0] m' = some (.ret (.tuple []) m2) := e2
      have hf3 : m2.get fb = .cells [.int .i64 0, .int .i64 0] 2 t_api_Fault false := by rw [k2.k fb (by have := h2.lt; omega) (by omega) (h2.o.lt (.inr (by omega))), hf2]
      have hlt2 : b < m2.next := by have := k2.n; have := h2.lt; omega
      have hlt3 : fb < m2.next := by omega
      have hfz : frzV (m2.set fb (.cells [.int .i64 0, .int .i64 0] 2 t_api_Fault false)) ov2 = some (.fz 0 4 (toks (l ++ [⟨0, [], 0, s.length⟩]))) := by
        refine Own.frz_pos (n := l.length + 1) (lo := b + 1) (o2.keep' (by rw [next_set]; exact Nat.le_refl _) fun c _ hlo _ => get_set_ne (by omega)) (by simp [toks]) (by omega) (toks_len _) (toks_plain _)
      rw [Nat.add_zero] at g2
      simp +contextual -implicitDefEqProofs (maxSteps := 1000000) (maxDischargeDepth := 8) only [f3, f4, fd, e2', g2, hf3, hlt2, hlt3, hfz, lexV, Res.map, zz0, zz1, zz2, zz3, zz4, zz5, zz6, zz7, zz8, zz9, argsF, reduceIte, reduceCtorEq, Nat.reduceEqDiff, Nat.reduceBEq, Nat.reduceAdd, Int.reduceLT, Int.reduceLE, Int.reduceEq, Int.reduceToNat, Int.reduceNeg, Nat.reduceLeDiff, Int.reducePow, implies_true, UInt8.reduceToNat, Int.reduceSub, Int.reduceAdd, Nat.reduceLT, Nat.reduceMul, Nat.reduceSub, Nat.reduceBNe]
    · rw [hl]
      simp +contextual -implicitDefEqProofs (maxSteps := 1000000) (maxDischargeDepth := 8) only [f2, f3, fd, hf2, lexV, Res.map, zz0, zz1, zz2, zz3, zz4, zz5, zz6, zz7, zz8, zz9, argsF, reduceIte, reduceCtorEq, Nat.reduceEqDiff, Nat.reduceBEq, Nat.reduceAdd, Int.reduceLT, Int.reduceLE, Int.reduceEq, Int.reduceToNat, Int.reduceNeg, Nat.reduceLeDiff, Int.reducePow, implies_true, UInt8.reduceToNat, Int.reduceSub, Int.reduceAdd, Nat.reduceLT, Nat.reduceMul, Nat.reduceSub, Nat.reduceBNe]
end Go.Proofs.YtfmokmbbfjbonaaDoor.Ev
end
section
namespace Go.Proofs.YtfmokmbbfjbonaaDoor.Ev
open Go
set_option linter.unusedSimpArgs false
set_option linter.unusedVariables false
set_option maxRecDepth 10000
set_option maxHeartbeats 4000000
end Go.Proofs.YtfmokmbbfjbonaaDoor.Ev
end
section
namespace Go.Proofs.YtfmokmbbfjbonaaDoor.Ev
open Go
set_option linter.unusedSimpArgs false
set_option linter.unusedVariables false
set_option maxHeartbeats 4000000
/-- Tokens stand one behind the other, from a place to a place. -/
def Chain (s : Txt) : Nat → List Tok → Nat → Prop
  | p, [], q => p = q
  | p, t :: l, q => p ≤ t.pos ∧ t.pos + t.text.length ≤ s.length ∧ (s.drop t.pos).take t.text.length = t.text ∧ skipF false ((s.take t.pos).drop p) = t.pos - p ∧ Chain s (t.pos + t.text.length) l q
theorem skipF_take : ∀ (s : Txt) (r : Bool), skipF r (s.take (skipF r s)) = skipF r s
  | [], r => by simp [skipF]
  | c :: s, r => by
    have e : ∀ t, skipF r (c :: t) = if (if cI c = 10 then false else if cI c = 35 then true else r) = false ∧ ¬ BlankP (cI c) then 0 else 1 + skipF (if cI c = 10 then false else if cI c = 35 then true else r) t := fun t => rfl
    rw [e]
    by_cases h : (if cI c = 10 then false else if cI c = 35 then true else r) = false ∧ ¬ BlankP (cI c)
    · rw [if_pos h, List.take_zero]; rfl
    · rw [if_neg h, Nat.add_comm, List.take_succ_cons, e, if_neg h, skipF_take s]; omega
theorem chain_end {s : Txt} {p : Nat} (hp : p ≤ s.length) (h : skipF false (s.drop p) = s.length - p) : Chain s p [⟨0, [], 0, s.length⟩] s.length := by
  refine ⟨hp, by simp, by simp, ?_, by simp [Chain]⟩
  rw [List.take_length, h]
theorem toks_chain {s : Txt} : ∀ (k p : Nat) (l : List Tok), p ≤ s.length → toksF k (s.drop (p + skipF false (s.drop p))) (p + skipF false (s.drop p)) = .ok l → Chain s p (l ++ [⟨0, [], 0, s.length⟩]) s.length
  | 0, p, l, hp, h => by simp only [toksF] at h; cases h
  | k + 1, p, l, hp, h => by
    have hle := skipF_le (s.drop p) false
    rw [List.length_drop] at hle
    cases hs : s.drop (p + skipF false (s.drop p)) with
    | nil =>
      rw [hs] at h
      simp only [toksF] at h; cases h
      have := congrArg List.length hs
      rw [List.length_drop, List.length_nil] at this
      exact chain_end hp (by omega)
    | cons c r =>
      rw [hs] at h
      rw [toksF_cons (by simp)] at h
      cases ho : oneF (c :: r) (p + skipF false (s.drop p)) with
      | bad e q => rw [ho] at h; cases h
      | ok t =>
        rw [ho] at h
        simp only at h
        obtain ⟨g1, g2, g3, g4⟩ := oneF_len (by simp) ho
        rw [← hs] at g2 g4 h
        rw [List.length_drop] at g2
        cases hr : toksF k ((((s.drop (p + skipF false (s.drop p)))).drop t.text.length).drop (skipF false ((s.drop (p + skipF false (s.drop p))).drop t.text.length))) (p + skipF false (s.drop p) + t.text.length + skipF false ((s.drop (p + skipF false (s.drop p))).drop t.text.length)) with
        | bad e q => rw [hr] at h; cases h
        | ok l2 =>
          rw [hr] at h
          cases h
          have e2 : (s.drop (p + skipF false (s.drop p))).drop t.text.length = s.drop (p + skipF false (s.drop p) + t.text.length) := List.drop_drop
          rw [e2, List.drop_drop] at hr
          have ih := toks_chain (s := s) k (p + skipF false (s.drop p) + t.text.length) l2 (by omega) hr
          refine ⟨by rw [g3]; omega, by rw [g3]; omega, by rw [g3]; exact g4.symm, ?_, by rw [g3]; exact ih⟩
          rw [g3, List.drop_take, Nat.add_sub_cancel_left, skipF_take]
theorem lex_chain {s : Txt} {l : List Tok} (h : lexF s = .ok l) : Chain s 0 l s.length := by
  unfold lexF at h
  split at h
  · cases h
  · cases hr : toksF (s.length + 1) (s.drop (skipF false s)) (skipF false s) with
    | bad e q => rw [hr] at h; cases h
    | ok l2 =>
      rw [hr] at h
      cases h
      have := toks_chain (s := s) (s.length + 1) 0 l2 (Nat.zero_le _) (by rw [List.drop_zero, Nat.zero_add]; exact hr)
      exact this
theorem toks_bad_at : ∀ (k : Nat) (s : Txt) (p e q : Nat), s.length < k → toksF k s p = .bad e q → p ≤ q ∧ q < p + s.length
  | 0, s, p, e, q, hk, h => by omega
  | k + 1, [], p, e, q, hk, h => by simp only [toksF] at h; cases h
  | k + 1, c :: s, p, e, q, hk, h => by
    rw [toksF_cons (by simp)] at h
    rw [List.length_cons] at hk ⊢
    cases ho : oneF (c :: s) p with
    | bad e' q' =>
      rw [ho] at h; cases h
      obtain ⟨rfl, _⟩ := oneF_bad (by simp) ho
      omega
    | ok t =>
      rw [ho] at h
      simp only at h
      obtain ⟨g1, g2, g3, g4⟩ := oneF_len (by simp) ho
      rw [List.length_cons] at g2
      have hle := skipF_le ((c :: s).drop t.text.length) false
      rw [List.length_drop, List.length_cons] at hle
      cases hr : toksF k (((c :: s).drop t.text.length).drop (skipF false ((c :: s).drop t.text.length))) (p + t.text.length + skipF false ((c :: s).drop t.text.length)) with
      | bad e' q' =>
        rw [hr] at h; cases h
        have ih := toks_bad_at k _ _ _ _ (by rw [List.length_drop, List.length_drop, List.length_cons]; omega) hr
        rw [List.length_drop, List.length_drop, List.length_cons] at ih
        omega
      | ok l2 => rw [hr] at h; cases h
theorem lex_bad_at {s : Txt} {e q : Nat} (hs : s.length ≤ 65536) (h : lexF s = .bad e q) : q < s.length := by
  unfold lexF at h
  rw [if_neg (by omega)] at h
  have hle := skipF_le s false
  cases hr : toksF (s.length + 1) (s.drop (skipF false s)) (skipF false s) with
  | bad e' q' =>
    rw [hr] at h; cases h
    have := toks_bad_at _ _ _ _ _ (by rw [List.length_drop]; omega) hr
    rw [List.length_drop] at this
    omega
  | ok l2 => rw [hr] at h; cases h
theorem oneF_kind {s : Txt} {p : Nat} {t : Tok} (hs : s ≠ []) (h : oneF s p = .ok t) : t.kind ≠ 0 := (oneF_move (d := 0) hs h).2
theorem toks_kinds : ∀ (k : Nat) (s : Txt) (p : Nat) (l : List Tok), toksF k s p = .ok l → ∀ t ∈ l, t.kind ≠ 0 ∧ t.text ≠ []
  | 0, s, p, l, h => by simp only [toksF] at h; cases h
  | k + 1, [], p, l, h => by simp only [toksF] at h; cases h; exact fun t ht => by cases ht
  | k + 1, c :: s, p, l, h => by
    rw [toksF_cons (by simp)] at h
    cases ho : oneF (c :: s) p with
    | bad e q => rw [ho] at h; cases h
    | ok t =>
      rw [ho] at h
      simp only at h
      obtain ⟨g1, g2, g3, g4⟩ := oneF_len (by simp) ho
      cases hr : toksF k (((c :: s).drop t.text.length).drop (skipF false ((c :: s).drop t.text.length))) (p + t.text.length + skipF false ((c :: s).drop t.text.length)) with
      | bad e q => rw [hr] at h; cases h
      | ok l2 =>
        rw [hr] at h; cases h
        intro t' ht'
        rcases List.mem_cons.1 ht' with rfl | ht'
        · exact ⟨oneF_kind (by simp) ho, fun q => by rw [q] at g1; simp at g1⟩
        · exact toks_kinds k _ _ _ hr t' ht'
theorem lex_kinds {s : Txt} {l : List Tok} (h : lexF s = .ok l) : l.length ≤ s.length + 1 ∧ 0 < l.length ∧ ∀ (i : Nat) (t : Tok), l[i]? = some t → (t.kind = 0 ↔ i = l.length - 1) ∧ (t.text = [] ↔ t.kind = 0) := by
  unfold lexF at h
  split at h
  · cases h
  · cases hr : toksF (s.length + 1) (s.drop (skipF false s)) (skipF false s) with
    | bad e q => rw [hr] at h; cases h
    | ok l2 =>
      rw [hr] at h
      cases h
      have hk := toks_kinds _ _ _ _ hr
      have hl := (toksF_good _ _ _ _ hr).1
      rw [List.length_drop] at hl
      refine ⟨by rw [List.length_append, List.length_singleton]; omega, by simp, fun i t hi => ?_⟩
      rw [List.length_append, List.length_singleton, Nat.add_sub_cancel]
      by_cases hlt : i < l2.length
      · rw [List.getElem?_append_left hlt] at hi
        obtain ⟨k1, k2⟩ := hk t (List.mem_of_getElem? hi)
        exact ⟨⟨fun q => absurd q k1, fun q => by omega⟩, ⟨fun q => absurd q k2, fun q => absurd q k1⟩⟩
      · rw [List.getElem?_append_right (by omega)] at hi
        have : i - l2.length = 0 := by
          have := (List.getElem?_eq_some_iff.1 hi).1
          simp at this; omega
        rw [this] at hi
        simp only [List.getElem?_cons_zero, Option.some.injEq] at hi
        subst hi
        exact ⟨⟨fun _ => by omega, fun _ => rfl⟩, ⟨fun _ => rfl, fun _ => rfl⟩⟩
end Go.Proofs.YtfmokmbbfjbonaaDoor.Ev
end
section
namespace Go.Proofs.YtfmokmbbfjbonaaDoor.Ev
open Go
set_option linter.unusedSimpArgs false
set_option linter.unusedVariables false
set_option maxRecDepth 10000
set_option maxHeartbeats 4000000
theorem toks_get {l : List Tok} {i : Nat} : (toks l)[i]? = (l[i]?).map Tok.cells := by unfold toks; rw [List.getElem?_map]
theorem toks_len' {l : List Tok} : (toks l).length = l.length := by unfold toks; rw [List.length_map]
end Go.Proofs.YtfmokmbbfjbonaaDoor.Ev
end
section
namespace Go.Proofs.YtfmokmbbfjbonaaDoor.Ev
open Go
set_option linter.unusedSimpArgs false
set_option linter.unusedVariables false
set_option maxHeartbeats 4000000
def blk : Nat → Txt
  | 0 => []
  | k + 1 => blk k ++ [9, 35, 120, 10]
theorem blk_len : ∀ k, (blk k).length = 4 * k
  | 0 => rfl
  | k + 1 => by rw [blk, List.length_append, blk_len k]; simp; omega
theorem skip_blk : ∀ (k : Nat) (s : Txt), skipF false (blk k ++ s) = 4 * k + skipF false s
  | 0, s => by simp [blk]
  | k + 1, s => by
    have e : skipF false ([9, 35, 120, 10] ++ s) = 1 + (1 + (1 + (1 + skipF false s))) := rfl
    rw [blk, List.append_assoc, skip_blk k, e]; omega
def Res.move (d : Nat) : Res Tok → Res Tok
  | .ok t => .ok (t.move d)
  | .bad e p => .bad e (p + d)
theorem oneF_moved {s : Txt} {p d : Nat} (hs : s ≠ []) : oneF s (p + d) = (oneF s p).move d := by
  have hl := List.length_pos_iff.2 hs
  rw [oneF_eq hl, oneF_eq hl]
  unfold numT
  repeat' split
  all_goals first | rfl | simp_all [Res.move, Tok.move]
def Res.moves (d : Nat) : Res (List Tok) → Res (List Tok)
  | .ok l => .ok (l.map (Tok.move d))
  | .bad e p => .bad e (p + d)
theorem toksF_moved {d : Nat} : ∀ (k : Nat) (s : Txt) (p : Nat), s.length < k → toksF k s (p + d) = (toksF k s p).moves d
  | 0, s, p, h => by omega
  | k + 1, [], p, h => rfl
  | k + 1, c :: s, p, h => by
    rw [toksF_cons (by simp), toksF_cons (by simp), oneF_moved (by simp)]
    cases ho : oneF (c :: s) p with
    | bad e q => rfl
    | ok t =>
      obtain ⟨g1, g2, g3, g4⟩ := oneF_len (by simp) ho
      have e1 : (t.move d).text = t.text := rfl
      simp only [Res.move, e1]
      have e2 : p + d + t.text.length + skipF false ((c :: s).drop t.text.length) = p + t.text.length + skipF false ((c :: s).drop t.text.length) + d := by omega
      rw [List.length_cons] at h
      rw [e2, toksF_moved k _ _ (by rw [List.length_drop, List.length_drop, List.length_cons]; omega)]
      cases toksF k (((c :: s).drop t.text.length).drop (skipF false ((c :: s).drop t.text.length))) (p + t.text.length + skipF false ((c :: s).drop t.text.length)) <;> rfl
theorem lex_blk {s : Txt} {k : Nat} (h : 4 * k + s.length ≤ 65536) : lexF (blk k ++ s) = (lexF s).moves (4 * k) := by
  have hj := skipF_le s false
  unfold lexF
  rw [if_neg (by rw [List.length_append, blk_len]; omega), if_neg (by omega), skip_blk]
  have e1 : (blk k ++ s).drop (4 * k + skipF false s) = s.drop (skipF false s) := by
    rw [← List.drop_drop, ← blk_len k, List.drop_left]
  rw [e1, toksF_fuel _ (s.length + 1) _ _ (by rw [List.length_drop, List.length_append]; omega) (by rw [List.length_drop]; omega), Nat.add_comm (4 * k), toksF_moved _ _ _ (by rw [List.length_drop]; omega)]
  cases toksF (s.length + 1) (s.drop (skipF false s)) (skipF false s) with
  | bad e q => rfl
  | ok l =>
    simp only [Res.map, Res.moves, List.map_append, List.map_cons, List.map_nil, List.length_append, blk_len, Tok.move, Nat.add_comm (4 * k)]
/-! ### Tokens joined -/
def joinT (l : List Tok) : Txt := (l.map fun t => t.text ++ [32]).flatten
theorem joinT_snoc (l : List Tok) (t : Tok) : joinT (l ++ [t]) = joinT l ++ t.text ++ [32] := by simp [joinT]
theorem joinT_cons (t : Tok) (l : List Tok) : joinT (t :: l) = t.text ++ 32 :: joinT l := by simp [joinT]
theorem lead_app {p : Int → Prop} [DecidablePred p] (h : ¬ p 32) {rest : Txt} : ∀ s : Txt, lead p (s.take (lead p s) ++ 32 :: rest) = lead p s
  | [] => by
    have e : lead p [] = 0 := rfl
    rw [e, List.take_nil, List.nil_append, lead]
    exact if_neg h
  | c :: s => by
    by_cases hc : p (cI c)
    · rw [lead, if_pos hc, Nat.add_comm, List.take_succ_cons, List.cons_append, lead, if_pos hc, lead_app h s, Nat.add_comm]
    · rw [lead, if_neg hc, List.take_zero, List.nil_append, lead]
      exact if_neg h
theorem wordF_app {rest : Txt} (s : Txt) : wordF (s.take (wordF s) ++ 32 :: rest) = wordF s := by
  cases s with
  | nil => simp only [wordF, List.take_zero, List.nil_append]; exact if_neg (by decide)
  | cons c s =>
    by_cases hc : LetterP (cI c)
    · have e : ∀ t, wordF (c :: t) = 1 + lead (fun n => LetterP n ∨ DigitP n) t := fun t => if_pos hc
      rw [e, Nat.add_comm, List.take_succ_cons, List.cons_append, e, lead_app (by decide) s, Nat.add_comm]
    · have e : wordF (c :: s) = 0 := if_neg hc
      rw [e, List.take_zero, List.nil_append, wordF]
      exact if_neg (by decide)
theorem two_blank (c : UInt8) : [c, 32] ∉ twoL := by
  intro h
  simp [twoL] at h
theorem signF_app {rest : Txt} {s : Txt} (h : signF s ≠ 0) : signF (s.take (signF s) ++ 32 :: rest) = signF s := by
  by_cases h2 : 2 ≤ s.length ∧ s.take 2 ∈ twoL
  · have e : signF s = 2 := if_pos h2
    have hl : (s.take 2).length = 2 := by rw [List.length_take]; omega
    rw [e]
    unfold signF
    rw [if_pos ⟨by rw [List.length_append, hl]; omega, by rw [List.take_append_of_le_length (by omega), List.take_of_length_le (by omega)]; exact h2.2⟩]
  · have e : signF s = if ∃ c ∈ oneL, s[0]? = some c then 1 else 0 := if_neg h2
    by_cases h1 : ∃ c ∈ oneL, s[0]? = some c
    · rw [if_pos h1] at e
      obtain ⟨c, hc, hs⟩ := h1
      cases s with
      | nil => simp at hs
      | cons a s =>
        simp only [List.getElem?_cons_zero, Option.some.injEq] at hs
        subst hs
        rw [e, List.take_succ_cons, List.take_zero, List.cons_append, List.nil_append]
        unfold signF
        have n2 : ¬ (2 ≤ (a :: 32 :: rest).length ∧ (a :: 32 :: rest).take 2 ∈ twoL) := fun q => two_blank a q.2
        rw [if_neg n2, if_pos ⟨a, hc, rfl⟩]
    · rw [if_neg h1] at e; exact absurd e h
/-- A token is read again. -/
theorem oneF_again {s rest : Txt} {p q : Nat} {t : Tok} (hs : s ≠ []) (h : oneF s p = .ok t) : oneF (t.text ++ 32 :: rest) q = .ok ⟨t.kind, t.text, t.n, q⟩ := by
  have hl := List.length_pos_iff.2 hs
  obtain ⟨g1, g2, g3, g4⟩ := oneF_len hl h
  have hl2 : 0 < (t.text ++ 32 :: rest).length := by rw [List.length_append]; omega
  have h0 : (t.text ++ 32 :: rest)[0] = s[0] := by
    have e : (t.text ++ 32 :: rest)[0]? = s[0]? := by
      rw [List.getElem?_append_left g1, g4, List.getElem?_take, if_pos g1]
    rw [List.getElem?_eq_getElem hl2, List.getElem?_eq_getElem hl] at e
    exact Option.some.inj e
  have ld := lead_le DigitP s
  have lw := wordF_le s
  have ls := signF_le hl
  have tk : ∀ n, n ≤ s.length → (s.take n ++ 32 :: rest).take n = s.take n := fun n hn => by
    rw [List.take_append_of_le_length (by rw [List.length_take]; omega), List.take_of_length_le (by rw [List.length_take]; omega)]
  rw [oneF_eq hl2, h0]
  rw [oneF_eq hl] at h
  by_cases h1 : DigitP (cI s[0])
  · rw [if_pos h1] at h ⊢
    unfold numT at h
    cases hn : numF 0 (s.take (lead DigitP s)) with
    | none => rw [hn] at h; cases h
    | some n =>
      rw [hn] at h; cases h
      simp only
      rw [lead_app (p := DigitP) (by decide), tk _ ld, numT, hn]
  · rw [if_neg h1] at h ⊢
    by_cases h2 : 0 < wordF s ∧ s.take (wordF s) ∈ wordsL
    · rw [if_pos h2] at h; cases h
      simp only
      rw [wordF_app, tk _ lw, if_pos h2]
    · rw [if_neg h2] at h
      by_cases h3 : 32 < wordF s
      · rw [if_pos h3] at h; cases h
      · rw [if_neg h3] at h
        by_cases h4 : 0 < wordF s
        · rw [if_pos h4] at h; cases h
          simp only
          rw [wordF_app, tk _ lw, if_neg h2, if_neg h3, if_pos h4]
        · rw [if_neg h4] at h
          by_cases h5 : signF s = 0
          · rw [if_pos h5] at h; cases h
          · rw [if_neg h5] at h; cases h
            simp only
            have hnl : ¬ LetterP (cI s[0]) := by
              intro q
              cases s with
              | nil => exact absurd rfl hs
              | cons c s =>
                have e : wordF (c :: s) = 1 + lead (fun n => LetterP n ∨ DigitP n) s := if_pos q
                omega
            have hw0 : wordF (s.take (signF s) ++ 32 :: rest) = 0 := by
              cases hx : s.take (signF s) ++ 32 :: rest with
              | nil => rfl
              | cons c r =>
                have : c = s[0] := by
                  have e := h0
                  simp only [hx] at e
                  exact e
                subst this
                exact if_neg hnl
            rw [hw0, signF_app h5, tk _ ls, if_neg (by omega), if_neg (by omega), if_neg (by omega), if_neg h5]
theorem no_sign {c : UInt8} {s : Txt} (h : ¬ ∃ a ∈ sgnS, cI c = cI a) : signF (c :: s) = 0 := by
  refine sign_none fun x hx q => h ?_
  have : ∀ x ∈ signsL, ∃ a ∈ sgnS, x[0]? = some a := by decide
  obtain ⟨a, ha, hxa⟩ := this x hx
  obtain ⟨q1, q2⟩ := q
  refine ⟨a, ha, ?_⟩
  cases x with
  | nil => simp at hxa
  | cons b x =>
    simp only [List.getElem?_cons_zero, Option.some.injEq] at hxa
    subst hxa
    simp only [List.length_cons, List.take_succ_cons, List.cons.injEq] at q2
    rw [q2.1]
/-- What a token begins with is neither blank nor a remark. -/
theorem oneF_first {s : Txt} {p : Nat} {t : Tok} (hs : s ≠ []) (h : oneF s p = .ok t) (rest : Txt) : skipF false (t.text ++ rest) = 0 := by
  have hl := List.length_pos_iff.2 hs
  obtain ⟨g1, g2, g3, g4⟩ := oneF_len hl h
  cases s with
  | nil => exact absurd rfl hs
  | cons c s =>
    have hbad : BlankP (cI c) ∨ cI c = 35 → False := by
      intro q
      have hnd : ¬ DigitP (cI c) := by unfold DigitP; unfold BlankP at q; omega
      have hnl : ¬ LetterP (cI c) := by unfold LetterP; unfold BlankP at q; omega
      have hw : wordF (c :: s) = 0 := if_neg hnl
      have hsg : signF (c :: s) = 0 := by
        refine no_sign ?_
        have : ∀ a ∈ sgnS, ¬ (BlankP (cI a) ∨ cI a = 35) := by decide
        rintro ⟨a, ha, e⟩
        rw [e] at q
        exact this a ha q
      rw [oneF_eq hl] at h
      simp only [List.getElem_cons_zero] at h
      rw [if_neg hnd, hw, hsg, if_neg (by omega), if_neg (by omega), if_neg (by omega), if_pos rfl] at h
      cases h
    cases ht : t.text with
    | nil => rw [ht] at g1; simp at g1
    | cons a r =>
      have : a = c := by
        rw [ht] at g4
        simp only [List.length_cons, List.take_succ_cons, List.cons.injEq] at g4
        exact g4.1
      subst this
      rw [List.cons_append, skipF]
      refine if_pos ⟨?_, fun q => hbad (.inl q)⟩
      split
      · rfl
      · rw [if_neg (fun q => hbad (.inr q))]
/-- Tokens are alike but for where they stand. -/
def TokAs (t u : Tok) : Prop := u.kind = t.kind ∧ u.text = t.text ∧ u.n = t.n
def ToksAs (l l' : List Tok) : Prop := l'.length = l.length ∧ ∀ (i : Nat) (t u : Tok), l[i]? = some t → l'[i]? = some u → TokAs t u
theorem toks_again : ∀ (k : Nat) (s : Txt) (p : Nat) (l : List Tok), toksF k s p = .ok l → ∀ (k' q : Nat), (joinT l ++ [32]).length < k' → ∃ l', toksF k' ((joinT l ++ [32]).drop (skipF false (joinT l ++ [32]))) (q + skipF false (joinT l ++ [32])) = .ok l' ∧ ToksAs l l'
  | 0, s, p, l, h, _, _, _ => by simp only [toksF] at h; cases h
  | k + 1, [], p, l, h, k', q, hk => by
    simp only [toksF] at h; cases h
    cases k' with
    | zero => omega
    | succ k' => exact ⟨[], rfl, rfl, fun i t u ht _ => by simp at ht⟩
  | k + 1, c :: s, p, l, h, 0, q, hk => by omega
  | k + 1, c :: s, p, l, h, k' + 1, q, hk => by
    rw [toksF_cons (by simp)] at h
    cases ho : oneF (c :: s) p with
    | bad e q => rw [ho] at h; cases h
    | ok t =>
      rw [ho] at h
      simp only at h
      obtain ⟨g1, g2, g3, g4⟩ := oneF_len (by simp) ho
      cases hr : toksF k (((c :: s).drop t.text.length).drop (skipF false ((c :: s).drop t.text.length))) (p + t.text.length + skipF false ((c :: s).drop t.text.length)) with
      | bad e q => rw [hr] at h; cases h
      | ok l2 =>
        rw [hr] at h; cases h
        have e0 : joinT (t :: l2) ++ [32] = t.text ++ 32 :: (joinT l2 ++ [32]) := by rw [joinT_cons]; simp
        rw [e0] at hk ⊢
        rw [oneF_first (by simp) ho, List.drop_zero]
        simp only [Nat.add_zero]
        rw [List.length_append, List.length_cons] at hk
        obtain ⟨l', h1, h2, h3⟩ := toks_again k _ _ l2 hr k' (q + t.text.length + 1) (by omega)
        refine ⟨⟨t.kind, t.text, t.n, q⟩ :: l', ?_, by simp [h2], fun i a b ha hb => ?_⟩
        · rw [toksF_cons (by simp), oneF_again (by simp) ho]
          have e1 : (t.text ++ 32 :: (joinT l2 ++ [32])).drop t.text.length = 32 :: (joinT l2 ++ [32]) := List.drop_left
          have e2 : skipF false (32 :: (joinT l2 ++ [32])) = 1 + skipF false (joinT l2 ++ [32]) := rfl
          simp only
          rw [e1, e2, Nat.add_comm 1, List.drop_succ_cons]
          have e3 : q + t.text.length + (skipF false (joinT l2 ++ [32]) + 1) = q + t.text.length + 1 + skipF false (joinT l2 ++ [32]) := by omega
          rw [e3, h1]; rfl
        · cases i with
          | zero => simp only [List.getElem?_cons_zero, Option.some.injEq] at ha hb; subst ha; subst hb; exact ⟨rfl, rfl, rfl⟩
          | succ i => exact h3 i a b (by simpa using ha) (by simpa using hb)
theorem toks_text_le : ∀ (k : Nat) (s : Txt) (p : Nat) (l : List Tok), toksF k s p = .ok l → (joinT l).length ≤ 2 * s.length
  | 0, s, p, l, h => by simp only [toksF] at h; cases h
  | k + 1, [], p, l, h => by simp only [toksF] at h; cases h; exact Nat.le_refl _
  | k + 1, c :: s, p, l, h => by
    rw [toksF_cons (by simp)] at h
    cases ho : oneF (c :: s) p with
    | bad e q => rw [ho] at h; cases h
    | ok t =>
      rw [ho] at h
      simp only at h
      obtain ⟨g1, g2, g3, g4⟩ := oneF_len (by simp) ho
      cases hr : toksF k (((c :: s).drop t.text.length).drop (skipF false ((c :: s).drop t.text.length))) (p + t.text.length + skipF false ((c :: s).drop t.text.length)) with
      | bad e q => rw [hr] at h; cases h
      | ok l2 =>
        rw [hr] at h; cases h
        have ih := toks_text_le k _ _ l2 hr
        rw [List.length_drop, List.length_drop] at ih
        rw [joinT_cons, List.length_append, List.length_cons]
        omega
/-- What is read of tokens that are joined by blanks. -/
theorem lex_join {s : Txt} {l : List Tok} (hs : s.length ≤ 300) (h : lexF s = .ok l) : (joinT l).length ≤ 601 ∧ ∃ l', lexF (joinT l) = .ok l' ∧ ToksAs l l' := by
  unfold lexF at h
  rw [if_neg (by omega)] at h
  cases hr : toksF (s.length + 1) (s.drop (skipF false s)) (skipF false s) with
  | bad e q => rw [hr] at h; cases h
  | ok l2 =>
    rw [hr] at h
    cases h
    have hle := toks_text_le _ _ _ _ hr
    rw [List.length_drop] at hle
    have e0 : joinT (l2 ++ [⟨0, [], 0, s.length⟩]) = joinT l2 ++ [32] := by rw [joinT_snoc]; simp
    rw [e0]
    have hlen : (joinT l2 ++ [32]).length ≤ 601 := by rw [List.length_append, List.length_singleton]; omega
    refine ⟨hlen, ?_⟩
    obtain ⟨l', h1, h2, h3⟩ := toks_again _ _ _ _ hr ((joinT l2 ++ [32]).length + 1) 0 (by omega)
    rw [Nat.zero_add] at h1
    refine ⟨l' ++ [⟨0, [], 0, (joinT l2 ++ [32]).length⟩], ?_, by simp [h2], fun i t u ht hu => ?_⟩
    · unfold lexF
      rw [if_neg (by omega), h1]; rfl
    · by_cases hi : i < l2.length
      · rw [List.getElem?_append_left hi] at ht
        rw [List.getElem?_append_left (by omega)] at hu
        exact h3 i t u ht hu
      · rw [List.getElem?_append_right (by omega)] at ht hu
        rw [h2] at hu
        have : i - l2.length = 0 := by
          have := (List.getElem?_eq_some_iff.1 ht).1
          simp at this; omega
        rw [this] at ht hu
        simp only [List.getElem?_cons_zero, Option.some.injEq] at ht hu
        subst ht; subst hu
        exact ⟨rfl, rfl, rfl⟩
end Go.Proofs.YtfmokmbbfjbonaaDoor.Ev
end
section
namespace Go.Proofs.YtfmokmbbfjbonaaDoor.Ev
open Go
set_option linter.unusedSimpArgs false
set_option linter.unusedVariables false
set_option maxRecDepth 10000
set_option maxHeartbeats 4000000
theorem rem7 (n : Int) (h0 : 0 ≤ n) : n.tmod 7 = ((n.toNat % 7 : Nat) : Int) := by
  rw [Int.tmod_eq_emod_of_nonneg h0]; omega
theorem bin_cat2 {a b c : List UInt8} (h : a.length + b.length ≤ 4294967296) (e : a ++ b = c) : evBin .add (.str a) (.str b) = some (.str c) := by rw [bin_cat, Nat.ble_eq_true_of_le h, e]; rfl
theorem joinT_app (a b : List Tok) : joinT (a ++ b) = joinT a ++ joinT b := by simp [joinT]
theorem ag_l0 {s : Txt} {n : Int} (hn0 : 0 ≤ n) (hn1 : n < 256) {v5 v6 : EV} {fr : Fr} {m0 : Mem} (h0 : fr.get 0 = .str s) (h1 : fr.get 1 = .int .u8 n) (h5 : fr.get 5 = v5) (h6 : fr.get 6 = v6) (h7 : fr.get 7 = .str []) (h8 : fr.get 8 = .int .i64 0) (hd : fr.defers = []) :
    ∃ o, exec U (.loop F_l05_LexAgain_l0) fr m0 = some o ∧ ∃ fr', o = .exit 0 fr' m0 ∧ fr'.get 0 = .str s ∧ fr'.get 5 = v5 ∧ fr'.get 6 = v6 ∧ fr'.get 7 = .str (blk (n.toNat % 7)) ∧ fr'.defers = [] := by
  refine loop_w (σ := Nat) (fun i fr m => m = m0 ∧ i ≤ n.toNat % 7 ∧ fr.get 0 = .str s ∧ fr.get 1 = .int .u8 n ∧ fr.get 5 = v5 ∧ fr.get 6 = v6 ∧ fr.get 7 = .str (blk i) ∧ fr.get 8 = .int .i64 (i : Int) ∧ fr.defers = []) (fun i => n.toNat % 7 - i) _ ?_ 0 fr m0 ⟨rfl, Nat.zero_le _, h0, h1, h5, h6, h7, h8, hd⟩
  rintro i fr m ⟨rfl, hi, h0, h1, h5, h6, h7, h8, hd⟩
  generalize hX : exec U F_l05_LexAgain_l0 fr m = X
  have hr := rem7 n hn0
  have hw : IntKind.i64.wrap n = n := wrap_i64 (by omega) (by omega)
  have hk7 : n.toNat % 7 < 7 := Nat.mod_lt _ (by decide)
  generalize n.toNat % 7 = k at *
  by_cases hlt : i < k
  · have hc : (i : Int) < (k : Int) := by omega
    have hw1 := wrap_succ (i := i) (by omega)
    have hb : evBin .add (.str (blk i)) (.str [9, 35, 120, 10]) = some (.str (blk (i + 1))) := bin_cat2 (by rw [blk_len]; simp; omega) rfl
    simp +contextual -implicitDefEqProofs (maxSteps := 1000000) (maxDischargeDepth := 8) only [F_l05_LexAgain_l0, h0, h1, h5, h6, h7, h8, hd, hr, hw, hc, hw1, hb, zz0, zz1, zz2, zz3, zz4, zz5, zz6, zz7, zz8, zz9, argsF, reduceIte, reduceCtorEq, Nat.reduceEqDiff, Nat.reduceBEq, Nat.reduceAdd, Int.reduceLT, Int.reduceLE, Int.reduceEq, Int.reduceToNat, Int.reduceNeg, Nat.reduceLeDiff, Int.reducePow, implies_true, UInt8.reduceToNat, Int.reduceSub, Int.reduceAdd, Nat.reduceLT, Nat.reduceMul, Nat.reduceSub, Nat.reduceBNe] at hX
    subst hX
    exact lw_norm (i + 1) (by omega) ⟨rfl, hlt, by simp only [h0, get_set', selE_t, selE_f, Nat.reduceBEq, set_defers, fr00_get, fr00_defers, put_some, put_none ], by simp only [h1, get_set', selE_t, selE_f, Nat.reduceBEq, set_defers, fr00_get, fr00_defers, put_some, put_none ], by simp only [h5, get_set', selE_t, selE_f, Nat.reduceBEq, set_defers, fr00_get, fr00_defers, put_some, put_none ], by simp only [h6, get_set', selE_t, selE_f, Nat.reduceBEq, set_defers, fr00_get, fr00_defers, put_some, put_none ], by simp only [get_set', selE_t, selE_f, Nat.reduceBEq, set_defers, fr00_get, fr00_defers, put_some, put_none ], by simp only [get_set', selE_t, selE_f, Nat.reduceBEq, set_defers, fr00_get, fr00_defers, put_some, put_none ], by simp only [hd, get_set', selE_t, selE_f, Nat.reduceBEq, set_defers, fr00_get, fr00_defers, put_some, put_none ]⟩
  · have hc : ¬ ((i : Int) < (k : Int)) := by omega
    obtain rfl : i = k := by omega
    simp +contextual -implicitDefEqProofs (maxSteps := 1000000) (maxDischargeDepth := 8) only [F_l05_LexAgain_l0, h0, h1, h5, h6, h7, h8, hd, hr, hw, hc, zz0, zz1, zz2, zz3, zz4, zz5, zz6, zz7, zz8, zz9, argsF, reduceIte, reduceCtorEq, Nat.reduceEqDiff, Nat.reduceBEq, Nat.reduceAdd, Int.reduceLT, Int.reduceLE, Int.reduceEq, Int.reduceToNat, Int.reduceNeg, Nat.reduceLeDiff, Int.reducePow, implies_true, UInt8.reduceToNat, Int.reduceSub, Int.reduceAdd, Nat.reduceLT, Nat.reduceMul, Nat.reduceSub, Nat.reduceBNe] at hX
    subst hX
    exact lw_exit ⟨_, rfl, by simp only [h0, get_set', selE_t, selE_f, Nat.reduceBEq, set_defers, fr00_get, fr00_defers, put_some, put_none ], by simp only [h5, get_set', selE_t, selE_f, Nat.reduceBEq, set_defers, fr00_get, fr00_defers, put_some, put_none ], by simp only [h6, get_set', selE_t, selE_f, Nat.reduceBEq, set_defers, fr00_get, fr00_defers, put_some, put_none ], by simp only [h7, get_set', selE_t, selE_f, Nat.reduceBEq, set_defers, fr00_get, fr00_defers, put_some, put_none ], by simp only [hd, get_set', selE_t, selE_f, Nat.reduceBEq, set_defers, fr00_get, fr00_defers, put_some, put_none ]⟩
theorem ag_l1 {l : List Tok} (hl : l.length < 1000000) (hj : (joinT l).length ≤ 100000) {tg : Nat} {v7 v9 : EV} {fr : Fr} {m0 : Mem} (h5 : fr.get 5 = .fz tg 4 (toks l)) (h7 : fr.get 7 = v7) (h9 : fr.get 9 = v9) (h11 : fr.get 11 = .str []) (h12 : fr.get 12 = .int .i64 0) (hd : fr.defers = []) :
    ∃ o, exec U (.loop F_l05_LexAgain_l1) fr m0 = some o ∧ ∃ fr', o = .exit 2 fr' m0 ∧ fr'.get 5 = .fz tg 4 (toks l) ∧ fr'.get 7 = v7 ∧ fr'.get 9 = v9 ∧ fr'.get 11 = .str (joinT l) ∧ fr'.defers = [] := by
  refine loop_w (σ := Nat) (fun i fr m => m = m0 ∧ i ≤ l.length ∧ fr.get 5 = .fz tg 4 (toks l) ∧ fr.get 7 = v7 ∧ fr.get 9 = v9 ∧ fr.get 11 = .str (joinT (l.take i)) ∧ fr.get 12 = .int .i64 (i : Int) ∧ fr.defers = []) (fun i => l.length - i) _ ?_ 0 fr m0 ⟨rfl, Nat.zero_le _, h5, h7, h9, h11, h12, hd⟩
  rintro i fr m ⟨rfl, hi, h5, h7, h9, h11, h12, hd⟩
  generalize hX : exec U F_l05_LexAgain_l1 fr m = X
  by_cases hlt : i < l.length
  · have hc : (i : Int) < (l.length : Int) := by omega
    have hw1 := wrap_succ (i := i) (by omega)
    have hg : l[i]? = some l[i] := List.getElem?_eq_getElem hlt
    have hb : joinT (l.take i) ++ l[i].text ++ [32] = joinT (l.take (i + 1)) := by rw [List.take_succ_eq_append_getElem hlt, joinT_snoc]
    have hbl : (joinT (l.take (i + 1))).length ≤ 100000 := by
      have e : joinT l = joinT (l.take (i + 1)) ++ joinT (l.drop (i + 1)) := by rw [← joinT_app, List.take_append_drop]
      rw [e, List.length_append] at hj; omega
    generalize l[i] = t at hg hb
    have hbl2 := hbl
    rw [← hb, List.length_append, List.length_append, List.length_singleton] at hbl2
    have hb1 : evBin .add (.str (joinT (l.take i))) (.str t.text) = some (.str (joinT (l.take i) ++ t.text)) := bin_cat2 (by omega) rfl
    have hb2 : evBin .add (.str (joinT (l.take i) ++ t.text)) (.str [32]) = some (.str (joinT (l.take (i + 1)))) := bin_cat2 (by rw [List.length_append, List.length_singleton]; omega) hb
    simp +contextual -implicitDefEqProofs (maxSteps := 1000000) (maxDischargeDepth := 8) only [F_l05_LexAgain_l1, h5, h7, h9, h11, h12, hd, hc, hg, hlt, hw1, hb1, hb2, idx_cast, toks_get, toks_len', Tok.cells, zz0, zz1, zz2, zz3, zz4, zz5, zz6, zz7, zz8, zz9, argsF, reduceIte, reduceCtorEq, Nat.reduceEqDiff, Nat.reduceBEq, Nat.reduceAdd, Int.reduceLT, Int.reduceLE, Int.reduceEq, Int.reduceToNat, Int.reduceNeg, Nat.reduceLeDiff, Int.reducePow, implies_true, UInt8.reduceToNat, Int.reduceSub, Int.reduceAdd, Nat.reduceLT, Nat.reduceMul, Nat.reduceSub, Nat.reduceBNe] at hX
    subst hX
    exact lw_norm (i + 1) (by omega) ⟨rfl, hlt, by simp only [h5, get_set', selE_t, selE_f, Nat.reduceBEq, set_defers, fr00_get, fr00_defers, put_some, put_none ], by simp only [h7, get_set', selE_t, selE_f, Nat.reduceBEq, set_defers, fr00_get, fr00_defers, put_some, put_none ], by simp only [h9, get_set', selE_t, selE_f, Nat.reduceBEq, set_defers, fr00_get, fr00_defers, put_some, put_none ], by simp only [get_set', selE_t, selE_f, Nat.reduceBEq, set_defers, fr00_get, fr00_defers, put_some, put_none ], by simp only [get_set', selE_t, selE_f, Nat.reduceBEq, set_defers, fr00_get, fr00_defers, put_some, put_none ], by simp only [hd, get_set', selE_t, selE_f, Nat.reduceBEq, set_defers, fr00_get, fr00_defers, put_some, put_none ]⟩
  · have hc : ¬ ((i : Int) < (l.length : Int)) := by omega
    obtain rfl : i = l.length := by omega
    simp +contextual -implicitDefEqProofs (maxSteps := 1000000) (maxDischargeDepth := 8) only [F_l05_LexAgain_l1, h5, h7, h9, h11, h12, hd, hc, toks_len', zz0, zz1, zz2, zz3, zz4, zz5, zz6, zz7, zz8, zz9, argsF, reduceIte, reduceCtorEq, Nat.reduceEqDiff, Nat.reduceBEq, Nat.reduceAdd, Int.reduceLT, Int.reduceLE, Int.reduceEq, Int.reduceToNat, Int.reduceNeg, Nat.reduceLeDiff, Int.reducePow, implies_true, UInt8.reduceToNat, Int.reduceSub, Int.reduceAdd, Nat.reduceLT, Nat.reduceMul, Nat.reduceSub, Nat.reduceBNe] at hX
    subst hX
    rw [List.take_length] at h11
    exact lw_exit ⟨_, rfl, by simp only [h5, get_set', selE_t, selE_f, Nat.reduceBEq, set_defers, fr00_get, fr00_defers, put_some, put_none ], by simp only [h7, get_set', selE_t, selE_f, Nat.reduceBEq, set_defers, fr00_get, fr00_defers, put_some, put_none ], by simp only [h9, get_set', selE_t, selE_f, Nat.reduceBEq, set_defers, fr00_get, fr00_defers, put_some, put_none ], by simp only [h11, get_set', selE_t, selE_f, Nat.reduceBEq, set_defers, fr00_get, fr00_defers, put_some, put_none ], by simp only [hd, get_set', selE_t, selE_f, Nat.reduceBEq, set_defers, fr00_get, fr00_defers, put_some, put_none ]⟩
theorem ag_l2 {l l' : List Tok} (hl : l.length < 1000000) (ha : ToksAs l l') {d : Txt} (hpos : ∀ t ∈ l, t.pos ≤ 400) (hdl : d.length ≤ 400) {ta tb tc : Nat} {fr : Fr} {m0 : Mem} (h5 : fr.get 5 = .fz ta 4 (toks l)) (h7 : fr.get 7 = .str d) (h9 : fr.get 9 = .fz tb 4 (toks (l.map (Tok.move d.length)))) (h13 : fr.get 13 = .fz tc 4 (toks l')) (h15 : fr.get 15 = .int .i64 0) (hd : fr.defers = []) :
    ∃ o, exec U (.loop F_l05_LexAgain_l2) fr m0 = some o ∧ ∃ fr' m', o = .exit 4 fr' m' ∧ fr'.defers = [] := by
  refine loop_w (σ := Nat) (fun i fr m => i ≤ l.length ∧ fr.get 5 = .fz ta 4 (toks l) ∧ fr.get 7 = .str d ∧ fr.get 9 = .fz tb 4 (toks (l.map (Tok.move d.length))) ∧ fr.get 13 = .fz tc 4 (toks l') ∧ fr.get 15 = .int .i64 (i : Int) ∧ fr.defers = []) (fun i => l.length - i) _ ?_ 0 fr m0 ⟨Nat.zero_le _, h5, h7, h9, h13, h15, hd⟩
  rintro i fr m ⟨hi, h5, h7, h9, h13, h15, hd⟩
  generalize hX : exec U F_l05_LexAgain_l2 fr m = X
  obtain ⟨ha1, ha2⟩ := ha
  by_cases hlt : i < l.length
  · have hc : (i : Int) < (l.length : Int) := by omega
    have hw1 := wrap_succ (i := i) (by omega)
    have hg : l[i]? = some l[i] := List.getElem?_eq_getElem hlt
    have hp := hpos _ (List.getElem_mem hlt)
    have hlt2 : i < l'.length := by omega
    obtain ⟨u, hu⟩ : ∃ u, l'[i]? = some u := ⟨_, List.getElem?_eq_getElem hlt2⟩
    generalize l[i] = t at hg hp
    obtain ⟨q1, q2, q3⟩ := ha2 i t u hg hu
    have hgm : (l.map (Tok.move d.length))[i]? = some (t.move d.length) := by rw [List.getElem?_map, hg]; rfl
    have hlm : (l.map (Tok.move d.length)).length = l.length := List.length_map ..
    have hw2 : IntKind.i64.wrap ((t.pos : Int) + (d.length : Int)) = ((t.pos + d.length : Nat) : Int) := by rw [wrap_i64 (by omega) (by omega)]; omega
    generalize l.map (Tok.move d.length) = lm at *
    simp +contextual -implicitDefEqProofs (maxSteps := 1000000) (maxDischargeDepth := 8) only [F_l05_LexAgain_l2, h5, h7, h9, h13, h15, hd, hc, hg, hu, hgm, hlm, hlt, hlt2, hw1, hw2, q1, q2, q3, idx_cast, toks_get, toks_len', Tok.cells, Tok.move, zz0, zz1, zz2, zz3, zz4, zz5, zz6, zz7, zz8, zz9, argsF, reduceIte, reduceCtorEq, Nat.reduceEqDiff, Nat.reduceBEq, Nat.reduceAdd, Int.reduceLT, Int.reduceLE, Int.reduceEq, Int.reduceToNat, Int.reduceNeg, Nat.reduceLeDiff, Int.reducePow, implies_true, UInt8.reduceToNat, Int.reduceSub, Int.reduceAdd, Nat.reduceLT, Nat.reduceMul, Nat.reduceSub, Nat.reduceBNe] at hX
    subst hX
    exact lw_norm (i + 1) (by omega) ⟨hlt, by simp only [h5, get_set', selE_t, selE_f, Nat.reduceBEq, set_defers, fr00_get, fr00_defers, put_some, put_none ], by simp only [h7, get_set', selE_t, selE_f, Nat.reduceBEq, set_defers, fr00_get, fr00_defers, put_some, put_none ], by simp only [h9, get_set', selE_t, selE_f, Nat.reduceBEq, set_defers, fr00_get, fr00_defers, put_some, put_none ], by simp only [h13, get_set', selE_t, selE_f, Nat.reduceBEq, set_defers, fr00_get, fr00_defers, put_some, put_none ], by simp only [get_set', selE_t, selE_f, Nat.reduceBEq, set_defers, fr00_get, fr00_defers, put_some, put_none ], by simp only [hd, get_set', selE_t, selE_f, Nat.reduceBEq, set_defers, fr00_get, fr00_defers, put_some, put_none ]⟩
  · have hc : ¬ ((i : Int) < (l.length : Int)) := by omega
    simp +contextual -implicitDefEqProofs (maxSteps := 1000000) (maxDischargeDepth := 8) only [F_l05_LexAgain_l2, h5, h7, h9, h13, h15, hd, hc, toks_len', zz0, zz1, zz2, zz3, zz4, zz5, zz6, zz7, zz8, zz9, argsF, reduceIte, reduceCtorEq, Nat.reduceEqDiff, Nat.reduceBEq, Nat.reduceAdd, Int.reduceLT, Int.reduceLE, Int.reduceEq, Int.reduceToNat, Int.reduceNeg, Nat.reduceLeDiff, Int.reducePow, implies_true, UInt8.reduceToNat, Int.reduceSub, Int.reduceAdd, Nat.reduceLT, Nat.reduceMul, Nat.reduceSub, Nat.reduceBNe] at hX
    subst hX
    exact lw_exit ⟨_, _, rfl, by simp only [hd, get_set', selE_t, selE_f, Nat.reduceBEq, set_defers, fr00_get, fr00_defers, put_some, put_none ]⟩
end Go.Proofs.YtfmokmbbfjbonaaDoor.Ev
end
section
namespace Go.Proofs.YtfmokmbbfjbonaaDoor.Ev
open Go
set_option linter.unusedSimpArgs false
set_option linter.unusedVariables false
set_option maxRecDepth 10000
set_option maxHeartbeats 4000000
theorem chain_pos {s : Txt} : ∀ (l : List Tok) (p q : Nat), Chain s p l q → ∀ t ∈ l, t.pos ≤ s.length
  | [], p, q, _, t, ht => by cases ht
  | a :: l, p, q, h, t, ht => by
    obtain ⟨c1, c2, c3, c4, c5⟩ := h
    rcases List.mem_cons.1 ht with rfl | ht
    · omega
    · exact chain_pos l _ _ c5 t ht
theorem lexAgain_law {s : Txt} {n : Int} (hn0 : 0 ≤ n) (hn1 : n < 256) : pureR B K n_l05_LexAgain [.str s, .int .u8 n] = some (.bool true) := by
  rw [pure_at (by simp [F_l05_LexAgain])]
  generalize hL0 : exec (UT B K) (ICode.loop F_l05_LexAgain_l0) = L0
  generalize hL1 : exec (UT B K) (ICode.loop F_l05_LexAgain_l1) = L1
  generalize hL2 : exec (UT B K) (ICode.loop F_l05_LexAgain_l2) = L2
  by_cases h3 : 300 < s.length
  · have hc : (300 : Int) < (s.length : Int) := by omega
    simp +contextual -implicitDefEqProofs (maxSteps := 1000000) (maxDischargeDepth := 8) only [F_l05_LexAgain, hc, run_works5, zz0, zz1, zz2, zz3, zz4, zz5, zz6, zz7, zz8, zz9, argsF, reduceIte, reduceCtorEq, Nat.reduceEqDiff, Nat.reduceBEq, Nat.reduceAdd, Int.reduceLT, Int.reduceLE, Int.reduceEq, Int.reduceToNat, Int.reduceNeg, Nat.reduceLeDiff, Int.reducePow, implies_true, UInt8.reduceToNat, Int.reduceSub, Int.reduceAdd, Nat.reduceLT, Nat.reduceMul, Nat.reduceSub, Nat.reduceBNe]
  · have hc : ¬ (300 : Int) < (s.length : Int) := by omega
    have ht := lex_tokens (s := s) (by omega)
    have hk6 : n.toNat % 7 ≤ 6 := by omega
    have hm := lex_tokens (s := blk (n.toNat % 7) ++ s) (by rw [List.length_append, blk_len]; omega)
    rw [lex_blk (by omega)] at hm
    cases hl : lexF s with
    | bad e q =>
      rw [hl] at ht hm
      unfold lexV at ht
      simp only [Res.moves, lexV] at hm
      have he : ¬ ((e : Int) = 0) := by have := lex_bad hl; omega
      have hq := lex_bad_at (by omega) hl
      have hw : IntKind.i64.wrap ((q : Int) + ((4 * (n.toNat % 7) : Nat) : Int)) = ((q + 4 * (n.toNat % 7) : Nat) : Int) := by rw [wrap_i64 (by omega) (by omega)]; omega
      simp +contextual -implicitDefEqProofs (maxSteps := 1000000) (maxDischargeDepth := 8) only [F_l05_LexAgain, hc, ht, run_works5, zz0, zz1, zz2, zz3, zz4, zz5, zz6, zz7, zz8, zz9, argsF, reduceIte, reduceCtorEq, Nat.reduceEqDiff, Nat.reduceBEq, Nat.reduceAdd, Int.reduceLT, Int.reduceLE, Int.reduceEq, Int.reduceToNat, Int.reduceNeg, Nat.reduceLeDiff, Int.reducePow, implies_true, UInt8.reduceToNat, Int.reduceSub, Int.reduceAdd, Nat.reduceLT, Nat.reduceMul, Nat.reduceSub, Nat.reduceBNe]
      subst hL0
      generalize hX : exec _ (.loop F_l05_LexAgain_l0) _ _ = X
      obtain ⟨o, rfl, fr', rfl, f0, f5, f6, f7, fd⟩ := looped hX (ag_l0 (s := s) hn0 hn1 (v5 := .nilslice) (v6 := .ptr (nb mem00.next 1) 0) (by simp only [get_set', selE_t, selE_f, Nat.reduceBEq, set_defers, fr00_get, fr00_defers, put_some, put_none ]) (by simp only [get_set', selE_t, selE_f, Nat.reduceBEq, set_defers, fr00_get, fr00_defers, put_some, put_none ]) (by simp only [get_set', selE_t, selE_f, Nat.reduceBEq, set_defers, fr00_get, fr00_defers, put_some, put_none ]) (by simp only [get_set', selE_t, selE_f, Nat.reduceBEq, set_defers, fr00_get, fr00_defers, put_some, put_none ]) (by simp only [get_set', selE_t, selE_f, Nat.reduceBEq, set_defers, fr00_get, fr00_defers, put_some, put_none ]) (by simp only [get_set', selE_t, selE_f, Nat.reduceBEq, set_defers, fr00_get, fr00_defers, put_some, put_none ]) (by simp only [get_set', selE_t, selE_f, Nat.reduceBEq, set_defers, fr00_get, fr00_defers, put_some, put_none ]))
      have hcat : evBin .add (.str (blk (n.toNat % 7))) (.str s) = some (.str (blk (n.toNat % 7) ++ s)) := bin_cat2 (by rw [blk_len]; omega) rfl
      have hbl : (blk (n.toNat % 7)).length = 4 * (n.toNat % 7) := blk_len _
      simp +contextual -implicitDefEqProofs (maxSteps := 1000000) (maxDischargeDepth := 8) only [f0, f5, f6, f7, fd, hcat, hm, he, hw, hbl, run_works5, zz0, zz1, zz2, zz3, zz4, zz5, zz6, zz7, zz8, zz9, argsF, reduceIte, reduceCtorEq, Nat.reduceEqDiff, Nat.reduceBEq, Nat.reduceAdd, Int.reduceLT, Int.reduceLE, Int.reduceEq, Int.reduceToNat, Int.reduceNeg, Nat.reduceLeDiff, Int.reducePow, implies_true, UInt8.reduceToNat, Int.reduceSub, Int.reduceAdd, Nat.reduceLT, Nat.reduceMul, Nat.reduceSub, Nat.reduceBNe]
    | ok l =>
      rw [hl] at ht hm
      simp only [Res.moves, lexV] at ht hm
      obtain ⟨j1, l', j2, j3⟩ := lex_join (by omega) hl
      obtain ⟨k1, k2, k3⟩ := lex_kinds hl
      have hk := lex_tokens (s := joinT l) (by omega)
      rw [j2] at hk
      simp only [lexV] at hk
      have hpos := chain_pos l _ _ (lex_chain hl)
      simp +contextual -implicitDefEqProofs (maxSteps := 1000000) (maxDischargeDepth := 8) only [F_l05_LexAgain, hc, ht, run_works5, zz0, zz1, zz2, zz3, zz4, zz5, zz6, zz7, zz8, zz9, argsF, reduceIte, reduceCtorEq, Nat.reduceEqDiff, Nat.reduceBEq, Nat.reduceAdd, Int.reduceLT, Int.reduceLE, Int.reduceEq, Int.reduceToNat, Int.reduceNeg, Nat.reduceLeDiff, Int.reducePow, implies_true, UInt8.reduceToNat, Int.reduceSub, Int.reduceAdd, Nat.reduceLT, Nat.reduceMul, Nat.reduceSub, Nat.reduceBNe]
      subst hL0
      generalize hX : exec _ (.loop F_l05_LexAgain_l0) _ _ = X
      obtain ⟨o, rfl, fr', rfl, f0, f5, f6, f7, fd⟩ := looped hX (ag_l0 (s := s) hn0 hn1 (v5 := .fz 0 4 (toks l)) (v6 := .ptr (nb mem00.next 1) 0) (by simp only [get_set', selE_t, selE_f, Nat.reduceBEq, set_defers, fr00_get, fr00_defers, put_some, put_none ]) (by simp only [get_set', selE_t, selE_f, Nat.reduceBEq, set_defers, fr00_get, fr00_defers, put_some, put_none ]) (by simp only [get_set', selE_t, selE_f, Nat.reduceBEq, set_defers, fr00_get, fr00_defers, put_some, put_none ]) (by simp only [get_set', selE_t, selE_f, Nat.reduceBEq, set_defers, fr00_get, fr00_defers, put_some, put_none ]) (by simp only [get_set', selE_t, selE_f, Nat.reduceBEq, set_defers, fr00_get, fr00_defers, put_some, put_none ]) (by simp only [get_set', selE_t, selE_f, Nat.reduceBEq, set_defers, fr00_get, fr00_defers, put_some, put_none ]) (by simp only [get_set', selE_t, selE_f, Nat.reduceBEq, set_defers, fr00_get, fr00_defers, put_some, put_none ]))
      clear hX
      have hcat : evBin .add (.str (blk (n.toNat % 7))) (.str s) = some (.str (blk (n.toNat % 7) ++ s)) := bin_cat2 (by rw [blk_len]; omega) rfl
      have hbl : (blk (n.toNat % 7)).length = 4 * (n.toNat % 7) := blk_len _
      simp +contextual -implicitDefEqProofs (maxSteps := 1000000) (maxDischargeDepth := 8) only [f0, f5, f6, f7, fd, hcat, hm, hbl, run_works5, zz0, zz1, zz2, zz3, zz4, zz5, zz6, zz7, zz8, zz9, argsF, reduceIte, reduceCtorEq, Nat.reduceEqDiff, Nat.reduceBEq, Nat.reduceAdd, Int.reduceLT, Int.reduceLE, Int.reduceEq, Int.reduceToNat, Int.reduceNeg, Nat.reduceLeDiff, Int.reducePow, implies_true, UInt8.reduceToNat, Int.reduceSub, Int.reduceAdd, Nat.reduceLT, Nat.reduceMul, Nat.reduceSub, Nat.reduceBNe]
      subst hL1
      generalize hX : exec _ (.loop F_l05_LexAgain_l1) _ _ = X
      obtain ⟨o, rfl, fr1, rfl, g5, g7, g9, g11, gd⟩ := looped hX (ag_l1 (l := l) (by omega) (by omega) (tg := 0) (v7 := .str (blk (n.toNat % 7))) (v9 := .fz 0 4 (toks (l.map (Tok.move (4 * (n.toNat % 7)))))) (by simp only [f5, get_set', selE_t, selE_f, Nat.reduceBEq, set_defers, fr00_get, fr00_defers, put_some, put_none ]) (by simp only [f7, get_set', selE_t, selE_f, Nat.reduceBEq, set_defers, fr00_get, fr00_defers, put_some, put_none ]) (by simp only [get_set', selE_t, selE_f, Nat.reduceBEq, set_defers, fr00_get, fr00_defers, put_some, put_none ]) (by simp only [get_set', selE_t, selE_f, Nat.reduceBEq, set_defers, fr00_get, fr00_defers, put_some, put_none ]) (by simp only [get_set', selE_t, selE_f, Nat.reduceBEq, set_defers, fr00_get, fr00_defers, put_some, put_none ]) (by simp only [fd, get_set', selE_t, selE_f, Nat.reduceBEq, set_defers, fr00_get, fr00_defers, put_some, put_none ]))
      clear hX
      have hl1 : (toks l').length = (toks l).length := by rw [toks_len', toks_len', j3.1]
      have hl2 : (toks (l.map (Tok.move (4 * (n.toNat % 7))))).length = (toks l).length := by rw [toks_len', toks_len', List.length_map]
      simp +contextual -implicitDefEqProofs (maxSteps := 1000000) (maxDischargeDepth := 8) only [g5, g7, g9, g11, gd, hk, hl1, hl2, run_works5, zz0, zz1, zz2, zz3, zz4, zz5, zz6, zz7, zz8, zz9, argsF, reduceIte, reduceCtorEq, Nat.reduceEqDiff, Nat.reduceBEq, Nat.reduceAdd, Int.reduceLT, Int.reduceLE, Int.reduceEq, Int.reduceToNat, Int.reduceNeg, Nat.reduceLeDiff, Int.reducePow, implies_true, UInt8.reduceToNat, Int.reduceSub, Int.reduceAdd, Nat.reduceLT, Nat.reduceMul, Nat.reduceSub, Nat.reduceBNe]
      subst hL2
      generalize hX : exec _ (.loop F_l05_LexAgain_l2) _ _ = X
      obtain ⟨o, rfl, fr2, m2, rfl, kd⟩ := looped hX (ag_l2 (l := l) (l' := l') (by omega) j3 (d := blk (n.toNat % 7)) (fun t ht => Nat.le_trans (hpos t ht) (by omega)) (by omega) (ta := 0) (tb := 0) (tc := 0) (by simp only [g5, get_set', selE_t, selE_f, Nat.reduceBEq, set_defers, fr00_get, fr00_defers, put_some, put_none ]) (by simp only [g7, get_set', selE_t, selE_f, Nat.reduceBEq, set_defers, fr00_get, fr00_defers, put_some, put_none ]) (by rw [hbl]; simp only [g9, get_set', selE_t, selE_f, Nat.reduceBEq, set_defers, fr00_get, fr00_defers, put_some, put_none ]) (by simp only [get_set', selE_t, selE_f, Nat.reduceBEq, set_defers, fr00_get, fr00_defers, put_some, put_none ]) (by simp only [get_set', selE_t, selE_f, Nat.reduceBEq, set_defers, fr00_get, fr00_defers, put_some, put_none ]) (by simp only [gd, get_set', selE_t, selE_f, Nat.reduceBEq, set_defers, fr00_get, fr00_defers, put_some, put_none ]))
      simp +contextual -implicitDefEqProofs (maxSteps := 1000000) (maxDischargeDepth := 8) only [kd, run_works5, zz0, zz1, zz2, zz3, zz4, zz5, zz6, zz7, zz8, zz9, argsF, reduceIte, reduceCtorEq, Nat.reduceEqDiff, Nat.reduceBEq, Nat.reduceAdd, Int.reduceLT, Int.reduceLE, Int.reduceEq, Int.reduceToNat, Int.reduceNeg, Nat.reduceLeDiff, Int.reducePow, implies_true, UInt8.reduceToNat, Int.reduceSub, Int.reduceAdd, Nat.reduceLT, Nat.reduceMul, Nat.reduceSub, Nat.reduceBNe]
end Go.Proofs.YtfmokmbbfjbonaaDoor.Ev
end
section
namespace Go.Proofs.YtfmokmbbfjbonaaDoor.Ev
open Go
/-- What stands in memory stands below its end. -/
def Stands (m : Mem) : Prop := ∀ b cs e t ro, m.get b = .cells cs e t ro → b < m.next
theorem in_live {n0 : Nat} {bs : List InB} (hl : ∀ p ∈ globs, p.1 < n0) : Stands (inMem n0 bs) := by
  intro b cs e t ro h
  refine Classical.byContradiction fun q => ?_
  have : (inMem n0 bs).next = n0 + bs.length := rfl
  rw [inMem_dead hl (by omega)] at h
  cases h
end Go.Proofs.YtfmokmbbfjbonaaDoor.Ev
end
section
namespace Go.Proofs.YtfmokmbbfjbonaaDoor.Ev
open Go Go.Deep
/-- A row of texts, asx the world holds it. -/
def GFact (w : World) (g : Nat) (l : List (List UInt8)) : Prop :=
  ∃ (arr : Array Value) (e : TypeId) (fz : Nat × Nat) (blk off cap : Nat) (arr2 : Array Value) (e2 : TypeId) (fz2 : Nat × Nat),
    w.heap[g]? = some (.cells arr e fz) ∧ arr.toList = [.slice (some ⟨blk, off, none⟩) l.length cap] ∧ l.length ≤ cap ∧
    w.heap[blk]? = some (.cells arr2 e2 fz2) ∧ off + l.length ≤ arr2.size ∧ ∀ (j : Nat) (s : List UInt8), l[j]? = some s → ∃ b, arr2[off + j]? = some (.string b) ∧ b.data.toList = s
theorem gfact_of {H : Type} {enc : TypeId × Value → H} {P : Program} {w : World} {base : Nat} {sp : Nat → Bool} {held : Bool} {g : Nat} {t e : TypeId} {name : String} {l : List (List UInt8)} {fuel : Nat} {p : List MemPlace} {cs : Array Value} {D : DataW H} (hne : l ≠ []) (hD : D = .slice (l.map fun s => .lit (.string s)) [])
    (hg : P.globalNamed name = some g) (ht : P.underlying t = some (.slice e)) (hc : P.cellsOf e = 1) (he : P.underlying e = some .string) (hv : w.var? P name = some cs)
    (hd : DataW.trod enc P w base sp held fuel t cs.toList = some (D, p)) : GFact w g l := by
  subst hD
  obtain ⟨a, cap, h1, h2, h3⟩ := open_row ht hc hd
  rw [List.length_map] at h1 h2
  have hcell : ∀ i s, l[i]? = some s → ∃ b, w.cell? (a.add i) = some (.string b) ∧ b.data.toList = s := by
    intro i s hs
    obtain ⟨v, n, q, hv1, hv2⟩ := h3 i (.lit (.string s)) (by rw [List.getElem?_map, hs]; rfl)
    obtain ⟨b, hb, hx, _⟩ := DataW.trod_string he hv2
    simp only [List.cons.injEq, and_true] at hb
    subst hb
    refine ⟨b, hv1, ?_⟩
    simp only [Prod.mk.injEq, DataW.lit.injEq, Lit.string.injEq] at hx
    exact hx.1.symm
  have hpos : 0 < l.length := List.length_pos_iff.2 hne
  obtain ⟨blk, off, arr2, e2, fz2, rfl, harr⟩ : ∃ blk off arr ty fz, a = ⟨blk, off, none⟩ ∧ w.heap[blk]? = some (.cells arr ty fz) := by
    obtain ⟨b, hv, _⟩ := hcell 0 l[0] (List.getElem?_eq_getElem hpos)
    have hv : w.cell? a = some (.string b) := hv
    obtain ⟨blk, off, spot⟩ := a
    unfold World.cell? at hv
    split at hv
    · rename_i c t z hh
      cases spot with
      | none => exact ⟨blk, off, c, t, z, rfl, hh⟩
      | some x => simp at hv
    · cases hv
  have hat : ∀ n, w.cell? ⟨blk, off + n, none⟩ = arr2[off + n]? := fun n => by unfold World.cell?; simp [harr]
  have hget : ∀ (j : Nat) (s : List UInt8), l[j]? = some s → ∃ b, arr2[off + j]? = some (.string b) ∧ b.data.toList = s := by
    intro j s hs
    obtain ⟨b, hb, hbs⟩ := hcell j s hs
    rw [lit_add, hat] at hb
    exact ⟨b, hb, hbs⟩
  have hle : off + l.length ≤ arr2.size := by
    obtain ⟨b, hb, _⟩ := hget (l.length - 1) _ (List.getElem?_eq_getElem (by omega))
    have := (Array.getElem?_eq_some_iff.1 hb).1
    omega
  unfold World.var? at hv
  rw [hg] at hv
  simp only [Option.bind_some] at hv
  split at hv
  · rename_i c t' z hh
    cases hv
    exact ⟨_, _, _, blk, off, cap, arr2, e2, fz2, hh, h1, h2, harr, hle, hget⟩
  · cases hv
def Back (w : World) (g : Nat) (l : List (List UInt8)) (B : InB) : Prop := B.cs = l.map .str ∧ B.esz = 1 ∧
  (∃ (arr : Array Value) (e : TypeId) (fz : Nat × Nat) (cap : Nat), w.heap[g]? = some (.cells arr e fz) ∧ arr.toList = [.slice (some ⟨B.blk, B.off, none⟩) l.length cap] ∧ l.length ≤ cap) ∧
  ∃ (arr : Array Value) (e : TypeId) (fz : Nat × Nat), w.heap[B.blk]? = some (.cells arr e fz) ∧ arr.size = B.total ∧ B.off + l.length ≤ B.total ∧ ∀ (j : Nat) (s : List UInt8), l[j]? = some s → ∃ b, arr[B.off + j]? = some (.string b) ∧ b.data.toList = s
theorem backs {w : World} : ∀ gs : List (Nat × List (List UInt8)), (∀ p ∈ gs, GFact w p.1 p.2) → ∃ bk : List InB, bk.length = gs.length ∧ ∀ (j g : Nat) (l : List (List UInt8)), gs[j]? = some (g, l) → ∃ B, bk[j]? = some B ∧ Back w g l B
  | [], _ => ⟨[], rfl, fun j g l h => by simp at h⟩
  | (g, l) :: gs, h => by
    obtain ⟨bk, h1, h2⟩ := backs gs fun p hp => h p (by simp [hp])
    obtain ⟨arr, e, fz, blk, off, cap, arr2, e2, fz2, a1, a2, a3, a4, a5, a6⟩ := h (g, l) (by simp)
    refine ⟨⟨blk, off, arr2.size, 1, l.map .str⟩ :: bk, by simp [h1], fun j g' l' hj => ?_⟩
    cases j with
    | zero =>
      simp only [List.getElem?_cons_zero, Option.some.injEq, Prod.mk.injEq] at hj
      obtain ⟨rfl, rfl⟩ := hj
      exact ⟨_, rfl, rfl, rfl, ⟨arr, e, fz, cap, a1, a2, a3⟩, arr2, e2, fz2, a4, rfl, a5, a6⟩
    | succ j => exact h2 j g' l' (by simpa using hj)
/-- All arguments, and the package variables, in a memory that is only read. -/
theorem args_card {w : World} {n0 : Nat} {shs : List Sh} {vs : List Value} (hg : ∀ p ∈ globs, GFact w p.1 p.2) (hl : ∀ p ∈ globs, p.1 < n0) (h : DecVs w n0 shs vs) :
    ∃ (bs : List InB) (es : List EV) (ds : List Dt), InOk w n0 bs ∧ GlobIn w n0 bs ∧ VRs (inRen n0 bs) es vs ∧ RepVs (inMem n0 bs) shs es ds := by
  obtain ⟨bk, hb1, hb2⟩ := backs globs hg
  obtain ⟨k, ds, h⟩ := h
  obtain ⟨es, bs, h1, h2⟩ := h bk.length
  obtain ⟨c1, c2, c3⟩ := h2 (bk ++ bs) (fun i _ => by rw [List.getElem?_append_right (by omega)]; congr 1; omega)
  refine ⟨bk ++ bs, es, ds, fun i B hB => ?_, ⟨hl, fun j g l hj => ?_⟩, c1, c3⟩
  · by_cases hi : i < bk.length
    · rw [List.getElem?_append_left hi] at hB
      obtain ⟨⟨g, l⟩, hgl⟩ : ∃ p, globs[i]? = some p := ⟨_, List.getElem?_eq_getElem (by omega)⟩
      obtain ⟨B', hB', q1, q2, q3, arr, e, fz, q4, q5, q6, q7⟩ := hb2 i g l hgl
      rw [hB] at hB'; cases hB'
      refine ⟨arr, e, fz, q4, q5, by rw [q1, List.length_map]; exact q6, fun j v hj => ?_⟩
      rw [q1, List.getElem?_map] at hj
      obtain ⟨s, hs, rfl⟩ := Option.map_eq_some_iff.1 hj
      obtain ⟨b, hb, rfl⟩ := q7 j s hs
      exact ⟨_, hb, .str _, rfl⟩
    · rw [List.getElem?_append_right (by omega)] at hB
      exact c2 _ B hB
  · obtain ⟨B, hB, q1, q2, ⟨arr, e, fz, cap, q3, q4, q5⟩, _⟩ := hb2 j g l hj
    have hlt := (List.getElem?_eq_some_iff.1 hB).1
    have hB' : (bk ++ bs)[j]? = some B := by rw [List.getElem?_append_left hlt]; exact hB
    have hsz : arr.size = 1 := by rw [← Array.length_toList, q4]; rfl
    exact ⟨⟨arr, e, fz, _, q3, hsz, by rw [← Array.getElem?_toList, q4]; rfl, in_slice hB' rfl rfl q5 fun _ => rfl, rfl⟩, B, hB', q1, q2⟩
theorem strs1_flat (l : List (List UInt8)) : (strs1 l).flatten = l.map .str := by
  induction l with
  | nil => rfl
  | cons s l ih => show (([EV.str s] :: strs1 l).flatten) = _; rw [List.flatten_cons, ih]; rfl
theorem glob_still {w : World} {n0 : Nat} {bs : List InB} (h : GlobIn w n0 bs) : GlobOk (still (inMem n0 bs)) := by
  intro g l hg
  have hf := gfind_glob (b := g) globs 0
  unfold glob at hg
  rw [hg] at hf
  obtain ⟨⟨p, l'⟩, hp, hl'⟩ := Option.map_eq_some_iff.1 hf
  simp only at hl'
  subst hl'
  have h2 := (gfind_at _ _ hp).2
  rw [Nat.sub_zero] at h2
  have hlt := h.1 _ (List.mem_of_getElem? h2)
  obtain ⟨_, B, hB, q1, q2⟩ := h.2 p g l' h2
  have m1 : (inMem n0 bs).get g = .cells [.slice (n0 + p) 0 l'.length none] 1 0 true := by rw [inMem_low hlt, hp]; rfl
  have m2 : (inMem n0 bs).get (n0 + p) = .cells (l'.map .str) 1 0 true := by rw [inMem_at hB, q1, q2]
  have hpl := (List.getElem?_eq_some_iff.1 hB).1
  have hn : (inMem n0 bs).next = n0 + bs.length := rfl
  have s1 : (still (inMem n0 bs)).sta g = some (.cells [.slice (n0 + p) 0 l'.length none] 1 0 true) := by
    show (if g < (inMem n0 bs).next then some ((inMem n0 bs).get g) else none) = _
    rw [if_pos (by rw [hn]; omega), m1]
  have s2 : (still (inMem n0 bs)).sta (n0 + p) = some (.cells (l'.map .str) 1 0 true) := by
    show (if n0 + p < (inMem n0 bs).next then some ((inMem n0 bs).get (n0 + p)) else none) = _
    rw [if_pos (by rw [hn]; omega), m2]
  have self : ∀ (θ : Tie) (x : List (List UInt8)), SVs θ (x.map .str) (x.map .str) := fun θ x => by
    induction x with
    | nil => exact .nil
    | cons s x ih => exact .cons (.str s) ih
  have hlen : (strs1 l').length = l'.length := by simp [strs1]
  refine .fptr (.mk (off := 0) s1 (by simp) (by simp) (.cons ?_ .nil)) (by simp) (by simp)
  have := SV.fz (θ := (still (inMem n0 bs)).low) (t := 0) (esz := 1) (els := strs1 l') (b := n0 + p) (off := 0) (cap := none) (.mk s2 (by simp [strs1]) (by simp [hlen]) (by
    rw [strs1_flat, List.drop_zero, hlen, Nat.mul_one, List.take_of_length_le (by simp)]; exact self _ l')) (.inl rfl) (fun c hc => by cases hc)
  rw [hlen] at this
  exact this
end Go.Proofs.YtfmokmbbfjbonaaDoor.Ev
end
section
namespace Go.Proofs.YtfmokmbbfjbonaaDoor.Ev
open Go
theorem lexAgain_run {m : Mem} {es : List EV} {ds : List Dt} (hm : Stands m) (hg : GlobOk (still m)) (h : RepVs m [.str, .int .u8] es ds) : ∃ m', run T n_l05_LexAgain es m = some (.ret (.bool true) m') := by
  obtain ⟨us, hu, hl⟩ := law_pure entB (f := n_l05_LexAgain) (F := F_l05_LexAgain) (HasF.has (T := B)) hm h rfl hg
  obtain ⟨e, d, es', ds', rfl, _, h1, hu⟩ := hu.one
  obtain ⟨e2, d2, es2, ds2, rfl, _, h2, hu⟩ := hu.one
  obtain rfl := hu.none
  obtain ⟨s, rfl, _⟩ := fz_str h1
  obtain ⟨n, rfl, hn⟩ := fz_int h2
  have hb := wf_u8 hn
  exact hl (lexAgain_law hb.1 hb.2)
end Go.Proofs.YtfmokmbbfjbonaaDoor.Ev
end
