/- WTr2, WTr3, WTr3b, PTr1, WTr4, PTr2, WTr5, EvLive, EvCard, WTw, PTx, WTx1, WTx2, WTx3, PAk, WTx4, WTx5, WTx6, EvNd, WTt, WAk2. -/
import Derived.LaidMore
import Derived.Lib.LaidTab
import Derived.Lib.ItoaNum
import Derived.Lib.Join
import Derived.Test.YtblcomejcahkdaaDoorMf
set_option linter.unusedSimpArgs false
set_option linter.unusedVariables false
set_option linter.unusedSectionVars false
section
namespace Go.Proofs.YtblcomejcahkdaaDoor.Ev
open Go
set_option maxRecDepth 20000
set_option maxHeartbeats 8000000
structure KRow where
  word : Txt
  name : Bool
  low : Int
  high : Int
  more : Int
  sort : Int
  kids : List Int
  maybe : Bool
def zeroR : KRow := ⟨[], false, 0, 0, 0, 0, [], false⟩
def rowsL : List KRow := [⟨[], false, 0, 9223372036854775807, 0, 0, [], false⟩, ⟨[], false, 0, 1, 0, 0, [], false⟩, ⟨[110, 105, 108], false, 0, 0, 0, 0, [], false⟩, ⟨[], true, 0, 0, 0, 0, [], false⟩,
  ⟨[], false, 1, 16, 0, 0, [0, 0], false⟩, ⟨[110, 101, 103], false, 0, 0, 0, 0, [0], false⟩, ⟨[110, 111, 116], false, 0, 0, 0, 0, [0], false⟩, ⟨[97, 116], false, 0, 0, 0, 0, [0, 0], false⟩,
  ⟨[108, 101, 110], false, 0, 0, 0, 0, [0], false⟩, ⟨[110, 101, 119], false, 0, 0, 0, 0, [0], false⟩, ⟨[99, 97, 108, 108], true, 0, 0, 8, 0, [], false⟩, ⟨[118, 97, 114], true, 0, 0, 0, 0, [0], false⟩,
  ⟨[115, 101, 116], true, 0, 0, 0, 0, [0], false⟩, ⟨[112, 117, 116], true, 0, 0, 0, 0, [0, 0], false⟩, ⟨[105, 102], false, 0, 0, 0, 0, [0, 2, 2], true⟩, ⟨[119, 104, 105, 108, 101], false, 0, 0, 0, 0, [0, 2], false⟩,
  ⟨[102, 111, 114], true, 0, 0, 0, 0, [0, 0, 2], false⟩, ⟨[98, 114, 101, 97, 107], false, 0, 0, 0, 0, [], false⟩, ⟨[99, 111, 110, 116, 105, 110, 117, 101], false, 0, 0, 0, 0, [], false⟩, ⟨[114, 101, 116, 117, 114, 110], false, 0, 0, 0, 0, [0], false⟩,
  ⟨[112, 114, 105, 110, 116], false, 0, 0, 0, 0, [0], false⟩, ⟨[100, 111], false, 0, 0, 0, 0, [3], false⟩, ⟨[98, 108, 111, 99, 107], false, 0, 0, 4611686018427387904, 1, [], false⟩, ⟨[], true, 1, 3, 0, 0, [], false⟩,
  ⟨[102, 110], true, 1, 3, 8, 4, [2], false⟩, ⟨[112, 114, 111, 103], false, 0, 0, 200, 5, [], false⟩]
def rowF (k : Int) : KRow := if 1 ≤ k ∧ k ≤ 26 then rowsL.getD (k - 1).toNat zeroR else zeroR
def KRow.cellsB (r : KRow) : List EV := [.str r.word, .bool r.name, .int .i64 r.low, .int .i64 r.high, .int .i64 r.more, .int .i64 r.sort, row r.kids.isEmpty 0 1 (ints r.kids), .bool r.maybe]
noncomputable def KRow.cells (r : KRow) : List EV := [.str r.word, bo (r.name = true), .int .i64 r.low, .int .i64 r.high, .int .i64 r.more, .int .i64 r.sort, row r.kids.isEmpty 0 1 (ints r.kids), bo (r.maybe = true)]
theorem bool_bo (b : Bool) : EV.bool b = bo (b = true) := by cases b <;> simp [bo]
theorem KRow.cells_eq (r : KRow) : r.cellsB = r.cells := by unfold KRow.cellsB KRow.cells; rw [bool_bo r.name, bool_bo r.maybe]
theorem rows_in (n : Nat) (h : n < 26) : pureR B K n_tree_rows [.int .i64 ((n : Int) + 1)] = some (.tuple [.agg (rowsL.getD n zeroR).cellsB, .bool true]) := by
  have hc : n = 0 ∨ n = 1 ∨ n = 2 ∨ n = 3 ∨ n = 4 ∨ n = 5 ∨ n = 6 ∨ n = 7 ∨ n = 8 ∨ n = 9 ∨ n = 10 ∨ n = 11 ∨ n = 12 ∨ n = 13 ∨ n = 14 ∨ n = 15 ∨ n = 16 ∨ n = 17 ∨ n = 18 ∨ n = 19 ∨ n = 20 ∨ n = 21 ∨ n = 22 ∨ n = 23 ∨ n = 24 ∨ n = 25 := by omega
  rcases hc with rfl | rfl | rfl | rfl | rfl | rfl | rfl | rfl | rfl | rfl | rfl | rfl | rfl | rfl | rfl | rfl | rfl | rfl | rfl | rfl | rfl | rfl | rfl | rfl | rfl | rfl
  all_goals exact pure_closed 10 fun call => by kernel_rfl
def ICode.fst : ICode → ICode
  | .seq a _ => a
  | c => c
def ICode.snd : ICode → ICode
  | .seq _ b => b
  | c => c
theorem exec_assoc {T : Nat → Option Ent} {a b c : ICode} {fr : Fr} {m : Mem} : exec T (.seq a (.seq b c)) fr m = thenE (exec T (.seq a b) fr m) (exec T c) := by
  rw [exec_seq, exec_seq]
  cases exec T a fr m with
  | none => rfl
  | some o =>
    cases o with
    | norm fr m => simp only [thenE]; rw [exec_seq]; rfl
    | exit id fr m => rfl
    | ret fr m => rfl
    | pan v fr m => rfl
def lookR (o : Option Out) : Option (EV × EV × Blk × List (Nat × List EV)) := match o with
  | some (.norm fr m) => some (fr.get 0, fr.get 2, m.get 0, fr.defers)
  | _ => none
theorem lookR_inv {o : Option Out} {a b : EV} {c : Blk} {d : List (Nat × List EV)} (h : lookR o = some (a, b, c, d)) : ∃ fr m, o = some (.norm fr m) ∧ fr.get 0 = a ∧ fr.get 2 = b ∧ m.get 0 = c ∧ fr.defers = d := by
  unfold lookR at h
  split at h
  · simp only [Option.some.injEq, Prod.mk.injEq] at h
    exact ⟨_, _, rfl, h.1, h.2.1, h.2.2.1, h.2.2.2⟩
  · cases h
theorem rows_head (k : Int) (call : Call) : lookR (evCode call 0 (.seq F_tree_rows.body.fst F_tree_rows.body.snd.fst) (argsF [.int .i64 k] 0 fr00) mem00) = some (.int .i64 k, .ptr 0 0, .cells zeroR.cellsB 8 t_tree_row false, []) := by kernel_rfl
theorem rows_body : F_tree_rows.body = .seq F_tree_rows.body.fst (.seq F_tree_rows.body.snd.fst F_tree_rows.body.snd.snd) := rfl
theorem rows_out {k : Int} (h : ¬ (1 ≤ k ∧ k ≤ 26)) : pureR B K n_tree_rows [.int .i64 k] = some (.tuple [.agg zeroR.cellsB, .bool false]) := by
  rw [pure_at (by simp [F_tree_rows]), rows_body, exec_assoc]
  obtain ⟨fr, m, h1, g0, g2, gm, gd⟩ := lookR_inv (rows_head k (evFun (UT B K) 0))
  rw [exec_iff.2 ⟨0, h1⟩]
  by_cases a : k < 1
  · simp +contextual -implicitDefEqProofs (maxSteps := 1000000) (maxDischargeDepth := 8) only [F_tree_rows, ICode.snd, g0, g2, gm, gd, zeroR, KRow.cellsB, List.isEmpty_nil, a, zza, argsF, reduceIte, reduceCtorEq, Nat.reduceEqDiff, Nat.reduceBEq, Nat.reduceAdd, Int.reduceLT, Int.reduceLE, Int.reduceEq, Int.reduceToNat, Int.reduceNeg, Nat.reduceLeDiff, Int.reducePow, implies_true, UInt8.reduceToNat, Int.reduceSub, Int.reduceAdd, Nat.reduceLT, Nat.reduceMul, Nat.reduceSub, Nat.reduceBNe]
    rfl
  · have b : 27 ≤ k := by omega
    simp +contextual -implicitDefEqProofs (maxSteps := 1000000) (maxDischargeDepth := 8) only [F_tree_rows, ICode.snd, g0, g2, gm, gd, zeroR, KRow.cellsB, List.isEmpty_nil, a, b, zza, argsF, reduceIte, reduceCtorEq, Nat.reduceEqDiff, Nat.reduceBEq, Nat.reduceAdd, Int.reduceLT, Int.reduceLE, Int.reduceEq, Int.reduceToNat, Int.reduceNeg, Nat.reduceLeDiff, Int.reducePow, implies_true, UInt8.reduceToNat, Int.reduceSub, Int.reduceAdd, Nat.reduceLT, Nat.reduceMul, Nat.reduceSub, Nat.reduceBNe]
    rfl
theorem tree_rows {k : Int} : pureR B K n_tree_rows [.int .i64 k] = some (.tuple [.agg (rowF k).cells, bo (1 ≤ k ∧ k ≤ 26)]) := by
  by_cases h : 1 ≤ k ∧ k ≤ 26
  · obtain ⟨n, rfl⟩ : ∃ n : Nat, k = (n : Int) + 1 := ⟨(k - 1).toNat, by omega⟩
    rw [rows_in n (by omega), KRow.cells_eq, show rowF ((n : Int) + 1) = rowsL.getD n zeroR by unfold rowF; rw [if_pos h, show ((n : Int) + 1 - 1).toNat = n by omega], ← tt_bo h]
  · rw [rows_out h, KRow.cells_eq, show rowF k = zeroR by unfold rowF; rw [if_neg h], ← ff_bo h]
end Go.Proofs.YtblcomejcahkdaaDoor.Ev
end
section
namespace Go.Proofs.YtblcomejcahkdaaDoor.Ev
open Go
set_option maxRecDepth 20000
set_option maxHeartbeats 8000000
def lastN (r : KRow) (k : List Int) : Nat := if 0 < r.more then k.length - r.kids.length else 0
def sortsP (l : List Nd) (ks : List Int) (ss : List Int) : Prop := ∀ (i : Nat) (x s : Int), ks[i]? = some x → ss[i]? = some s → sortP (kindOf l x) s
def hasP (l : List Nd) (d : Nd) : Prop :=
  let r := rowF d.kind
  (1 ≤ d.kind ∧ d.kind ≤ 26) ∧ 0 ≤ d.pos ∧ r.low ≤ d.n ∧ d.n ≤ r.high ∧ (r.name = true ↔ d.s ≠ []) ∧ (r.name = true → nameP d.s) ∧
  (∀ x ∈ d.kids.take (lastN r d.kids), sortP (kindOf l x) r.sort) ∧ (0 < r.more → (lastN r d.kids : Int) ≤ r.more) ∧
  ((d.kids.drop (lastN r d.kids)).length = r.kids.length ∨ r.maybe = true ∧ (d.kids.drop (lastN r d.kids)).length + 1 = r.kids.length) ∧
  sortsP l (d.kids.drop (lastN r d.kids)) r.kids
def SameM (m0 m : Mem) : Prop := m0.next ≤ m.next ∧ ∀ b, m.get b = m0.get b
theorem SameM.refl (m : Mem) : SameM m m := ⟨Nat.le_refl _, fun _ => rfl⟩
theorem SameM.bump {m0 m : Mem} (h : SameM m0 m) (k : Nat) : SameM m0 (Ev.bump m k) := ⟨by rw [next_bump]; have := h.1; unfold nb; omega, fun b => by rw [get_bump]; exact h.2 b⟩
theorem has_l0 {l : List Nd} {r : KRow} {k : List Int} {t1 t2 b5 ty : Nat} {nl1 nl2 : Bool} {v7 v8 : EV} (hv : validK l k) (hl : k.length < 1000000000) {m0 : Mem} (hb5 : m0.get b5 = .cells r.cells 8 ty false) {fr : Fr} (h0 : fr.get 0 = row nl1 t1 5 (nds l)) (h5 : fr.get 5 = .ptr b5 0) (h7 : fr.get 7 = v7) (h8 : fr.get 8 = v8) (h72 : fr.get 72 = row nl2 t2 1 (ints k)) (h73 : fr.get 73 = .int .i64 (k.length : Int)) (h74 : fr.get 74 = .int .i64 0) (hd : fr.defers = []) :
    ∃ o, exec U (.loop F_tree_has_l0) fr m0 = some o ∧ ((¬ (∀ x ∈ k, sortP (kindOf l x) r.sort) ∧ ∃ fr' m', o = .ret fr' m' ∧ fr'.get 4 = .bool false ∧ fr'.defers = []) ∨ ((∀ x ∈ k, sortP (kindOf l x) r.sort) ∧ ∃ fr' m', o = .exit 0 fr' m' ∧ SameM m0 m' ∧ fr'.get 0 = row nl1 t1 5 (nds l) ∧ fr'.get 5 = .ptr b5 0 ∧ fr'.get 7 = v7 ∧ fr'.get 8 = v8 ∧ fr'.defers = [])) := by
  refine loop_w (σ := Nat) (fun i fr m => SameM m0 m ∧ i ≤ k.length ∧ (∀ x ∈ k.take i, sortP (kindOf l x) r.sort) ∧ fr.get 0 = row nl1 t1 5 (nds l) ∧ fr.get 5 = .ptr b5 0 ∧ fr.get 7 = v7 ∧ fr.get 8 = v8 ∧ fr.get 72 = row nl2 t2 1 (ints k) ∧ fr.get 73 = .int .i64 (k.length : Int) ∧ fr.get 74 = .int .i64 (i : Int) ∧ fr.defers = []) (fun i => k.length - i) _ ?_ 0 fr m0 ⟨.refl _, Nat.zero_le _, by simp, h0, h5, h7, h8, h72, h73, h74, hd⟩
  rintro i fr m ⟨hm, hi, hn, h0, h5, h7, h8, h72, h73, h74, hd⟩
  replace hb5 := (hm.2 b5).trans hb5
  generalize hX : exec U F_tree_has_l0 fr m = X
  by_cases hlk : i < k.length
  · have hc : (i : Int) < (k.length : Int) := by omega
    have hg : k[i]? = some k[i] := List.getElem?_eq_getElem hlk
    obtain ⟨x0, x1⟩ := hv k[i] (List.getElem_mem hlk)
    obtain ⟨d, hd1, hd2⟩ := node_at x0 x1
    have hix := idx_int (k := .i64) x0 x1
    have hw1 := wrap_succ (i := i) (by omega)
    simp +contextual -implicitDefEqProofs (maxSteps := 1000000) (maxDischargeDepth := 8) only [F_tree_has_l0, h0, h5, h7, h8, h72, h73, h74, hd, hc, hg, hlk, hw1, hb5, KRow.cells, idx_cast, ints_get, ints_len, nds_get, nds_len, hix, hd1, Nd.cells, tree_is, zza, argsF, reduceIte, reduceCtorEq, Nat.reduceEqDiff, Nat.reduceBEq, Nat.reduceAdd, Int.reduceLT, Int.reduceLE, Int.reduceEq, Int.reduceToNat, Int.reduceNeg, Nat.reduceLeDiff, Int.reducePow, implies_true, UInt8.reduceToNat, Int.reduceSub, Int.reduceAdd, Nat.reduceLT, Nat.reduceMul, Nat.reduceSub, Nat.reduceBNe] at hX
    subst hX
    refine lw_iF (fun he => lw_ret (Or.inl ⟨fun q => he ?_, _, _, rfl, by simp only [zzf, Nat.reduceBEq ], by simp only [hd, zzf, Nat.reduceBEq ]⟩)) (fun he => lw_norm (i + 1) (by omega) ⟨hm.bump _, hlk, ?_, by simp only [h0, zzf, Nat.reduceBEq ], by simp only [h5, zzf, Nat.reduceBEq ], by simp only [h7, zzf, Nat.reduceBEq ], by simp only [h8, zzf, Nat.reduceBEq ], by simp only [h72, zzf, Nat.reduceBEq ], by simp only [h73, zzf, Nat.reduceBEq ], by simp only [zzf, Nat.reduceBEq ], by simp only [hd, zzf, Nat.reduceBEq ]⟩)
    · rw [← hd2]; exact q _ (List.getElem_mem hlk)
    · intro x hx
      rw [List.take_succ_eq_append_getElem hlk, List.mem_append] at hx
      rcases hx with hx | hx
      · exact hn x hx
      · rw [List.mem_singleton.1 hx, hd2]; exact Classical.not_not.1 he
  · have hc : ¬ ((i : Int) < (k.length : Int)) := by omega
    rw [List.take_of_length_le (by omega)] at hn
    simp +contextual -implicitDefEqProofs (maxSteps := 1000000) (maxDischargeDepth := 8) only [F_tree_has_l0, h0, h5, h7, h8, h72, h73, h74, hd, hc, zza, argsF, reduceIte, reduceCtorEq, Nat.reduceEqDiff, Nat.reduceBEq, Nat.reduceAdd, Int.reduceLT, Int.reduceLE, Int.reduceEq, Int.reduceToNat, Int.reduceNeg, Nat.reduceLeDiff, Int.reducePow, implies_true, UInt8.reduceToNat, Int.reduceSub, Int.reduceAdd, Nat.reduceLT, Nat.reduceMul, Nat.reduceSub, Nat.reduceBNe] at hX
    subst hX
    exact lw_exit (Or.inr ⟨hn, _, _, rfl, hm, by simp only [h0, zzf, Nat.reduceBEq ], by simp only [h5, zzf, Nat.reduceBEq ], by simp only [h7, zzf, Nat.reduceBEq ], by simp only [h8, zzf, Nat.reduceBEq ], by simp only [hd, zzf, Nat.reduceBEq ]⟩)
theorem has_l1 {l : List Nd} {r : KRow} {k : List Int} {t1 t2 b5 ty : Nat} {nl1 nl2 : Bool} (hv : validK l k) (hkl : k.length ≤ r.kids.length) (hl : k.length < 1000000000) {m0 : Mem} (hb5 : m0.get b5 = .cells r.cells 8 ty false) {fr : Fr} (h0 : fr.get 0 = row nl1 t1 5 (nds l)) (h5 : fr.get 5 = .ptr b5 0) (h115 : fr.get 115 = row nl2 t2 1 (ints k)) (h116 : fr.get 116 = .int .i64 (k.length : Int)) (h117 : fr.get 117 = .int .i64 0) (hd : fr.defers = []) :
    ∃ o, exec U (.loop F_tree_has_l1) fr m0 = some o ∧ ((¬ sortsP l k r.kids ∧ ∃ fr' m', o = .ret fr' m' ∧ fr'.get 4 = .bool false ∧ fr'.defers = []) ∨ (sortsP l k r.kids ∧ ∃ fr' m', o = .exit 2 fr' m' ∧ SameM m0 m' ∧ fr'.defers = [])) := by
  refine loop_w (σ := Nat) (fun i fr m => SameM m0 m ∧ i ≤ k.length ∧ sortsP l (k.take i) r.kids ∧ fr.get 0 = row nl1 t1 5 (nds l) ∧ fr.get 5 = .ptr b5 0 ∧ fr.get 115 = row nl2 t2 1 (ints k) ∧ fr.get 116 = .int .i64 (k.length : Int) ∧ fr.get 117 = .int .i64 (i : Int) ∧ fr.defers = []) (fun i => k.length - i) _ ?_ 0 fr m0 ⟨.refl _, Nat.zero_le _, fun i x s h => by simp at h, h0, h5, h115, h116, h117, hd⟩
  rintro i fr m ⟨hm, hi, hn, h0, h5, h115, h116, h117, hd⟩
  replace hb5 := (hm.2 b5).trans hb5
  generalize hX : exec U F_tree_has_l1 fr m = X
  by_cases hlk : i < k.length
  · have hc : (i : Int) < (k.length : Int) := by omega
    have hg : k[i]? = some k[i] := List.getElem?_eq_getElem hlk
    have hlr : i < r.kids.length := by omega
    have hgr : r.kids[i]? = some r.kids[i] := List.getElem?_eq_getElem hlr
    obtain ⟨x0, x1⟩ := hv k[i] (List.getElem_mem hlk)
    obtain ⟨d, hd1, hd2⟩ := node_at x0 x1
    have hix := idx_int (k := .i64) x0 x1
    have hw1 := wrap_succ (i := i) (by omega)
    have hr0 : ∀ y, idx r.kids.length (.int .i64 (i : Int)) = some y ↔ i = y := fun y => by rw [idx_cast hlr]; simp
    simp +contextual -implicitDefEqProofs (maxSteps := 1000000) (maxDischargeDepth := 8) only [F_tree_has_l1, h0, h5, h115, h116, h117, hd, hc, hg, hgr, hlk, hlr, hw1, hb5, KRow.cells, idx_cast, ints_get, ints_len, nds_get, nds_len, hix, hd1, Nd.cells, tree_is, zza, argsF, reduceIte, reduceCtorEq, Nat.reduceEqDiff, Nat.reduceBEq, Nat.reduceAdd, Int.reduceLT, Int.reduceLE, Int.reduceEq, Int.reduceToNat, Int.reduceNeg, Nat.reduceLeDiff, Int.reducePow, implies_true, UInt8.reduceToNat, Int.reduceSub, Int.reduceAdd, Nat.reduceLT, Nat.reduceMul, Nat.reduceSub, Nat.reduceBNe] at hX
    subst hX
    refine lw_iF (fun he => lw_ret (Or.inl ⟨fun q => he ?_, _, _, rfl, by simp only [zzf, Nat.reduceBEq ], by simp only [hd, zzf, Nat.reduceBEq ]⟩)) (fun he => lw_norm (i + 1) (by omega) ⟨hm.bump _, hlk, ?_, by simp only [h0, zzf, Nat.reduceBEq ], by simp only [h5, zzf, Nat.reduceBEq ], by simp only [h115, zzf, Nat.reduceBEq ], by simp only [h116, zzf, Nat.reduceBEq ], by simp only [zzf, Nat.reduceBEq ], by simp only [hd, zzf, Nat.reduceBEq ]⟩)
    · rw [← hd2]; exact q i _ _ hg hgr
    · intro j x s hj hs
      rw [List.getElem?_take] at hj
      split at hj
      · rename_i hji
        by_cases hij : j < i
        · exact hn j x s (by rw [List.getElem?_take, if_pos hij]; exact hj) hs
        · obtain rfl : j = i := by omega
          rw [hg] at hj; rw [hgr] at hs
          cases hj; cases hs
          rw [hd2]; exact Classical.not_not.1 he
      · cases hj
  · have hc : ¬ ((i : Int) < (k.length : Int)) := by omega
    rw [List.take_of_length_le (by omega)] at hn
    simp +contextual -implicitDefEqProofs (maxSteps := 1000000) (maxDischargeDepth := 8) only [F_tree_has_l1, h0, h5, h115, h116, h117, hd, hc, zza, argsF, reduceIte, reduceCtorEq, Nat.reduceEqDiff, Nat.reduceBEq, Nat.reduceAdd, Int.reduceLT, Int.reduceLE, Int.reduceEq, Int.reduceToNat, Int.reduceNeg, Nat.reduceLeDiff, Int.reducePow, implies_true, UInt8.reduceToNat, Int.reduceSub, Int.reduceAdd, Nat.reduceLT, Nat.reduceMul, Nat.reduceSub, Nat.reduceBNe] at hX
    subst hX
    exact lw_exit (Or.inr ⟨hn, _, _, rfl, hm, by simp only [hd, zzf, Nat.reduceBEq ]⟩)
end Go.Proofs.YtblcomejcahkdaaDoor.Ev
end
section
namespace Go.Proofs.YtblcomejcahkdaaDoor.Ev
open Go
set_option maxRecDepth 20000
set_option maxHeartbeats 8000000
theorem ifO_split {p : Prop} {a b v : Option EV} (h1 : p → a = v) (h2 : ¬ p → b = v) : ifO p a b = v := by
  by_cases h : p
  · rw [ifO_pos h]; exact h1 h
  · rw [ifO_neg h]; exact h2 h
theorem rows_small (k : Int) : (rowF k).kids.length ≤ 3 := by
  unfold rowF
  split
  · have : ∀ n : Nat, n < 26 → ((rowsL.getD n zeroR).kids.length ≤ 3) := by decide
    exact this _ (by omega)
  · decide
theorem max0 {n : Nat} {m : Nat} (h : n < 1000000000) (h2 : m ≤ 3) : evMax [.int .i64 0, .int .i64 (IntKind.i64.wrap ((n : Int) - (m : Int)))] = some (.int .i64 ((n - m : Nat) : Int)) := by
  rw [wrap_i64 (by omega) (by omega)]
  simp only [evMax, maxFrom, Nat.beq_refl, cond_true]
  congr 2
  split <;> omega
theorem hasP_iff {l : List Nd} {kind n pos : Int} {kids : List Int} {nl : Bool} {s : Txt} {r : KRow} {n0 : Nat} (hr : rowF kind = r) (hn : lastN r kids = n0) : hasP l ⟨kind, kids, nl, n, s, pos⟩ ↔ ((1 ≤ kind ∧ kind ≤ 26) ∧ 0 ≤ pos ∧ r.low ≤ n ∧ n ≤ r.high ∧ (r.name = true ↔ s ≠ []) ∧ (r.name = true → nameP s) ∧
  (∀ x ∈ kids.take n0, sortP (kindOf l x) r.sort) ∧ (0 < r.more → (n0 : Int) ≤ r.more) ∧ ((kids.drop n0).length = r.kids.length ∨ r.maybe = true ∧ (kids.drop n0).length + 1 = r.kids.length) ∧ sortsP l (kids.drop n0) r.kids) := by
  subst hr hn; exact Iff.rfl
theorem tree_has {l : List Nd} {d : Nd} {t1 : Nat} {nl1 : Bool} (hv : validK l d.kids) (hl : d.kids.length < 1000000000) (hs : d.s.length < 1000000000) : pureR B K n_tree_has [row nl1 t1 5 (nds l), .agg d.cells] = some (bo (hasP l d)) := by
  rw [pure_at (by simp [F_tree_has])]
  generalize hL0 : exec (UT B K) (ICode.loop F_tree_has_l0) = L0
  generalize hL1 : exec (UT B K) (ICode.loop F_tree_has_l1) = L1
  have hrow := tree_rows (k := d.kind)
  have hnm := tree_name hs
  have hr3 := rows_small d.kind
  obtain ⟨kind, kids, nl, n, s, pos⟩ := d
  simp only at hv hl hs hrow hnm hr3
  generalize hr : rowF kind = r at *
  generalize hn0 : lastN r kids = n0 at *
  have hP := hasP_iff (l := l) (kind := kind) (n := n) (pos := pos) (kids := kids) (nl := nl) (s := s) hr hn0
  have hmx := max0 hl hr3
  have hvt : validK l (kids.take n0) := fun x hx => hv x (List.mem_of_mem_take hx)
  have hvd : validK l (kids.drop n0) := fun x hx => hv x (List.mem_of_mem_drop hx)
  have hw3 : IntKind.i64.wrap ((r.kids.length : Int) - 1) = (r.kids.length : Int) - 1 := wrap_i64 (by omega) (by omega)
  have e1 : (((kids.drop n0).length : Int) = (r.kids.length : Int)) = ((kids.drop n0).length = r.kids.length) := propext (by omega)
  have e2 : (((kids.drop n0).length : Int) = (r.kids.length : Int) - 1) = ((kids.drop n0).length + 1 = r.kids.length) := propext (by omega)
  have e3 : ((kids.length : Int) = (r.kids.length : Int)) = (kids.length = r.kids.length) := propext (by omega)
  have e4 : ((kids.length : Int) = (r.kids.length : Int) - 1) = (kids.length + 1 = r.kids.length) := propext (by omega)
  have fin : ∀ {fr : Fr} {m : Mem} {b5 : Nat} {nl2 : Bool} {t2 ty : Nat}, m.get b5 = .cells r.cells 8 ty false → fr.get 0 = row nl1 t1 5 (nds l) → fr.get 5 = .ptr b5 0 → fr.get 115 = row nl2 t2 1 (ints (kids.drop n0)) → fr.get 116 = .int .i64 ((kids.drop n0).length : Int) → fr.get 117 = .int .i64 0 → fr.defers = [] → (kids.drop n0).length ≤ r.kids.length →
      ∃ o, exec U (.loop F_tree_has_l1) fr m = some o ∧ ((¬ sortsP l (kids.drop n0) r.kids ∧ ∃ fr' m', o = .ret fr' m' ∧ fr'.get 4 = .bool false ∧ fr'.defers = []) ∨ (sortsP l (kids.drop n0) r.kids ∧ ∃ fr' m', o = .exit 2 fr' m' ∧ SameM m m' ∧ fr'.defers = [])) :=
    fun g0 g1 g2 g3 g4 g5 g6 g7 => has_l1 hvd g7 (by rw [List.length_drop]; omega) g0 g1 g2 g3 g4 g5 g6
  by_cases hm : 0 < r.more
  · have hlast : n0 = kids.length - r.kids.length := by rw [← hn0]; exact if_pos hm
    have hle : n0 ≤ kids.length := by omega
    have hlt : (kids.take n0).length = n0 := by rw [List.length_take]; omega
    rw [← hlast] at hmx
    cases hb : r.name
    all_goals
      simp +contextual -implicitDefEqProofs (maxSteps := 1000000) (maxDischargeDepth := 8) only [F_tree_has, Nd.cells, KRow.cells, hrow, hnm, hm, hb, Bool.false_eq_true, ints_len, hmx, hle, bound_cast, bound_none, ints_take, ints_drop, zza, argsF, reduceIte, reduceCtorEq, Nat.reduceEqDiff, Nat.reduceBEq, Nat.reduceAdd, Int.reduceLT, Int.reduceLE, Int.reduceEq, Int.reduceToNat, Int.reduceNeg, Nat.reduceLeDiff, Int.reducePow, implies_true, UInt8.reduceToNat, Int.reduceSub, Int.reduceAdd, Nat.reduceLT, Nat.reduceMul, Nat.reduceSub, Nat.reduceBNe]
      refine ifO_split (fun hc => congrArg some (ff_bo fun q => ?_)) (fun hc => ?_)
      · rw [hP] at q
        grind
      subst hL0
      generalize hX : exec _ (.loop F_tree_has_l0) _ _ = X
      have hb5 : (Blk.cells [EV.str r.word, bo (r.name = true), EV.int IntKind.i64 r.low, EV.int IntKind.i64 r.high, EV.int IntKind.i64 r.more, EV.int IntKind.i64 r.sort, row r.kids.isEmpty 0 1 (ints r.kids), bo (r.maybe = true)] 8 t_tree_row false) = .cells r.cells 8 t_tree_row false := rfl
      simp only [hb, Bool.false_eq_true, bo_tt, bo_ff] at hb5
      obtain ⟨o, rfl, h⟩ := looped hX (has_l0 (l := l) (r := r) (k := kids.take n0) (b5 := nb mem00.next 2) (ty := t_tree_row) (t1 := t1) (nl1 := nl1) (nl2 := nl && (ints kids).isEmpty) (t2 := 0) (v7 := row nl 0 1 (ints kids)) (v8 := .int .i64 (n0 : Int)) hvt (by omega) (by simp +contextual -implicitDefEqProofs (maxSteps := 1000000) (maxDischargeDepth := 8) only [hb5, zza, argsF, reduceIte, reduceCtorEq, Nat.reduceEqDiff, Nat.reduceBEq, Nat.reduceAdd, Int.reduceLT, Int.reduceLE, Int.reduceEq, Int.reduceToNat, Int.reduceNeg, Nat.reduceLeDiff, Int.reducePow, implies_true, UInt8.reduceToNat, Int.reduceSub, Int.reduceAdd, Nat.reduceLT, Nat.reduceMul, Nat.reduceSub, Nat.reduceBNe]) (by simp only [zzf, Nat.reduceBEq ]) (by simp only [zzf, Nat.reduceBEq ]) (by simp only [zzf, Nat.reduceBEq ]) (by simp only [zzf, Nat.reduceBEq ]) (by simp only [zzf, Nat.reduceBEq ]) (by simp only [hlt, zzf, Nat.reduceBEq ]) (by simp only [zzf, Nat.reduceBEq ]) (by simp only [zzf, Nat.reduceBEq ]))
      rcases h with ⟨h, fr', m', rfl, g4, gd⟩ | ⟨h, fr', m', rfl, hsm, g0, g5, g7, g8, gd⟩
      · simp +contextual -implicitDefEqProofs (maxSteps := 1000000) (maxDischargeDepth := 8) only [g4, gd, zza, argsF, reduceIte, reduceCtorEq, Nat.reduceEqDiff, Nat.reduceBEq, Nat.reduceAdd, Int.reduceLT, Int.reduceLE, Int.reduceEq, Int.reduceToNat, Int.reduceNeg, Nat.reduceLeDiff, Int.reducePow, implies_true, UInt8.reduceToNat, Int.reduceSub, Int.reduceAdd, Nat.reduceLT, Nat.reduceMul, Nat.reduceSub, Nat.reduceBNe]
        exact congrArg some (ff_bo fun q => h (hP.1 q).2.2.2.2.2.2.1)
      have hb6 : m'.get (nb mem00.next 2) = .cells r.cells 8 t_tree_row false := (hsm.2 _).trans (by simp +contextual -implicitDefEqProofs (maxSteps := 1000000) (maxDischargeDepth := 8) only [hb5, zza, argsF, reduceIte, reduceCtorEq, Nat.reduceEqDiff, Nat.reduceBEq, Nat.reduceAdd, Int.reduceLT, Int.reduceLE, Int.reduceEq, Int.reduceToNat, Int.reduceNeg, Nat.reduceLeDiff, Int.reducePow, implies_true, UInt8.reduceToNat, Int.reduceSub, Int.reduceAdd, Nat.reduceLT, Nat.reduceMul, Nat.reduceSub, Nat.reduceBNe])
      have hb7 := hb6
      simp only [KRow.cells] at hb6
      by_cases hmore : r.more < (n0 : Int)
      · simp +contextual -implicitDefEqProofs (maxSteps := 1000000) (maxDischargeDepth := 8) only [g0, g5, g7, g8, gd, hb6, hmore, zza, argsF, reduceIte, reduceCtorEq, Nat.reduceEqDiff, Nat.reduceBEq, Nat.reduceAdd, Int.reduceLT, Int.reduceLE, Int.reduceEq, Int.reduceToNat, Int.reduceNeg, Nat.reduceLeDiff, Int.reducePow, implies_true, UInt8.reduceToNat, Int.reduceSub, Int.reduceAdd, Nat.reduceLT, Nat.reduceMul, Nat.reduceSub, Nat.reduceBNe]
        exact congrArg some (ff_bo fun q => by have := (hP.1 q).2.2.2.2.2.2.2.1 hm; omega)
      simp +contextual -implicitDefEqProofs (maxSteps := 1000000) (maxDischargeDepth := 8) only [g0, g5, g7, g8, gd, hb6, hmore, hle, bound_cast, bound_none, List.take_length, ints_take, ints_drop, ints_len, hw3, e1, e2, zza, argsF, reduceIte, reduceCtorEq, Nat.reduceEqDiff, Nat.reduceBEq, Nat.reduceAdd, Int.reduceLT, Int.reduceLE, Int.reduceEq, Int.reduceToNat, Int.reduceNeg, Nat.reduceLeDiff, Int.reducePow, implies_true, UInt8.reduceToNat, Int.reduceSub, Int.reduceAdd, Nat.reduceLT, Nat.reduceMul, Nat.reduceSub, Nat.reduceBNe]
      refine ifO_split (fun hc => congrArg some (ff_bo fun q => ?_)) (fun hc2 => ?_)
      · have := (hP.1 q).2.2.2.2.2.2.2.2.1
        grind
      subst hL1
      generalize hY : exec _ (.loop F_tree_has_l1) _ _ = Y
      obtain ⟨o, rfl, h2⟩ := looped hY (fin (b5 := nb mem00.next 2) (ty := t_tree_row) (nl2 := nl && (ints kids).isEmpty) (t2 := 0) (by simp +contextual -implicitDefEqProofs (maxSteps := 1000000) (maxDischargeDepth := 8) only [hb7, zza, argsF, reduceIte, reduceCtorEq, Nat.reduceEqDiff, Nat.reduceBEq, Nat.reduceAdd, Int.reduceLT, Int.reduceLE, Int.reduceEq, Int.reduceToNat, Int.reduceNeg, Nat.reduceLeDiff, Int.reducePow, implies_true, UInt8.reduceToNat, Int.reduceSub, Int.reduceAdd, Nat.reduceLT, Nat.reduceMul, Nat.reduceSub, Nat.reduceBNe]) (by simp only [g0, zzf, Nat.reduceBEq ]) (by simp only [g5, zzf, Nat.reduceBEq ]) (by simp only [zzf, Nat.reduceBEq ]) (by simp only [zzf, Nat.reduceBEq ]) (by simp only [zzf, Nat.reduceBEq ]) (by simp only [gd, zzf, Nat.reduceBEq ]) (by grind))
      rcases h2 with ⟨h2, fr2, m2, rfl, k4, kd⟩ | ⟨h2, fr2, m2, rfl, hsm2, kd⟩
      · simp +contextual -implicitDefEqProofs (maxSteps := 1000000) (maxDischargeDepth := 8) only [k4, kd, zza, argsF, reduceIte, reduceCtorEq, Nat.reduceEqDiff, Nat.reduceBEq, Nat.reduceAdd, Int.reduceLT, Int.reduceLE, Int.reduceEq, Int.reduceToNat, Int.reduceNeg, Nat.reduceLeDiff, Int.reducePow, implies_true, UInt8.reduceToNat, Int.reduceSub, Int.reduceAdd, Nat.reduceLT, Nat.reduceMul, Nat.reduceSub, Nat.reduceBNe]
        exact congrArg some (ff_bo fun q => h2 (hP.1 q).2.2.2.2.2.2.2.2.2)
      · simp +contextual -implicitDefEqProofs (maxSteps := 1000000) (maxDischargeDepth := 8) only [kd, zza, argsF, reduceIte, reduceCtorEq, Nat.reduceEqDiff, Nat.reduceBEq, Nat.reduceAdd, Int.reduceLT, Int.reduceLE, Int.reduceEq, Int.reduceToNat, Int.reduceNeg, Nat.reduceLeDiff, Int.reducePow, implies_true, UInt8.reduceToNat, Int.reduceSub, Int.reduceAdd, Nat.reduceLT, Nat.reduceMul, Nat.reduceSub, Nat.reduceBNe]
        refine congrArg some (tt_bo (hP.2 ?_))
        grind
  · have hlast : n0 = 0 := by rw [← hn0]; exact if_neg hm
    subst hlast
    rw [List.drop_zero] at *
    cases hb : r.name
    all_goals
      simp +contextual -implicitDefEqProofs (maxSteps := 1000000) (maxDischargeDepth := 8) only [F_tree_has, Nd.cells, KRow.cells, hrow, hnm, hm, hb, Bool.false_eq_true, ints_len, hw3, e3, e4, zza, argsF, reduceIte, reduceCtorEq, Nat.reduceEqDiff, Nat.reduceBEq, Nat.reduceAdd, Int.reduceLT, Int.reduceLE, Int.reduceEq, Int.reduceToNat, Int.reduceNeg, Nat.reduceLeDiff, Int.reducePow, implies_true, UInt8.reduceToNat, Int.reduceSub, Int.reduceAdd, Nat.reduceLT, Nat.reduceMul, Nat.reduceSub, Nat.reduceBNe]
      refine ifO_split (fun hc => congrArg some (ff_bo fun q => ?_)) (fun hc => ?_)
      · rw [hP] at q
        grind
      refine ifO_split (fun hc => congrArg some (ff_bo fun q => ?_)) (fun hc2 => ?_)
      · have := (hP.1 q).2.2.2.2.2.2.2.2.1
        grind
      subst hL1
      have hb5 : (Blk.cells [EV.str r.word, bo (r.name = true), EV.int IntKind.i64 r.low, EV.int IntKind.i64 r.high, EV.int IntKind.i64 r.more, EV.int IntKind.i64 r.sort, row r.kids.isEmpty 0 1 (ints r.kids), bo (r.maybe = true)] 8 t_tree_row false) = .cells r.cells 8 t_tree_row false := rfl
      simp only [hb, Bool.false_eq_true, bo_tt, bo_ff] at hb5
      generalize hY : exec _ (.loop F_tree_has_l1) _ _ = Y
      obtain ⟨o, rfl, h2⟩ := looped hY (fin (b5 := nb mem00.next 2) (ty := t_tree_row) (nl2 := nl) (t2 := 0) (by simp +contextual -implicitDefEqProofs (maxSteps := 1000000) (maxDischargeDepth := 8) only [hb5, zza, argsF, reduceIte, reduceCtorEq, Nat.reduceEqDiff, Nat.reduceBEq, Nat.reduceAdd, Int.reduceLT, Int.reduceLE, Int.reduceEq, Int.reduceToNat, Int.reduceNeg, Nat.reduceLeDiff, Int.reducePow, implies_true, UInt8.reduceToNat, Int.reduceSub, Int.reduceAdd, Nat.reduceLT, Nat.reduceMul, Nat.reduceSub, Nat.reduceBNe]) (by simp only [zzf, Nat.reduceBEq ]) (by simp only [zzf, Nat.reduceBEq ]) (by simp only [zzf, Nat.reduceBEq ]) (by simp only [zzf, Nat.reduceBEq ]) (by simp only [zzf, Nat.reduceBEq ]) (by simp only [zzf, Nat.reduceBEq ]) (by grind))
      rcases h2 with ⟨h2, fr2, m2, rfl, k4, kd⟩ | ⟨h2, fr2, m2, rfl, hsm2, kd⟩
      · simp +contextual -implicitDefEqProofs (maxSteps := 1000000) (maxDischargeDepth := 8) only [k4, kd, zza, argsF, reduceIte, reduceCtorEq, Nat.reduceEqDiff, Nat.reduceBEq, Nat.reduceAdd, Int.reduceLT, Int.reduceLE, Int.reduceEq, Int.reduceToNat, Int.reduceNeg, Nat.reduceLeDiff, Int.reducePow, implies_true, UInt8.reduceToNat, Int.reduceSub, Int.reduceAdd, Nat.reduceLT, Nat.reduceMul, Nat.reduceSub, Nat.reduceBNe]
        exact congrArg some (ff_bo fun q => h2 (hP.1 q).2.2.2.2.2.2.2.2.2)
      · simp +contextual -implicitDefEqProofs (maxSteps := 1000000) (maxDischargeDepth := 8) only [kd, zza, argsF, reduceIte, reduceCtorEq, Nat.reduceEqDiff, Nat.reduceBEq, Nat.reduceAdd, Int.reduceLT, Int.reduceLE, Int.reduceEq, Int.reduceToNat, Int.reduceNeg, Nat.reduceLeDiff, Int.reducePow, implies_true, UInt8.reduceToNat, Int.reduceSub, Int.reduceAdd, Nat.reduceLT, Nat.reduceMul, Nat.reduceSub, Nat.reduceBNe]
        refine congrArg some (tt_bo (hP.2 ?_))
        have : ∀ x ∈ List.take 0 kids, sortP (kindOf l x) r.sort := by simp
        grind
end Go.Proofs.YtblcomejcahkdaaDoor.Ev
end
section
namespace Go.Proofs.YtblcomejcahkdaaDoor.Ev
open Go
set_option maxRecDepth 20000
set_option maxHeartbeats 8000000
theorem sorts_nil {l : List Nd} {ss : List Int} : sortsP l [] ss ↔ True := ⟨fun _ => trivial, fun _ i x s h => by simp at h⟩
theorem sorts_none {l : List Nd} {ks : List Int} : sortsP l ks [] ↔ True := ⟨fun _ => trivial, fun _ i x s _ h => by simp at h⟩
theorem sorts_cons {l : List Nd} {k s : Int} {ks ss : List Int} : sortsP l (k :: ks) (s :: ss) ↔ sortP (kindOf l k) s ∧ sortsP l ks ss := by
  constructor
  · intro h
    exact ⟨h 0 k s rfl rfl, fun i x t hx ht => h (i + 1) x t (by simpa using hx) (by simpa using ht)⟩
  · rintro ⟨h1, h2⟩ i x t hx ht
    cases i with
    | zero => simp at hx ht; subst hx; subst ht; exact h1
    | succ i => exact h2 i x t (by simpa using hx) (by simpa using ht)
theorem own_row {k : Int} {d : Nd} (hd : d.kind = k) {name : Bool} {low high : Int} (hn : (k ∈ namedL) ↔ name = true) (hr : 1 ≤ k ∧ k ≤ 26) (hi : (if k = 1 then 0 ≤ d.n else if k = 2 then d.n = 0 ∨ d.n = 1 else if k = 5 then 1 ≤ d.n ∧ d.n ≤ 16 else if k = 24 ∨ k = 25 then 1 ≤ d.n ∧ d.n ≤ 3 else d.n = 0) ↔ (low ≤ d.n ∧ d.n ≤ high)) :
    ownP d ↔ (0 ≤ d.pos ∧ low ≤ d.n ∧ d.n ≤ high ∧ (name = true ↔ d.s ≠ []) ∧ (name = true → nameP d.s)) := by
  unfold ownP
  rw [hd, hi, hn]
  constructor
  · rintro ⟨h1, h2, h3⟩
    simp only [not_or, Classical.not_not] at h1
    refine ⟨by omega, h3.1, h3.2, h1.2, fun h => ?_⟩
    have := h1.2.1 h
    exact Classical.byContradiction fun q => h2 ⟨this, q⟩
  · rintro ⟨h1, h2, h3, h4, h5⟩
    refine ⟨?_, fun q => q.2 (h5 (h4.2 q.1)), h2, h3⟩
    simp only [not_or, Classical.not_not]
    exact ⟨⟨⟨by omega, by omega⟩, by omega⟩, h4⟩
theorem hasP_doc {l : List Nd} {d : Nd} (hn : d.n ≤ 9223372036854775807) (hk : d.kids.length < 1000000000) : hasP l d ↔ ownP d ∧ kidsP l d := by
  by_cases h : 1 ≤ d.kind ∧ d.kind ≤ 26
  · have hc : d.kind = 1 ∨ d.kind = 2 ∨ d.kind = 3 ∨ d.kind = 4 ∨ d.kind = 5 ∨ d.kind = 6 ∨ d.kind = 7 ∨ d.kind = 8 ∨ d.kind = 9 ∨ d.kind = 10 ∨ d.kind = 11 ∨ d.kind = 12 ∨ d.kind = 13 ∨ d.kind = 14 ∨ d.kind = 15 ∨ d.kind = 16 ∨ d.kind = 17 ∨ d.kind = 18 ∨ d.kind = 19 ∨ d.kind = 20 ∨ d.kind = 21 ∨ d.kind = 22 ∨ d.kind = 23 ∨ d.kind = 24 ∨ d.kind = 25 ∨ d.kind = 26 := by omega
    have key : ∀ r : KRow, rowF d.kind = r → (((d.kind ∈ namedL) ↔ r.name = true) ∧ ((if d.kind = 1 then 0 ≤ d.n else if d.kind = 2 then d.n = 0 ∨ d.n = 1 else if d.kind = 5 then 1 ≤ d.n ∧ d.n ≤ 16 else if d.kind = 24 ∨ d.kind = 25 then 1 ≤ d.n ∧ d.n ≤ 3 else d.n = 0) ↔ (r.low ≤ d.n ∧ d.n ≤ r.high)) ∧
        (kidsP l d ↔ (∀ x ∈ d.kids.take (lastN r d.kids), sortP (kindOf l x) r.sort) ∧ (0 < r.more → (lastN r d.kids : Int) ≤ r.more) ∧ ((d.kids.drop (lastN r d.kids)).length = r.kids.length ∨ r.maybe = true ∧ (d.kids.drop (lastN r d.kids)).length + 1 = r.kids.length) ∧ sortsP l (d.kids.drop (lastN r d.kids)) r.kids)) →
        (hasP l d ↔ ownP d ∧ kidsP l d) := by
      rintro r hr ⟨h1, h2, h3⟩
      rw [own_row (k := d.kind) rfl h1 h h2, h3]
      unfold hasP
      rw [hr]
      simp only
      constructor
      · rintro ⟨_, a1, a2, a3, a4, a5, a6, a7, a8, a9⟩; exact ⟨⟨a1, a2, a3, a4, a5⟩, a6, a7, a8, a9⟩
      · rintro ⟨⟨a1, a2, a3, a4, a5⟩, a6, a7, a8, a9⟩; exact ⟨h, a1, a2, a3, a4, a5, a6, a7, a8, a9⟩
    obtain ⟨kind, kids, nl, n, s, pos⟩ := d
    simp only at *
    have l0 : ∀ {p q r : Prop}, True := trivial
    rcases hc with rfl | rfl | rfl | rfl | rfl | rfl | rfl | rfl | rfl | rfl | rfl | rfl | rfl | rfl | rfl | rfl | rfl | rfl | rfl | rfl | rfl | rfl | rfl | rfl | rfl | rfl
    all_goals refine key _ rfl ⟨by simp [namedL, rowF, rowsL], by simp [rowF, rowsL] <;> omega, ?_⟩
    case inr.inr.inr.inr.inr.inr.inr.inr.inr.inr.inl =>
      have e : lastN (rowF 11) kids = kids.length := by simp [lastN, rowF, rowsL]
      rw [e, List.take_length, List.drop_length]
      simp [kidsP, sorts_nil, sortP, exprsP, exprK, rowF, rowsL]
      exact ⟨fun q => ⟨q.2, by omega⟩, fun q => ⟨by omega, q.1⟩⟩
    case inr.inr.inr.inr.inr.inr.inr.inr.inr.inr.inr.inr.inr.inr.inr.inr.inr.inr.inr.inr.inr.inr.inl =>
      have e : lastN (rowF 23) kids = kids.length := by simp [lastN, rowF, rowsL]
      rw [e, List.take_length, List.drop_length]
      simp [kidsP, sorts_nil, sortP, stmtK, rowF, rowsL]
      intros
      omega
    case inr.inr.inr.inr.inr.inr.inr.inr.inr.inr.inr.inr.inr.inr.inr.inr.inr.inr.inr.inr.inr.inr.inr.inr.inl =>
      have e : lastN (rowF 25) kids = kids.length - 1 := by simp [lastN, rowF, rowsL]
      rw [e]
      rcases List.eq_nil_or_concat kids with rfl | ⟨ks, x, rfl⟩
      · simp [kidsP, rowF, rowsL]
      · simp [kidsP, sorts_nil, sorts_cons, sortP, allP, rowF, rowsL]
        grind
    case inr.inr.inr.inr.inr.inr.inr.inr.inr.inr.inr.inr.inr.inr.inr.inr.inr.inr.inr.inr.inr.inr.inr.inr.inr =>
      have e : lastN (rowF 26) kids = kids.length := by simp [lastN, rowF, rowsL]
      rw [e, List.take_length, List.drop_length]
      simp [kidsP, sorts_nil, sortP, allP, rowF, rowsL]
      grind
    all_goals
      rcases kids with _ | ⟨a, _ | ⟨b, _ | ⟨c, _ | ⟨e, ks⟩⟩⟩⟩ <;> simp [kidsP, lastN, sorts_nil, sorts_none, sorts_cons, sortP, exprsP, allP, exprK, stmtK, rowF, rowsL] <;> grind
  · constructor
    · intro q; exact absurd q.1 h
    · rintro ⟨q, _⟩
      unfold ownP at q
      refine absurd ?_ h
      have := q.1
      simp only [not_or] at this
      omega
end Go.Proofs.YtblcomejcahkdaaDoor.Ev
end
section
namespace Go.Proofs.YtblcomejcahkdaaDoor.Ev
open Go
set_option maxRecDepth 20000
set_option maxHeartbeats 8000000
theorem max2 {k : IntKind} {a b : Int} : evMax [.int k a, .int k b] = some (.int k (max a b)) := by
  simp only [evMax, maxFrom, Nat.beq_refl, cond_true]
  congr 2
  split <;> omega
def outs (l : List Nd) (i : Nat) (h : Int) : List EV := (List.range l.length).map fun j => .int .i64 (if j < i then (highN l j : Int) else if j = i then h else 0)
noncomputable def useds (n : Nat) (u : List Int) : List EV := (List.range n).map fun (j : Nat) => bo ((j : Int) ∈ u)
theorem outs_len {l : List Nd} {i : Nat} {h : Int} : (outs l i h).length = l.length := by simp [outs]
theorem useds_len {n : Nat} {u : List Int} : (useds n u).length = n := by simp [useds]
theorem outs_at {l : List Nd} {i : Nat} {h : Int} (hi : i < l.length) : (outs l i h)[i]? = some (.int .i64 h) := by
  unfold outs; rw [List.getElem?_map, List.getElem?_range hi]; simp
theorem outs_lt {l : List Nd} {i j : Nat} {h : Int} (hi : i ≤ l.length) (hj : j < i) : (outs l i h)[j]? = some (.int .i64 (highN l j : Int)) := by
  unfold outs; rw [List.getElem?_map, List.getElem?_range (by omega)]; simp [hj]
theorem outs_set {l : List Nd} {i : Nat} {h h2 : Int} (hi : i < l.length) : (outs l i h).take i ++ [.int .i64 h2] ++ (outs l i h).drop (i + 1) = outs l i h2 := by
  apply List.ext_getElem?
  intro j
  have hl := outs_len (l := l) (i := i) (h := h)
  have e : ∀ h, (outs l i h)[j]? = if j < l.length then some (.int .i64 (if j < i then (highN l j : Int) else if j = i then h else 0)) else none := by
    intro h
    unfold outs
    rw [List.getElem?_map]
    by_cases q : j < l.length
    · rw [List.getElem?_range q, if_pos q]; rfl
    · rw [List.getElem?_eq_none (by simp; omega), if_neg q]; rfl
  rw [e]
  by_cases h1 : j < i
  · rw [List.append_assoc, List.getElem?_append_left (by rw [List.length_take]; omega), List.getElem?_take, if_pos h1, e]
    simp [h1]
  · by_cases hji : j = i
    · subst hji
      rw [List.append_assoc, List.getElem?_append_right (by rw [List.length_take]; omega), List.length_take, hl, show j - min j l.length = 0 by omega]
      simp [hi]
    · rw [List.getElem?_append_right (by simp; omega), List.getElem?_drop]
      rw [show i + 1 + (j - ((outs l i h).take i ++ [EV.int .i64 h2]).length) = j by simp [outs_len]; omega, e]
      simp [h1, hji]
theorem outs_next {l : List Nd} {i : Nat} : outs l i (highN l i : Int) = outs l (i + 1) 0 := by
  unfold outs
  refine List.map_congr_left fun j _ => ?_
  by_cases h1 : j < i
  · rw [if_pos h1, if_pos (by omega)]
  · by_cases h2 : j = i
    · subst h2; rw [if_neg (by omega), if_pos rfl, if_pos (by omega)]
    · rw [if_neg h1, if_neg h2, if_neg (by omega)]; split <;> rfl
theorem outs_0 {l : List Nd} : copies l.length [.int .i64 0] = outs l 0 0 := by
  unfold copies outs
  apply List.ext_getElem?
  intro j
  have : (List.replicate l.length [EV.int .i64 0]).flatten = List.replicate l.length (EV.int .i64 0) := by
    generalize l.length = n
    induction n with
    | zero => rfl
    | succ n ih => rw [List.replicate_succ, List.flatten_cons, ih]; rfl
  rw [this, List.getElem?_replicate, List.getElem?_map]
  by_cases q : j < l.length
  · rw [if_pos q, List.getElem?_range q]
    simp
  · rw [if_neg q, List.getElem?_eq_none (by simp; omega)]; rfl
theorem outs_end {l : List Nd} : outs l l.length 0 = (ints ((List.range l.length).map fun j => (highN l j : Int))).flatten := by
  unfold outs
  rw [ints_flat, List.map_map]
  refine List.map_congr_left fun j hj => ?_
  rw [if_pos (List.mem_range.1 hj)]; rfl
theorem useds_at {n j : Nat} {u : List Int} (h : j < n) : (useds n u)[j]? = some (bo ((j : Int) ∈ u)) := by
  unfold useds; rw [List.getElem?_map, List.getElem?_range h]; rfl
theorem useds_set {n x : Nat} {u : List Int} (hx : x < n) : (useds n u).take x ++ [.bool true] ++ (useds n u).drop (x + 1) = useds n (u ++ [(x : Int)]) := by
  apply List.ext_getElem?
  intro j
  have hl := useds_len (n := n) (u := u)
  have e : ∀ u, (useds n u)[j]? = if j < n then some (bo ((j : Int) ∈ u)) else none := by
    intro u
    unfold useds
    rw [List.getElem?_map]
    by_cases q : j < n
    · rw [List.getElem?_range q, if_pos q]; rfl
    · rw [List.getElem?_eq_none (by simp; omega), if_neg q]; rfl
  rw [e (u ++ [(x : Int)])]
  by_cases h1 : j < x
  · rw [List.append_assoc, List.getElem?_append_left (by rw [List.length_take]; omega), List.getElem?_take, if_pos h1, e, if_pos (by omega), if_pos (by omega)]
    refine congrArg some (bo_iff' ?_)
    simp; omega
  · by_cases h2 : j = x
    · subst h2
      rw [List.append_assoc, List.getElem?_append_right (by rw [List.length_take]; omega), List.length_take, hl, show j - min j n = 0 by omega, if_pos hx]
      simp [bo]
    · rw [List.getElem?_append_right (by simp; omega), List.getElem?_drop, show x + 1 + (j - ((useds n u).take x ++ [EV.bool true]).length) = j by simp [useds_len]; omega, e]
      by_cases q : j < n
      · rw [if_pos q, if_pos q]
        refine congrArg some (bo_iff' ?_)
        simp; omega
      · rw [if_neg q, if_neg q]
theorem useds_0 {n : Nat} : copies n [.bool false] = useds n [] := by
  unfold copies useds
  apply List.ext_getElem?
  intro j
  have : (List.replicate n [EV.bool false]).flatten = List.replicate n (EV.bool false) := by
    clear j
    induction n with
    | zero => rfl
    | succ n ih => rw [List.replicate_succ, List.flatten_cons, ih]; rfl
  rw [this, List.getElem?_replicate, List.getElem?_map]
  by_cases q : j < n
  · rw [if_pos q, List.getElem?_range q]
    simp [bo]
  · rw [if_neg q, List.getElem?_eq_none (by simp; omega)]; rfl
def foldH (l : List Nd) (ks : List Int) : Nat := ks.foldl (fun h x => max h (1 + highN l x.toNat)) 1
theorem foldH_snoc {l : List Nd} {ks : List Int} {x : Int} : foldH l (ks ++ [x]) = max (foldH l ks) (1 + highN l x.toNat) := by unfold foldH; rw [List.foldl_append]; rfl
theorem highF_take {l : List Nd} {i : Nat} (hk : kidsLt (l.take i)) : ∀ (f y : Nat), y < i → highF (l.take i) f y = highF l f y
  | 0, y, _ => rfl
  | f + 1, y, hy => by
    simp only [highF]
    rw [List.getElem?_take, if_pos hy]
    cases hd : l[y]? with
    | none => rfl
    | some d =>
      simp only
      have hx := hk y d (by rw [List.getElem?_take, if_pos hy, hd])
      generalize d.kids = ks at hx
      have : ∀ (ks : List Int) (a : Nat), (∀ x ∈ ks, 0 ≤ x ∧ x < (y : Int)) → ks.foldl (fun h x => max h (1 + highF (l.take i) f x.toNat)) a = ks.foldl (fun h x => max h (1 + highF l f x.toNat)) a := by
        intro ks
        induction ks with
        | nil => intro a _; rfl
        | cons x ks ihk =>
          intro a h
          have := h x (by simp)
          rw [List.foldl_cons, List.foldl_cons, highF_take hk f x.toNat (by omega)]
          exact ihk _ fun z hz => h z (by simp [hz])
      exact this ks 1 hx
theorem highN_take {l : List Nd} {i y : Nat} (hy : y < i) (hk : kidsLt (l.take i)) : highN (l.take i) y = highN l y := highF_take hk _ _ hy
theorem heights_l0 {l : List Nd} {i bo_ bu to tu : Nat} {d : Nd} {u : List Int} {v0 v6 : EV} {nl : Bool} {t : Nat} {w15 w16 w17 : EV} (hk : kidsLt (l.take i)) (hs : Small l) (hd0 : l[i]? = some d) (hu : u.Nodup) {m0 : Mem} {fr : Fr} (hne : bo_ ≠ bu)
    (hbo : m0.get bo_ = .cells (outs l i 1) 1 to false) (hbu : m0.get bu = .cells (useds l.length u) 1 tu false) (h0 : fr.get 0 = v0) (h6 : fr.get 6 = v6)
    (h3 : fr.get 3 = .slice bo_ 0 l.length (some l.length)) (h4 : fr.get 4 = .slice bu 0 l.length (some l.length)) (h5 : fr.get 5 = .int .i64 (i : Int))
    (h15 : fr.get 15 = w15) (h16 : fr.get 16 = w16) (h17 : fr.get 17 = w17)
    (h26 : fr.get 26 = row nl t 1 (ints d.kids)) (h27 : fr.get 27 = .int .i64 (d.kids.length : Int)) (h28 : fr.get 28 = .int .i64 0) (hd : fr.defers = []) :
    ∃ o, exec U (.loop F_tree_Heights_l0) fr m0 = some o ∧ ((((∀ x ∈ d.kids, 0 ≤ x ∧ x < (i : Int)) ∧ (u ++ d.kids).Nodup) ∧ ∃ fr' m', o = .exit 2 fr' m' ∧ m'.get bo_ = .cells (outs l i (foldH l d.kids : Int)) 1 to false ∧ m'.get bu = .cells (useds l.length (u ++ d.kids)) 1 tu false ∧
        m0.next ≤ m'.next ∧ (∀ b, b ≠ bo_ → b ≠ bu → m'.get b = m0.get b) ∧ fr'.get 0 = v0 ∧ fr'.get 6 = v6 ∧ fr'.get 3 = .slice bo_ 0 l.length (some l.length) ∧ fr'.get 4 = .slice bu 0 l.length (some l.length) ∧ fr'.get 5 = .int .i64 (i : Int) ∧ fr'.get 15 = w15 ∧ fr'.get 16 = w16 ∧ fr'.get 17 = w17 ∧ fr'.defers = []) ∨
      (¬ ((∀ x ∈ d.kids, 0 ≤ x ∧ x < (i : Int)) ∧ (u ++ d.kids).Nodup) ∧ ∃ fr' m', o = .ret fr' m' ∧ fr'.get 2 = .nilslice ∧ fr'.defers = [])) := by
  have hil : i < l.length := (List.getElem?_eq_some_iff.1 hd0).1
  have hlen := hs.len
  have hkl := hs.kids d (List.mem_of_getElem? hd0)
  refine loop_w (σ := Nat) (fun j fr m => j ≤ d.kids.length ∧ (∀ x ∈ d.kids.take j, 0 ≤ x ∧ x < (i : Int)) ∧ (u ++ d.kids.take j).Nodup ∧ m.get bo_ = .cells (outs l i (foldH l (d.kids.take j) : Int)) 1 to false ∧ m.get bu = .cells (useds l.length (u ++ d.kids.take j)) 1 tu false ∧
      m0.next ≤ m.next ∧ (∀ b, b ≠ bo_ → b ≠ bu → m.get b = m0.get b) ∧ fr.get 0 = v0 ∧ fr.get 6 = v6 ∧ fr.get 3 = .slice bo_ 0 l.length (some l.length) ∧ fr.get 4 = .slice bu 0 l.length (some l.length) ∧ fr.get 5 = .int .i64 (i : Int) ∧ fr.get 15 = w15 ∧ fr.get 16 = w16 ∧ fr.get 17 = w17 ∧
      fr.get 26 = row nl t 1 (ints d.kids) ∧ fr.get 27 = .int .i64 (d.kids.length : Int) ∧ fr.get 28 = .int .i64 (j : Int) ∧ fr.defers = []) (fun j => d.kids.length - j) _ ?_ 0 fr m0
    ⟨Nat.zero_le _, by simp, by simpa using hu, hbo, by simpa using hbu, Nat.le_refl _, fun _ _ _ => rfl, h0, h6, h3, h4, h5, h15, h16, h17, h26, h27, h28, hd⟩
  rintro j fr m ⟨hj, hall, hnd, hbo, hbu, hnx, hkeep, h0, h6, h3, h4, h5, h15, h16, h17, h26, h27, h28, hd⟩
  generalize hX : exec U F_tree_Heights_l0 fr m = X
  by_cases hlt : j < d.kids.length
  · have hc : (j : Int) < (d.kids.length : Int) := by omega
    have hg : d.kids[j]? = some d.kids[j] := List.getElem?_eq_getElem hlt
    have htk : d.kids.take (j + 1) = d.kids.take j ++ [d.kids[j]] := List.take_succ_eq_append_getElem hlt
    have hmem := List.getElem_mem hlt
    have hw1 := wrap_succ (i := j) (by omega)
    generalize d.kids[j] = x at *
    by_cases x0 : x < 0
    · simp +contextual -implicitDefEqProofs (maxSteps := 1000000) (maxDischargeDepth := 8) only [F_tree_Heights_l0, h3, h4, h5, h26, h27, h28, hd, hc, hg, hlt, idx_cast, ints_get, ints_len, x0, zza, argsF, reduceIte, reduceCtorEq, Nat.reduceEqDiff, Nat.reduceBEq, Nat.reduceAdd, Int.reduceLT, Int.reduceLE, Int.reduceEq, Int.reduceToNat, Int.reduceNeg, Nat.reduceLeDiff, Int.reducePow, implies_true, UInt8.reduceToNat, Int.reduceSub, Int.reduceAdd, Nat.reduceLT, Nat.reduceMul, Nat.reduceSub, Nat.reduceBNe] at hX
      subst hX
      exact lw_ret (Or.inr ⟨fun q => by have := q.1 x hmem; omega, _, _, rfl, by simp only [zzf, Nat.reduceBEq ], by simp only [hd, zzf, Nat.reduceBEq ]⟩)
    · by_cases x1 : (i : Int) ≤ x
      · simp +contextual -implicitDefEqProofs (maxSteps := 1000000) (maxDischargeDepth := 8) only [F_tree_Heights_l0, h3, h4, h5, h26, h27, h28, hd, hc, hg, hlt, idx_cast, ints_get, ints_len, x0, x1, zza, argsF, reduceIte, reduceCtorEq, Nat.reduceEqDiff, Nat.reduceBEq, Nat.reduceAdd, Int.reduceLT, Int.reduceLE, Int.reduceEq, Int.reduceToNat, Int.reduceNeg, Nat.reduceLeDiff, Int.reducePow, implies_true, UInt8.reduceToNat, Int.reduceSub, Int.reduceAdd, Nat.reduceLT, Nat.reduceMul, Nat.reduceSub, Nat.reduceBNe] at hX
        subst hX
        exact lw_ret (Or.inr ⟨fun q => by have := q.1 x hmem; omega, _, _, rfl, by simp only [zzf, Nat.reduceBEq ], by simp only [hd, zzf, Nat.reduceBEq ]⟩)
      · obtain ⟨y, rfl⟩ := Int.eq_ofNat_of_zero_le (show 0 ≤ x by omega)
        have hyi : y < i := by omega
        have hyl : y < l.length := by omega
        have hix : idx l.length (.int .i64 (y : Int)) = some y := idx_cast hyl
        have hii : idx l.length (.int .i64 (i : Int)) = some i := idx_cast hil
        have hua := useds_at (u := u ++ d.kids.take j) hyl
        by_cases hused : (y : Int) ∈ u ++ d.kids.take j
        · simp +contextual -implicitDefEqProofs (maxSteps := 1000000) (maxDischargeDepth := 8) only [F_tree_Heights_l0, h3, h4, h5, h26, h27, h28, hd, hc, hg, hlt, idx_cast, ints_get, ints_len, x0, x1, hix, hua, hbu, hused, bo_tt, Nat.mul_one, zza, argsF, reduceIte, reduceCtorEq, Nat.reduceEqDiff, Nat.reduceBEq, Nat.reduceAdd, Int.reduceLT, Int.reduceLE, Int.reduceEq, Int.reduceToNat, Int.reduceNeg, Nat.reduceLeDiff, Int.reducePow, implies_true, UInt8.reduceToNat, Int.reduceSub, Int.reduceAdd, Nat.reduceLT, Nat.reduceMul, Nat.reduceSub, Nat.reduceBNe] at hX
          subst hX
          refine lw_ret (Or.inr ⟨fun q => ?_, _, _, rfl, by simp only [zzf, Nat.reduceBEq ], by simp only [hd, zzf, Nat.reduceBEq ]⟩)
          have q2 : (u ++ d.kids.take j ++ [(y : Int)]).Nodup := by
            rw [List.append_assoc, ← htk]
            exact List.Nodup.sublist (List.Sublist.append (List.Sublist.refl u) (List.take_sublist _ _)) q.2
          rw [List.nodup_append] at q2
          exact q2.2.2 _ hused _ (by simp) rfl
        · have hou := outs_at (l := l) (h := (foldH l (d.kids.take j) : Int)) hil
          have hoy := outs_lt (l := l) (h := (foldH l (d.kids.take j) : Int)) (Nat.le_of_lt hil) hyi
          have hul := useds_len (n := l.length) (u := u ++ d.kids.take j)
          have hol := outs_len (l := l) (i := i) (h := (foldH l (d.kids.take j) : Int))
          have hus := useds_set (u := u ++ d.kids.take j) hyl
          have hos := fun h2 => outs_set (l := l) (h := (foldH l (d.kids.take j) : Int)) (h2 := h2) hil
          have hhy : highN l y ≤ y + 1 := by
            have := highN_le hk y
            rw [highN_take hyi hk] at this
            exact this
          have hw2 : IntKind.i64.wrap ((highN l y : Int) + 1) = ((highN l y + 1 : Nat) : Int) := by rw [wrap_i64 (by omega) (by omega)]; omega
          have z1 : y + 1 ≤ l.length := hyl
          have z2 : i + 1 ≤ l.length := hil
          simp +contextual -implicitDefEqProofs (maxSteps := 1000000) (maxDischargeDepth := 8) only [F_tree_Heights_l0, h3, h4, h5, h26, h27, h28, hd, hc, hg, hlt, hw1, idx_cast, ints_get, ints_len, x0, x1, hix, hii, hua, hbu, hbo, hne, hne.symm, hused, hou, hoy, hul, hol, hus, hos, hw2, z1, z2, max2, bo_ff, Nat.mul_one, zza, argsF, reduceIte, reduceCtorEq, Nat.reduceEqDiff, Nat.reduceBEq, Nat.reduceAdd, Int.reduceLT, Int.reduceLE, Int.reduceEq, Int.reduceToNat, Int.reduceNeg, Nat.reduceLeDiff, Int.reducePow, implies_true, UInt8.reduceToNat, Int.reduceSub, Int.reduceAdd, Nat.reduceLT, Nat.reduceMul, Nat.reduceSub, Nat.reduceBNe] at hX
          subst hX
          refine lw_norm (j + 1) (by omega) ⟨hlt, ?_, ?_, ?_, ?_, ?_, ?_, by simp only [h0, zzf, Nat.reduceBEq ], by simp only [h6, zzf, Nat.reduceBEq ], by simp only [h3, zzf, Nat.reduceBEq ], by simp only [h4, zzf, Nat.reduceBEq ], by simp only [h5, zzf, Nat.reduceBEq ], by simp only [h15, zzf, Nat.reduceBEq ], by simp only [h16, zzf, Nat.reduceBEq ], by simp only [h17, zzf, Nat.reduceBEq ], by simp only [h26, zzf, Nat.reduceBEq ], by simp only [h27, zzf, Nat.reduceBEq ], by simp only [zzf, Nat.reduceBEq ], by simp only [hd, zzf, Nat.reduceBEq ]⟩
          · intro z hz
            rw [htk, List.mem_append] at hz
            rcases hz with hz | hz
            · exact hall z hz
            · rw [List.mem_singleton.1 hz]; omega
          · rw [htk, ← List.append_assoc, List.nodup_append]
            refine ⟨hnd, by simp, fun a ha2 b hb => ?_⟩
            rw [List.mem_singleton.1 hb]
            rintro rfl
            exact hused ha2
          · rw [get_bump, get_set_eq, htk, foldH_snoc]
            congr 3
            show max _ _ = ((max _ (1 + highN l (y : Int).toNat) : Nat) : Int)
            rw [show ((y : Nat) : Int).toNat = y by omega]
            omega
          · rw [get_bump, get_set_ne hne.symm, get_set_eq, htk, List.append_assoc]
          · rw [next_bump, next_set, next_set]; unfold nb; omega
          · intro b hb1 hb2
            rw [get_bump, get_set_ne hb1, get_set_ne hb2]; exact hkeep b hb1 hb2
  · have hc : ¬ ((j : Int) < (d.kids.length : Int)) := by omega
    have htk : d.kids.take j = d.kids := List.take_of_length_le (by omega)
    rw [htk] at hall hnd hbo hbu
    simp +contextual -implicitDefEqProofs (maxSteps := 1000000) (maxDischargeDepth := 8) only [F_tree_Heights_l0, h3, h4, h5, h26, h27, h28, hd, hc, zza, argsF, reduceIte, reduceCtorEq, Nat.reduceEqDiff, Nat.reduceBEq, Nat.reduceAdd, Int.reduceLT, Int.reduceLE, Int.reduceEq, Int.reduceToNat, Int.reduceNeg, Nat.reduceLeDiff, Int.reducePow, implies_true, UInt8.reduceToNat, Int.reduceSub, Int.reduceAdd, Nat.reduceLT, Nat.reduceMul, Nat.reduceSub, Nat.reduceBNe] at hX
    subst hX
    exact lw_exit (Or.inl ⟨⟨hall, hnd⟩, _, _, rfl, hbo, hbu, hnx, hkeep, by simp only [h0, zzf, Nat.reduceBEq ], by simp only [h6, zzf, Nat.reduceBEq ], by simp only [h3, zzf, Nat.reduceBEq ], by simp only [h4, zzf, Nat.reduceBEq ], by simp only [h5, zzf, Nat.reduceBEq ], by simp only [h15, zzf, Nat.reduceBEq ], by simp only [h16, zzf, Nat.reduceBEq ], by simp only [h17, zzf, Nat.reduceBEq ], by simp only [hd, zzf, Nat.reduceBEq ]⟩)
end Go.Proofs.YtblcomejcahkdaaDoor.Ev
end
section
namespace Go.Proofs.YtblcomejcahkdaaDoor.Ev
open Go
theorem usedL_lt {l : List Nd} (hk : kidsLt l) : ∀ x ∈ usedL l, x ∈ upto (l.length - 1) := by
  intro x hx
  obtain ⟨i, d, hi, hx⟩ := usedL_mem.1 hx
  have h1 := hk i d hi x hx
  have h2 := (List.getElem?_eq_some_iff.1 hi).1
  exact upto_mem.2 ⟨h1.1, by omega⟩
theorem foldl_max_ge {f : Int → Nat} : ∀ (ks : List Int) (a : Nat), a ≤ ks.foldl (fun h x => max h (f x)) a
  | [], a => Nat.le_refl _
  | x :: ks, a => by rw [List.foldl_cons]; exact Nat.le_trans (Nat.le_max_left _ _) (foldl_max_ge ks _)
theorem foldl_max_mem {f : Int → Nat} {x : Int} : ∀ (ks : List Int) (a : Nat), x ∈ ks → f x ≤ ks.foldl (fun h x => max h (f x)) a
  | y :: ks, a, h => by
    rw [List.foldl_cons]
    rcases List.mem_cons.1 h with rfl | h
    · exact Nat.le_trans (Nat.le_max_right _ _) (foldl_max_ge ks _)
    · exact foldl_max_mem ks _ h
theorem high_kid {l : List Nd} (hk : kidsLt l) {i : Nat} {d : Nd} (hd : l[i]? = some d) {x : Int} (hx : x ∈ d.kids) : highN l x.toNat + 1 ≤ highN l i := by
  rw [highN_eq hk hd, Nat.add_comm]
  exact foldl_max_mem (f := fun x => 1 + highN l x.toNat) _ _ hx
theorem high_top {l : List Nd} (hk : kidsLt l) (hu : ∀ x ∈ upto (l.length - 1), x ∈ usedL l) : ∀ (n j : Nat), l.length - j ≤ n → j < l.length → highN l j ≤ highN l (l.length - 1)
  | 0, j, h, hj => by omega
  | n + 1, j, h, hj => by
    by_cases e : j = l.length - 1
    · rw [e]; exact Nat.le_refl _
    · obtain ⟨i, d, hi, hx⟩ := usedL_mem.1 (hu (j : Int) (upto_mem.2 ⟨by omega, by omega⟩))
      have h1 := hk i d hi _ hx
      have h2 := (List.getElem?_eq_some_iff.1 hi).1
      have h3 := high_kid hk hi hx
      rw [show ((j : Int)).toNat = j by omega] at h3
      have := high_top hk hu n i (by omega) h2
      omega
def heightsTo (l : List Nd) (i : Nat) : Prop := (∀ (j : Nat) (d : Nd), j < i → l[j]? = some d → (∀ x ∈ d.kids, 0 ≤ x ∧ x < (j : Int)) ∧ (ownP d ∧ kidsP l d) ∧ highN l j ≤ 200) ∧ (usedL (l.take i)).Nodup
theorem heights_right {l : List Nd} : rightP l ↔ heightsTo l l.length ∧ 0 < l.length ∧ ∀ x ∈ upto (l.length - 1), x ∈ usedL l := by
  unfold heightsTo
  rw [List.take_of_length_le (Nat.le_refl _)]
  constructor
  · rintro ⟨⟨h1, h2, h3⟩, h4, h5, h6⟩
    have hall : ∀ x ∈ upto (l.length - 1), x ∈ usedL l := by
      intro x hx
      refine Classical.byContradiction fun hn => ?_
      have : (x :: usedL l).length ≤ (upto (l.length - 1)).length := len_of_sub (List.nodup_cons.2 ⟨hn, h2⟩) fun y hy => by
        rcases List.mem_cons.1 hy with rfl | hy
        · exact hx
        · exact usedL_lt h1 y hy
      rw [upto_len, List.length_cons] at this
      omega
    refine ⟨⟨fun j d hj hd => ⟨h1 j d hd, h3 d (List.mem_of_getElem? hd), Nat.le_trans (high_top h1 hall _ j (Nat.le_refl _) hj) h6⟩, h2⟩, h4, hall⟩
  · rintro ⟨⟨h1, h2⟩, h3, h4⟩
    have hk : kidsLt l := fun i d hd => (h1 i d (List.getElem?_eq_some_iff.1 hd).1 hd).1
    refine ⟨⟨hk, h2, fun d hd => ?_⟩, h3, ?_, ?_⟩
    · obtain ⟨i, hi⟩ := List.mem_iff_getElem?.1 hd
      exact (h1 i d (List.getElem?_eq_some_iff.1 hi).1 hi).2.1
    · have a := len_of_sub h2 (usedL_lt hk)
      have b := len_of_sub upto_nodup h4
      rw [upto_len] at a b
      omega
    · obtain ⟨d, hd⟩ : ∃ d, l[l.length - 1]? = some d := ⟨_, List.getElem?_eq_getElem (by omega)⟩
      exact (h1 _ d (by omega) hd).2.2
theorem high_fold {l : List Nd} {i : Nat} {d : Nd} (hk : kidsLt (l.take i)) (hd : l[i]? = some d) (hx : ∀ x ∈ d.kids, 0 ≤ x ∧ x < (i : Int)) : highN l i = foldH l d.kids := by
  have hk2 : kidsLt (l.take (i + 1)) := by
    intro j e he
    rw [List.getElem?_take] at he
    split at he
    · by_cases hj : j < i
      · exact hk j e (by rw [List.getElem?_take, if_pos hj]; exact he)
      · obtain rfl : j = i := by omega
        rw [hd] at he; cases he; exact hx
    · cases he
  have hd2 : (l.take (i + 1))[i]? = some d := by rw [List.getElem?_take, if_pos (by omega), hd]
  have h := highN_eq hk2 hd2
  rw [highN_take (by omega) hk2] at h
  rw [h]
  unfold foldH
  generalize d.kids = ks at hx
  have : ∀ (ks : List Int) (a : Nat), (∀ x ∈ ks, 0 ≤ x ∧ x < (i : Int)) → ks.foldl (fun h x => max h (1 + highN (l.take (i + 1)) x.toNat)) a = ks.foldl (fun h x => max h (1 + highN l x.toNat)) a := by
    intro ks
    induction ks with
    | nil => intro a _; rfl
    | cons x ks ihk =>
      intro a h
      have := h x (by simp)
      rw [List.foldl_cons, List.foldl_cons, highN_take (by omega) hk2]
      exact ihk _ fun z hz => h z (by simp [hz])
  exact this ks 1 hx
end Go.Proofs.YtblcomejcahkdaaDoor.Ev
end
section
namespace Go.Proofs.YtblcomejcahkdaaDoor.Ev
open Go
set_option maxRecDepth 20000
set_option maxHeartbeats 8000000
theorem bidx_loop {n k b ty : Nat} {u : List Int} {cap : Option Nat} (hn : n < 1000000000) (hk : k ≤ n) {m0 : Mem} (hb : m0.get b = .cells (useds n u) 1 ty false) {fr : Fr} (h0 : fr.get 0 = .slice b 0 k cap) (h1 : fr.get 1 = .bool false) (h7 : fr.get 7 = .int .i64 (k : Int)) (h8 : fr.get 8 = .int .i64 0) (hd : fr.defers = []) :
    ∃ o, exec U (.loop F_slices_Index_bool_l0) fr m0 = some o ∧ (((∃ x ∈ upto k, x ∉ u) ∧ ∃ fr' r, o = .ret fr' m0 ∧ fr'.get 4 = .int .i64 r ∧ 0 ≤ r ∧ fr'.defers = []) ∨ ((¬ ∃ x ∈ upto k, x ∉ u) ∧ ∃ fr', o = .exit 0 fr' m0 ∧ fr'.defers = [])) := by
  refine loop_w (σ := Nat) (fun i fr m => m = m0 ∧ i ≤ k ∧ (∀ j : Nat, j < i → (j : Int) ∈ u) ∧ fr.get 0 = .slice b 0 k cap ∧ fr.get 1 = .bool false ∧ fr.get 7 = .int .i64 (k : Int) ∧ fr.get 8 = .int .i64 (i : Int) ∧ fr.defers = []) (fun i => k - i) _ ?_ 0 fr m0 ⟨rfl, Nat.zero_le _, by omega, h0, h1, h7, h8, hd⟩
  rintro i fr m ⟨rfl, hi, hall, h0, h1, h7, h8, hd⟩
  generalize hX : exec U F_slices_Index_bool_l0 fr m = X
  by_cases hlt : i < k
  · have hc : (i : Int) < (k : Int) := by omega
    have hg := useds_at (u := u) (show i < n by omega)
    have hix : idx k (.int .i64 (i : Int)) = some i := idx_cast hlt
    have hw1 := wrap_succ (i := i) (by omega)
    by_cases he : (i : Int) ∈ u
    · simp +contextual -implicitDefEqProofs (maxSteps := 1000000) (maxDischargeDepth := 8) only [F_slices_Index_bool_l0, h0, h1, h7, h8, hd, hc, hb, hg, hix, he, hw1, bo_tt, Nat.mul_one, zza, argsF, reduceIte, reduceCtorEq, Nat.reduceEqDiff, Nat.reduceBEq, Nat.reduceAdd, Int.reduceLT, Int.reduceLE, Int.reduceEq, Int.reduceToNat, Int.reduceNeg, Nat.reduceLeDiff, Int.reducePow, implies_true, UInt8.reduceToNat, Int.reduceSub, Int.reduceAdd, Nat.reduceLT, Nat.reduceMul, Nat.reduceSub, Nat.reduceBNe] at hX
      subst hX
      refine lw_norm (i + 1) (by omega) ⟨rfl, hlt, fun j hj => ?_, by simp only [h0, zzf, Nat.reduceBEq ], by simp only [h1, zzf, Nat.reduceBEq ], by simp only [h7, zzf, Nat.reduceBEq ], by simp only [zzf, Nat.reduceBEq ], by simp only [hd, zzf, Nat.reduceBEq ]⟩
      by_cases hji : j < i
      · exact hall j hji
      · obtain rfl : j = i := by omega
        exact he
    · simp +contextual -implicitDefEqProofs (maxSteps := 1000000) (maxDischargeDepth := 8) only [F_slices_Index_bool_l0, h0, h1, h7, h8, hd, hc, hb, hg, hix, he, hw1, bo_ff, Nat.mul_one, zza, argsF, reduceIte, reduceCtorEq, Nat.reduceEqDiff, Nat.reduceBEq, Nat.reduceAdd, Int.reduceLT, Int.reduceLE, Int.reduceEq, Int.reduceToNat, Int.reduceNeg, Nat.reduceLeDiff, Int.reducePow, implies_true, UInt8.reduceToNat, Int.reduceSub, Int.reduceAdd, Nat.reduceLT, Nat.reduceMul, Nat.reduceSub, Nat.reduceBNe] at hX
      subst hX
      exact lw_ret (.inl ⟨⟨(i : Int), upto_mem.2 ⟨by omega, hc⟩, he⟩, _, (i : Int), rfl, by simp only [zzf, Nat.reduceBEq ], by omega, by simp only [hd, zzf, Nat.reduceBEq ]⟩)
  · have hc : ¬ ((i : Int) < (k : Int)) := by omega
    simp +contextual -implicitDefEqProofs (maxSteps := 1000000) (maxDischargeDepth := 8) only [F_slices_Index_bool_l0, h0, h1, h7, h8, hd, hc, zza, argsF, reduceIte, reduceCtorEq, Nat.reduceEqDiff, Nat.reduceBEq, Nat.reduceAdd, Int.reduceLT, Int.reduceLE, Int.reduceEq, Int.reduceToNat, Int.reduceNeg, Nat.reduceLeDiff, Int.reducePow, implies_true, UInt8.reduceToNat, Int.reduceSub, Int.reduceAdd, Nat.reduceLT, Nat.reduceMul, Nat.reduceSub, Nat.reduceBNe] at hX
    subst hX
    refine lw_exit (.inr ⟨?_, _, rfl, by simp only [hd, zzf, Nat.reduceBEq ]⟩)
    rintro ⟨x, hx, hxu⟩
    have := upto_mem.1 hx
    have h := hall x.toNat (by omega)
    rw [show ((x.toNat : Nat) : Int) = x by omega] at h
    exact hxu h
theorem bidx_run {n k b ty : Nat} {u : List Int} {cap : Option Nat} (hn : n < 1000000000) (hk : k ≤ n) {m : Mem} (hb : m.get b = .cells (useds n u) 1 ty false) : ∃ r, run U n_slices_Index_bool [.slice b 0 k cap, .bool false] m = some (.ret (.int .i64 r) m) ∧ (0 ≤ r ↔ ∃ x ∈ upto k, x ∉ u) := by
  rw [run_p2 (by simp [F_slices_Index_bool])]
  generalize hL : exec (UT B K) (ICode.loop F_slices_Index_bool_l0) = L
  simp +contextual -implicitDefEqProofs (maxSteps := 1000000) (maxDischargeDepth := 8) only [F_slices_Index_bool, zza, argsF, reduceIte, reduceCtorEq, Nat.reduceEqDiff, Nat.reduceBEq, Nat.reduceAdd, Int.reduceLT, Int.reduceLE, Int.reduceEq, Int.reduceToNat, Int.reduceNeg, Nat.reduceLeDiff, Int.reducePow, implies_true, UInt8.reduceToNat, Int.reduceSub, Int.reduceAdd, Nat.reduceLT, Nat.reduceMul, Nat.reduceSub, Nat.reduceBNe]
  subst hL
  generalize hX : exec _ (.loop F_slices_Index_bool_l0) _ _ = X
  obtain ⟨o, rfl, h⟩ := looped hX (bidx_loop (n := n) (k := k) (b := b) (ty := ty) (u := u) (cap := cap) hn hk hb (by simp only [zzf, Nat.reduceBEq ]) (by simp only [zzf, Nat.reduceBEq ]) (by simp only [zzf, Nat.reduceBEq ]) (by simp only [zzf, Nat.reduceBEq ]) (by simp only [zzf, Nat.reduceBEq ]))
  rcases h with ⟨h, fr', r, rfl, h4, hr, hd⟩ | ⟨h, fr', rfl, hd⟩
  · refine ⟨r, ?_, ⟨fun _ => h, fun _ => hr⟩⟩
    simp +contextual -implicitDefEqProofs (maxSteps := 1000000) (maxDischargeDepth := 8) only [h4, hd, zza, argsF, reduceIte, reduceCtorEq, Nat.reduceEqDiff, Nat.reduceBEq, Nat.reduceAdd, Int.reduceLT, Int.reduceLE, Int.reduceEq, Int.reduceToNat, Int.reduceNeg, Nat.reduceLeDiff, Int.reducePow, implies_true, UInt8.reduceToNat, Int.reduceSub, Int.reduceAdd, Nat.reduceLT, Nat.reduceMul, Nat.reduceSub, Nat.reduceBNe]
  · refine ⟨-1, ?_, ⟨fun q => by omega, fun q => absurd q h⟩⟩
    simp +contextual -implicitDefEqProofs (maxSteps := 1000000) (maxDischargeDepth := 8) only [hd, zza, argsF, reduceIte, reduceCtorEq, Nat.reduceEqDiff, Nat.reduceBEq, Nat.reduceAdd, Int.reduceLT, Int.reduceLE, Int.reduceEq, Int.reduceToNat, Int.reduceNeg, Nat.reduceLeDiff, Int.reducePow, implies_true, UInt8.reduceToNat, Int.reduceSub, Int.reduceAdd, Nat.reduceLT, Nat.reduceMul, Nat.reduceSub, Nat.reduceBNe]
theorem bhas_run {n k b ty : Nat} {u : List Int} {cap : Option Nat} (hn : n < 1000000000) (hk : k ≤ n) {m : Mem} (hb : m.get b = .cells (useds n u) 1 ty false) : run U n_slices_Contains_bool [.slice b 0 k cap, .bool false] m = some (.ret (bo (∃ x ∈ upto k, x ∉ u)) m) := by
  rw [run_p2 (by simp [F_slices_Contains_bool])]
  obtain ⟨r, h, hr⟩ := bidx_run (cap := cap) hn hk hb
  simp +contextual -implicitDefEqProofs (maxSteps := 1000000) (maxDischargeDepth := 8) only [F_slices_Contains_bool, h, hr, zza, argsF, reduceIte, reduceCtorEq, Nat.reduceEqDiff, Nat.reduceBEq, Nat.reduceAdd, Int.reduceLT, Int.reduceLE, Int.reduceEq, Int.reduceToNat, Int.reduceNeg, Nat.reduceLeDiff, Int.reducePow, implies_true, UInt8.reduceToNat, Int.reduceSub, Int.reduceAdd, Nat.reduceLT, Nat.reduceMul, Nat.reduceSub, Nat.reduceBNe]
theorem heights_l1 {l : List Nd} {t bo_ bu to tu : Nat} {nl : Bool} (hs : Small l) (hn : ∀ d ∈ l, d.n ≤ 9223372036854775807) {m0 : Mem} {fr : Fr} (hne : bo_ ≠ bu) (hlo : bo_ < m0.next) (hlu : bu < m0.next)
    (hbo : m0.get bo_ = .cells (outs l 0 0) 1 to false) (hbu : m0.get bu = .cells (useds l.length []) 1 tu false) (h0 : fr.get 0 = row nl t 5 (nds l))
    (h3 : fr.get 3 = .slice bo_ 0 l.length (some l.length)) (h4 : fr.get 4 = .slice bu 0 l.length (some l.length)) (h15 : fr.get 15 = row nl t 5 (nds l)) (h16 : fr.get 16 = .int .i64 (l.length : Int)) (h17 : fr.get 17 = .int .i64 0) (hd : fr.defers = []) :
    ∃ o, exec U (.loop F_tree_Heights_l1) fr m0 = some o ∧ ((heightsTo l l.length ∧ ∃ fr' m', o = .exit 0 fr' m' ∧ m'.get bo_ = .cells (outs l l.length 0) 1 to false ∧ m'.get bu = .cells (useds l.length (usedL l)) 1 tu false ∧ bo_ < m'.next ∧ bu < m'.next ∧ fr'.get 0 = row nl t 5 (nds l) ∧ fr'.get 3 = .slice bo_ 0 l.length (some l.length) ∧ fr'.get 4 = .slice bu 0 l.length (some l.length) ∧ fr'.defers = []) ∨
      (¬ heightsTo l l.length ∧ ∃ fr' m', o = .ret fr' m' ∧ fr'.get 2 = .nilslice ∧ fr'.defers = [])) := by
  have hlen := hs.len
  refine loop_w (σ := Nat) (fun i fr m => i ≤ l.length ∧ heightsTo l i ∧ m.get bo_ = .cells (outs l i 0) 1 to false ∧ m.get bu = .cells (useds l.length (usedL (l.take i))) 1 tu false ∧ bo_ < m.next ∧ bu < m.next ∧ fr.get 0 = row nl t 5 (nds l) ∧ fr.get 3 = .slice bo_ 0 l.length (some l.length) ∧ fr.get 4 = .slice bu 0 l.length (some l.length) ∧
      fr.get 15 = row nl t 5 (nds l) ∧ fr.get 16 = .int .i64 (l.length : Int) ∧ fr.get 17 = .int .i64 (i : Int) ∧ fr.defers = []) (fun i => l.length - i) _ ?_ 0 fr m0
    ⟨Nat.zero_le _, ⟨fun j d hj => by omega, by simp [usedL]⟩, hbo, by simpa [usedL] using hbu, hlo, hlu, h0, h3, h4, h15, h16, h17, hd⟩
  rintro i fr m ⟨hi, hr, hbo, hbu, hlo, hlu, h0, h3, h4, h15, h16, h17, hd⟩
  generalize hX : exec U F_tree_Heights_l1 fr m = X
  by_cases hlt : i < l.length
  · have hc : (i : Int) < (l.length : Int) := by omega
    have hd0 : l[i]? = some l[i] := List.getElem?_eq_getElem hlt
    have hmem := List.getElem_mem hlt
    have hk1 := hs.kids _ hmem
    have hk2 := hs.s _ hmem
    have hnn := hn _ hmem
    have hsn := usedL_snoc hd0
    generalize l[i] = d at *
    have hkt : kidsLt (l.take i) := by
      intro j e he
      rw [List.getElem?_take] at he
      split at he
      · exact (hr.1 j e ‹_› he).1
      · cases he
    have hw1 := wrap_succ (i := i) (by omega)
    have hii : idx l.length (.int .i64 (i : Int)) = some i := idx_cast hlt
    have hol := outs_len (l := l) (i := i) (h := 0)
    have hos := outs_set (l := l) (h := 0) (h2 := 1) hlt
    have z2 : i + 1 ≤ l.length := hlt
    generalize hL : exec (UT B K) (ICode.loop F_tree_Heights_l0) = L
    simp +contextual -implicitDefEqProofs (maxSteps := 1000000) (maxDischargeDepth := 8) only [F_tree_Heights_l1, h0, h3, h4, h15, h16, h17, hd, hc, hd0, hii, hbo, hlo, hol, hos, z2, Nat.mul_one, nds_get, nds_len, Nd.cells, zza, argsF, reduceIte, reduceCtorEq, Nat.reduceEqDiff, Nat.reduceBEq, Nat.reduceAdd, Int.reduceLT, Int.reduceLE, Int.reduceEq, Int.reduceToNat, Int.reduceNeg, Nat.reduceLeDiff, Int.reducePow, implies_true, UInt8.reduceToNat, Int.reduceSub, Int.reduceAdd, Nat.reduceLT, Nat.reduceMul, Nat.reduceSub, Nat.reduceBNe] at hX
    subst hL
    generalize hY : exec _ (.loop F_tree_Heights_l0) _ _ = Y at hX
    have b1 : (ext (m.set bo_ (Blk.cells (outs l i 1) 1 to false)) [Blk.cells [EV.int IntKind.i64 d.kind, row d.nl 0 1 (ints d.kids), EV.int IntKind.i64 d.n, EV.str d.s, EV.int IntKind.i64 d.pos] 5 t_api_Node false]).get bo_ = .cells (outs l i 1) 1 to false := by rw [get_ext_old (by rw [next_set]; exact hlo), get_set_eq]
    have b2 : (ext (m.set bo_ (Blk.cells (outs l i 1) 1 to false)) [Blk.cells [EV.int IntKind.i64 d.kind, row d.nl 0 1 (ints d.kids), EV.int IntKind.i64 d.n, EV.str d.s, EV.int IntKind.i64 d.pos] 5 t_api_Node false]).get bu = .cells (useds l.length (usedL (l.take i))) 1 tu false := by rw [get_ext_old (by rw [next_set]; exact hlu), get_set_ne hne.symm, hbu]
    have b3 : (ext (m.set bo_ (Blk.cells (outs l i 1) 1 to false)) [Blk.cells [EV.int IntKind.i64 d.kind, row d.nl 0 1 (ints d.kids), EV.int IntKind.i64 d.n, EV.str d.s, EV.int IntKind.i64 d.pos] 5 t_api_Node false]).get (nb m.next 0) = Blk.cells [EV.int IntKind.i64 d.kind, row d.nl 0 1 (ints d.kids), EV.int IntKind.i64 d.n, EV.str d.s, EV.int IntKind.i64 d.pos] 5 t_api_Node false := by rw [get_ext_nb (by rw [next_set]) (by simp)]; rfl
    have b4 : (ext (m.set bo_ (Blk.cells (outs l i 1) 1 to false)) [Blk.cells [EV.int IntKind.i64 d.kind, row d.nl 0 1 (ints d.kids), EV.int IntKind.i64 d.n, EV.str d.s, EV.int IntKind.i64 d.pos] 5 t_api_Node false]).next = nb m.next 1 := by rw [next_ext, next_set]; rfl
    generalize (ext (m.set bo_ (Blk.cells (outs l i 1) 1 to false)) _) = M1 at b1 b2 b3 b4 hY
    obtain ⟨o, rfl, h⟩ := looped hY (heights_l0 (l := l) (i := i) (bo_ := bo_) (bu := bu) (to := to) (tu := tu) (d := d) (u := usedL (l.take i)) (v0 := row nl t 5 (nds l)) (v6 := .ptr (nb m.next 0) 0) (nl := d.nl) (t := 0) (w15 := row nl t 5 (nds l)) (w16 := .int .i64 (l.length : Int)) (w17 := .int .i64 (i : Int)) hkt hs hd0 hr.2 hne b1 b2
      (by simp only [h0, zzf, Nat.reduceBEq ]) (by simp only [zzf, Nat.reduceBEq ]) (by simp only [h3, zzf, Nat.reduceBEq ]) (by simp only [h4, zzf, Nat.reduceBEq ]) (by simp only [zzf, Nat.reduceBEq ]) (by simp only [h15, zzf, Nat.reduceBEq ]) (by simp only [h16, zzf, Nat.reduceBEq ]) (by simp only [h17, zzf, Nat.reduceBEq ]) (by simp only [zzf, Nat.reduceBEq ]) (by simp only [ints_len, zzf, Nat.reduceBEq ]) (by simp only [zzf, Nat.reduceBEq ]) (by simp only [hd, zzf, Nat.reduceBEq ]))
    rcases h with ⟨⟨g1, g2⟩, fr', m', rfl, c1, c2, c3, c4, h0, h6, h3, h4, h5, h15, h16, h17, hd⟩ | ⟨g, fr', m', rfl, h2, hd⟩
    · have hv : validK l d.kids := fun x hx => by have := g1 x hx; omega
      have hkk := kids_few g1 (List.nodup_append.1 g2).2.1
      have hh := high_fold hkt hd0 g1
      rw [← hh] at c1
      have hhas : ∀ t1 nl1, pureR B K n_tree_has [row nl1 t1 5 (nds l), .agg [.int .i64 d.kind, row d.nl 0 1 (ints d.kids), .int .i64 d.n, .str d.s, .int .i64 d.pos]] = some (bo (ownP d ∧ kidsP l d)) := fun t1 nl1 => by
        have := tree_has (l := l) (d := d) (t1 := t1) (nl1 := nl1) hv (by omega) (by omega)
        rw [bo_iff' (hasP_doc hnn (by omega))] at this
        exact this
      have hn0 : nb m.next 0 = m.next := rfl
      have b5 : m'.get (nb m.next 0) = Blk.cells [EV.int IntKind.i64 d.kind, row d.nl 0 1 (ints d.kids), EV.int IntKind.i64 d.n, EV.str d.s, EV.int IntKind.i64 d.pos] 5 t_api_Node false := (c4 _ (by rw [hn0]; omega) (by rw [hn0]; omega)).trans b3
      have hou := outs_at (l := l) (h := (highN l i : Int)) hlt
      have hq2 : ((200 : Int) < (highN l i : Int)) = (200 < highN l i) := propext (by omega)
      have nx : nb m.next 1 = m.next + 1 := rfl
      simp +contextual -implicitDefEqProofs (maxSteps := 1000000) (maxDischargeDepth := 8) only [h0, h3, h4, h5, h6, h15, h16, h17, hd, hhas, b5, c1, hou, hii, hq2, hw1, Nat.mul_one, zza, argsF, reduceIte, reduceCtorEq, Nat.reduceEqDiff, Nat.reduceBEq, Nat.reduceAdd, Int.reduceLT, Int.reduceLE, Int.reduceEq, Int.reduceToNat, Int.reduceNeg, Nat.reduceLeDiff, Int.reducePow, implies_true, UInt8.reduceToNat, Int.reduceSub, Int.reduceAdd, Nat.reduceLT, Nat.reduceMul, Nat.reduceSub, Nat.reduceBNe] at hX
      subst hX
      refine lw_iF (fun hp => lw_ret (Or.inr ⟨fun q => ?_, _, _, rfl, by simp only [zzf, Nat.reduceBEq ], by simp only [hd, zzf, Nat.reduceBEq ]⟩)) (fun hp => lw_norm (i + 1) (by omega) ⟨hlt, ⟨fun j e hj he => ?_, by rw [hsn]; exact g2⟩, by rw [← outs_next]; exact c1, by rw [hsn]; exact c2, by omega, by omega, by simp only [h0, zzf, Nat.reduceBEq ], by simp only [h3, zzf, Nat.reduceBEq ], by simp only [h4, zzf, Nat.reduceBEq ], by simp only [h15, zzf, Nat.reduceBEq ], by simp only [h16, zzf, Nat.reduceBEq ], by simp only [zzf, Nat.reduceBEq ], by simp only [hd, zzf, Nat.reduceBEq ]⟩)
      · obtain ⟨_, q1, q2⟩ := q.1 i d hlt hd0
        exact hp.elim (fun h => h q1) (fun h => by omega)
      · by_cases hji : j < i
        · exact hr.1 j e hji he
        · obtain rfl : j = i := by omega
          rw [hd0] at he; cases he
          exact ⟨g1, Classical.byContradiction fun h => hp (.inl h), Classical.byContradiction fun h => hp (.inr (by omega))⟩
    · simp +contextual -implicitDefEqProofs (maxSteps := 1000000) (maxDischargeDepth := 8) only [h2, hd, zza, argsF, reduceIte, reduceCtorEq, Nat.reduceEqDiff, Nat.reduceBEq, Nat.reduceAdd, Int.reduceLT, Int.reduceLE, Int.reduceEq, Int.reduceToNat, Int.reduceNeg, Nat.reduceLeDiff, Int.reducePow, implies_true, UInt8.reduceToNat, Int.reduceSub, Int.reduceAdd, Nat.reduceLT, Nat.reduceMul, Nat.reduceSub, Nat.reduceBNe] at hX
      subst hX
      refine lw_ret (Or.inr ⟨fun q => g ⟨(q.1 i d hlt hd0).1, ?_⟩, _, _, rfl, h2, hd⟩)
      rw [← hsn]
      exact q.2.sublist (by rw [List.take_of_length_le (Nat.le_refl _)]; exact usedL_pre _)
  · have hc : ¬ ((i : Int) < (l.length : Int)) := by omega
    obtain rfl : i = l.length := by omega
    rw [List.take_of_length_le (Nat.le_refl _)] at hbu
    simp +contextual -implicitDefEqProofs (maxSteps := 1000000) (maxDischargeDepth := 8) only [F_tree_Heights_l1, h0, h3, h4, h15, h16, h17, hd, hc, zza, argsF, reduceIte, reduceCtorEq, Nat.reduceEqDiff, Nat.reduceBEq, Nat.reduceAdd, Int.reduceLT, Int.reduceLE, Int.reduceEq, Int.reduceToNat, Int.reduceNeg, Nat.reduceLeDiff, Int.reducePow, implies_true, UInt8.reduceToNat, Int.reduceSub, Int.reduceAdd, Nat.reduceLT, Nat.reduceMul, Nat.reduceSub, Nat.reduceBNe] at hX
    subst hX
    exact lw_exit (Or.inl ⟨hr, _, _, rfl, hbo, hbu, hlo, hlu, by simp only [h0, zzf, Nat.reduceBEq ], by simp only [h3, zzf, Nat.reduceBEq ], by simp only [h4, zzf, Nat.reduceBEq ], by simp only [hd, zzf, Nat.reduceBEq ]⟩)
def heightsL (l : List Nd) : List Int := (List.range l.length).map fun j => (highN l j : Int)
open Classical in
noncomputable def heightsV (l : List Nd) : EV := if rightP l then .fz 0 1 (ints (heightsL l)) else .nilslice
theorem ev_take {e b off len c h : Nat} {k : IntKind} (hh : h ≤ c) : evSlice e b off len (some c) none (some (.int k (h : Int))) none = some (.slice b off h (some c)) := by
  have h1 : bound (some (.int k (h : Int))) len c = some h := bound_cast hh
  unfold evSlice
  simp only [bound_none, h1, Nat.zero_mul, Nat.add_zero, Nat.sub_zero]
  cases c.beq 0 <;> rfl
theorem tree_heights {l : List Nd} {t : Nat} {nl : Bool} (hs : Small l) (hn : ∀ d ∈ l, d.n ≤ 9223372036854775807) : pureR B K n_tree_Heights [row nl t 5 (nds l)] = some (heightsV l) := by
  have hlen := hs.len
  rw [pure_at (by simp [F_tree_Heights])]
  generalize hL : exec (UT B K) (ICode.loop F_tree_Heights_l1) = L
  have hcast : ((l.length : Nat) : Int) = Int.ofNat l.length := rfl
  have k1 : l.length.ble l.length = true := Nat.ble_eq_true_of_le (Nat.le_refl _)
  have k2 : l.length.ble room = true := Nat.ble_eq_true_of_le (by unfold room; omega)
  simp +contextual -implicitDefEqProofs (maxSteps := 1000000) (maxDischargeDepth := 8) only [F_tree_Heights, nds_len, hcast, k1, k2, outs_0, useds_0, zza, argsF, reduceIte, reduceCtorEq, Nat.reduceEqDiff, Nat.reduceBEq, Nat.reduceAdd, Int.reduceLT, Int.reduceLE, Int.reduceEq, Int.reduceToNat, Int.reduceNeg, Nat.reduceLeDiff, Int.reducePow, implies_true, UInt8.reduceToNat, Int.reduceSub, Int.reduceAdd, Nat.reduceLT, Nat.reduceMul, Nat.reduceSub, Nat.reduceBNe]
  subst hL
  generalize hX : exec _ (.loop F_tree_Heights_l1) _ _ = X
  have hnn : nb mem00.next 0 = mem00.next := rfl
  obtain ⟨o, rfl, h⟩ := looped hX (heights_l1 (l := l) (t := t) (nl := nl) (bo_ := mem00.next) (bu := nb mem00.next 1) (to := t_int) (tu := t_bool) hs hn (by unfold nb; omega) (by rw [next_ext]; unfold nb; simp) (by rw [next_ext]; unfold nb; simp) (by rw [← hnn, get_ext_nb rfl (by simp)]; rfl) (by rw [get_ext_nb rfl (by simp)]; rfl)
    (by simp only [zzf, Nat.reduceBEq ]) (by simp only [zzf, Nat.reduceBEq ]) (by simp only [zzf, Nat.reduceBEq ]) (by simp only [zzf, Nat.reduceBEq ]) (by simp only [hcast, zzf, Nat.reduceBEq ]) (by simp only [zzf, Nat.reduceBEq ]) (by simp only [zzf, Nat.reduceBEq ]))
  rcases h with ⟨h, fr', m', rfl, c1, c2, c3, c4, h0, h3, h4, hd⟩ | ⟨h, fr', m', rfl, h2, hd⟩
  · by_cases hl0 : l.length = 0
    · have hv : heightsV l = .nilslice := if_neg fun q => by have := q.2.1; omega
      rw [hv]
      simp +contextual -implicitDefEqProofs (maxSteps := 1000000) (maxDischargeDepth := 8) only [h0, hd, hl0, nds_len, zza, argsF, reduceIte, reduceCtorEq, Nat.reduceEqDiff, Nat.reduceBEq, Nat.reduceAdd, Int.reduceLT, Int.reduceLE, Int.reduceEq, Int.reduceToNat, Int.reduceNeg, Nat.reduceLeDiff, Int.reducePow, implies_true, UInt8.reduceToNat, Int.reduceSub, Int.reduceAdd, Nat.reduceLT, Nat.reduceMul, Nat.reduceSub, Nat.reduceBNe]
    · have hc : ¬ ((l.length : Int) = 0) := by omega
      have hw : IntKind.i64.wrap ((l.length : Int) - 1) = ((l.length - 1 : Nat) : Int) := by rw [wrap_i64 (by omega) (by omega)]; omega
      have hsl := fun b => ev_take (e := 1) (b := b) (off := 0) (len := l.length) (c := l.length) (h := l.length - 1) (k := .i64) (by omega)
      have hhas := fun cap => bhas_run (n := l.length) (k := l.length - 1) (cap := cap) (by omega) (by omega) c2
      have hfz : frzV m' (.slice mem00.next 0 l.length (some l.length)) = some (.fz 0 1 (ints (heightsL l))) := by
        have e : (ints (heightsL l)).length = l.length := by rw [ints_len]; simp [heightsL]
        have := frzV_block (m := m') (els := ints (heightsL l)) (e := 1) (b := mem00.next) (cap := some l.length) (ty := t_int) (ro := false) (by rw [c1, outs_end]; rfl) (ints_els _) (ints_plain _) (by rw [e]; simp [capOk])
        rw [e] at this; exact this
      by_cases hex : ∃ x ∈ upto (l.length - 1), x ∉ usedL l
      · have hv : heightsV l = .nilslice := if_neg fun q => by
          obtain ⟨x, hx, hxu⟩ := hex
          exact hxu ((heights_right.1 q).2.2 x hx)
        rw [hv]
        simp +contextual -implicitDefEqProofs (maxSteps := 1000000) (maxDischargeDepth := 8) only [h0, h3, h4, hd, hc, hw, hsl, hhas, hex, bo_tt, nds_len, zza, argsF, reduceIte, reduceCtorEq, Nat.reduceEqDiff, Nat.reduceBEq, Nat.reduceAdd, Int.reduceLT, Int.reduceLE, Int.reduceEq, Int.reduceToNat, Int.reduceNeg, Nat.reduceLeDiff, Int.reducePow, implies_true, UInt8.reduceToNat, Int.reduceSub, Int.reduceAdd, Nat.reduceLT, Nat.reduceMul, Nat.reduceSub, Nat.reduceBNe]
      · have hv : heightsV l = .fz 0 1 (ints (heightsL l)) := if_pos (heights_right.2 ⟨h, by omega, fun x hx => Classical.byContradiction fun q => hex ⟨x, hx, q⟩⟩)
        rw [hv]
        simp +contextual -implicitDefEqProofs (maxSteps := 1000000) (maxDischargeDepth := 8) only [h0, h3, h4, hd, hc, hw, hsl, hhas, hex, bo_ff, nds_len, hfz, zza, argsF, reduceIte, reduceCtorEq, Nat.reduceEqDiff, Nat.reduceBEq, Nat.reduceAdd, Int.reduceLT, Int.reduceLE, Int.reduceEq, Int.reduceToNat, Int.reduceNeg, Nat.reduceLeDiff, Int.reducePow, implies_true, UInt8.reduceToNat, Int.reduceSub, Int.reduceAdd, Nat.reduceLT, Nat.reduceMul, Nat.reduceSub, Nat.reduceBNe]
  · have hv : heightsV l = .nilslice := if_neg fun q => h (heights_right.1 q).1
    rw [hv]
    simp +contextual -implicitDefEqProofs (maxSteps := 1000000) (maxDischargeDepth := 8) only [h2, hd, zza, argsF, reduceIte, reduceCtorEq, Nat.reduceEqDiff, Nat.reduceBEq, Nat.reduceAdd, Int.reduceLT, Int.reduceLE, Int.reduceEq, Int.reduceToNat, Int.reduceNeg, Nat.reduceLeDiff, Int.reducePow, implies_true, UInt8.reduceToNat, Int.reduceSub, Int.reduceAdd, Nat.reduceLT, Nat.reduceMul, Nat.reduceSub, Nat.reduceBNe]
theorem heights_yes {l : List Nd} {t : Nat} {nl : Bool} (hs : Small l) (hn : ∀ d ∈ l, d.n ≤ 9223372036854775807) (h : rightP l) : pureR B K n_tree_Heights [row nl t 5 (nds l)] = some (.fz 0 1 (ints (heightsL l))) := by
  rw [tree_heights hs hn]; exact congrArg some (if_pos h)
theorem heights_no {l : List Nd} {t : Nat} {nl : Bool} (hs : Small l) (hn : ∀ d ∈ l, d.n ≤ 9223372036854775807) (h : ¬ rightP l) : pureR B K n_tree_Heights [row nl t 5 (nds l)] = some .nilslice := by
  rw [tree_heights hs hn]; exact congrArg some (if_neg h)
theorem heightsL_len {l : List Nd} : (heightsL l).length = l.length := by simp [heightsL]
theorem tree_right {l : List Nd} {t : Nat} {nl : Bool} (hs : Small l) (hn : ∀ d ∈ l, d.n ≤ 9223372036854775807) : pureR B K n_tree_Right [row nl t 5 (nds l)] = some (bo (rightP l)) := by
  rw [pure_at (by simp [F_tree_Right])]
  by_cases h : rightP l
  · have e := fun t nl => heights_yes (t := t) (nl := nl) hs hn h
    have hc : (0 : Int) < (l.length : Int) := by have := h.2.1; omega
    simp +contextual -implicitDefEqProofs (maxSteps := 1000000) (maxDischargeDepth := 8) only [F_tree_Right, e, h, heightsL_len, ints_len, hc, bo_tt, zza, argsF, reduceIte, reduceCtorEq, Nat.reduceEqDiff, Nat.reduceBEq, Nat.reduceAdd, Int.reduceLT, Int.reduceLE, Int.reduceEq, Int.reduceToNat, Int.reduceNeg, Nat.reduceLeDiff, Int.reducePow, implies_true, UInt8.reduceToNat, Int.reduceSub, Int.reduceAdd, Nat.reduceLT, Nat.reduceMul, Nat.reduceSub, Nat.reduceBNe]
  · have e := fun t nl => heights_no (t := t) (nl := nl) hs hn h
    simp +contextual -implicitDefEqProofs (maxSteps := 1000000) (maxDischargeDepth := 8) only [F_tree_Right, e, h, bo_ff, zza, argsF, reduceIte, reduceCtorEq, Nat.reduceEqDiff, Nat.reduceBEq, Nat.reduceAdd, Int.reduceLT, Int.reduceLE, Int.reduceEq, Int.reduceToNat, Int.reduceNeg, Nat.reduceLeDiff, Int.reducePow, implies_true, UInt8.reduceToNat, Int.reduceSub, Int.reduceAdd, Nat.reduceLT, Nat.reduceMul, Nat.reduceSub, Nat.reduceBNe]
def wholeP (l : List Nd) : Prop := rightP l ∧ kindOf l ((l.length - 1 : Nat) : Int) = 26
end Go.Proofs.YtblcomejcahkdaaDoor.Ev
end
section
namespace Go.Proofs.YtblcomejcahkdaaDoor.Ev
open Go
def Stands (m : Mem) : Prop := ∀ b cs e t ro, m.get b = .cells cs e t ro → b < m.next
theorem in_live {n0 : Nat} {bs : List InB} (hl : (∀ p ∈ globs, p.1 < n0) ∧ ∀ g l, tabl g = some l → g < n0) : Stands (inMem n0 bs) := by
  intro b cs e t ro h
  refine Classical.byContradiction fun q => ?_
  have : (inMem n0 bs).next = n0 + bs.length := rfl
  rw [inMem_dead hl (by omega)] at h
  cases h
end Go.Proofs.YtblcomejcahkdaaDoor.Ev
end
section
namespace Go.Proofs.YtblcomejcahkdaaDoor.Ev
open Go Go.Deep
def GFact (w : World) (g : Nat) (l : List (List UInt8)) : Prop :=
  ∃ (arr : Array Value) (e : TypeId) (fz : Nat × Nat) (blk off cap : Nat) (arr2 : Array Value) (e2 : TypeId) (fz2 : Nat × Nat),
    w.heap[g]? = some (.cells arr e fz) ∧ arr.toList = [.slice (some ⟨blk, off, none⟩) l.length cap] ∧ l.length ≤ cap ∧
    w.heap[blk]? = some (.cells arr2 e2 fz2) ∧ off + l.length ≤ arr2.size ∧ ∀ (j : Nat) (s : List UInt8), l[j]? = some s → ∃ b, arr2[off + j]? = some (.string b) ∧ b.data.toList = s
theorem gfact_of {H : Type} {enc : TypeId × Value → H} {P : Program} {w : World} {base : Nat} {sp : Nat → Bool} {held : Bool} {g : Nat} {t e : TypeId} {name : String} {l : List (List UInt8)} {fuel : Nat} {p : List MemPlace} {cs : Array Value} {D : DataW H} (hne : l ≠ []) (hD : D = .slice (l.map fun s => .lit (.string s)) [])
    (hg : P.globalNamed name = some g) (ht : P.underlying t = some (.slice e)) (hc : P.cellsOf e = 1) (he : P.underlying e = some .string) (hv : w.var? P name = some cs)
    (hd : DataW.trod enc P w base sp held fuel t cs.toList = some (D, p)) : GFact w g l := by
  subst hD
  obtain ⟨a, cap, h1, h2, h3⟩ := open_row ht hc hd
  rw [List.length_map] at h1 h2
  have hcell : ∀ i s, l[i]? = some s → ∃ b, w.cell? (a.add i) = some (.string b) ∧ b.data.toList = s := by
    intro i s hs
    obtain ⟨v, n, q, hv1, hv2⟩ := h3 i (.lit (.string s)) (by rw [List.getElem?_map, hs]; rfl)
    obtain ⟨b, hb, hx, _⟩ := DataW.trod_string he hv2
    simp only [List.cons.injEq, and_true] at hb
    subst hb
    refine ⟨b, hv1, ?_⟩
    simp only [Prod.mk.injEq, DataW.lit.injEq, Lit.string.injEq] at hx
    exact hx.1.symm
  have hpos : 0 < l.length := List.length_pos_iff.2 hne
  obtain ⟨blk, off, arr2, e2, fz2, rfl, harr⟩ : ∃ blk off arr ty fz, a = ⟨blk, off, none⟩ ∧ w.heap[blk]? = some (.cells arr ty fz) := by
    obtain ⟨b, hv, _⟩ := hcell 0 l[0] (List.getElem?_eq_getElem hpos)
    have hv : w.cell? a = some (.string b) := hv
    obtain ⟨blk, off, spot⟩ := a
    unfold World.cell? at hv
    split at hv
    · rename_i c t z hh
      cases spot with
      | none => exact ⟨blk, off, c, t, z, rfl, hh⟩
      | some x => simp at hv
    · cases hv
  have hat : ∀ n, w.cell? ⟨blk, off + n, none⟩ = arr2[off + n]? := fun n => by unfold World.cell?; simp [harr]
  have hget : ∀ (j : Nat) (s : List UInt8), l[j]? = some s → ∃ b, arr2[off + j]? = some (.string b) ∧ b.data.toList = s := by
    intro j s hs
    obtain ⟨b, hb, hbs⟩ := hcell j s hs
    rw [lit_add, hat] at hb
    exact ⟨b, hb, hbs⟩
  have hle : off + l.length ≤ arr2.size := by
    obtain ⟨b, hb, _⟩ := hget (l.length - 1) _ (List.getElem?_eq_getElem (by omega))
    have := (Array.getElem?_eq_some_iff.1 hb).1
    omega
  unfold World.var? at hv
  rw [hg] at hv
  simp only [Option.bind_some] at hv
  split at hv
  · rename_i c t' z hh
    cases hv
    exact ⟨_, _, _, blk, off, cap, arr2, e2, fz2, hh, h1, h2, harr, hle, hget⟩
  · cases hv
def Back (w : World) (g : Nat) (l : List (List UInt8)) (B : InB) : Prop := B.cs = l.map .str ∧ B.esz = 1 ∧
  (∃ (arr : Array Value) (e : TypeId) (fz : Nat × Nat) (cap : Nat), w.heap[g]? = some (.cells arr e fz) ∧ arr.toList = [.slice (some ⟨B.blk, B.off, none⟩) l.length cap] ∧ l.length ≤ cap) ∧
  ∃ (arr : Array Value) (e : TypeId) (fz : Nat × Nat), w.heap[B.blk]? = some (.cells arr e fz) ∧ arr.size = B.total ∧ B.off + l.length ≤ B.total ∧ ∀ (j : Nat) (s : List UInt8), l[j]? = some s → ∃ b, arr[B.off + j]? = some (.string b) ∧ b.data.toList = s
theorem backs {w : World} : ∀ gs : List (Nat × List (List UInt8)), (∀ p ∈ gs, GFact w p.1 p.2) → ∃ bk : List InB, bk.length = gs.length ∧ ∀ (j g : Nat) (l : List (List UInt8)), gs[j]? = some (g, l) → ∃ B, bk[j]? = some B ∧ Back w g l B
  | [], _ => ⟨[], rfl, fun j g l h => by simp at h⟩
  | (g, l) :: gs, h => by
    obtain ⟨bk, h1, h2⟩ := backs gs fun p hp => h p (by simp [hp])
    obtain ⟨arr, e, fz, blk, off, cap, arr2, e2, fz2, a1, a2, a3, a4, a5, a6⟩ := h (g, l) (by simp)
    refine ⟨⟨blk, off, arr2.size, 1, l.map .str⟩ :: bk, by simp [h1], fun j g' l' hj => ?_⟩
    cases j with
    | zero =>
      simp only [List.getElem?_cons_zero, Option.some.injEq, Prod.mk.injEq] at hj
      obtain ⟨rfl, rfl⟩ := hj
      exact ⟨_, rfl, rfl, rfl, ⟨arr, e, fz, cap, a1, a2, a3⟩, arr2, e2, fz2, a4, rfl, a5, a6⟩
    | succ j => exact h2 j g' l' (by simpa using hj)
theorem tfact_of {H : Type} {enc : TypeId × Value → H} {P : Program} {w : World} {base : Nat} {sp : Nat → Bool} {held : Bool} {g : Nat} {t e : TypeId} {n : Nat} {name : String} {l : List Int} {fuel : Nat} {p : List MemPlace} {cs : Array Value} {D : DataW H} (hgn : glob g = none) (hD : D = Go.Lib.tabData .u64 l)
    (hg : P.globalNamed name = some g) (ht : P.underlying t = some (.array n e)) (he : P.underlying e = some (.int .u64)) (hce : P.cellsOf e = 1) (hct : P.cellsOf t = n) (hv : w.var? P name = some cs)
    (hd : DataW.trod enc P w base sp held fuel t cs.toList = some (D, p)) : TFact w g l := by
  subst hD
  have h := Go.Lib.cells_of_tab ht he hce hct hd
  unfold World.var? at hv
  rw [hg] at hv
  simp only [Option.bind_some] at hv
  split at hv
  · rename_i c t' z hh
    cases hv
    exact ⟨hgn, _, _, _, hh, h⟩
  · cases hv
theorem args_card {w : World} {n0 : Nat} {shs : List Sh} {vs : List Value} (hg : (∀ p ∈ globs, GFact w p.1 p.2) ∧ ∀ g l, tabl g = some l → TFact w g l) (hl : (∀ p ∈ globs, p.1 < n0) ∧ ∀ g l, tabl g = some l → g < n0) (h : DecVs w n0 shs vs) :
    ∃ (bs : List InB) (es : List EV) (ds : List Dt), InOk w n0 bs ∧ GlobIn w n0 bs ∧ VRs (inRen n0 bs) es vs ∧ RepVs (inMem n0 bs) shs es ds := by
  obtain ⟨bk, hb1, hb2⟩ := backs globs hg.1
  obtain ⟨k, ds, h⟩ := h
  obtain ⟨es, bs, h1, h2⟩ := h bk.length
  obtain ⟨c1, c2, c3⟩ := h2 (bk ++ bs) (fun i _ => by rw [List.getElem?_append_right (by omega)]; congr 1; omega)
  refine ⟨bk ++ bs, es, ds, fun i B hB => ?_, ⟨hl, hg.2, fun j g l hj => ?_⟩, c1, c3⟩
  · by_cases hi : i < bk.length
    · rw [List.getElem?_append_left hi] at hB
      obtain ⟨⟨g, l⟩, hgl⟩ : ∃ p, globs[i]? = some p := ⟨_, List.getElem?_eq_getElem (by omega)⟩
      obtain ⟨B', hB', q1, q2, q3, arr, e, fz, q4, q5, q6, q7⟩ := hb2 i g l hgl
      rw [hB] at hB'; cases hB'
      refine ⟨arr, e, fz, q4, q5, by rw [q1, List.length_map]; exact q6, fun j v hj => ?_⟩
      rw [q1, List.getElem?_map] at hj
      obtain ⟨s, hs, rfl⟩ := Option.map_eq_some_iff.1 hj
      obtain ⟨b, hb, rfl⟩ := q7 j s hs
      exact ⟨_, hb, .str _, rfl⟩
    · rw [List.getElem?_append_right (by omega)] at hB
      exact c2 _ B hB
  · obtain ⟨B, hB, q1, q2, ⟨arr, e, fz, cap, q3, q4, q5⟩, _⟩ := hb2 j g l hj
    have hlt := (List.getElem?_eq_some_iff.1 hB).1
    have hB' : (bk ++ bs)[j]? = some B := by rw [List.getElem?_append_left hlt]; exact hB
    have hsz : arr.size = 1 := by rw [← Array.length_toList, q4]; rfl
    exact ⟨⟨arr, e, fz, _, q3, hsz, by rw [← Array.getElem?_toList, q4]; rfl, in_slice hB' rfl rfl q5 fun _ => rfl, rfl⟩, B, hB', q1, q2⟩
theorem strs1_flat (l : List (List UInt8)) : (strs1 l).flatten = l.map .str := by
  induction l with
  | nil => rfl
  | cons s l ih => show (([EV.str s] :: strs1 l).flatten) = _; rw [List.flatten_cons, ih]; rfl
theorem glob_still {w : World} {n0 : Nat} {bs : List InB} (h : GlobIn w n0 bs) : GlobOk (still (inMem n0 bs)) := by
  refine ⟨fun g l hg => ?_, fun g l hg => ?_⟩
  case refine_2 =>
    have hlt := h.1.2 g l hg
    have hn : (inMem n0 bs).next = n0 + bs.length := rfl
    show (if g < (inMem n0 bs).next then some ((inMem n0 bs).get g) else none) = _
    rw [if_pos (by rw [hn]; omega), inMem_low hlt]
    have hf := gfind_glob (b := g) globs 0
    have hgn := (h.2.1 g l hg).1
    unfold glob at hgn
    rw [hgn] at hf
    rw [Option.map_eq_none_iff.1 hf, hg]
    rfl
  have hf := gfind_glob (b := g) globs 0
  unfold glob at hg
  rw [hg] at hf
  obtain ⟨⟨p, l'⟩, hp, hl'⟩ := Option.map_eq_some_iff.1 hf
  simp only at hl'
  subst hl'
  have h2 := (gfind_at _ _ hp).2
  rw [Nat.sub_zero] at h2
  have hlt := h.1.1 _ (List.mem_of_getElem? h2)
  obtain ⟨_, B, hB, q1, q2⟩ := h.2.2 p g l' h2
  have m1 : (inMem n0 bs).get g = .cells [.slice (n0 + p) 0 l'.length none] 1 0 true := by rw [inMem_low hlt, hp]; rfl
  have m2 : (inMem n0 bs).get (n0 + p) = .cells (l'.map .str) 1 0 true := by rw [inMem_at hB, q1, q2]
  have hpl := (List.getElem?_eq_some_iff.1 hB).1
  have hn : (inMem n0 bs).next = n0 + bs.length := rfl
  have s1 : (still (inMem n0 bs)).sta g = some (.cells [.slice (n0 + p) 0 l'.length none] 1 0 true) := by
    show (if g < (inMem n0 bs).next then some ((inMem n0 bs).get g) else none) = _
    rw [if_pos (by rw [hn]; omega), m1]
  have s2 : (still (inMem n0 bs)).sta (n0 + p) = some (.cells (l'.map .str) 1 0 true) := by
    show (if n0 + p < (inMem n0 bs).next then some ((inMem n0 bs).get (n0 + p)) else none) = _
    rw [if_pos (by rw [hn]; omega), m2]
  have self : ∀ (θ : Tie) (x : List (List UInt8)), SVs θ (x.map .str) (x.map .str) := fun θ x => by
    induction x with
    | nil => exact .nil
    | cons s x ih => exact .cons (.str s) ih
  have hlen : (strs1 l').length = l'.length := by simp [strs1]
  refine .fptr (.mk (off := 0) s1 (by simp) (by simp) (.cons ?_ .nil)) (by simp) (by simp)
  have := SV.fz (θ := (still (inMem n0 bs)).low) (t := 0) (esz := 1) (els := strs1 l') (b := n0 + p) (off := 0) (cap := none) (.mk s2 (by simp [strs1]) (by simp [hlen]) (by
    rw [strs1_flat, List.drop_zero, hlen, Nat.mul_one, List.take_of_length_le (by simp)]; exact self _ l')) (.inl rfl) (fun c hc => by cases hc)
  rw [hlen] at this
  exact this
end Go.Proofs.YtblcomejcahkdaaDoor.Ev
end
section
namespace Go.Proofs.YtblcomejcahkdaaDoor.Ev
open Go
set_option maxRecDepth 10000
set_option maxHeartbeats 4000000
def opsL : List Txt := [[124, 124], [38, 38], [61, 61], [33, 61], [60], [60, 61], [62], [62, 61], [43], [45], [43, 37], [45, 37], [42], [47], [37], [42, 37]]
theorem signs_opsL : L_tree_signs = [] :: opsL := rfl
def signT (op : Int) : Txt := if 1 ≤ op ∧ op ≤ 16 then opsL.getD (op - 1).toNat [] else []
theorem tree_sign {op : Int} (h1 : -9223372036854775808 ≤ op) (h2 : op < 9223372036854775808) : pureR B K n_tree_Sign [.int .i64 op] = some (.str (signT op)) := by
  rw [pure_at (by simp [S_tree_Sign])]
  have hl := fun m => load_gl (l := [] :: opsL) (m := m)
  have hlen : (strs1 ([] :: opsL)).length = 17 := rfl
  by_cases a : op < 0
  · have e : signT op = [] := if_neg (by omega)
    rw [e]
    simp +contextual -implicitDefEqProofs (maxSteps := 1000000) (maxDischargeDepth := 8) only [S_tree_Sign, a, zza, argsF, reduceIte, reduceCtorEq, Nat.reduceEqDiff, Nat.reduceBEq, Nat.reduceAdd, Int.reduceLT, Int.reduceLE, Int.reduceEq, Int.reduceToNat, Int.reduceNeg, Nat.reduceLeDiff, Int.reducePow, implies_true, UInt8.reduceToNat, Int.reduceSub, Int.reduceAdd, Nat.reduceLT, Nat.reduceMul, Nat.reduceSub, Nat.reduceBNe]
  · by_cases b : 17 ≤ op
    · have e : signT op = [] := if_neg (by omega)
      rw [e]
      simp +contextual -implicitDefEqProofs (maxSteps := 1000000) (maxDischargeDepth := 8) only [S_tree_Sign, a, signs_opsL, hl, hlen, b, zza, argsF, reduceIte, reduceCtorEq, Nat.reduceEqDiff, Nat.reduceBEq, Nat.reduceAdd, Int.reduceLT, Int.reduceLE, Int.reduceEq, Int.reduceToNat, Int.reduceNeg, Nat.reduceLeDiff, Int.reducePow, implies_true, UInt8.reduceToNat, Int.reduceSub, Int.reduceAdd, Nat.reduceLT, Nat.reduceMul, Nat.reduceSub, Nat.reduceBNe]
    · obtain ⟨n, rfl⟩ : ∃ n : Nat, op = (n : Int) := ⟨op.toNat, by omega⟩
      have hn : n < 17 := by omega
      have hi : idx 17 (.int .i64 (n : Int)) = some n := idx_cast hn
      have hg : ([] :: opsL)[n]? = some (signT (n : Int)) := by
        have : ∀ n : Nat, n < 17 → ([] :: opsL)[n]? = some (signT (n : Int)) := by decide
        exact this n hn
      simp +contextual -implicitDefEqProofs (maxSteps := 1000000) (maxDischargeDepth := 8) only [S_tree_Sign, a, signs_opsL, hl, hlen, b, hi, strs1_get, hg, zza, argsF, reduceIte, reduceCtorEq, Nat.reduceEqDiff, Nat.reduceBEq, Nat.reduceAdd, Int.reduceLT, Int.reduceLE, Int.reduceEq, Int.reduceToNat, Int.reduceNeg, Nat.reduceLeDiff, Int.reducePow, implies_true, UInt8.reduceToNat, Int.reduceSub, Int.reduceAdd, Nat.reduceLT, Nat.reduceMul, Nat.reduceSub, Nat.reduceBNe]
def kindT (k : Int) : Txt := if k = 1 then [105, 110, 116] else if k = 2 then [98, 111, 111, 108] else if k = 3 then [97, 114, 114] else []
theorem tree_kind {k : Int} : pureR B K n_tree_Kind [.int .i64 k] = some (.str (kindT k)) := by
  rw [pure_at (by simp [F_tree_Kind])]
  unfold kindT
  by_cases a : k = 1
  · subst a; simp +contextual -implicitDefEqProofs (maxSteps := 1000000) (maxDischargeDepth := 8) only [F_tree_Kind, zza, argsF, reduceIte, reduceCtorEq, Nat.reduceEqDiff, Nat.reduceBEq, Nat.reduceAdd, Int.reduceLT, Int.reduceLE, Int.reduceEq, Int.reduceToNat, Int.reduceNeg, Nat.reduceLeDiff, Int.reducePow, implies_true, UInt8.reduceToNat, Int.reduceSub, Int.reduceAdd, Nat.reduceLT, Nat.reduceMul, Nat.reduceSub, Nat.reduceBNe]
  · by_cases b : k = 2
    · subst b; simp +contextual -implicitDefEqProofs (maxSteps := 1000000) (maxDischargeDepth := 8) only [F_tree_Kind, zza, argsF, reduceIte, reduceCtorEq, Nat.reduceEqDiff, Nat.reduceBEq, Nat.reduceAdd, Int.reduceLT, Int.reduceLE, Int.reduceEq, Int.reduceToNat, Int.reduceNeg, Nat.reduceLeDiff, Int.reducePow, implies_true, UInt8.reduceToNat, Int.reduceSub, Int.reduceAdd, Nat.reduceLT, Nat.reduceMul, Nat.reduceSub, Nat.reduceBNe]
    · by_cases c : k = 3
      · subst c; simp +contextual -implicitDefEqProofs (maxSteps := 1000000) (maxDischargeDepth := 8) only [F_tree_Kind, zza, argsF, reduceIte, reduceCtorEq, Nat.reduceEqDiff, Nat.reduceBEq, Nat.reduceAdd, Int.reduceLT, Int.reduceLE, Int.reduceEq, Int.reduceToNat, Int.reduceNeg, Nat.reduceLeDiff, Int.reducePow, implies_true, UInt8.reduceToNat, Int.reduceSub, Int.reduceAdd, Nat.reduceLT, Nat.reduceMul, Nat.reduceSub, Nat.reduceBNe]
      · simp +contextual -implicitDefEqProofs (maxSteps := 1000000) (maxDischargeDepth := 8) only [F_tree_Kind, a, b, c, if_false, zza, argsF, reduceIte, reduceCtorEq, Nat.reduceEqDiff, Nat.reduceBEq, Nat.reduceAdd, Int.reduceLT, Int.reduceLE, Int.reduceEq, Int.reduceToNat, Int.reduceNeg, Nat.reduceLeDiff, Int.reducePow, implies_true, UInt8.reduceToNat, Int.reduceSub, Int.reduceAdd, Nat.reduceLT, Nat.reduceMul, Nat.reduceSub, Nat.reduceBNe]
end Go.Proofs.YtblcomejcahkdaaDoor.Ev
end
section
namespace Go.Proofs.YtblcomejcahkdaaDoor.Ev
open Go
set_option maxHeartbeats 4000000
def wordT (d : Nd) : Txt := if d.kind = 5 then signT d.n else (rowF d.kind).word
def headT (d : Nd) : List Txt := (if wordT d ≠ [] then [wordT d] else []) ++ (if d.s ≠ [] then [d.s] else []) ++ (if d.kind = 25 ∨ d.kind = 24 then [kindT d.n] else [])
def trueT : Txt := [116, 114, 117, 101]
def falseT : Txt := [102, 97, 108, 115, 101]
def nilT : Txt := [110, 105, 108]
def shapeT (d : Nd) (ks : List Txt) : Txt :=
  if d.kind = 1 then Go.Lib.itoa d.n else if d.kind = 2 then (if d.n = 1 then trueT else falseT) else if d.kind = 3 then nilT else if d.kind = 4 then d.s
  else 40 :: (Go.Lib.join (headT d ++ ks) [32] ++ [41])
def tellF (l : List Nd) : Nat → Nat → Txt
  | 0, _ => []
  | f + 1, i => match l[i]? with
    | none => []
    | some d => shapeT d (d.kids.map fun x => tellF l f x.toNat)
def tellN (l : List Nd) (i : Nat) : Txt := tellF l (i + 1) i
theorem tellF_more {l : List Nd} (hk : kidsLt l) : ∀ (i f g : Nat), i < f → i < g → tellF l f i = tellF l g i := by
  intro i
  induction i using Nat.strongRecOn with
  | _ i ih =>
    intro f g hf hg
    obtain ⟨f, rfl⟩ : ∃ f', f = f' + 1 := ⟨f - 1, by omega⟩
    obtain ⟨g, rfl⟩ : ∃ g', g = g' + 1 := ⟨g - 1, by omega⟩
    simp only [tellF]
    cases hd : l[i]? with
    | none => rfl
    | some d =>
      simp only
      congr 1
      refine List.map_congr_left fun x hx => ?_
      have := hk i d hd x hx
      exact ih x.toNat (by omega) f g (by omega) (by omega)
theorem tellN_eq {l : List Nd} (hk : kidsLt l) {i : Nat} {d : Nd} (hd : l[i]? = some d) : tellN l i = shapeT d (d.kids.map fun x => tellN l x.toNat) := by
  unfold tellN
  rw [tellF]
  simp only [hd]
  congr 1
  refine List.map_congr_left fun x hx => ?_
  have := hk i d hd x hx
  exact tellF_more hk _ _ _ (by omega) (by omega)
def sumN : List Nat → Nat
  | [] => 0
  | a :: l => a + sumN l
theorem sumN_app : ∀ (a b : List Nat), sumN (a ++ b) = sumN a + sumN b
  | [], b => by simp [sumN]
  | x :: a, b => by simp only [List.cons_append, sumN, sumN_app a b]; omega
def ow (d : Nd) : Nat := 100 + d.s.length
def wgtF (l : List Nd) : Nat → Nat → Nat
  | 0, _ => 0
  | f + 1, i => match l[i]? with
    | none => 0
    | some d => ow d + sumN (d.kids.map fun x => wgtF l f x.toNat)
def wgtN (l : List Nd) (i : Nat) : Nat := wgtF l (i + 1) i
theorem wgtF_more {l : List Nd} (hk : kidsLt l) : ∀ (i f g : Nat), i < f → i < g → wgtF l f i = wgtF l g i := by
  intro i
  induction i using Nat.strongRecOn with
  | _ i ih =>
    intro f g hf hg
    obtain ⟨f, rfl⟩ : ∃ f', f = f' + 1 := ⟨f - 1, by omega⟩
    obtain ⟨g, rfl⟩ : ∃ g', g = g' + 1 := ⟨g - 1, by omega⟩
    simp only [wgtF]
    cases hd : l[i]? with
    | none => rfl
    | some d =>
      simp only
      congr 2
      refine List.map_congr_left fun x hx => ?_
      have := hk i d hd x hx
      exact ih x.toNat (by omega) f g (by omega) (by omega)
theorem wgtN_eq {l : List Nd} (hk : kidsLt l) {i : Nat} {d : Nd} (hd : l[i]? = some d) : wgtN l i = ow d + sumN (d.kids.map fun x => wgtN l x.toNat) := by
  unfold wgtN
  rw [wgtF]
  simp only [hd]
  congr 2
  refine List.map_congr_left fun x hx => ?_
  have := hk i d hd x hx
  exact wgtF_more hk _ _ _ (by omega) (by omega)
theorem sum_erase {α : Type} [DecidableEq α] {w : α → Nat} {x : α} : ∀ {b : List α}, x ∈ b → sumN ((b.erase x).map w) + w x = sumN (b.map w)
  | y :: b, h => by
    rw [List.erase_cons]
    by_cases e : y == x
    · rw [if_pos e]
      have := eq_of_beq e
      subst this
      simp only [List.map_cons, sumN]; omega
    · rw [if_neg e]
      have hx : x ∈ b := by
        rcases List.mem_cons.1 h with rfl | h
        · simp at e
        · exact h
      have := sum_erase (w := w) hx
      simp only [List.map_cons, sumN]; omega
theorem sum_of_sub {α : Type} [DecidableEq α] {w : α → Nat} : ∀ {a b : List α}, a.Nodup → (∀ x ∈ a, x ∈ b) → sumN (a.map w) ≤ sumN (b.map w)
  | [], b, _, _ => Nat.zero_le _
  | x :: a, b, h, hs => by
    rw [List.nodup_cons] at h
    have h1 := sum_of_sub (w := w) (b := b.erase x) h.2 fun y hy => by
      have hne : y ≠ x := by rintro rfl; exact h.1 hy
      exact (List.mem_erase_of_ne hne).2 (hs y (by simp [hy]))
    have h2 := sum_erase (w := w) (hs x (by simp))
    simp only [List.map_cons, sumN]
    omega
theorem sum_part {α : Type} {w : α → Nat} (p : α → Bool) : ∀ b : List α, sumN ((b.filter p).map w) + sumN ((b.filter fun x => !p x).map w) = sumN (b.map w)
  | [] => rfl
  | x :: b => by
    have := sum_part (w := w) p b
    cases h : p x <;> simp [List.filter_cons, h, sumN] <;> omega
def roots (l : List Nd) (i : Nat) : List Int := (upto i).filter fun x => !(usedL (l.take i)).contains x
theorem roots_sum {l : List Nd} (hk : kidsLt l) (hu : (usedL l).Nodup) : ∀ i, i ≤ l.length → sumN ((roots l i).map fun x => wgtN l x.toNat) ≤ sumN ((l.take i).map ow)
  | 0, _ => by simp [roots, upto, sumN]
  | i + 1, hi => by
    have ih := roots_sum hk hu i (by omega)
    have hd : l[i]? = some l[i] := List.getElem?_eq_getElem (by omega)
    have hsn := usedL_snoc hd
    have htk : l.take (i + 1) = l.take i ++ [l[i]] := List.take_succ_eq_append_getElem (by omega)
    have hx := hk i _ hd
    have hnd : (usedL (l.take i) ++ l[i].kids).Nodup := by rw [← hsn]; exact hu.sublist (usedL_pre _)
    generalize l[i] = d at *
    have hup : upto (i + 1) = upto i ++ [(i : Int)] := by unfold upto; rw [List.range_succ, List.map_append]; rfl
    have hU : ∀ x ∈ usedL (l.take i), x < (i : Int) := by
      intro x hx
      obtain ⟨j, e, he, hxe⟩ := usedL_mem.1 hx
      rw [List.getElem?_take] at he
      split at he
      · have := hk j e he x hxe; omega
      · cases he
    rw [List.nodup_append] at hnd
    have e1 : roots l (i + 1) = (roots l i).filter (fun x => !d.kids.contains x) ++ [(i : Int)] := by
      unfold roots
      rw [hsn, hup, List.filter_append, List.filter_filter]
      congr 1
      · refine List.filter_congr fun x hx => ?_
        rw [List.contains_eq_any_beq, List.contains_eq_any_beq, List.contains_eq_any_beq, List.any_append]
        cases (usedL (l.take i)).any (x == ·) <;> cases d.kids.any (x == ·) <;> rfl
      · rw [List.filter_cons, if_pos]
        · rfl
        · have : ¬ ((i : Int) ∈ usedL (l.take i) ++ d.kids) := by
            rw [List.mem_append]
            rintro (q | q)
            · have := hU _ q; omega
            · have := hx _ q; omega
          simpa using this
    have h2 : sumN (d.kids.map fun x => wgtN l x.toNat) ≤ sumN (((roots l i).filter fun x => d.kids.contains x).map fun x => wgtN l x.toNat) := by
      refine sum_of_sub hnd.2.1 fun x hxk => ?_
      rw [List.mem_filter]
      refine ⟨?_, by simpa using hxk⟩
      unfold roots
      rw [List.mem_filter]
      refine ⟨upto_mem.2 ⟨(hx x hxk).1, (hx x hxk).2⟩, ?_⟩
      have : ¬ x ∈ usedL (l.take i) := fun q => hnd.2.2 x q x hxk rfl
      simpa using this
    have h3 := sum_part (w := fun x : Int => wgtN l x.toNat) (fun x => d.kids.contains x) (roots l i)
    have h4 := wgtN_eq hk hd
    rw [e1, htk, List.map_append, List.map_append, sumN_app, sumN_app]
    simp only [List.map_cons, List.map_nil, sumN]
    rw [show ((i : Int)).toNat = i by omega, h4]
    omega
theorem wgt_le {l : List Nd} (hk : kidsLt l) (hu : (usedL l).Nodup) {c : Nat} (hc : ∀ d ∈ l, d.s.length ≤ c) {i : Nat} (hi : i < l.length) : wgtN l i ≤ l.length * (100 + c) := by
  have h := roots_sum hk hu (i + 1) hi
  have hm : (i : Int) ∈ roots l (i + 1) := by
    unfold roots
    rw [List.mem_filter]
    refine ⟨upto_mem.2 ⟨by omega, by omega⟩, ?_⟩
    have : ¬ (i : Int) ∈ usedL (l.take (i + 1)) := by
      intro hx
      obtain ⟨j, e, he, hxe⟩ := usedL_mem.1 hx
      rw [List.getElem?_take] at he
      split at he
      · have := hk j e he _ hxe; omega
      · cases he
    simpa using this
  have h1 := sum_of_sub (w := fun x : Int => wgtN l x.toNat) (a := [(i : Int)]) (b := roots l (i + 1)) (by simp) fun x hx => by rw [List.mem_singleton.1 hx]; exact hm
  have h2 : ∀ k : List Nd, (∀ d ∈ k, d.s.length ≤ c) → sumN (k.map ow) ≤ k.length * (100 + c) := by
    intro k
    induction k with
    | nil => intro _; simp [sumN]
    | cons d k ih =>
      intro h
      have a := ih fun e he => h e (by simp [he])
      have b := h d (by simp)
      simp only [List.map_cons, sumN, List.length_cons, Nat.add_mul, ow] at a ⊢
      omega
  have h3 := h2 (l.take (i + 1)) fun d hd => hc d (List.mem_of_mem_take hd)
  have h4 : (l.take (i + 1)).length * (100 + c) ≤ l.length * (100 + c) := Nat.mul_le_mul_right _ (by rw [List.length_take]; omega)
  simp only [List.map_cons, List.map_nil, sumN] at h1
  rw [show ((i : Int)).toNat = i by omega] at h1
  omega
theorem dec_len : ∀ (k u : Nat), u < 10 ^ (k + 1) → (Go.Lib.decDigits u).length ≤ k + 1
  | 0, u, h => by
    unfold Go.Lib.decDigits
    rw [dif_pos (by simpa using h)]; simp
  | k + 1, u, h => by
    unfold Go.Lib.decDigits
    split
    · simp
    · have := dec_len k (u / 10) (by rw [Nat.pow_succ] at h; omega)
      rw [List.length_append]; simp; omega
theorem itoa_len {n : Int} (h1 : -9223372036854775808 ≤ n) (h2 : n ≤ 9223372036854775807) : (Go.Lib.itoa n).length ≤ 20 := by
  unfold Go.Lib.itoa
  have h := fun u (h : u < 10 ^ 19) => dec_len 18 u h
  split
  · have := h n.natAbs (by omega)
    simp; omega
  · have := h n.toNat (by omega)
    omega
end Go.Proofs.YtblcomejcahkdaaDoor.Ev
end
section
namespace Go.Proofs.YtblcomejcahkdaaDoor.Ev
open Go
set_option maxRecDepth 20000
set_option maxHeartbeats 8000000
theorem sumN_le {α : Type} {f g : α → Nat} : ∀ {a : List α}, (∀ x ∈ a, f x ≤ g x) → sumN (a.map f) ≤ sumN (a.map g)
  | [], _ => Nat.le_refl _
  | x :: a, h => by
    have h1 := h x (by simp)
    have h2 := sumN_le (a := a) fun y hy => h y (by simp [hy])
    simp only [List.map_cons, sumN]; omega
theorem join_len : ∀ (ps : List Txt), (Go.Lib.join ps [32]).length ≤ sumN (ps.map fun p => p.length + 1)
  | [] => by simp [Go.Lib.join_nil]
  | x :: r => by
    rw [Go.Lib.join_cons, List.length_append]
    have : ∀ r : List Txt, (Go.Lib.joinTail [32] r).length = sumN (r.map fun p => p.length + 1) := by
      intro r
      unfold Go.Lib.joinTail
      induction r with
      | nil => rfl
      | cons y r ih => rw [List.map_cons, List.flatten_cons, List.length_append, ih]; simp [sumN]
    rw [this]
    simp only [List.map_cons, sumN]; omega
theorem sign_len (n : Int) : (signT n).length ≤ 2 := by
  unfold signT
  split
  · have : ∀ k : Nat, k < 16 → (opsL.getD k []).length ≤ 2 := by decide
    exact this _ (by omega)
  · simp
theorem word_len (d : Nd) : (wordT d).length ≤ 8 := by
  unfold wordT
  split
  · have := sign_len d.n; omega
  · unfold rowF
    split
    · have : ∀ k : Nat, k < 26 → ((rowsL.getD k zeroR).word).length ≤ 8 := by decide
      exact this _ (by omega)
    · decide
theorem kindT_len (k : Int) : (kindT k).length ≤ 4 := by
  unfold kindT; split; decide; split; decide; split; decide; decide
structure Tidy (l : List Nd) : Prop where
  small : Small l
  len : l.length ≤ 1000
  s : ∀ d ∈ l, d.s.length ≤ 1000
  n : ∀ d ∈ l, -9223372036854775808 ≤ d.n ∧ d.n ≤ 9223372036854775807
theorem head_len (d : Nd) : sumN ((headT d).map fun p => p.length + 1) ≤ d.s.length + 15 := by
  have h1 := word_len d
  have h2 := kindT_len d.n
  unfold headT
  rw [List.map_append, List.map_append, sumN_app, sumN_app]
  split <;> split <;> split <;> simp [sumN] <;> omega
theorem tell_len {l : List Nd} (hk : kidsLt l) (hn : ∀ d ∈ l, -9223372036854775808 ≤ d.n ∧ d.n ≤ 9223372036854775807) : ∀ i, i < l.length → (tellN l i).length + 1 ≤ wgtN l i := by
  intro i
  induction i using Nat.strongRecOn with
  | _ i ih =>
    intro hi
    have hd : l[i]? = some l[i] := List.getElem?_eq_getElem hi
    have hnn := hn _ (List.getElem_mem hi)
    have hx := hk i _ hd
    generalize l[i] = d at *
    rw [tellN_eq hk hd, wgtN_eq hk hd]
    have h1 := itoa_len hnn.1 hnn.2
    have h2 : sumN ((d.kids.map fun x => tellN l x.toNat).map fun p => p.length + 1) ≤ sumN (d.kids.map fun x => wgtN l x.toNat) := by
      rw [List.map_map]
      refine sumN_le fun x hxk => ?_
      have := hx x hxk
      exact ih x.toNat (by omega) (by omega)
    have h3 := join_len (headT d ++ d.kids.map fun x => tellN l x.toNat)
    rw [List.map_append, sumN_app] at h3
    have h4 := head_len d
    unfold shapeT ow
    split
    · omega
    · split
      · split <;> simp [trueT, falseT] <;> omega
      · split
        · simp [nilT]; omega
        · split
          · omega
          · simp only [List.length_cons, List.length_append, List.length_nil]; omega
theorem tell_max {l : List Nd} (ht : Tidy l) (hr : rightP l) {i : Nat} (hi : i < l.length) : (tellN l i).length ≤ 1100000 := by
  have h1 := tell_len hr.1.1 ht.n i hi
  have h2 := wgt_le hr.1.1 hr.1.2.1 ht.s hi
  have h3 : l.length * (100 + 1000) ≤ 1000 * 1100 := Nat.mul_le_mul_right _ ht.len
  omega
def KpM (m0 m : Mem) : Prop := m0.next ≤ m.next ∧ ∀ b, b < m0.next → m.get b = m0.get b
theorem KpM.refl (m : Mem) : KpM m m := ⟨Nat.le_refl _, fun _ _ => rfl⟩
theorem KpM.trans {a b c : Mem} (h : KpM a b) (k : KpM b c) : KpM a c := ⟨Nat.le_trans h.1 k.1, fun x hx => by rw [k.2 x (Nat.lt_of_lt_of_le hx h.1), h.2 x hx]⟩
theorem KpM.ext {m0 m : Mem} (h : KpM m0 m) (xs : List Blk) : KpM m0 (Ev.ext m xs) := ⟨by rw [next_ext]; exact Nat.le_trans h.1 le_nb, fun b hb => by rw [get_ext_old (Nat.lt_of_lt_of_le hb h.1)]; exact h.2 b hb⟩
theorem KpM.bump {m0 m : Mem} (h : KpM m0 m) (k : Nat) : KpM m0 (Ev.bump m k) := ⟨by rw [next_bump]; exact Nat.le_trans h.1 le_nb, fun b hb => by rw [get_bump]; exact h.2 b hb⟩
theorem push1 {m0 m : Mem} {v x : EV} {cs : List EV} {n ty : Nat} (hown : Own m v cs n 1 m0.next) (hk : KpM m0 m) (hn : n < 1000000) :
    ∃ v2 M2, evAppend (ext m [.cells [x] 1 ty false]) ty 1 v (.slice (nb m.next 0) 0 1 (some 1)) = some (v2, M2) ∧ Own M2 v2 (cs ++ [x]) (n + 1) 1 m0.next ∧ KpM m0 M2 := by
  have hM : (ext m [.cells [x] 1 ty false]).get (nb m.next 0) = .cells [x] 1 ty false := by rw [get_ext_nb rfl (by simp)]; rfl
  obtain ⟨ha, hown'⟩ := append_grow (e := ty) (hown.ext [.cells [x] 1 ty false]) (by rw [next_ext]; exact Nat.le_trans hk.1 le_nb) (source_at (cap := some 1) hM rfl) rfl (by decide) (by unfold room; omega)
  refine ⟨_, _, ha, hown', ⟨?_, fun b hb => ?_⟩⟩
  · rw [grow_next, next_ext]; have := hk.1; unfold nb; simp; omega
  · rw [grow_old (by rw [next_ext]; have := hk.1; unfold nb; simp; omega)]
    · rw [get_ext_old (Nat.lt_of_lt_of_le hb hk.1)]; exact hk.2 b hb
    · intro b2 o n2 cap hv
      rcases hown.is with ⟨rfl, _⟩ | ⟨b3, cap3, t3, rfl, h1, _⟩
      · cases hv
      · cases hv; omega
theorem parts_l0 {ws : List Txt} {bw tw : Nat} {m0 : Mem} {v2 v5 v6 : EV} {fr : Fr} (hw : ws.length ≤ 2) (hbw : m0.get bw = .cells (ws.map .str) 1 tw false) (hlt : bw < m0.next) (h2 : fr.get 2 = v2) (h5 : fr.get 5 = v5) (h6 : fr.get 6 = v6) (h8 : fr.get 8 = .nilslice) (h54 : fr.get 54 = .slice bw 0 ws.length (some ws.length)) (h55 : fr.get 55 = .int .i64 (ws.length : Int)) (h56 : fr.get 56 = .int .i64 0) (hd : fr.defers = []) :
    ∃ o, exec U (.loop F_tree_Text_1_l0) fr m0 = some o ∧ ∃ fr' m' v, o = .exit 1 fr' m' ∧ fr'.get 2 = v2 ∧ fr'.get 5 = v5 ∧ fr'.get 6 = v6 ∧ fr'.get 8 = v ∧ Own m' v ((ws.filter (· ≠ [])).map .str) (ws.filter (· ≠ [])).length 1 m0.next ∧ KpM m0 m' ∧ fr'.defers = [] := by
  refine loop_w (σ := Nat) (fun i fr m => i ≤ ws.length ∧ KpM m0 m ∧ fr.get 2 = v2 ∧ fr.get 5 = v5 ∧ fr.get 6 = v6 ∧ (∃ v, fr.get 8 = v ∧ Own m v (((ws.take i).filter (· ≠ [])).map .str) ((ws.take i).filter (· ≠ [])).length 1 m0.next) ∧ fr.get 54 = .slice bw 0 ws.length (some ws.length) ∧ fr.get 55 = .int .i64 (ws.length : Int) ∧ fr.get 56 = .int .i64 (i : Int) ∧ fr.defers = []) (fun i => ws.length - i) _ ?_ 0 fr m0
    ⟨Nat.zero_le _, .refl _, h2, h5, h6, ⟨_, h8, ⟨.inl ⟨rfl, rfl, rfl⟩, rfl⟩⟩, h54, h55, h56, hd⟩
  rintro i fr m ⟨hi, hk, h2, h5, h6, ⟨v, h8, hown⟩, h54, h55, h56, hd⟩
  generalize hX : exec U F_tree_Text_1_l0 fr m = X
  have hbw' := (hk.2 bw hlt).trans hbw
  by_cases hlt2 : i < ws.length
  · have hc : (i : Int) < (ws.length : Int) := by omega
    have hg : ws[i]? = some ws[i] := List.getElem?_eq_getElem hlt2
    have htk : ws.take (i + 1) = ws.take i ++ [ws[i]] := List.take_succ_eq_append_getElem hlt2
    have hix : idx ws.length (.int .i64 (i : Int)) = some i := idx_cast hlt2
    have hw1 := wrap_succ (i := i) (by omega)
    have hfl : ((ws.take i).filter (· ≠ [])).length ≤ 2 := Nat.le_trans (List.length_filter_le _ _) (by rw [List.length_take]; omega)
    generalize ws[i] = s at *
    by_cases he : s = []
    · subst he
      simp +contextual -implicitDefEqProofs (maxSteps := 1000000) (maxDischargeDepth := 8) only [F_tree_Text_1_l0, h2, h5, h6, h8, h54, h55, h56, hd, hc, hbw', hg, hix, hw1, Nat.mul_one, zza, argsF, reduceIte, reduceCtorEq, Nat.reduceEqDiff, Nat.reduceBEq, Nat.reduceAdd, Int.reduceLT, Int.reduceLE, Int.reduceEq, Int.reduceToNat, Int.reduceNeg, Nat.reduceLeDiff, Int.reducePow, implies_true, UInt8.reduceToNat, Int.reduceSub, Int.reduceAdd, Nat.reduceLT, Nat.reduceMul, Nat.reduceSub, Nat.reduceBNe] at hX
      subst hX
      refine lw_norm (i + 1) (by omega) ⟨hlt2, hk, by simp only [h2, zzf, Nat.reduceBEq ], by simp only [h5, zzf, Nat.reduceBEq ], by simp only [h6, zzf, Nat.reduceBEq ], ⟨v, by simp only [h8, zzf, Nat.reduceBEq ], ?_⟩, by simp only [h54, zzf, Nat.reduceBEq ], by simp only [h55, zzf, Nat.reduceBEq ], by simp only [zzf, Nat.reduceBEq ], by simp only [hd, zzf, Nat.reduceBEq ]⟩
      rw [htk, List.filter_append]
      simpa using hown
    · obtain ⟨v2', M2, ha, ho2, hk2⟩ := push1 (x := .str s) (ty := t_string) hown hk (by omega)
      simp +contextual -implicitDefEqProofs (maxSteps := 1000000) (maxDischargeDepth := 8) only [F_tree_Text_1_l0, h2, h5, h6, h8, h54, h55, h56, hd, hc, hbw', hg, hix, hw1, he, ha, Nat.mul_one, zza, argsF, reduceIte, reduceCtorEq, Nat.reduceEqDiff, Nat.reduceBEq, Nat.reduceAdd, Int.reduceLT, Int.reduceLE, Int.reduceEq, Int.reduceToNat, Int.reduceNeg, Nat.reduceLeDiff, Int.reducePow, implies_true, UInt8.reduceToNat, Int.reduceSub, Int.reduceAdd, Nat.reduceLT, Nat.reduceMul, Nat.reduceSub, Nat.reduceBNe] at hX
      subst hX
      refine lw_norm (i + 1) (by omega) ⟨hlt2, hk2, by simp only [h2, zzf, Nat.reduceBEq ], by simp only [h5, zzf, Nat.reduceBEq ], by simp only [h6, zzf, Nat.reduceBEq ], ⟨v2', by simp only [zzf, Nat.reduceBEq ], ?_⟩, by simp only [h54, zzf, Nat.reduceBEq ], by simp only [h55, zzf, Nat.reduceBEq ], by simp only [zzf, Nat.reduceBEq ], by simp only [hd, zzf, Nat.reduceBEq ]⟩
      rw [htk, List.filter_append]
      simpa [he] using ho2
  · have hc : ¬ ((i : Int) < (ws.length : Int)) := by omega
    rw [List.take_of_length_le (by omega)] at hown
    simp +contextual -implicitDefEqProofs (maxSteps := 1000000) (maxDischargeDepth := 8) only [F_tree_Text_1_l0, h2, h5, h6, h8, h54, h55, h56, hd, hc, zza, argsF, reduceIte, reduceCtorEq, Nat.reduceEqDiff, Nat.reduceBEq, Nat.reduceAdd, Int.reduceLT, Int.reduceLE, Int.reduceEq, Int.reduceToNat, Int.reduceNeg, Nat.reduceLeDiff, Int.reducePow, implies_true, UInt8.reduceToNat, Int.reduceSub, Int.reduceAdd, Nat.reduceLT, Nat.reduceMul, Nat.reduceSub, Nat.reduceBNe] at hX
    subst hX
    exact lw_exit ⟨_, _, v, rfl, by simp only [h2, zzf, Nat.reduceBEq ], by simp only [h5, zzf, Nat.reduceBEq ], by simp only [h6, zzf, Nat.reduceBEq ], by simp only [h8, zzf, Nat.reduceBEq ], hown, hk, by simp only [hd, zzf, Nat.reduceBEq ]⟩
end Go.Proofs.YtblcomejcahkdaaDoor.Ev
end
section
namespace Go.Proofs.YtblcomejcahkdaaDoor.Ev
open Go
set_option maxRecDepth 20000
set_option maxHeartbeats 8000000
def TellsT (f : Nat) (args : List EV) (m : Mem) (s : Txt) : Prop := ∃ m', run U f args m = some (.ret (.str s) m') ∧ KpM m m'
structure Cl (m : Mem) (b1 b3 : Nat) (v : EV) : Prop where
  g1 : ∃ t1, m.get b1 = .cells [v] 1 t1 false
  g3 : ∃ t3, m.get b3 = .cells [.func n_tree_Text_1 [] [.ptr b1 0, .ptr b3 0]] 1 t3 false
  l1 : b1 < m.next
  l3 : b3 < m.next
theorem Cl.keep {m m' : Mem} {b1 b3 : Nat} {v : EV} (h : Cl m b1 b3 v) (k : KpM m m') : Cl m' b1 b3 v :=
  ⟨by obtain ⟨t, e⟩ := h.g1; exact ⟨t, (k.2 _ h.l1).trans e⟩, by obtain ⟨t, e⟩ := h.g3; exact ⟨t, (k.2 _ h.l3).trans e⟩, Nat.lt_of_lt_of_le h.l1 k.1, Nat.lt_of_lt_of_le h.l3 k.1⟩
theorem parts_l1 {l : List Nd} {ks : List Int} {b1 b3 : Nat} {vr : EV} {nl : Bool} {m0 : Mem} {vp : EV} {ps : List Txt} {lo : Mem} {fr : Fr} (hks : ks.length < 1001) (hps : ps.length ≤ 10) (hcl : Cl lo b1 b3 vr) (hk0 : KpM lo m0)
    (ih : ∀ x ∈ ks, ∀ m, Cl m b1 b3 vr → TellsT n_tree_Text_1 [.int .i64 x, .ptr b1 0, .ptr b3 0] m (tellN l x.toNat))
    (h2 : fr.get 2 = .ptr b3 0) (h8 : fr.get 8 = vp) (hown : Own m0 vp (ps.map .str) ps.length 1 lo.next) (h82 : fr.get 82 = row nl 0 1 (ints ks)) (h83 : fr.get 83 = .int .i64 (ks.length : Int)) (h84 : fr.get 84 = .int .i64 0) (hd : fr.defers = []) :
    ∃ o, exec U (.loop F_tree_Text_1_l1) fr m0 = some o ∧ ∃ fr' m' v, o = .exit 3 fr' m' ∧ fr'.get 8 = v ∧ Own m' v ((ps ++ ks.map fun x => tellN l x.toNat).map .str) (ps ++ ks.map fun x => tellN l x.toNat).length 1 lo.next ∧ KpM lo m' ∧ fr'.defers = [] := by
  refine loop_w (σ := Nat) (fun i fr m => i ≤ ks.length ∧ KpM lo m ∧ fr.get 2 = .ptr b3 0 ∧ (∃ v, fr.get 8 = v ∧ Own m v ((ps ++ (ks.take i).map fun x => tellN l x.toNat).map .str) (ps ++ (ks.take i).map fun x => tellN l x.toNat).length 1 lo.next) ∧ fr.get 82 = row nl 0 1 (ints ks) ∧ fr.get 83 = .int .i64 (ks.length : Int) ∧ fr.get 84 = .int .i64 (i : Int) ∧ fr.defers = []) (fun i => ks.length - i) _ ?_ 0 fr m0
    ⟨Nat.zero_le _, hk0, h2, ⟨_, h8, by simpa using hown⟩, h82, h83, h84, hd⟩
  rintro i fr m ⟨hi, hk, h2, ⟨v, h8, hown⟩, h82, h83, h84, hd⟩
  generalize hX : exec U F_tree_Text_1_l1 fr m = X
  by_cases hlt2 : i < ks.length
  · have hc : (i : Int) < (ks.length : Int) := by omega
    have hg : ks[i]? = some ks[i] := List.getElem?_eq_getElem hlt2
    have htk : ks.take (i + 1) = ks.take i ++ [ks[i]] := List.take_succ_eq_append_getElem hlt2
    have hix : idx ks.length (.int .i64 (i : Int)) = some i := idx_cast hlt2
    have hw1 := wrap_succ (i := i) (by omega)
    have hmem := List.getElem_mem hlt2
    generalize ks[i] = x at *
    have hcm := hcl.keep hk
    obtain ⟨m1, hr, hk1⟩ := ih x hmem m hcm
    obtain ⟨t3, hg3⟩ := hcm.g3
    have hown1 : Own m1 v ((ps ++ (ks.take i).map fun x => tellN l x.toNat).map .str) (ps ++ (ks.take i).map fun x => tellN l x.toNat).length 1 lo.next := hown.mono hk1.1 fun c hc => hk1.2 c hc
    obtain ⟨v2', M2, ha, ho2, hk2⟩ := push1 (x := .str (tellN l x.toNat)) (ty := t_string) hown1 (hk.trans hk1) (by simp; omega)
    simp +contextual -implicitDefEqProofs (maxSteps := 1000000) (maxDischargeDepth := 8) only [F_tree_Text_1_l1, h2, h8, h82, h83, h84, hd, hc, hg, hix, hw1, hg3, hr, ha, ints_get, ints_len, idx_cast, hlt2, zza, argsF, reduceIte, reduceCtorEq, Nat.reduceEqDiff, Nat.reduceBEq, Nat.reduceAdd, Int.reduceLT, Int.reduceLE, Int.reduceEq, Int.reduceToNat, Int.reduceNeg, Nat.reduceLeDiff, Int.reducePow, implies_true, UInt8.reduceToNat, Int.reduceSub, Int.reduceAdd, Nat.reduceLT, Nat.reduceMul, Nat.reduceSub, Nat.reduceBNe] at hX
    subst hX
    refine lw_norm (i + 1) (by omega) ⟨hlt2, hk2, by simp only [h2, zzf, Nat.reduceBEq ], ⟨v2', by simp only [zzf, Nat.reduceBEq ], ?_⟩, by simp only [h82, zzf, Nat.reduceBEq ], by simp only [h83, zzf, Nat.reduceBEq ], by simp only [zzf, Nat.reduceBEq ], by simp only [hd, zzf, Nat.reduceBEq ]⟩
    rw [htk]
    simpa [List.append_assoc, Nat.add_assoc] using ho2
  · have hc : ¬ ((i : Int) < (ks.length : Int)) := by omega
    rw [List.take_of_length_le (by omega)] at hown
    simp +contextual -implicitDefEqProofs (maxSteps := 1000000) (maxDischargeDepth := 8) only [F_tree_Text_1_l1, h2, h8, h82, h83, h84, hd, hc, zza, argsF, reduceIte, reduceCtorEq, Nat.reduceEqDiff, Nat.reduceBEq, Nat.reduceAdd, Int.reduceLT, Int.reduceLE, Int.reduceEq, Int.reduceToNat, Int.reduceNeg, Nat.reduceLeDiff, Int.reducePow, implies_true, UInt8.reduceToNat, Int.reduceSub, Int.reduceAdd, Nat.reduceLT, Nat.reduceMul, Nat.reduceSub, Nat.reduceBNe] at hX
    subst hX
    exact lw_exit ⟨_, _, v, rfl, by simp only [h8, zzf, Nat.reduceBEq ], hown, hk, by simp only [hd, zzf, Nat.reduceBEq ]⟩
theorem join_run {m : Mem} {v : EV} {ps : List Txt} {lo : Nat} (h : Own m v (ps.map .str) ps.length 1 lo) (hl : ps.length ≤ 100000) (hj : (Go.Lib.join ps [32]).length ≤ 4000000000) : run U n_strings_Join [v, .str [32]] m = some (.ret (.str (Go.Lib.join ps [32])) m) := by
  rw [run_spec (g := joinE) (by unfold U UT PT; rfl)]
  have hs := h.source
  have hst : isStr v = false := by rcases h.is with ⟨rfl, _⟩ | ⟨b, cap, t, rfl, _⟩ <;> rfl
  unfold joinE
  simp only [hs, hst, strOf_map, joinV, Nat.ble_eq_true_of_le (show ps.length ≤ 1000000000 by omega), Nat.ble_eq_true_of_le (show (Go.Lib.join ps [32]).length ≤ 4294967296 by omega), Bool.and_self, cond_true]
theorem itoa_run {n : Int} {m : Mem} (h1 : -9223372036854775808 ≤ n) (h2 : n ≤ 9223372036854775807) : run U n_strconv_Itoa [.int .i64 n] m = some (.ret (.str (Go.Lib.itoa n)) m) := by
  rw [run_pure (g := xItoa) (by unfold U UT PT; rfl)]
  simp only [xItoa, inI64_iff.2 ⟨h1, h2⟩, cond_true, Option.map_some]
theorem fb_true : pureR B K n_strconv_FormatBool [.bool true] = some (.str trueT) := by
  have h : pureR B K n_internal_strconv_FormatBool [.bool true] = some (.str trueT) := pure_closed 10 fun call => by kernel_rfl
  rw [pure_at (by simp [F_strconv_FormatBool])]
  simp +contextual -implicitDefEqProofs (maxSteps := 1000000) (maxDischargeDepth := 8) only [F_strconv_FormatBool, h, zza, argsF, reduceIte, reduceCtorEq, Nat.reduceEqDiff, Nat.reduceBEq, Nat.reduceAdd, Int.reduceLT, Int.reduceLE, Int.reduceEq, Int.reduceToNat, Int.reduceNeg, Nat.reduceLeDiff, Int.reducePow, implies_true, UInt8.reduceToNat, Int.reduceSub, Int.reduceAdd, Nat.reduceLT, Nat.reduceMul, Nat.reduceSub, Nat.reduceBNe]
theorem fb_false : pureR B K n_strconv_FormatBool [.bool false] = some (.str falseT) := by
  have h : pureR B K n_internal_strconv_FormatBool [.bool false] = some (.str falseT) := pure_closed 10 fun call => by kernel_rfl
  rw [pure_at (by simp [F_strconv_FormatBool])]
  simp +contextual -implicitDefEqProofs (maxSteps := 1000000) (maxDischargeDepth := 8) only [F_strconv_FormatBool, h, zza, argsF, reduceIte, reduceCtorEq, Nat.reduceEqDiff, Nat.reduceBEq, Nat.reduceAdd, Int.reduceLT, Int.reduceLE, Int.reduceEq, Int.reduceToNat, Int.reduceNeg, Nat.reduceLeDiff, Int.reducePow, implies_true, UInt8.reduceToNat, Int.reduceSub, Int.reduceAdd, Nat.reduceLT, Nat.reduceMul, Nat.reduceSub, Nat.reduceBNe]
theorem Own.down {m : Mem} {v : EV} {cs : List EV} {n e lo lo2 : Nat} (h : Own m v cs n e lo) (hl : lo2 ≤ lo) : Own m v cs n e lo2 :=
  ⟨by rcases h.is with h | ⟨b, cap, t, h1, h2, h3⟩; exact .inl h; exact .inr ⟨b, cap, t, h1, by omega, h3⟩, h.len⟩
theorem head_len2 (d : Nd) : ((if wordT d ≠ [] then [wordT d] else []) ++ (if d.s ≠ [] then [d.s] else [])).length ≤ 2 := by
  by_cases h1 : wordT d = [] <;> by_cases h2 : d.s = [] <;> simp [h1, h2]
theorem head_len3 (d : Nd) : (headT d).length ≤ 3 := by
  have := head_len2 d
  unfold headT
  rw [List.length_append]
  by_cases h : d.kind = 25 ∨ d.kind = 24
  · rw [if_pos h]; simp only [List.length_cons, List.length_nil]; omega
  · rw [if_neg h]; simp only [List.length_nil]; omega
theorem parts_head (d : Nd) : [wordT d, d.s].filter (· ≠ []) = (if wordT d ≠ [] then [wordT d] else []) ++ (if d.s ≠ [] then [d.s] else []) := by
  by_cases h1 : wordT d = [] <;> by_cases h2 : d.s = [] <;> simp [h1, h2]
theorem text1_run {l : List Nd} {t : Nat} {nl : Bool} (ht : Tidy l) (hr : rightP l) {b1 b3 : Nat} : ∀ i : Nat, i < l.length → ∀ m, Cl m b1 b3 (row nl t 5 (nds l)) → TellsT n_tree_Text_1 [.int .i64 (i : Int), .ptr b1 0, .ptr b3 0] m (tellN l i) := by
  intro i
  induction i using Nat.strongRecOn with
  | _ i ih =>
    intro hi m hcl
    have hd0 : l[i]? = some l[i] := List.getElem?_eq_getElem hi
    have hmem := List.getElem_mem hi
    have hkl : l[i].kids.length < 1001 := by have := kids_of hr.1.1 hr.1.2.1 hmem; have := ht.len; omega
    have hsl := ht.s _ hmem
    have hnn := ht.n _ hmem
    have hx := hr.1.1 i _ hd0
    have htm := tell_max ht hr hi
    have hte := tellN_eq hr.1.1 hd0
    generalize hdd : l[i] = d at *
    have ih' : ∀ x ∈ d.kids, ∀ m, Cl m b1 b3 (row nl t 5 (nds l)) → TellsT n_tree_Text_1 [.int .i64 x, .ptr b1 0, .ptr b3 0] m (tellN l x.toNat) := by
      intro x hxk m hc
      have h1 := hx x hxk
      have := ih x.toNat (by omega) (by omega) m hc
      rw [show ((x.toNat : Nat) : Int) = x by omega] at this
      exact this
    obtain ⟨ty1, hg1⟩ := hcl.g1
    have hix : idx l.length (.int .i64 (i : Int)) = some i := idx_cast hi
    have hrow := tree_rows (k := d.kind)
    unfold TellsT
    rw [run_p2 (by simp [F_tree_Text_1])]
    generalize hL0 : exec (UT B K) (ICode.loop F_tree_Text_1_l0) = L0
    generalize hL1 : exec (UT B K) (ICode.loop F_tree_Text_1_l1) = L1
    have hl1 := hcl.l1
    have hl3 := hcl.l3
    generalize hX : resR _ _ = X
    by_cases k1 : d.kind = 1
    · have hit := fun m => itoa_run (m := m) hnn.1 hnn.2
      have e : tellN l i = Go.Lib.itoa d.n := by rw [hte]; unfold shapeT; rw [if_pos k1]
      rw [e]
      rw [k1] at hrow
      simp +contextual -implicitDefEqProofs (maxSteps := 1000000) (maxDischargeDepth := 8) only [F_tree_Text_1, hg1, hix, hd0, hl1, hl3, nds_get, nds_len, Nd.cells, KRow.cells, hrow, k1, hit, zza, argsF, reduceIte, reduceCtorEq, Nat.reduceEqDiff, Nat.reduceBEq, Nat.reduceAdd, Int.reduceLT, Int.reduceLE, Int.reduceEq, Int.reduceToNat, Int.reduceNeg, Nat.reduceLeDiff, Int.reducePow, implies_true, UInt8.reduceToNat, Int.reduceSub, Int.reduceAdd, Nat.reduceLT, Nat.reduceMul, Nat.reduceSub, Nat.reduceBNe] at hX
      subst hX
      exact ⟨_, rfl, by repeat first | exact KpM.refl _ | apply KpM.ext | apply KpM.bump⟩
    by_cases k2 : d.kind = 2
    · rw [k2] at hrow
      by_cases h1 : d.n = 1
      · have e : tellN l i = trueT := by rw [hte]; unfold shapeT; rw [if_neg k1, if_pos k2, if_pos h1]
        rw [e]
        simp +contextual -implicitDefEqProofs (maxSteps := 1000000) (maxDischargeDepth := 8) only [F_tree_Text_1, hg1, hix, hd0, hl1, hl3, nds_get, nds_len, Nd.cells, KRow.cells, hrow, k2, h1, fb_true, zza, argsF, reduceIte, reduceCtorEq, Nat.reduceEqDiff, Nat.reduceBEq, Nat.reduceAdd, Int.reduceLT, Int.reduceLE, Int.reduceEq, Int.reduceToNat, Int.reduceNeg, Nat.reduceLeDiff, Int.reducePow, implies_true, UInt8.reduceToNat, Int.reduceSub, Int.reduceAdd, Nat.reduceLT, Nat.reduceMul, Nat.reduceSub, Nat.reduceBNe] at hX
        subst hX
        exact ⟨_, rfl, by repeat first | exact KpM.refl _ | apply KpM.ext | apply KpM.bump⟩
      · have e : tellN l i = falseT := by rw [hte]; unfold shapeT; rw [if_neg k1, if_pos k2, if_neg h1]
        rw [e]
        simp +contextual -implicitDefEqProofs (maxSteps := 1000000) (maxDischargeDepth := 8) only [F_tree_Text_1, hg1, hix, hd0, hl1, hl3, nds_get, nds_len, Nd.cells, KRow.cells, hrow, k2, h1, fb_false, zza, argsF, reduceIte, reduceCtorEq, Nat.reduceEqDiff, Nat.reduceBEq, Nat.reduceAdd, Int.reduceLT, Int.reduceLE, Int.reduceEq, Int.reduceToNat, Int.reduceNeg, Nat.reduceLeDiff, Int.reducePow, implies_true, UInt8.reduceToNat, Int.reduceSub, Int.reduceAdd, Nat.reduceLT, Nat.reduceMul, Nat.reduceSub, Nat.reduceBNe] at hX
        subst hX
        exact ⟨_, rfl, by repeat first | exact KpM.refl _ | apply KpM.ext | apply KpM.bump⟩
    by_cases k3 : d.kind = 3
    · have e : tellN l i = (rowF d.kind).word := by rw [hte]; unfold shapeT; rw [if_neg k1, if_neg k2, if_pos k3, k3]; rfl
      rw [e]
      rw [k3] at hrow ⊢
      simp +contextual -implicitDefEqProofs (maxSteps := 1000000) (maxDischargeDepth := 8) only [F_tree_Text_1, hg1, hix, hd0, hl1, hl3, nds_get, nds_len, Nd.cells, KRow.cells, hrow, k3, zza, argsF, reduceIte, reduceCtorEq, Nat.reduceEqDiff, Nat.reduceBEq, Nat.reduceAdd, Int.reduceLT, Int.reduceLE, Int.reduceEq, Int.reduceToNat, Int.reduceNeg, Nat.reduceLeDiff, Int.reducePow, implies_true, UInt8.reduceToNat, Int.reduceSub, Int.reduceAdd, Nat.reduceLT, Nat.reduceMul, Nat.reduceSub, Nat.reduceBNe] at hX
      subst hX
      exact ⟨_, rfl, by repeat first | exact KpM.refl _ | apply KpM.ext | apply KpM.bump⟩
    by_cases k4 : d.kind = 4
    · have e : tellN l i = d.s := by rw [hte]; unfold shapeT; rw [if_neg k1, if_neg k2, if_neg k3, if_pos k4]
      rw [e]
      rw [k4] at hrow
      simp +contextual -implicitDefEqProofs (maxSteps := 1000000) (maxDischargeDepth := 8) only [F_tree_Text_1, hg1, hix, hd0, hl1, hl3, nds_get, nds_len, Nd.cells, KRow.cells, hrow, k4, zza, argsF, reduceIte, reduceCtorEq, Nat.reduceEqDiff, Nat.reduceBEq, Nat.reduceAdd, Int.reduceLT, Int.reduceLE, Int.reduceEq, Int.reduceToNat, Int.reduceNeg, Nat.reduceLeDiff, Int.reducePow, implies_true, UInt8.reduceToNat, Int.reduceSub, Int.reduceAdd, Nat.reduceLT, Nat.reduceMul, Nat.reduceSub, Nat.reduceBNe] at hX
      subst hX
      exact ⟨_, rfl, by repeat first | exact KpM.refl _ | apply KpM.ext | apply KpM.bump⟩
    have e : tellN l i = 40 :: (Go.Lib.join (headT d ++ d.kids.map fun x => tellN l x.toNat) [32] ++ [41]) := by rw [hte]; unfold shapeT; rw [if_neg k1, if_neg k2, if_neg k3, if_neg k4]
    rw [e] at htm ⊢
    simp only [List.length_cons, List.length_append, List.length_nil] at htm
    have cp2 : copies 2 [EV.str []] = [.str [], .str []] := rfl
    have cp1 : copies 1 [EV.str []] = [.str []] := rfl
    by_cases k5 : d.kind = 5
    · have hsg : pureR B K n_tree_Sign [.int .i64 d.n] = some (.str (wordT d)) := by rw [tree_sign (by omega) (by omega)]; unfold wordT; rw [if_pos k5]
      have hword : wordT d = wordT d := rfl
      have hhead : headT d = (if wordT d ≠ [] then [wordT d] else []) ++ (if d.s ≠ [] then [d.s] else []) := by unfold headT; simp [show ¬ (d.kind = 25 ∨ d.kind = 24) by omega]
      rw [k5] at hrow
      simp +contextual -implicitDefEqProofs (maxSteps := 1000000) (maxDischargeDepth := 8) only [F_tree_Text_1, hg1, hix, hd0, hl1, hl3, nds_get, nds_len, Nd.cells, KRow.cells, hrow, k5, hsg, cp2, evOp_bsliceN, bsF_some, zza, argsF, reduceIte, reduceCtorEq, Nat.reduceEqDiff, Nat.reduceBEq, Nat.reduceAdd, Int.reduceLT, Int.reduceLE, Int.reduceEq, Int.reduceToNat, Int.reduceNeg, Nat.reduceLeDiff, Int.reducePow, implies_true, UInt8.reduceToNat, Int.reduceSub, Int.reduceAdd, Nat.reduceLT, Nat.reduceMul, Nat.reduceSub, Nat.reduceBNe] at hX
      subst hL0
      generalize hY : exec _ (.loop F_tree_Text_1_l0) _ _ = Y at hX
      rw [hword] at hY
      generalize hM : ext (bump _ 1) _ = M1 at hY
      have hkm : KpM m M1 := by rw [← hM]; repeat first | exact KpM.refl _ | apply KpM.ext | apply KpM.bump
      have hb4 : M1.get (nb m.next 3) = .cells ([wordT d, d.s].map .str) 1 t_string false := by rw [← hM]; simp +contextual -implicitDefEqProofs (maxSteps := 1000000) (maxDischargeDepth := 8) only [hword, zza, argsF, reduceIte, reduceCtorEq, Nat.reduceEqDiff, Nat.reduceBEq, Nat.reduceAdd, Int.reduceLT, Int.reduceLE, Int.reduceEq, Int.reduceToNat, Int.reduceNeg, Nat.reduceLeDiff, Int.reducePow, implies_true, UInt8.reduceToNat, Int.reduceSub, Int.reduceAdd, Nat.reduceLT, Nat.reduceMul, Nat.reduceSub, Nat.reduceBNe]
      have hb2 : M1.get (nb m.next 0) = .cells d.cells 5 t_api_Node false := by rw [← hM]; simp +contextual -implicitDefEqProofs (maxSteps := 1000000) (maxDischargeDepth := 8) only [Nd.cells, k5, hsg, zza, argsF, reduceIte, reduceCtorEq, Nat.reduceEqDiff, Nat.reduceBEq, Nat.reduceAdd, Int.reduceLT, Int.reduceLE, Int.reduceEq, Int.reduceToNat, Int.reduceNeg, Nat.reduceLeDiff, Int.reducePow, implies_true, UInt8.reduceToNat, Int.reduceSub, Int.reduceAdd, Nat.reduceLT, Nat.reduceMul, Nat.reduceSub, Nat.reduceBNe]
      have hnx : M1.next = nb m.next 4 := by rw [← hM]; simp +contextual -implicitDefEqProofs (maxSteps := 1000000) (maxDischargeDepth := 8) only [zza, argsF, reduceIte, reduceCtorEq, Nat.reduceEqDiff, Nat.reduceBEq, Nat.reduceAdd, Int.reduceLT, Int.reduceLE, Int.reduceEq, Int.reduceToNat, Int.reduceNeg, Nat.reduceLeDiff, Int.reducePow, implies_true, UInt8.reduceToNat, Int.reduceSub, Int.reduceAdd, Nat.reduceLT, Nat.reduceMul, Nat.reduceSub, Nat.reduceBNe]
      obtain ⟨o, rfl, fr1, m1, v1, rfl, g2, g5, g6, g8, ho1, hk1, gd⟩ := looped hY (parts_l0 (ws := [wordT d, d.s]) (bw := nb m.next 3) (tw := t_string) (v2 := .ptr b3 0) (v5 := .ptr (nb m.next 0) 0) (v6 := .ptr (nb m.next 2) 0) (by simp) hb4 (by rw [hnx]; unfold nb; omega) (by simp only [zzf, Nat.reduceBEq ]) (by simp only [zzf, Nat.reduceBEq ]) (by simp only [zzf, Nat.reduceBEq ]) (by simp only [zzf, Nat.reduceBEq ]) (by simp only [zzf, Nat.reduceBEq ]; rfl) (by simp only [zzf, Nat.reduceBEq ]; rfl) (by simp only [zzf, Nat.reduceBEq ]) (by simp only [zzf, Nat.reduceBEq ]))
      rw [parts_head] at ho1
      have hb2' := (hk1.2 (nb m.next 0) (by rw [hnx]; unfold nb; omega)).trans hb2
      simp only [Nd.cells] at hb2'
      have hkm1 : KpM m m1 := hkm.trans hk1
      replace ho1 := ho1.down hkm.1
      rw [← hhead] at ho1
      rw [k5] at hb2'
      simp +contextual -implicitDefEqProofs (maxSteps := 1000000) (maxDischargeDepth := 8) only [g2, g5, g6, g8, gd, hb2', hkm1.1, zza, argsF, reduceIte, reduceCtorEq, Nat.reduceEqDiff, Nat.reduceBEq, Nat.reduceAdd, Int.reduceLT, Int.reduceLE, Int.reduceEq, Int.reduceToNat, Int.reduceNeg, Nat.reduceLeDiff, Int.reducePow, implies_true, UInt8.reduceToNat, Int.reduceSub, Int.reduceAdd, Nat.reduceLT, Nat.reduceMul, Nat.reduceSub, Nat.reduceBNe] at hX
      subst hL1
      generalize hZ : exec _ (.loop F_tree_Text_1_l1) _ _ = Z at hX
      obtain ⟨o, rfl, fr3, m3, v3, rfl, w8, ho3, hk3, wd⟩ := looped hZ (parts_l1 (l := l) (ks := d.kids) (b1 := b1) (b3 := b3) (vr := row nl t 5 (nds l)) (nl := d.nl) (ps := headT d) (lo := m) (vp := v1) hkl (by have := head_len3 d; omega) hcl hkm1 ih' (by simp only [g2, zzf, Nat.reduceBEq ]) (by simp only [g8, zzf, Nat.reduceBEq ]) (by simpa using ho1) (by simp only [zzf, Nat.reduceBEq ]) (by simp only [ints_len, zzf, Nat.reduceBEq ]) (by simp only [zzf, Nat.reduceBEq ]) (by simp only [gd, zzf, Nat.reduceBEq ]))
      have hjr := join_run (m := m3) ho3 (by have hh := head_len3 d; rw [List.length_append, List.length_map]; omega) (by omega)
      have c1 : ∀ s : Txt, s.length ≤ 4000000000 → evBin .add (.str [40]) (.str s) = some (.str (40 :: s)) := fun s hs => by rw [bin_cat, Nat.ble_eq_true_of_le (by simp; omega)]; rfl
      have c2 : ∀ s : Txt, s.length ≤ 4000000000 → evBin .add (.str s) (.str [41]) = some (.str (s ++ [41])) := fun s hs => by rw [bin_cat, Nat.ble_eq_true_of_le (by simp; omega)]; rfl
      have c1' := c1 (Go.Lib.join (headT d ++ d.kids.map fun x => tellN l x.toNat) [32]) (by omega)
      have c2' := c2 (40 :: Go.Lib.join (headT d ++ d.kids.map fun x => tellN l x.toNat) [32]) (by simp; omega)
      simp +contextual -implicitDefEqProofs (maxSteps := 1000000) (maxDischargeDepth := 8) only [w8, wd, hjr, c1', c2', zza, argsF, reduceIte, reduceCtorEq, Nat.reduceEqDiff, Nat.reduceBEq, Nat.reduceAdd, Int.reduceLT, Int.reduceLE, Int.reduceEq, Int.reduceToNat, Int.reduceNeg, Nat.reduceLeDiff, Int.reducePow, implies_true, UInt8.reduceToNat, Int.reduceSub, Int.reduceAdd, Nat.reduceLT, Nat.reduceMul, Nat.reduceSub, Nat.reduceBNe] at hX
      subst hX
      exact ⟨_, rfl, hk3⟩
    by_cases hk : d.kind = 25 ∨ d.kind = 24
    · have hword : (rowF d.kind).word = wordT d := by unfold wordT; rw [if_neg k5]
      have hhead : headT d = ((if wordT d ≠ [] then [wordT d] else []) ++ (if d.s ≠ [] then [d.s] else [])) ++ [kindT d.n] := by unfold headT; simp [hk]
      have hkt : pureR B K n_tree_Kind [.int .i64 d.n] = some (.str (kindT d.n)) := tree_kind
      simp +contextual -implicitDefEqProofs (maxSteps := 1000000) (maxDischargeDepth := 8) only [F_tree_Text_1, hg1, hix, hd0, hl1, hl3, nds_get, nds_len, Nd.cells, KRow.cells, hrow, k1, k2, k3, k4, k5, cp2, evOp_bsliceN, bsF_some, zza, argsF, reduceIte, reduceCtorEq, Nat.reduceEqDiff, Nat.reduceBEq, Nat.reduceAdd, Int.reduceLT, Int.reduceLE, Int.reduceEq, Int.reduceToNat, Int.reduceNeg, Nat.reduceLeDiff, Int.reducePow, implies_true, UInt8.reduceToNat, Int.reduceSub, Int.reduceAdd, Nat.reduceLT, Nat.reduceMul, Nat.reduceSub, Nat.reduceBNe] at hX
      subst hL0
      generalize hY : exec _ (.loop F_tree_Text_1_l0) _ _ = Y at hX
      rw [hword] at hY
      generalize hM : ext (bump _ 1) _ = M1 at hY
      have hkm : KpM m M1 := by rw [← hM]; repeat first | exact KpM.refl _ | apply KpM.ext | apply KpM.bump
      have hb4 : M1.get (nb m.next 3) = .cells ([wordT d, d.s].map .str) 1 t_string false := by rw [← hM]; simp +contextual -implicitDefEqProofs (maxSteps := 1000000) (maxDischargeDepth := 8) only [hword, zza, argsF, reduceIte, reduceCtorEq, Nat.reduceEqDiff, Nat.reduceBEq, Nat.reduceAdd, Int.reduceLT, Int.reduceLE, Int.reduceEq, Int.reduceToNat, Int.reduceNeg, Nat.reduceLeDiff, Int.reducePow, implies_true, UInt8.reduceToNat, Int.reduceSub, Int.reduceAdd, Nat.reduceLT, Nat.reduceMul, Nat.reduceSub, Nat.reduceBNe]
      have hb2 : M1.get (nb m.next 0) = .cells d.cells 5 t_api_Node false := by rw [← hM]; simp +contextual -implicitDefEqProofs (maxSteps := 1000000) (maxDischargeDepth := 8) only [Nd.cells, k1, k2, k3, k4, k5, zza, argsF, reduceIte, reduceCtorEq, Nat.reduceEqDiff, Nat.reduceBEq, Nat.reduceAdd, Int.reduceLT, Int.reduceLE, Int.reduceEq, Int.reduceToNat, Int.reduceNeg, Nat.reduceLeDiff, Int.reducePow, implies_true, UInt8.reduceToNat, Int.reduceSub, Int.reduceAdd, Nat.reduceLT, Nat.reduceMul, Nat.reduceSub, Nat.reduceBNe]
      have hnx : M1.next = nb m.next 4 := by rw [← hM]; simp +contextual -implicitDefEqProofs (maxSteps := 1000000) (maxDischargeDepth := 8) only [zza, argsF, reduceIte, reduceCtorEq, Nat.reduceEqDiff, Nat.reduceBEq, Nat.reduceAdd, Int.reduceLT, Int.reduceLE, Int.reduceEq, Int.reduceToNat, Int.reduceNeg, Nat.reduceLeDiff, Int.reducePow, implies_true, UInt8.reduceToNat, Int.reduceSub, Int.reduceAdd, Nat.reduceLT, Nat.reduceMul, Nat.reduceSub, Nat.reduceBNe]
      obtain ⟨o, rfl, fr1, m1, v1, rfl, g2, g5, g6, g8, ho1, hk1, gd⟩ := looped hY (parts_l0 (ws := [wordT d, d.s]) (bw := nb m.next 3) (tw := t_string) (v2 := .ptr b3 0) (v5 := .ptr (nb m.next 0) 0) (v6 := .ptr (nb m.next 2) 0) (by simp) hb4 (by rw [hnx]; unfold nb; omega) (by simp only [zzf, Nat.reduceBEq ]) (by simp only [zzf, Nat.reduceBEq ]) (by simp only [zzf, Nat.reduceBEq ]) (by simp only [zzf, Nat.reduceBEq ]) (by simp only [zzf, Nat.reduceBEq ]; rfl) (by simp only [zzf, Nat.reduceBEq ]; rfl) (by simp only [zzf, Nat.reduceBEq ]) (by simp only [zzf, Nat.reduceBEq ]))
      rw [parts_head] at ho1
      have hb2' := (hk1.2 (nb m.next 0) (by rw [hnx]; unfold nb; omega)).trans hb2
      simp only [Nd.cells] at hb2'
      have hkm1 : KpM m m1 := hkm.trans hk1
      obtain ⟨v2', M2, ha, ho2, hk2⟩ := push1 (x := .str (kindT d.n)) (ty := t_string) (m0 := M1) ho1 hk1 (by have := head_len2 d; omega)
      have hb2'' := hb2'
      simp +contextual -implicitDefEqProofs (maxSteps := 1000000) (maxDischargeDepth := 8) only [g2, g5, g6, g8, gd, hb2', hkt, hk, cp1, ha, evOp_bsliceN, bsF_some, zza, argsF, reduceIte, reduceCtorEq, Nat.reduceEqDiff, Nat.reduceBEq, Nat.reduceAdd, Int.reduceLT, Int.reduceLE, Int.reduceEq, Int.reduceToNat, Int.reduceNeg, Nat.reduceLeDiff, Int.reducePow, implies_true, UInt8.reduceToNat, Int.reduceSub, Int.reduceAdd, Nat.reduceLT, Nat.reduceMul, Nat.reduceSub, Nat.reduceBNe] at hX
      have hb3 : M2.get (nb m.next 0) = .cells d.cells 5 t_api_Node false := (hk2.2 (nb m.next 0) (by rw [hnx]; unfold nb; omega)).trans hb2
      replace ho2 := ho2.down hkm.1
      replace hk2 := hkm.trans hk2
      simp only [Nd.cells] at hb3
      simp +contextual -implicitDefEqProofs (maxSteps := 1000000) (maxDischargeDepth := 8) only [hb3, zza, argsF, reduceIte, reduceCtorEq, Nat.reduceEqDiff, Nat.reduceBEq, Nat.reduceAdd, Int.reduceLT, Int.reduceLE, Int.reduceEq, Int.reduceToNat, Int.reduceNeg, Nat.reduceLeDiff, Int.reducePow, implies_true, UInt8.reduceToNat, Int.reduceSub, Int.reduceAdd, Nat.reduceLT, Nat.reduceMul, Nat.reduceSub, Nat.reduceBNe] at hX
      subst hL1
      generalize hZ : exec _ (.loop F_tree_Text_1_l1) _ _ = Z at hX
      obtain ⟨o, rfl, fr3, m3, v3, rfl, w8, ho3, hk3, wd⟩ := looped hZ (parts_l1 (l := l) (ks := d.kids) (b1 := b1) (b3 := b3) (vr := row nl t 5 (nds l)) (nl := d.nl) (ps := headT d) (lo := m) (vp := v2') hkl (by have := head_len3 d; omega) hcl hk2 ih' (by simp only [g2, zzf, Nat.reduceBEq ]) (by simp only [g8, zzf, Nat.reduceBEq ]) (by rw [hhead, List.map_append (l₂ := [kindT d.n]), List.length_append (bs := [kindT d.n])]; exact ho2) (by simp only [zzf, Nat.reduceBEq ]) (by simp only [ints_len, zzf, Nat.reduceBEq ]) (by simp only [zzf, Nat.reduceBEq ]) (by simp only [gd, zzf, Nat.reduceBEq ]))
      have hjr := join_run (m := m3) ho3 (by have hh := head_len3 d; rw [List.length_append, List.length_map]; omega) (by omega)
      have c1 : ∀ s : Txt, s.length ≤ 4000000000 → evBin .add (.str [40]) (.str s) = some (.str (40 :: s)) := fun s hs => by rw [bin_cat, Nat.ble_eq_true_of_le (by simp; omega)]; rfl
      have c2 : ∀ s : Txt, s.length ≤ 4000000000 → evBin .add (.str s) (.str [41]) = some (.str (s ++ [41])) := fun s hs => by rw [bin_cat, Nat.ble_eq_true_of_le (by simp; omega)]; rfl
      have c1' := c1 (Go.Lib.join (headT d ++ d.kids.map fun x => tellN l x.toNat) [32]) (by omega)
      have c2' := c2 (40 :: Go.Lib.join (headT d ++ d.kids.map fun x => tellN l x.toNat) [32]) (by simp; omega)
      simp +contextual -implicitDefEqProofs (maxSteps := 1000000) (maxDischargeDepth := 8) only [w8, wd, hjr, c1', c2', zza, argsF, reduceIte, reduceCtorEq, Nat.reduceEqDiff, Nat.reduceBEq, Nat.reduceAdd, Int.reduceLT, Int.reduceLE, Int.reduceEq, Int.reduceToNat, Int.reduceNeg, Nat.reduceLeDiff, Int.reducePow, implies_true, UInt8.reduceToNat, Int.reduceSub, Int.reduceAdd, Nat.reduceLT, Nat.reduceMul, Nat.reduceSub, Nat.reduceBNe] at hX
      subst hX
      exact ⟨_, rfl, hk3⟩
    · have hword : (rowF d.kind).word = wordT d := by unfold wordT; rw [if_neg k5]
      have hhead : headT d = (if wordT d ≠ [] then [wordT d] else []) ++ (if d.s ≠ [] then [d.s] else []) := by unfold headT; simp [hk]
      simp +contextual -implicitDefEqProofs (maxSteps := 1000000) (maxDischargeDepth := 8) only [F_tree_Text_1, hg1, hix, hd0, hl1, hl3, nds_get, nds_len, Nd.cells, KRow.cells, hrow, k1, k2, k3, k4, k5, cp2, evOp_bsliceN, bsF_some, zza, argsF, reduceIte, reduceCtorEq, Nat.reduceEqDiff, Nat.reduceBEq, Nat.reduceAdd, Int.reduceLT, Int.reduceLE, Int.reduceEq, Int.reduceToNat, Int.reduceNeg, Nat.reduceLeDiff, Int.reducePow, implies_true, UInt8.reduceToNat, Int.reduceSub, Int.reduceAdd, Nat.reduceLT, Nat.reduceMul, Nat.reduceSub, Nat.reduceBNe] at hX
      subst hL0
      generalize hY : exec _ (.loop F_tree_Text_1_l0) _ _ = Y at hX
      rw [hword] at hY
      generalize hM : ext (bump _ 1) _ = M1 at hY
      have hkm : KpM m M1 := by rw [← hM]; repeat first | exact KpM.refl _ | apply KpM.ext | apply KpM.bump
      have hb4 : M1.get (nb m.next 3) = .cells ([wordT d, d.s].map .str) 1 t_string false := by rw [← hM]; simp +contextual -implicitDefEqProofs (maxSteps := 1000000) (maxDischargeDepth := 8) only [hword, zza, argsF, reduceIte, reduceCtorEq, Nat.reduceEqDiff, Nat.reduceBEq, Nat.reduceAdd, Int.reduceLT, Int.reduceLE, Int.reduceEq, Int.reduceToNat, Int.reduceNeg, Nat.reduceLeDiff, Int.reducePow, implies_true, UInt8.reduceToNat, Int.reduceSub, Int.reduceAdd, Nat.reduceLT, Nat.reduceMul, Nat.reduceSub, Nat.reduceBNe]
      have hb2 : M1.get (nb m.next 0) = .cells d.cells 5 t_api_Node false := by rw [← hM]; simp +contextual -implicitDefEqProofs (maxSteps := 1000000) (maxDischargeDepth := 8) only [Nd.cells, k1, k2, k3, k4, k5, zza, argsF, reduceIte, reduceCtorEq, Nat.reduceEqDiff, Nat.reduceBEq, Nat.reduceAdd, Int.reduceLT, Int.reduceLE, Int.reduceEq, Int.reduceToNat, Int.reduceNeg, Nat.reduceLeDiff, Int.reducePow, implies_true, UInt8.reduceToNat, Int.reduceSub, Int.reduceAdd, Nat.reduceLT, Nat.reduceMul, Nat.reduceSub, Nat.reduceBNe]
      have hnx : M1.next = nb m.next 4 := by rw [← hM]; simp +contextual -implicitDefEqProofs (maxSteps := 1000000) (maxDischargeDepth := 8) only [zza, argsF, reduceIte, reduceCtorEq, Nat.reduceEqDiff, Nat.reduceBEq, Nat.reduceAdd, Int.reduceLT, Int.reduceLE, Int.reduceEq, Int.reduceToNat, Int.reduceNeg, Nat.reduceLeDiff, Int.reducePow, implies_true, UInt8.reduceToNat, Int.reduceSub, Int.reduceAdd, Nat.reduceLT, Nat.reduceMul, Nat.reduceSub, Nat.reduceBNe]
      obtain ⟨o, rfl, fr1, m1, v1, rfl, g2, g5, g6, g8, ho1, hk1, gd⟩ := looped hY (parts_l0 (ws := [wordT d, d.s]) (bw := nb m.next 3) (tw := t_string) (v2 := .ptr b3 0) (v5 := .ptr (nb m.next 0) 0) (v6 := .ptr (nb m.next 2) 0) (by simp) hb4 (by rw [hnx]; unfold nb; omega) (by simp only [zzf, Nat.reduceBEq ]) (by simp only [zzf, Nat.reduceBEq ]) (by simp only [zzf, Nat.reduceBEq ]) (by simp only [zzf, Nat.reduceBEq ]) (by simp only [zzf, Nat.reduceBEq ]; rfl) (by simp only [zzf, Nat.reduceBEq ]; rfl) (by simp only [zzf, Nat.reduceBEq ]) (by simp only [zzf, Nat.reduceBEq ]))
      rw [parts_head] at ho1
      have hb2' := (hk1.2 (nb m.next 0) (by rw [hnx]; unfold nb; omega)).trans hb2
      simp only [Nd.cells] at hb2'
      have hkm1 : KpM m m1 := hkm.trans hk1
      replace ho1 := ho1.down hkm.1
      rw [← hhead] at ho1
      simp +contextual -implicitDefEqProofs (maxSteps := 1000000) (maxDischargeDepth := 8) only [g2, g5, g6, g8, gd, hb2', hk, hkm1.1, zza, argsF, reduceIte, reduceCtorEq, Nat.reduceEqDiff, Nat.reduceBEq, Nat.reduceAdd, Int.reduceLT, Int.reduceLE, Int.reduceEq, Int.reduceToNat, Int.reduceNeg, Nat.reduceLeDiff, Int.reducePow, implies_true, UInt8.reduceToNat, Int.reduceSub, Int.reduceAdd, Nat.reduceLT, Nat.reduceMul, Nat.reduceSub, Nat.reduceBNe] at hX
      subst hL1
      generalize hZ : exec _ (.loop F_tree_Text_1_l1) _ _ = Z at hX
      obtain ⟨o, rfl, fr3, m3, v3, rfl, w8, ho3, hk3, wd⟩ := looped hZ (parts_l1 (l := l) (ks := d.kids) (b1 := b1) (b3 := b3) (vr := row nl t 5 (nds l)) (nl := d.nl) (ps := headT d) (lo := m) (vp := v1) hkl (by have := head_len3 d; omega) hcl hkm1 ih' (by simp only [g2, zzf, Nat.reduceBEq ]) (by simp only [g8, zzf, Nat.reduceBEq ]) (by simpa using ho1) (by simp only [zzf, Nat.reduceBEq ]) (by simp only [ints_len, zzf, Nat.reduceBEq ]) (by simp only [zzf, Nat.reduceBEq ]) (by simp only [gd, zzf, Nat.reduceBEq ]))
      have hjr := join_run (m := m3) ho3 (by have hh := head_len3 d; rw [List.length_append, List.length_map]; omega) (by omega)
      have c1 : ∀ s : Txt, s.length ≤ 4000000000 → evBin .add (.str [40]) (.str s) = some (.str (40 :: s)) := fun s hs => by rw [bin_cat, Nat.ble_eq_true_of_le (by simp; omega)]; rfl
      have c2 : ∀ s : Txt, s.length ≤ 4000000000 → evBin .add (.str s) (.str [41]) = some (.str (s ++ [41])) := fun s hs => by rw [bin_cat, Nat.ble_eq_true_of_le (by simp; omega)]; rfl
      have c1' := c1 (Go.Lib.join (headT d ++ d.kids.map fun x => tellN l x.toNat) [32]) (by omega)
      have c2' := c2 (40 :: Go.Lib.join (headT d ++ d.kids.map fun x => tellN l x.toNat) [32]) (by simp; omega)
      simp +contextual -implicitDefEqProofs (maxSteps := 1000000) (maxDischargeDepth := 8) only [w8, wd, hjr, c1', c2', zza, argsF, reduceIte, reduceCtorEq, Nat.reduceEqDiff, Nat.reduceBEq, Nat.reduceAdd, Int.reduceLT, Int.reduceLE, Int.reduceEq, Int.reduceToNat, Int.reduceNeg, Nat.reduceLeDiff, Int.reducePow, implies_true, UInt8.reduceToNat, Int.reduceSub, Int.reduceAdd, Nat.reduceLT, Nat.reduceMul, Nat.reduceSub, Nat.reduceBNe] at hX
      subst hX
      exact ⟨_, rfl, hk3⟩
end Go.Proofs.YtblcomejcahkdaaDoor.Ev
end
section
namespace Go.Proofs.YtblcomejcahkdaaDoor.Ev
open Go
set_option maxRecDepth 20000
set_option maxHeartbeats 8000000
open Classical in
noncomputable def treeT (l : List Nd) : Txt := if rightP l then tellN l (l.length - 1) else []
theorem tree_text {l : List Nd} {t : Nat} {nl : Bool} (ht : Tidy l) : pureR B K n_tree_Text [row nl t 5 (nds l)] = some (.str (treeT l)) := by
  have hlen := ht.small.len
  rw [pure_at (by simp [F_tree_Text])]
  have e := fun t nl => tree_right (t := t) (nl := nl) ht.small (fun d hd => (ht.n d hd).2)
  unfold treeT
  by_cases h : rightP l
  · rw [if_pos h]
    have hpos := h.2.1
    have hw : IntKind.i64.wrap ((l.length : Int) - 1) = ((l.length - 1 : Nat) : Int) := by rw [wrap_i64 (by omega) (by omega)]; omega
    have hcl : ∀ ty1 ty3, Cl (ext mem00 [.cells [row nl t 5 (nds l)] 1 ty1 false, .cells [.func n_tree_Text_1 [] [.ptr (nb mem00.next 0) 0, .ptr (nb mem00.next 1) 0]] 1 ty3 false]) (nb mem00.next 0) (nb mem00.next 1) (row nl t 5 (nds l)) := fun ty1 ty3 =>
      ⟨⟨ty1, by rw [get_ext_nb rfl (by simp)]; rfl⟩, ⟨ty3, by rw [get_ext_nb rfl (by simp)]; rfl⟩, by rw [next_ext]; unfold nb; simp, by rw [next_ext]; unfold nb; simp⟩
    obtain ⟨m', hr, _⟩ := text1_run ht h (l.length - 1) (by omega) _ (hcl t_S_api_Node 38)
    simp +contextual -implicitDefEqProofs (maxSteps := 1000000) (maxDischargeDepth := 8) only [F_tree_Text, e, h, hw, hr, nds_len, bo_tt, zza, argsF, reduceIte, reduceCtorEq, Nat.reduceEqDiff, Nat.reduceBEq, Nat.reduceAdd, Int.reduceLT, Int.reduceLE, Int.reduceEq, Int.reduceToNat, Int.reduceNeg, Nat.reduceLeDiff, Int.reducePow, implies_true, UInt8.reduceToNat, Int.reduceSub, Int.reduceAdd, Nat.reduceLT, Nat.reduceMul, Nat.reduceSub, Nat.reduceBNe]
  · rw [if_neg h]
    simp +contextual -implicitDefEqProofs (maxSteps := 1000000) (maxDischargeDepth := 8) only [F_tree_Text, e, h, bo_ff, zza, argsF, reduceIte, reduceCtorEq, Nat.reduceEqDiff, Nat.reduceBEq, Nat.reduceAdd, Int.reduceLT, Int.reduceLE, Int.reduceEq, Int.reduceToNat, Int.reduceNeg, Nat.reduceLeDiff, Int.reducePow, implies_true, UInt8.reduceToNat, Int.reduceSub, Int.reduceAdd, Nat.reduceLT, Nat.reduceMul, Nat.reduceSub, Nat.reduceBNe]
end Go.Proofs.YtblcomejcahkdaaDoor.Ev
end
section
namespace Go.Proofs.YtblcomejcahkdaaDoor.Ev
open Go
def mvN (x : Int) (d : Nd) : Nd := { d with pos := if 0 ≤ d.pos ∧ d.pos < 1000 then d.pos + x else d.pos }
theorem key_inv {d e : Nd} (h : d.key = e.key) : ∃ k ks n s p p' nl nl', d = ⟨k, ks, nl, n, s, p⟩ ∧ e = ⟨k, ks, nl', n, s, p'⟩ := by
  rw [ndkey_eq] at h
  obtain ⟨k, ks, nl, n, s, p⟩ := d
  obtain ⟨k', ks', nl', n', s', p'⟩ := e
  simp only at h
  obtain ⟨rfl, rfl, rfl, rfl⟩ := h
  exact ⟨_, _, _, _, _, _, _, _, rfl, rfl⟩
theorem mv_key (x : Int) (d : Nd) : (mvN x d).key = d.key := rfl
theorem mv_keys (x : Int) (A : List Nd) : (A.map (mvN x)).map Nd.key = A.map Nd.key := by
  rw [List.map_map]; rfl
theorem keys_at {A B : List Nd} (h : A.map Nd.key = B.map Nd.key) (i : Nat) : (A[i]?).map Nd.key = (B[i]?).map Nd.key := by
  have := congrArg (fun l => l[i]?) h
  simpa only [List.getElem?_map] using this
theorem keys_kids {A B : List Nd} (h : A.map Nd.key = B.map Nd.key) : A.map Nd.kids = B.map Nd.kids := by
  have := congrArg (List.map fun k : Int × Int × Txt × List Int => k.2.2.2) h
  rw [List.map_map, List.map_map] at this
  exact this
theorem keys_len {A B : List Nd} (h : A.map Nd.key = B.map Nd.key) : A.length = B.length := by
  have := congrArg List.length h
  rwa [List.length_map, List.length_map] at this
theorem keys_kind {A B : List Nd} (h : A.map Nd.key = B.map Nd.key) : kindOf A = kindOf B := by
  funext x
  have := congrArg (Option.map Prod.fst) (keys_at h x.toNat)
  unfold kindOf
  rw [Option.map_map, Option.map_map] at this
  show ((A[x.toNat]?).map (Prod.fst ∘ Nd.key)).getD 0 = ((B[x.toNat]?).map (Prod.fst ∘ Nd.key)).getD 0
  rw [this]
theorem keys_used {A B : List Nd} (h : A.map Nd.key = B.map Nd.key) : usedL A = usedL B := by unfold usedL; rw [keys_kids h]
theorem keys_kidsP {A B : List Nd} (h : A.map Nd.key = B.map Nd.key) {d e : Nd} (hd : d.key = e.key) : kidsP A d = kidsP B e := by
  obtain ⟨k, ks, n, s, p, p', nl, nl', rfl, rfl⟩ := key_inv hd
  unfold kidsP exprsP allP
  rw [keys_kind h]
theorem keys_high {A B : List Nd} (h : A.map Nd.key = B.map Nd.key) : ∀ f i, highF A f i = highF B f i
  | 0, _ => rfl
  | f + 1, i => by
    have hi := keys_at h i
    have ih := keys_high h f
    simp only [highF]
    cases hA : A[i]? with
    | none =>
      cases hB : B[i]? with
      | none => rfl
      | some e => rw [hA, hB] at hi; cases hi
    | some d =>
      cases hB : B[i]? with
      | none => rw [hA, hB] at hi; cases hi
      | some e =>
        rw [hA, hB] at hi
        obtain ⟨k, ks, n, s, p, p', nl, nl', rfl, rfl⟩ := key_inv (Option.some.inj hi)
        simp only [ih]
theorem keys_tell {A B : List Nd} (h : A.map Nd.key = B.map Nd.key) : ∀ f i, tellF A f i = tellF B f i
  | 0, _ => rfl
  | f + 1, i => by
    have hi := keys_at h i
    have ih := keys_tell h f
    simp only [tellF]
    cases hA : A[i]? with
    | none =>
      cases hB : B[i]? with
      | none => rfl
      | some e => rw [hA, hB] at hi; cases hi
    | some d =>
      cases hB : B[i]? with
      | none => rw [hA, hB] at hi; cases hi
      | some e =>
        rw [hA, hB] at hi
        obtain ⟨k, ks, n, s, p, p', nl, nl', rfl, rfl⟩ := key_inv (Option.some.inj hi)
        simp only [ih]
        rfl
theorem keys_lt {A B : List Nd} (h : A.map Nd.key = B.map Nd.key) (hk : kidsLt A) : kidsLt B := by
  intro i e he x hx
  have hi := keys_at h i
  rw [he] at hi
  cases hA : A[i]? with
  | none => rw [hA] at hi; cases hi
  | some d =>
    rw [hA] at hi
    obtain ⟨k, ks, n, s, p, p', nl, nl', rfl, rfl⟩ := key_inv (Option.some.inj hi)
    exact hk i _ hA x hx
theorem mv_own {x : Int} (hx : 0 ≤ x) (d : Nd) : ownP (mvN x d) = ownP d := by
  have : ((mvN x d).pos < 0) = (d.pos < 0) := by
    unfold mvN; simp only
    apply propext; split <;> omega
  unfold ownP
  rw [this]
  rfl
theorem mv_right {x : Int} (hx : 0 ≤ x) (A : List Nd) : rightP (A.map (mvN x)) = rightP A := by
  have hk := mv_keys x A
  have hlt : kidsLt (A.map (mvN x)) = kidsLt A := propext ⟨keys_lt hk, keys_lt hk.symm⟩
  have hall : (∀ d ∈ A.map (mvN x), ownP d ∧ kidsP (A.map (mvN x)) d) = ∀ d ∈ A, ownP d ∧ kidsP A d := by
    apply propext
    rw [List.forall_mem_map]
    constructor
    · intro h d hd; have := h d hd; rwa [mv_own hx, keys_kidsP hk (mv_key x d)] at this
    · intro h d hd; have := h d hd; rwa [mv_own hx, keys_kidsP hk (mv_key x d)]
  unfold rightP highN
  rw [hlt, keys_used hk, hall, List.length_map, keys_high hk]
theorem keys_text {A B : List Nd} (h : A.map Nd.key = B.map Nd.key) (hA : rightP A) (hB : rightP B) : treeT A = treeT B := by
  unfold treeT tellN
  rw [if_pos hA, if_pos hB, keys_len h, keys_tell h]
theorem mv_text {x : Int} (hx : 0 ≤ x) (A : List Nd) : treeT (A.map (mvN x)) = treeT A := by
  by_cases h : rightP A
  · exact keys_text (mv_keys x A) (by rw [mv_right hx]; exact h) h
  · unfold treeT; rw [if_neg h, if_neg (by rw [mv_right hx]; exact h)]
theorem mv_tidy {x : Int} {A : List Nd} (h : Tidy A) : Tidy (A.map (mvN x)) := by
  refine ⟨⟨?_, ?_, ?_⟩, ?_, ?_, ?_⟩
  · rw [List.length_map]; exact h.small.len
  · rw [List.forall_mem_map]; exact h.small.kids
  · rw [List.forall_mem_map]; exact h.small.s
  · rw [List.length_map]; exact h.len
  · rw [List.forall_mem_map]; exact h.s
  · rw [List.forall_mem_map]; exact h.n
end Go.Proofs.YtblcomejcahkdaaDoor.Ev
end
section
namespace Go.Proofs.YtblcomejcahkdaaDoor.Ev
open Go
set_option maxRecDepth 20000
set_option maxHeartbeats 8000000
def sgn (n : Int) (u : Nat) : Int := if n < 0 then -(u : Int) else (u : Int)
end Go.Proofs.YtblcomejcahkdaaDoor.Ev
end
section
namespace Go.Proofs.YtblcomejcahkdaaDoor.Ev
open Go
set_option maxRecDepth 20000
set_option maxHeartbeats 8000000
def docW : List Txt := rowsL.map KRow.word
def frontT (d : Nd) : Txt := wordT d ++ (if d.s ≠ [] ∧ wordT d ≠ [] then [32] else []) ++ d.s ++ (if d.kind = 24 ∨ d.kind = 25 then 32 :: kindT d.n else [])
end Go.Proofs.YtblcomejcahkdaaDoor.Ev
end
section
namespace Go.Proofs.YtblcomejcahkdaaDoor.Ev
open Go
set_option maxRecDepth 20000
set_option maxHeartbeats 8000000
end Go.Proofs.YtblcomejcahkdaaDoor.Ev
end
section
namespace Go.Proofs.YtblcomejcahkdaaDoor.Ev
open Go
structure NdIn (d : Nd) : Prop where
  kids : d.kids.length ≤ 9223372036854775807
  s : d.s.length ≤ 9223372036854775807
  n : -9223372036854775808 ≤ d.n ∧ d.n ≤ 9223372036854775807
  pos : -9223372036854775808 ≤ d.pos ∧ d.pos ≤ 9223372036854775807
theorem wf64 {n : Int} (h : (Lit.int .i64 n).wf = true) : -9223372036854775808 ≤ n ∧ n ≤ 9223372036854775807 := by
  have := wf_i64 h; omega
theorem fz_ints {n : Nat} : ∀ {els : List (List EV)} {ds : List Dt}, Fzs (List.replicate n (.int .i64)) els ds → ∃ ks : List Int, els = ints ks ∧ ks.length = n := by
  induction n with
  | zero => intro els ds h; rw [List.replicate_zero] at h; cases h; exact ⟨[], rfl, rfl⟩
  | succ n ih =>
    intro els ds h
    rw [List.replicate_succ] at h
    cases h with
    | cons h hs =>
      obtain ⟨ks, rfl, hl⟩ := ih hs
      cases h with
      | int hw => exact ⟨_ :: ks, rfl, by simp [hl]⟩
def ndSh (e2 : Nat) : Sh := .struct [.int .i64, .slice e2 1 (.int .i64), .int .i64, .str, .int .i64]
theorem fz_node {e2 : Nat} {el : List EV} {d : Dt} (h : Fz (ndSh e2) el d) : ∃ nd : Nd, el = nd.cells ∧ NdIn nd := by
  cases h with
  | struct h =>
  cases h with | cons h1 h =>
  cases h with | cons h2 h =>
  cases h with | cons h3 h =>
  cases h with | cons h4 h =>
  cases h with | cons h5 h =>
  cases h
  cases h1 with | int w1 =>
  cases h3 with | int w3 =>
  cases h4 with | str w4 =>
  cases h5 with | int w5 =>
  cases h2 with
  | nil => exact ⟨⟨_, [], true, _, _, _⟩, rfl, ⟨by simp, w4, wf64 w3, wf64 w5⟩⟩
  | slice hl hs =>
    obtain ⟨ks, rfl, hk⟩ := fz_ints hs
    exact ⟨⟨_, ks, false, _, _, _⟩, rfl, ⟨by rw [hk]; exact hl, w4, wf64 w3, wf64 w5⟩⟩
theorem fz_nodes {n e2 : Nat} : ∀ {els : List (List EV)} {ds : List Dt}, Fzs (List.replicate n (ndSh e2)) els ds → ∃ l : List Nd, els = nds l ∧ l.length = n ∧ ∀ d ∈ l, NdIn d := by
  induction n with
  | zero => intro els ds h; rw [List.replicate_zero] at h; cases h; exact ⟨[], rfl, rfl, by simp⟩
  | succ n ih =>
    intro els ds h
    rw [List.replicate_succ] at h
    cases h with
    | cons h hs =>
      obtain ⟨l, rfl, hl, hd⟩ := ih hs
      obtain ⟨nd, rfl, hn⟩ := fz_node h
      exact ⟨nd :: l, rfl, by simp [hl], fun d hm => (List.mem_cons.1 hm).elim (fun q => q ▸ hn) (hd d)⟩
theorem fz_rows {e e2 : Nat} {v : EV} {d : Dt} (h : FzV (.slice e 5 (ndSh e2)) v d) : ∃ (nl : Bool) (l : List Nd), v = row nl 0 5 (nds l) ∧ l.length ≤ 9223372036854775807 ∧ ∀ d ∈ l, NdIn d := by
  have h : Fz (.slice e 5 (ndSh e2)) [v] d := h
  cases h with
  | nil => exact ⟨true, [], rfl, by simp, by simp⟩
  | slice hl hs =>
    obtain ⟨l, rfl, hn, hd⟩ := fz_nodes hs
    exact ⟨false, l, rfl, by rw [hn]; exact hl, hd⟩
end Go.Proofs.YtblcomejcahkdaaDoor.Ev
end
section
namespace Go.Proofs.YtblcomejcahkdaaDoor.Ev
open Go
set_option maxRecDepth 20000
set_option maxHeartbeats 8000000
theorem few_loop {l : List Nd} {nl : Bool} {t : Nat} (hl : l.length ≤ 9223372036854775807) {m0 : Mem} {fr : Fr} (h0 : fr.get 0 = row nl t 5 (nds l)) (h3 : fr.get 3 = .int .i64 0) (h4 : fr.get 4 = .int .i64 0) (hd : fr.defers = []) :
    ∃ o, exec U (.loop F_l06_few_l0) fr m0 = some o ∧ ((∃ fr', o = .ret fr' m0 ∧ fr'.get 2 = .bool false ∧ fr'.defers = []) ∨ ((∀ d ∈ l, d.s.length ≤ 40) ∧ ∃ fr' n, o = .exit 0 fr' m0 ∧ fr'.get 0 = row nl t 5 (nds l) ∧ fr'.get 3 = .int .i64 n ∧ fr'.defers = [])) := by
  refine loop_w (σ := Nat) (fun i fr m => m = m0 ∧ i ≤ l.length ∧ (∀ d ∈ l.take i, d.s.length ≤ 40) ∧ fr.get 0 = row nl t 5 (nds l) ∧ (∃ n, fr.get 3 = .int .i64 n) ∧ fr.get 4 = .int .i64 (i : Int) ∧ fr.defers = []) (fun i => l.length - i) _ ?_ 0 fr m0 ⟨rfl, Nat.zero_le _, by simp, h0, ⟨_, h3⟩, h4, hd⟩
  rintro i fr m ⟨rfl, hi, hall, h0, ⟨n, h3⟩, h4, hd⟩
  generalize hX : exec U F_l06_few_l0 fr m = X
  by_cases hlt : i < l.length
  · have hc : (i : Int) < (l.length : Int) := by omega
    have hd0 : l[i]? = some l[i] := List.getElem?_eq_getElem hlt
    have htk : l.take (i + 1) = l.take i ++ [l[i]] := List.take_succ_eq_append_getElem hlt
    have hw1 := wrap_succ (i := i) (by omega)
    have hix : idx l.length (.int .i64 (i : Int)) = some i := idx_cast hlt
    generalize l[i] = d at *
    by_cases h40 : d.s.length ≤ 40
    · have hq : ¬ ((40 : Int) < (d.s.length : Int)) := by omega
      simp +contextual -implicitDefEqProofs (maxSteps := 1000000) (maxDischargeDepth := 8) only [F_l06_few_l0, h0, h3, h4, hd, hc, hd0, hix, hw1, hq, nds_get, nds_len, Nd.cells, ints_len, zza, argsF, reduceIte, reduceCtorEq, Nat.reduceEqDiff, Nat.reduceBEq, Nat.reduceAdd, Int.reduceLT, Int.reduceLE, Int.reduceEq, Int.reduceToNat, Int.reduceNeg, Nat.reduceLeDiff, Int.reducePow, implies_true, UInt8.reduceToNat, Int.reduceSub, Int.reduceAdd, Nat.reduceLT, Nat.reduceMul, Nat.reduceSub, Nat.reduceBNe] at hX
      subst hX
      refine lw_norm (i + 1) (by omega) ⟨rfl, hlt, ?_, by simp only [h0, zzf, Nat.reduceBEq ], ⟨_, by simp only [zzf, Nat.reduceBEq ]; rfl⟩, by simp only [zzf, Nat.reduceBEq ], by simp only [hd, zzf, Nat.reduceBEq ]⟩
      intro e he
      rw [htk, List.mem_append] at he
      rcases he with he | he
      · exact hall e he
      · rw [List.mem_singleton.1 he]; exact h40
    · have hq : (40 : Int) < (d.s.length : Int) := by omega
      simp +contextual -implicitDefEqProofs (maxSteps := 1000000) (maxDischargeDepth := 8) only [F_l06_few_l0, h0, h3, h4, hd, hc, hd0, hix, hw1, hq, nds_get, nds_len, Nd.cells, ints_len, zza, argsF, reduceIte, reduceCtorEq, Nat.reduceEqDiff, Nat.reduceBEq, Nat.reduceAdd, Int.reduceLT, Int.reduceLE, Int.reduceEq, Int.reduceToNat, Int.reduceNeg, Nat.reduceLeDiff, Int.reducePow, implies_true, UInt8.reduceToNat, Int.reduceSub, Int.reduceAdd, Nat.reduceLT, Nat.reduceMul, Nat.reduceSub, Nat.reduceBNe] at hX
      subst hX
      exact lw_ret (.inl ⟨_, rfl, by simp only [zzf, Nat.reduceBEq ], by simp only [hd, zzf, Nat.reduceBEq ]⟩)
  · have hc : ¬ ((i : Int) < (l.length : Int)) := by omega
    rw [List.take_of_length_le (by omega)] at hall
    simp +contextual -implicitDefEqProofs (maxSteps := 1000000) (maxDischargeDepth := 8) only [F_l06_few_l0, h0, h3, h4, hd, hc, nds_len, zza, argsF, reduceIte, reduceCtorEq, Nat.reduceEqDiff, Nat.reduceBEq, Nat.reduceAdd, Int.reduceLT, Int.reduceLE, Int.reduceEq, Int.reduceToNat, Int.reduceNeg, Nat.reduceLeDiff, Int.reducePow, implies_true, UInt8.reduceToNat, Int.reduceSub, Int.reduceAdd, Nat.reduceLT, Nat.reduceMul, Nat.reduceSub, Nat.reduceBNe] at hX
    subst hX
    exact lw_exit (.inr ⟨hall, _, n, rfl, by simp only [h0, zzf, Nat.reduceBEq ], by simp only [h3, zzf, Nat.reduceBEq ], by simp only [hd, zzf, Nat.reduceBEq ]⟩)
theorem few_eq {l : List Nd} {nl : Bool} {t : Nat} (hl : l.length ≤ 9223372036854775807) : ∃ p : Prop, pureR B K n_l06_few [row nl t 5 (nds l)] = some (bo p) ∧ (p → l.length ≤ 60 ∧ ∀ d ∈ l, d.s.length ≤ 40) := by
  rw [pure_at (by simp [F_l06_few])]
  generalize hL : exec (UT B K) (ICode.loop F_l06_few_l0) = L
  generalize hY : frR _ = Y
  simp +contextual -implicitDefEqProofs (maxSteps := 1000000) (maxDischargeDepth := 8) only [F_l06_few, zza, argsF, reduceIte, reduceCtorEq, Nat.reduceEqDiff, Nat.reduceBEq, Nat.reduceAdd, Int.reduceLT, Int.reduceLE, Int.reduceEq, Int.reduceToNat, Int.reduceNeg, Nat.reduceLeDiff, Int.reducePow, implies_true, UInt8.reduceToNat, Int.reduceSub, Int.reduceAdd, Nat.reduceLT, Nat.reduceMul, Nat.reduceSub, Nat.reduceBNe] at hY
  subst hL
  generalize hX : exec _ (.loop F_l06_few_l0) _ _ = X at hY
  obtain ⟨o, rfl, h⟩ := looped hX (few_loop (l := l) (nl := nl) (t := t) hl (by simp only [zzf, Nat.reduceBEq ]) (by simp only [zzf, Nat.reduceBEq ]) (by simp only [zzf, Nat.reduceBEq ]) (by simp only [zzf, Nat.reduceBEq ]))
  rcases h with ⟨fr', rfl, g2, gd⟩ | ⟨h, fr', n, rfl, g0, g3, gd⟩
  · simp +contextual -implicitDefEqProofs (maxSteps := 1000000) (maxDischargeDepth := 8) only [g2, gd, zza, argsF, reduceIte, reduceCtorEq, Nat.reduceEqDiff, Nat.reduceBEq, Nat.reduceAdd, Int.reduceLT, Int.reduceLE, Int.reduceEq, Int.reduceToNat, Int.reduceNeg, Nat.reduceLeDiff, Int.reducePow, implies_true, UInt8.reduceToNat, Int.reduceSub, Int.reduceAdd, Nat.reduceLT, Nat.reduceMul, Nat.reduceSub, Nat.reduceBNe] at hY
    exact ⟨False, by rw [← hY, bo_ff], fun q => q.elim⟩
  · have hc : ((l.length : Int) ≤ 60) = (l.length ≤ 60) := propext (by omega)
    simp +contextual -implicitDefEqProofs (maxSteps := 1000000) (maxDischargeDepth := 8) only [g0, g3, gd, hc, nds_len, zza, argsF, reduceIte, reduceCtorEq, Nat.reduceEqDiff, Nat.reduceBEq, Nat.reduceAdd, Int.reduceLT, Int.reduceLE, Int.reduceEq, Int.reduceToNat, Int.reduceNeg, Nat.reduceLeDiff, Int.reducePow, implies_true, UInt8.reduceToNat, Int.reduceSub, Int.reduceAdd, Nat.reduceLT, Nat.reduceMul, Nat.reduceSub, Nat.reduceBNe] at hY
    exact ⟨_, hY.symm, fun q => ⟨q.1, h⟩⟩
theorem tidy_of {l : List Nd} (hin : ∀ d ∈ l, NdIn d) (h : l.length ≤ 60 ∧ ∀ d ∈ l, d.s.length ≤ 40) : Tidy l :=
  ⟨⟨by omega, fun d hd => (hin d hd).kids, fun d hd => by have := h.2 d hd; omega⟩, by omega, fun d hd => by have := h.2 d hd; omega, fun d hd => (hin d hd).n⟩
end Go.Proofs.YtblcomejcahkdaaDoor.Ev
end
section
namespace Go.Proofs.YtblcomejcahkdaaDoor.Ev
open Go
set_option maxRecDepth 20000
set_option maxHeartbeats 8000000
def keys (C : List Nd) : List (Int × Int × Txt × List Int) := C.map Nd.key
theorem keys_get {C : List Nd} {i : Nat} {d : Nd} (h : C[i]? = some d) : (keys C)[i]? = some d.key := by unfold keys; rw [List.getElem?_map, h]; rfl
theorem keys_length {C : List Nd} : (keys C).length = C.length := List.length_map ..
theorem sameNodes_loop {C D : List Nd} {t t' : Nat} {nl nl' : Bool} (hl : C.length ≤ 9223372036854775807) (hk : ∀ d ∈ C, d.kids.length ≤ 9223372036854775807) (hCD : D.length = C.length) {m0 : Mem} {fr : Fr} (h0 : fr.get 0 = row nl t 5 (nds C)) (h1 : fr.get 1 = row nl' t' 5 (nds D)) (h5 : fr.get 5 = .int .i64 0) (hd : fr.defers = []) :
    ∃ o, exec U (.loop F_base_SameNodes_l0) fr m0 = some o ∧ ((keys C = keys D ∧ ∃ fr' m', o = .exit 0 fr' m' ∧ fr'.defers = []) ∨ (keys C ≠ keys D ∧ ∃ fr' m', o = .ret fr' m' ∧ fr'.get 4 = .bool false ∧ fr'.defers = [])) := by
  refine loop_w (σ := Nat) (fun i fr m => i ≤ C.length ∧ (keys C).take i = (keys D).take i ∧ fr.get 0 = row nl t 5 (nds C) ∧ fr.get 1 = row nl' t' 5 (nds D) ∧ fr.get 5 = .int .i64 (i : Int) ∧ fr.defers = []) (fun i => C.length - i) _ ?_ 0 fr m0 ⟨Nat.zero_le _, rfl, h0, h1, h5, hd⟩
  rintro i fr m ⟨hi, hs, h0, h1, h5, hd⟩
  generalize hX : exec U F_base_SameNodes_l0 fr m = X
  by_cases hlt : i < C.length
  · have hc : (i : Int) < (C.length : Int) := by omega
    have hg : C[i]? = some C[i] := List.getElem?_eq_getElem hlt
    have hg2 : D[i]? = some D[i] := List.getElem?_eq_getElem (by omega)
    have hki := hk _ (List.getElem_mem hlt)
    have hw1 := wrap_succ (i := i) (by omega)
    have hix : idx C.length (.int .i64 (i : Int)) = some i := idx_cast hlt
    have hix2 : idx D.length (.int .i64 (i : Int)) = some i := idx_cast (by omega)
    generalize C[i] = d at *
    generalize D[i] = e at *
    have hg3 := keys_get hg
    have hg4 := keys_get hg2
    have hsi := fun t t' => sameInts_eq (C := d.kids) (D := e.kids) (t := t) (t' := t') (nl := d.nl) (nl' := e.nl) hki
    have no : d.key ≠ e.key → exec U F_base_SameNodes_l0 fr m = X → (∃ fr' m', X = some (.ret fr' m') ∧ fr'.get 4 = .bool false ∧ fr'.defers = []) := by
      intro hne hX
      rw [ne_eq, ndkey_eq] at hne
      by_cases c1 : d.kind = e.kind
      · by_cases c2 : d.n = e.n
        · by_cases c3 : d.s = e.s
          · have c4 : ¬ (d.kids = e.kids) := fun c4 => hne ⟨c1, c2, c3, c4⟩
            simp +contextual -implicitDefEqProofs (maxSteps := 1000000) (maxDischargeDepth := 8) only [F_base_SameNodes_l0, h0, h1, h5, hd, hc, hg, hg2, hix, hix2, hw1, hsi, c1, c2, c3, c4, Nd.cells, nds_get, nds_len, bo_ff, zza, argsF, reduceIte, reduceCtorEq, Nat.reduceEqDiff, Nat.reduceBEq, Nat.reduceAdd, Int.reduceLT, Int.reduceLE, Int.reduceEq, Int.reduceToNat, Int.reduceNeg, Nat.reduceLeDiff, Int.reducePow, implies_true, UInt8.reduceToNat, Int.reduceSub, Int.reduceAdd, Nat.reduceLT, Nat.reduceMul, Nat.reduceSub, Nat.reduceBNe] at hX
            exact ⟨_, _, hX.symm, by simp only [zzf, Nat.reduceBEq ], by simp only [hd, zzf, Nat.reduceBEq ]⟩
          · simp +contextual -implicitDefEqProofs (maxSteps := 1000000) (maxDischargeDepth := 8) only [F_base_SameNodes_l0, h0, h1, h5, hd, hc, hg, hg2, hix, hix2, hw1, hsi, c1, c2, c3, Nd.cells, nds_get, nds_len, bo_ff, zza, argsF, reduceIte, reduceCtorEq, Nat.reduceEqDiff, Nat.reduceBEq, Nat.reduceAdd, Int.reduceLT, Int.reduceLE, Int.reduceEq, Int.reduceToNat, Int.reduceNeg, Nat.reduceLeDiff, Int.reducePow, implies_true, UInt8.reduceToNat, Int.reduceSub, Int.reduceAdd, Nat.reduceLT, Nat.reduceMul, Nat.reduceSub, Nat.reduceBNe] at hX
            exact ⟨_, _, hX.symm, by simp only [zzf, Nat.reduceBEq ], by simp only [hd, zzf, Nat.reduceBEq ]⟩
        · simp +contextual -implicitDefEqProofs (maxSteps := 1000000) (maxDischargeDepth := 8) only [F_base_SameNodes_l0, h0, h1, h5, hd, hc, hg, hg2, hix, hix2, hw1, hsi, c1, c2, Nd.cells, nds_get, nds_len, bo_ff, zza, argsF, reduceIte, reduceCtorEq, Nat.reduceEqDiff, Nat.reduceBEq, Nat.reduceAdd, Int.reduceLT, Int.reduceLE, Int.reduceEq, Int.reduceToNat, Int.reduceNeg, Nat.reduceLeDiff, Int.reducePow, implies_true, UInt8.reduceToNat, Int.reduceSub, Int.reduceAdd, Nat.reduceLT, Nat.reduceMul, Nat.reduceSub, Nat.reduceBNe] at hX
          exact ⟨_, _, hX.symm, by simp only [zzf, Nat.reduceBEq ], by simp only [hd, zzf, Nat.reduceBEq ]⟩
      · simp +contextual -implicitDefEqProofs (maxSteps := 1000000) (maxDischargeDepth := 8) only [F_base_SameNodes_l0, h0, h1, h5, hd, hc, hg, hg2, hix, hix2, hw1, hsi, c1, Nd.cells, nds_get, nds_len, bo_ff, zza, argsF, reduceIte, reduceCtorEq, Nat.reduceEqDiff, Nat.reduceBEq, Nat.reduceAdd, Int.reduceLT, Int.reduceLE, Int.reduceEq, Int.reduceToNat, Int.reduceNeg, Nat.reduceLeDiff, Int.reducePow, implies_true, UInt8.reduceToNat, Int.reduceSub, Int.reduceAdd, Nat.reduceLT, Nat.reduceMul, Nat.reduceSub, Nat.reduceBNe] at hX
        exact ⟨_, _, hX.symm, by simp only [zzf, Nat.reduceBEq ], by simp only [hd, zzf, Nat.reduceBEq ]⟩
    by_cases hkey : d.key = e.key
    · obtain ⟨c1, c2, c3, c4⟩ : _ ∧ _ ∧ _ ∧ _ := by rw [ndkey_eq] at hkey; exact hkey
      have hs2 : ∀ t t', pureR B K n_base_SameInts [row d.nl t 1 (ints e.kids), row e.nl t' 1 (ints e.kids)] = some (.bool true) := fun t t' => by have := hsi t t'; rwa [bo_pos c4, c4] at this
      simp +contextual -implicitDefEqProofs (maxSteps := 1000000) (maxDischargeDepth := 8) only [F_base_SameNodes_l0, h0, h1, h5, hd, hc, hg, hg2, hix, hix2, hw1, hs2, c1, c2, c3, c4, Nd.cells, nds_get, nds_len, bo_tt, zza, argsF, reduceIte, reduceCtorEq, Nat.reduceEqDiff, Nat.reduceBEq, Nat.reduceAdd, Int.reduceLT, Int.reduceLE, Int.reduceEq, Int.reduceToNat, Int.reduceNeg, Nat.reduceLeDiff, Int.reducePow, implies_true, UInt8.reduceToNat, Int.reduceSub, Int.reduceAdd, Nat.reduceLT, Nat.reduceMul, Nat.reduceSub, Nat.reduceBNe] at hX
      subst hX
      exact lw_norm (i + 1) (by omega) ⟨hlt, take_same hs hg3 (by rw [hg4, hkey]), by simp only [h0, zzf, Nat.reduceBEq ], by simp only [h1, zzf, Nat.reduceBEq ], by simp only [zzf, Nat.reduceBEq ], by simp only [hd, zzf, Nat.reduceBEq ]⟩
    · obtain ⟨fr', m', rfl, g4, gd⟩ := no hkey hX
      exact lw_ret (.inr ⟨take_diff hg3 hg4 hkey, _, _, rfl, g4, gd⟩)
  · have hc : ¬ ((i : Int) < (C.length : Int)) := by omega
    rw [List.take_of_length_le (by rw [keys_length]; omega), List.take_of_length_le (by rw [keys_length]; omega)] at hs
    simp +contextual -implicitDefEqProofs (maxSteps := 1000000) (maxDischargeDepth := 8) only [F_base_SameNodes_l0, h0, h1, h5, hd, hc, nds_len, zza, argsF, reduceIte, reduceCtorEq, Nat.reduceEqDiff, Nat.reduceBEq, Nat.reduceAdd, Int.reduceLT, Int.reduceLE, Int.reduceEq, Int.reduceToNat, Int.reduceNeg, Nat.reduceLeDiff, Int.reducePow, implies_true, UInt8.reduceToNat, Int.reduceSub, Int.reduceAdd, Nat.reduceLT, Nat.reduceMul, Nat.reduceSub, Nat.reduceBNe] at hX
    subst hX
    exact lw_exit (.inl ⟨hs, _, _, rfl, by simp only [hd, zzf, Nat.reduceBEq ]⟩)
theorem sameNodes_eq {C D : List Nd} {t t' : Nat} {nl nl' : Bool} (hl : C.length ≤ 9223372036854775807) (hk : ∀ d ∈ C, d.kids.length ≤ 9223372036854775807) : pureR B K n_base_SameNodes [row nl t 5 (nds C), row nl' t' 5 (nds D)] = some (bo (keys C = keys D)) := by
  rw [pure_at (by simp [F_base_SameNodes])]
  generalize hL : exec (UT B K) (ICode.loop F_base_SameNodes_l0) = L
  by_cases hCD : D.length = C.length
  · have hc : (C.length : Int) = (D.length : Int) := by omega
    simp +contextual -implicitDefEqProofs (maxSteps := 1000000) (maxDischargeDepth := 8) only [F_base_SameNodes, nds_len, hc, zza, argsF, reduceIte, reduceCtorEq, Nat.reduceEqDiff, Nat.reduceBEq, Nat.reduceAdd, Int.reduceLT, Int.reduceLE, Int.reduceEq, Int.reduceToNat, Int.reduceNeg, Nat.reduceLeDiff, Int.reducePow, implies_true, UInt8.reduceToNat, Int.reduceSub, Int.reduceAdd, Nat.reduceLT, Nat.reduceMul, Nat.reduceSub, Nat.reduceBNe]
    subst hL
    generalize hX : exec _ (.loop F_base_SameNodes_l0) _ _ = X
    obtain ⟨o, rfl, ⟨e, fr', m', rfl, gd⟩ | ⟨e, fr', m', rfl, g4, gd⟩⟩ := looped hX (sameNodes_loop (C := C) (D := D) (nl := nl) (t := t) (nl' := nl') (t' := t') hl hk hCD (by simp only [zzf, Nat.reduceBEq ]) (by simp only [zzf, Nat.reduceBEq ]) (by simp only [zzf, Nat.reduceBEq ]) (by simp only [zzf, Nat.reduceBEq ]))
    · simp +contextual -implicitDefEqProofs (maxSteps := 1000000) (maxDischargeDepth := 8) only [gd, e, bo_tt, zza, argsF, reduceIte, reduceCtorEq, Nat.reduceEqDiff, Nat.reduceBEq, Nat.reduceAdd, Int.reduceLT, Int.reduceLE, Int.reduceEq, Int.reduceToNat, Int.reduceNeg, Nat.reduceLeDiff, Int.reducePow, implies_true, UInt8.reduceToNat, Int.reduceSub, Int.reduceAdd, Nat.reduceLT, Nat.reduceMul, Nat.reduceSub, Nat.reduceBNe]
    · simp +contextual -implicitDefEqProofs (maxSteps := 1000000) (maxDischargeDepth := 8) only [gd, g4, e, bo_ff, zza, argsF, reduceIte, reduceCtorEq, Nat.reduceEqDiff, Nat.reduceBEq, Nat.reduceAdd, Int.reduceLT, Int.reduceLE, Int.reduceEq, Int.reduceToNat, Int.reduceNeg, Nat.reduceLeDiff, Int.reducePow, implies_true, UInt8.reduceToNat, Int.reduceSub, Int.reduceAdd, Nat.reduceLT, Nat.reduceMul, Nat.reduceSub, Nat.reduceBNe]
  · have hc : ¬ ((C.length : Int) = (D.length : Int)) := by omega
    have e : ¬ (keys C = keys D) := fun q => hCD (keys_len q).symm
    simp +contextual -implicitDefEqProofs (maxSteps := 1000000) (maxDischargeDepth := 8) only [F_base_SameNodes, nds_len, hc, e, bo_ff, zza, argsF, reduceIte, reduceCtorEq, Nat.reduceEqDiff, Nat.reduceBEq, Nat.reduceAdd, Int.reduceLT, Int.reduceLE, Int.reduceEq, Int.reduceToNat, Int.reduceNeg, Nat.reduceLeDiff, Int.reducePow, implies_true, UInt8.reduceToNat, Int.reduceSub, Int.reduceAdd, Nat.reduceLT, Nat.reduceMul, Nat.reduceSub, Nat.reduceBNe]
theorem func_loop {C D : List Nd} {t t' : Nat} {nl nl' : Bool} (hl : C.length ≤ 9223372036854775807) (hk : ∀ d ∈ C, d.kids.length ≤ 9223372036854775807) (hCD : D.length = C.length) {m0 : Mem} {fr : Fr} (h1 : fr.get 1 = row nl' t' 5 (nds D)) (h2 : fr.get 2 = .func n_tree_Alike_1 [] []) (h15 : fr.get 15 = row nl t 5 (nds C)) (h16 : fr.get 16 = .int .i64 (C.length : Int)) (h17 : fr.get 17 = .int .i64 0) (hd : fr.defers = []) :
    ∃ o, exec U (.loop F_slices_EqualFunc_api_Node_l0) fr m0 = some o ∧ ((keys C = keys D ∧ ∃ fr' m', o = .exit 0 fr' m' ∧ fr'.defers = []) ∨ (keys C ≠ keys D ∧ ∃ fr' m', o = .ret fr' m' ∧ fr'.get 6 = .bool false ∧ fr'.defers = [])) := by
  refine loop_w (σ := Nat) (fun i fr m => i ≤ C.length ∧ (keys C).take i = (keys D).take i ∧ fr.get 1 = row nl' t' 5 (nds D) ∧ fr.get 2 = .func n_tree_Alike_1 [] [] ∧ fr.get 15 = row nl t 5 (nds C) ∧ fr.get 16 = .int .i64 (C.length : Int) ∧ fr.get 17 = .int .i64 (i : Int) ∧ fr.defers = []) (fun i => C.length - i) _ ?_ 0 fr m0 ⟨Nat.zero_le _, rfl, h1, h2, h15, h16, h17, hd⟩
  rintro i fr m ⟨hi, hs, h1, h2, h15, h16, h17, hd⟩
  generalize hX : exec U F_slices_EqualFunc_api_Node_l0 fr m = X
  by_cases hlt : i < C.length
  · have hc : (i : Int) < (C.length : Int) := by omega
    have hg : C[i]? = some C[i] := List.getElem?_eq_getElem hlt
    have hg2 : D[i]? = some D[i] := List.getElem?_eq_getElem (by omega)
    have hki := hk _ (List.getElem_mem hlt)
    have hw1 := wrap_succ (i := i) (by omega)
    have hix : idx C.length (.int .i64 (i : Int)) = some i := idx_cast hlt
    have hix2 : idx D.length (.int .i64 (i : Int)) = some i := idx_cast (by omega)
    generalize C[i] = d at *
    generalize D[i] = e at *
    have hg3 := keys_get hg
    have hg4 := keys_get hg2
    have ha := alike1_eq (d := d) (e := e) hki
    unfold Nd.cells at ha
    by_cases hkey : d.key = e.key
    · simp +contextual -implicitDefEqProofs (maxSteps := 1000000) (maxDischargeDepth := 8) only [F_slices_EqualFunc_api_Node_l0, h1, h2, h15, h16, h17, hd, hc, hg, hg2, hix, hix2, hw1, ha, hkey, Nd.cells, nds_get, nds_len, bo_tt, zza, argsF, reduceIte, reduceCtorEq, Nat.reduceEqDiff, Nat.reduceBEq, Nat.reduceAdd, Int.reduceLT, Int.reduceLE, Int.reduceEq, Int.reduceToNat, Int.reduceNeg, Nat.reduceLeDiff, Int.reducePow, implies_true, UInt8.reduceToNat, Int.reduceSub, Int.reduceAdd, Nat.reduceLT, Nat.reduceMul, Nat.reduceSub, Nat.reduceBNe] at hX
      subst hX
      exact lw_norm (i + 1) (by omega) ⟨hlt, take_same hs hg3 (by rw [hg4, hkey]), by simp only [h1, zzf, Nat.reduceBEq ], by simp only [h2, zzf, Nat.reduceBEq ], by simp only [h15, zzf, Nat.reduceBEq ], by simp only [h16, zzf, Nat.reduceBEq ], by simp only [zzf, Nat.reduceBEq ], by simp only [hd, zzf, Nat.reduceBEq ]⟩
    · simp +contextual -implicitDefEqProofs (maxSteps := 1000000) (maxDischargeDepth := 8) only [F_slices_EqualFunc_api_Node_l0, h1, h2, h15, h16, h17, hd, hc, hg, hg2, hix, hix2, hw1, ha, hkey, Nd.cells, nds_get, nds_len, bo_ff, zza, argsF, reduceIte, reduceCtorEq, Nat.reduceEqDiff, Nat.reduceBEq, Nat.reduceAdd, Int.reduceLT, Int.reduceLE, Int.reduceEq, Int.reduceToNat, Int.reduceNeg, Nat.reduceLeDiff, Int.reducePow, implies_true, UInt8.reduceToNat, Int.reduceSub, Int.reduceAdd, Nat.reduceLT, Nat.reduceMul, Nat.reduceSub, Nat.reduceBNe] at hX
      subst hX
      exact lw_ret (.inr ⟨take_diff hg3 hg4 hkey, _, _, rfl, by simp only [zzf, Nat.reduceBEq ], by simp only [hd, zzf, Nat.reduceBEq ]⟩)
  · have hc : ¬ ((i : Int) < (C.length : Int)) := by omega
    rw [List.take_of_length_le (by rw [keys_length]; omega), List.take_of_length_le (by rw [keys_length]; omega)] at hs
    simp +contextual -implicitDefEqProofs (maxSteps := 1000000) (maxDischargeDepth := 8) only [F_slices_EqualFunc_api_Node_l0, h1, h2, h15, h16, h17, hd, hc, nds_len, zza, argsF, reduceIte, reduceCtorEq, Nat.reduceEqDiff, Nat.reduceBEq, Nat.reduceAdd, Int.reduceLT, Int.reduceLE, Int.reduceEq, Int.reduceToNat, Int.reduceNeg, Nat.reduceLeDiff, Int.reducePow, implies_true, UInt8.reduceToNat, Int.reduceSub, Int.reduceAdd, Nat.reduceLT, Nat.reduceMul, Nat.reduceSub, Nat.reduceBNe] at hX
    subst hX
    exact lw_exit (.inl ⟨hs, _, _, rfl, by simp only [hd, zzf, Nat.reduceBEq ]⟩)
theorem func_run {C D : List Nd} {t t' : Nat} {nl nl' : Bool} (hl : C.length ≤ 9223372036854775807) (hk : ∀ d ∈ C, d.kids.length ≤ 9223372036854775807) (m : Mem) : ∃ m', run U n_slices_EqualFunc_api_Node [row nl t 5 (nds C), row nl' t' 5 (nds D), .func n_tree_Alike_1 [] []] m = some (.ret (bo (keys C = keys D)) m') := by
  rw [run_p2 (by simp [F_slices_EqualFunc_api_Node])]
  generalize hL : exec (UT B K) (ICode.loop F_slices_EqualFunc_api_Node_l0) = L
  generalize hY : resR _ _ = Y
  by_cases hCD : D.length = C.length
  · have hc : (C.length : Int) = (D.length : Int) := by omega
    simp +contextual -implicitDefEqProofs (maxSteps := 1000000) (maxDischargeDepth := 8) only [F_slices_EqualFunc_api_Node, nds_len, hc, zza, argsF, reduceIte, reduceCtorEq, Nat.reduceEqDiff, Nat.reduceBEq, Nat.reduceAdd, Int.reduceLT, Int.reduceLE, Int.reduceEq, Int.reduceToNat, Int.reduceNeg, Nat.reduceLeDiff, Int.reducePow, implies_true, UInt8.reduceToNat, Int.reduceSub, Int.reduceAdd, Nat.reduceLT, Nat.reduceMul, Nat.reduceSub, Nat.reduceBNe] at hY
    subst hL
    generalize hX : exec _ (.loop F_slices_EqualFunc_api_Node_l0) _ _ = X at hY
    obtain ⟨o, rfl, ⟨e, fr', m', rfl, gd⟩ | ⟨e, fr', m', rfl, g4, gd⟩⟩ := looped hX (func_loop (C := C) (D := D) (nl := nl) (t := t) (nl' := nl') (t' := t') hl hk hCD (by simp only [zzf, Nat.reduceBEq ]) (by simp only [zzf, Nat.reduceBEq ]) (by simp only [zzf, Nat.reduceBEq ]) (by simp only [hc, zzf, Nat.reduceBEq ]) (by simp only [zzf, Nat.reduceBEq ]) (by simp only [zzf, Nat.reduceBEq ]))
    · simp +contextual -implicitDefEqProofs (maxSteps := 1000000) (maxDischargeDepth := 8) only [gd, e, bo_tt, zza, argsF, reduceIte, reduceCtorEq, Nat.reduceEqDiff, Nat.reduceBEq, Nat.reduceAdd, Int.reduceLT, Int.reduceLE, Int.reduceEq, Int.reduceToNat, Int.reduceNeg, Nat.reduceLeDiff, Int.reducePow, implies_true, UInt8.reduceToNat, Int.reduceSub, Int.reduceAdd, Nat.reduceLT, Nat.reduceMul, Nat.reduceSub, Nat.reduceBNe] at hY
      subst hY
      exact ⟨_, by rw [bo_pos e]⟩
    · simp +contextual -implicitDefEqProofs (maxSteps := 1000000) (maxDischargeDepth := 8) only [gd, g4, e, bo_ff, zza, argsF, reduceIte, reduceCtorEq, Nat.reduceEqDiff, Nat.reduceBEq, Nat.reduceAdd, Int.reduceLT, Int.reduceLE, Int.reduceEq, Int.reduceToNat, Int.reduceNeg, Nat.reduceLeDiff, Int.reducePow, implies_true, UInt8.reduceToNat, Int.reduceSub, Int.reduceAdd, Nat.reduceLT, Nat.reduceMul, Nat.reduceSub, Nat.reduceBNe] at hY
      subst hY
      exact ⟨_, by rw [bo_neg e]⟩
  · have hc : ¬ ((C.length : Int) = (D.length : Int)) := by omega
    have e : ¬ (keys C = keys D) := fun q => hCD (keys_len q).symm
    simp +contextual -implicitDefEqProofs (maxSteps := 1000000) (maxDischargeDepth := 8) only [F_slices_EqualFunc_api_Node, nds_len, hc, e, bo_ff, zza, argsF, reduceIte, reduceCtorEq, Nat.reduceEqDiff, Nat.reduceBEq, Nat.reduceAdd, Int.reduceLT, Int.reduceLE, Int.reduceEq, Int.reduceToNat, Int.reduceNeg, Nat.reduceLeDiff, Int.reducePow, implies_true, UInt8.reduceToNat, Int.reduceSub, Int.reduceAdd, Nat.reduceLT, Nat.reduceMul, Nat.reduceSub, Nat.reduceBNe] at hY
    subst hY
    exact ⟨_, by rw [bo_neg e]⟩
theorem tree_alike {C D : List Nd} {t t' : Nat} {nl nl' : Bool} (hl : C.length ≤ 9223372036854775807) (hk : ∀ d ∈ C, d.kids.length ≤ 9223372036854775807) : pureR B K n_tree_Alike [row nl t 5 (nds C), row nl' t' 5 (nds D)] = some (bo (keys C = keys D)) := by
  rw [pure_at (by simp [F_tree_Alike])]
  obtain ⟨m', e⟩ := func_run (C := C) (D := D) (nl := nl) (t := t) (nl' := nl') (t' := t') hl hk mem00
  simp +contextual -implicitDefEqProofs (maxSteps := 1000000) (maxDischargeDepth := 8) only [F_tree_Alike, e, zza, argsF, reduceIte, reduceCtorEq, Nat.reduceEqDiff, Nat.reduceBEq, Nat.reduceAdd, Int.reduceLT, Int.reduceLE, Int.reduceEq, Int.reduceToNat, Int.reduceNeg, Nat.reduceLeDiff, Int.reducePow, implies_true, UInt8.reduceToNat, Int.reduceSub, Int.reduceAdd, Nat.reduceLT, Nat.reduceMul, Nat.reduceSub, Nat.reduceBNe]
end Go.Proofs.YtblcomejcahkdaaDoor.Ev
end
