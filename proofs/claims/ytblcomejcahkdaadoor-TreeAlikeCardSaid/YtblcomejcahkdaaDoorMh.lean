/- WAk3. -/
import Derived.Test.YtblcomejcahkdaaDoorMg
set_option linter.unusedSimpArgs false
set_option linter.unusedVariables false
set_option linter.unusedSectionVars false
section
namespace Go.Proofs.YtblcomejcahkdaaDoor.Ev
open Go
set_option maxRecDepth 20000
set_option maxHeartbeats 8000000
theorem nds_els (C : List Nd) : ∀ el ∈ nds C, el.length = 5 := by intro el h; obtain ⟨d, _, rfl⟩ := List.mem_map.1 h; rfl
theorem nds_plain (C : List Nd) : ∀ el ∈ nds C, plains el = true := by
  intro el h; obtain ⟨d, _, rfl⟩ := List.mem_map.1 h
  obtain ⟨k, ks, nl, n, s, p⟩ := d
  cases nl <;> cases ks <;> simp [Nd.cells, plains, plain, row, ints]
theorem nds_snoc (C : List Nd) (d : Nd) : (nds (C ++ [d])).flatten = (nds C).flatten ++ d.cells := by simp [nds]
theorem push5 {m : Mem} {v : EV} {cs vs : List EV} {n : Nat} (hown : Own m v cs n 5 0) (hn : n < 1000000) (hv : vs.length = 5) :
    ∃ v2 M2, evAppend (ext m [.cells vs 5 t_api_Node false, .cells vs 5 t_api_Node false]) t_api_Node 5 v (.slice (nb m.next 1) 0 1 (some 1)) = some (v2, M2) ∧ Own M2 v2 (cs ++ vs) (n + 1) 5 0 := by
  have hM : (ext m [.cells vs 5 t_api_Node false, .cells vs 5 t_api_Node false]).get (nb m.next 1) = .cells vs 5 t_api_Node false := by rw [get_ext_nb rfl (by simp)]; rfl
  obtain ⟨ha, hown'⟩ := append_grow (e := t_api_Node) (hown.ext [.cells vs 5 t_api_Node false, .cells vs 5 t_api_Node false]) (Nat.zero_le _) (source_at (cap := some 1) hM hv) (by omega) (by decide) (by unfold room; omega)
  exact ⟨_, _, ha, hown'⟩
theorem moved_loop {C : List Nd} {nl : Bool} {t : Nat} {x : Int} (hx : 0 ≤ x ∧ x < 256) (hl : C.length ≤ 60) {v1 v7 : EV} {m0 : Mem} {fr : Fr} (hown : Own m0 v7 [] 0 5 0) (h0 : fr.get 0 = row nl t 5 (nds C)) (h1 : fr.get 1 = v1) (h2 : fr.get 2 = .int .u8 x) (h7 : fr.get 7 = v7) (h8 : fr.get 8 = .int .i64 0) (hd : fr.defers = []) :
    ∃ o, exec U (.loop F_l06_TreeAlike_l0) fr m0 = some o ∧ ∃ fr' m' v, o = .exit 0 fr' m' ∧ fr'.get 0 = row nl t 5 (nds C) ∧ fr'.get 1 = v1 ∧ fr'.get 7 = v ∧ Own m' v (nds (C.map (mvN x))).flatten C.length 5 0 ∧ fr'.defers = [] := by
  refine loop_w (σ := Nat) (fun i fr m => i ≤ C.length ∧ (∃ v, fr.get 7 = v ∧ Own m v (nds ((C.take i).map (mvN x))).flatten i 5 0) ∧ fr.get 0 = row nl t 5 (nds C) ∧ fr.get 1 = v1 ∧ fr.get 2 = .int .u8 x ∧ fr.get 8 = .int .i64 (i : Int) ∧ fr.defers = []) (fun i => C.length - i) _ ?_ 0 fr m0 ⟨Nat.zero_le _, ⟨_, h7, hown⟩, h0, h1, h2, h8, hd⟩
  rintro i fr m ⟨hi, ⟨v, h7, hown⟩, h0, h1, h2, h8, hd⟩
  generalize hX : exec U F_l06_TreeAlike_l0 fr m = X
  by_cases hlt : i < C.length
  · have hc : (i : Int) < (C.length : Int) := by omega
    have hg : C[i]? = some C[i] := List.getElem?_eq_getElem hlt
    have htk : C.take (i + 1) = C.take i ++ [C[i]] := List.take_succ_eq_append_getElem hlt
    have hw1 := wrap_succ (i := i) (by omega)
    have hix : idx C.length (.int .i64 (i : Int)) = some i := idx_cast hlt
    generalize C[i] = d at *
    have fin : ∀ {v2 : EV} {M2 : Mem} {fr' : Fr}, Own M2 v2 ((nds ((C.take i).map (mvN x))).flatten ++ (mvN x d).cells) (i + 1) 5 0 → fr'.get 7 = v2 → fr'.get 0 = row nl t 5 (nds C) → fr'.get 1 = v1 → fr'.get 2 = .int .u8 x → fr'.get 8 = .int .i64 ((i + 1 : Nat) : Int) → fr'.defers = [] →
        (i + 1 ≤ C.length ∧ (∃ v, fr'.get 7 = v ∧ Own M2 v (nds ((C.take (i + 1)).map (mvN x))).flatten (i + 1) 5 0) ∧ fr'.get 0 = row nl t 5 (nds C) ∧ fr'.get 1 = v1 ∧ fr'.get 2 = .int .u8 x ∧ fr'.get 8 = .int .i64 ((i + 1 : Nat) : Int) ∧ fr'.defers = []) := by
      intro v2 M2 fr' ho g7 g0 g1 g2 g8 gd
      refine ⟨hlt, ⟨v2, g7, ?_⟩, g0, g1, g2, g8, gd⟩
      rw [htk, List.map_append, List.map_singleton, nds_snoc]; exact ho
    by_cases p0 : 0 ≤ d.pos
    · by_cases p1 : d.pos < 1000
      · have hw2 : IntKind.i64.wrap x = x := wrap_i64 (by omega) (by omega)
        have hw3 : IntKind.i64.wrap (d.pos + x) = d.pos + x := wrap_i64 (by omega) (by omega)
        obtain ⟨v2, M2, ha, ho⟩ := push5 (vs := [.int .i64 d.kind, row d.nl 0 1 (ints d.kids), .int .i64 d.n, .str d.s, .int .i64 (d.pos + x)]) hown (by omega) rfl
        have hm : (mvN x d).cells = [.int .i64 d.kind, row d.nl 0 1 (ints d.kids), .int .i64 d.n, .str d.s, .int .i64 (d.pos + x)] := by unfold mvN Nd.cells; simp only [p0, p1, and_self, if_true]
        simp +contextual -implicitDefEqProofs (maxSteps := 1000000) (maxDischargeDepth := 8) only [F_l06_TreeAlike_l0, h0, h1, h2, h7, h8, hd, hc, hg, hix, hw1, hw2, hw3, p0, p1, ha, Nd.cells, nds_get, nds_len, zza, argsF, reduceIte, reduceCtorEq, Nat.reduceEqDiff, Nat.reduceBEq, Nat.reduceAdd, Int.reduceLT, Int.reduceLE, Int.reduceEq, Int.reduceToNat, Int.reduceNeg, Nat.reduceLeDiff, Int.reducePow, implies_true, UInt8.reduceToNat, Int.reduceSub, Int.reduceAdd, Nat.reduceLT, Nat.reduceMul, Nat.reduceSub, Nat.reduceBNe] at hX
        subst hX
        exact lw_norm (i + 1) (by omega) (fin (by rw [hm]; exact ho) (by simp only [zzf, Nat.reduceBEq ]) (by simp only [h0, zzf, Nat.reduceBEq ]) (by simp only [h1, zzf, Nat.reduceBEq ]) (by simp only [h2, zzf, Nat.reduceBEq ]) (by simp only [zzf, Nat.reduceBEq ]) (by simp only [hd, zzf, Nat.reduceBEq ]))
      · obtain ⟨v2, M2, ha, ho⟩ := push5 (vs := [.int .i64 d.kind, row d.nl 0 1 (ints d.kids), .int .i64 d.n, .str d.s, .int .i64 d.pos]) hown (by omega) rfl
        have hm : (mvN x d).cells = [.int .i64 d.kind, row d.nl 0 1 (ints d.kids), .int .i64 d.n, .str d.s, .int .i64 d.pos] := by unfold mvN Nd.cells; simp only [p1, and_false, if_false]
        simp +contextual -implicitDefEqProofs (maxSteps := 1000000) (maxDischargeDepth := 8) only [F_l06_TreeAlike_l0, h0, h1, h2, h7, h8, hd, hc, hg, hix, hw1, p0, p1, ha, Nd.cells, nds_get, nds_len, zza, argsF, reduceIte, reduceCtorEq, Nat.reduceEqDiff, Nat.reduceBEq, Nat.reduceAdd, Int.reduceLT, Int.reduceLE, Int.reduceEq, Int.reduceToNat, Int.reduceNeg, Nat.reduceLeDiff, Int.reducePow, implies_true, UInt8.reduceToNat, Int.reduceSub, Int.reduceAdd, Nat.reduceLT, Nat.reduceMul, Nat.reduceSub, Nat.reduceBNe] at hX
        subst hX
        exact lw_norm (i + 1) (by omega) (fin (by rw [hm]; exact ho) (by simp only [zzf, Nat.reduceBEq ]) (by simp only [h0, zzf, Nat.reduceBEq ]) (by simp only [h1, zzf, Nat.reduceBEq ]) (by simp only [h2, zzf, Nat.reduceBEq ]) (by simp only [zzf, Nat.reduceBEq ]) (by simp only [hd, zzf, Nat.reduceBEq ]))
    · obtain ⟨v2, M2, ha, ho⟩ := push5 (vs := [.int .i64 d.kind, row d.nl 0 1 (ints d.kids), .int .i64 d.n, .str d.s, .int .i64 d.pos]) hown (by omega) rfl
      have hm : (mvN x d).cells = [.int .i64 d.kind, row d.nl 0 1 (ints d.kids), .int .i64 d.n, .str d.s, .int .i64 d.pos] := by unfold mvN Nd.cells; simp only [p0, false_and, if_false]
      simp +contextual -implicitDefEqProofs (maxSteps := 1000000) (maxDischargeDepth := 8) only [F_l06_TreeAlike_l0, h0, h1, h2, h7, h8, hd, hc, hg, hix, hw1, p0, ha, Nd.cells, nds_get, nds_len, zza, argsF, reduceIte, reduceCtorEq, Nat.reduceEqDiff, Nat.reduceBEq, Nat.reduceAdd, Int.reduceLT, Int.reduceLE, Int.reduceEq, Int.reduceToNat, Int.reduceNeg, Nat.reduceLeDiff, Int.reducePow, implies_true, UInt8.reduceToNat, Int.reduceSub, Int.reduceAdd, Nat.reduceLT, Nat.reduceMul, Nat.reduceSub, Nat.reduceBNe] at hX
      subst hX
      exact lw_norm (i + 1) (by omega) (fin (by rw [hm]; exact ho) (by simp only [zzf, Nat.reduceBEq ]) (by simp only [h0, zzf, Nat.reduceBEq ]) (by simp only [h1, zzf, Nat.reduceBEq ]) (by simp only [h2, zzf, Nat.reduceBEq ]) (by simp only [zzf, Nat.reduceBEq ]) (by simp only [hd, zzf, Nat.reduceBEq ]))
  · have hc : ¬ ((i : Int) < (C.length : Int)) := by omega
    rw [List.take_of_length_le (by omega)] at hown
    obtain rfl : i = C.length := by omega
    simp +contextual -implicitDefEqProofs (maxSteps := 1000000) (maxDischargeDepth := 8) only [F_l06_TreeAlike_l0, h0, h1, h2, h7, h8, hd, hc, nds_len, zza, argsF, reduceIte, reduceCtorEq, Nat.reduceEqDiff, Nat.reduceBEq, Nat.reduceAdd, Int.reduceLT, Int.reduceLE, Int.reduceEq, Int.reduceToNat, Int.reduceNeg, Nat.reduceLeDiff, Int.reducePow, implies_true, UInt8.reduceToNat, Int.reduceSub, Int.reduceAdd, Nat.reduceLT, Nat.reduceMul, Nat.reduceSub, Nat.reduceBNe] at hX
    subst hX
    exact lw_exit ⟨_, _, v, rfl, by simp only [h0, zzf, Nat.reduceBEq ], by simp only [h1, zzf, Nat.reduceBEq ], by simp only [h7, zzf, Nat.reduceBEq ], hown, by simp only [hd, zzf, Nat.reduceBEq ]⟩
theorem treeAlike_law {C D : List Nd} {nl nl' : Bool} {x : Int} (hx : 0 ≤ x ∧ x < 256) (hl : C.length ≤ 9223372036854775807) (hl' : D.length ≤ 9223372036854775807) (hin : ∀ d ∈ C, NdIn d) (hin' : ∀ d ∈ D, NdIn d) : pureR B K n_l06_TreeAlike [row nl 1 5 (nds C), row nl' 2 5 (nds D), .int .u8 x] = some (.bool true) := by
  obtain ⟨p, hp, hpt⟩ := few_eq (nl := nl) (t := 1) hl
  obtain ⟨q, hq, hqt⟩ := few_eq (nl := nl') (t := 1) hl'
  rw [pure_at (by simp [F_l06_TreeAlike])]
  generalize hL : exec (UT B K) (ICode.loop F_l06_TreeAlike_l0) = L
  by_cases c1 : p
  · by_cases c2 : q
    · simp +contextual -implicitDefEqProofs (maxSteps := 1000000) (maxDischargeDepth := 8) only [F_l06_TreeAlike, hp, hq, c1, c2, bo_tt, zza, argsF, reduceIte, reduceCtorEq, Nat.reduceEqDiff, Nat.reduceBEq, Nat.reduceAdd, Int.reduceLT, Int.reduceLE, Int.reduceEq, Int.reduceToNat, Int.reduceNeg, Nat.reduceLeDiff, Int.reducePow, implies_true, UInt8.reduceToNat, Int.reduceSub, Int.reduceAdd, Nat.reduceLT, Nat.reduceMul, Nat.reduceSub, Nat.reduceBNe]
      subst hL
      generalize hX : exec _ (.loop F_l06_TreeAlike_l0) _ _ = X
      obtain ⟨o, rfl, fr', m', v, rfl, g0, g1, g7, ho, gd⟩ := looped hX (moved_loop (C := C) (nl := nl) (t := 1) (x := x) (v1 := row nl' 2 5 (nds D)) (v7 := .slice (nb mem00.next 0) 0 0 (some 0)) hx (hpt c1).1 ⟨.inr ⟨nb mem00.next 0, some 0, t_api_Node, rfl, Nat.zero_le _, by rw [next_ext]; unfold nb; simp, by rw [get_ext_nb rfl (by simp)]; rfl, .inr rfl⟩, rfl⟩ (by simp only [zzf, Nat.reduceBEq ]) (by simp only [zzf, Nat.reduceBEq ]) (by simp only [zzf, Nat.reduceBEq ]) (by simp only [zzf, Nat.reduceBEq ]) (by simp only [zzf, Nat.reduceBEq ]) (by simp only [zzf, Nat.reduceBEq ]))
      obtain ⟨nl2, hf⟩ := ho.frz (by rw [nds_len, List.length_map]) (nds_els _) (nds_plain _)
      have ht := tidy_of hin (hpt c1)
      have ht' := tidy_of hin' (hqt c2)
      have htm := mv_tidy (x := x) ht
      have a1 := fun t t' => tree_alike (C := C) (D := D) (t := t) (t' := t') (nl := nl) (nl' := nl') hl (fun d hd => (hin d hd).kids)
      have a2 := fun t t' => sameNodes_eq (C := C) (D := D) (t := t) (t' := t') (nl := nl) (nl' := nl') hl (fun d hd => (hin d hd).kids)
      have k3 : keys C = keys (C.map (mvN x)) := (mv_keys x C).symm
      have a3 : ∀ t t', pureR B K n_tree_Alike [row nl t 5 (nds C), row nl2 t' 5 (nds (C.map (mvN x)))] = some (.bool true) := fun t t' => (tree_alike (C := C) (D := C.map (mvN x)) (t := t) (t' := t') (nl := nl) (nl' := nl2) hl (fun d hd => (hin d hd).kids)).trans (by rw [bo_pos k3])
      have t1 := fun t => tree_text (t := t) (nl := nl) ht
      have t2 := fun t => tree_text (t := t) (nl := nl2) htm
      have t3 := fun t => tree_text (t := t) (nl := nl') ht'
      rw [mv_text hx.1] at t2
      have r1 := fun t => tree_right (t := t) (nl := nl) ht.small fun d hd => (ht.n d hd).2
      have r2 := fun t => tree_right (t := t) (nl := nl') ht'.small fun d hd => (ht'.n d hd).2
      by_cases d1 : keys C = keys D
      · by_cases d2 : rightP C
        · by_cases d3 : rightP D
          · have d4 : treeT C = treeT D := keys_text d1 d2 d3
            simp +contextual -implicitDefEqProofs (maxSteps := 1000000) (maxDischargeDepth := 8) only [g0, g1, g7, gd, hf, a1, a2, a3, t1, t2, t3, r1, r2, d1, d2, d3, d4, bo_tt, bo_ff, run_works8, zza, argsF, reduceIte, reduceCtorEq, Nat.reduceEqDiff, Nat.reduceBEq, Nat.reduceAdd, Int.reduceLT, Int.reduceLE, Int.reduceEq, Int.reduceToNat, Int.reduceNeg, Nat.reduceLeDiff, Int.reducePow, implies_true, UInt8.reduceToNat, Int.reduceSub, Int.reduceAdd, Nat.reduceLT, Nat.reduceMul, Nat.reduceSub, Nat.reduceBNe]
          · simp +contextual -implicitDefEqProofs (maxSteps := 1000000) (maxDischargeDepth := 8) only [g0, g1, g7, gd, hf, a1, a2, a3, t1, t2, t3, r1, r2, d1, d2, d3, bo_tt, bo_ff, run_works8, zza, argsF, reduceIte, reduceCtorEq, Nat.reduceEqDiff, Nat.reduceBEq, Nat.reduceAdd, Int.reduceLT, Int.reduceLE, Int.reduceEq, Int.reduceToNat, Int.reduceNeg, Nat.reduceLeDiff, Int.reducePow, implies_true, UInt8.reduceToNat, Int.reduceSub, Int.reduceAdd, Nat.reduceLT, Nat.reduceMul, Nat.reduceSub, Nat.reduceBNe]
        · simp +contextual -implicitDefEqProofs (maxSteps := 1000000) (maxDischargeDepth := 8) only [g0, g1, g7, gd, hf, a1, a2, a3, t1, t2, t3, r1, r2, d1, d2, bo_tt, bo_ff, run_works8, zza, argsF, reduceIte, reduceCtorEq, Nat.reduceEqDiff, Nat.reduceBEq, Nat.reduceAdd, Int.reduceLT, Int.reduceLE, Int.reduceEq, Int.reduceToNat, Int.reduceNeg, Nat.reduceLeDiff, Int.reducePow, implies_true, UInt8.reduceToNat, Int.reduceSub, Int.reduceAdd, Nat.reduceLT, Nat.reduceMul, Nat.reduceSub, Nat.reduceBNe]
      · simp +contextual -implicitDefEqProofs (maxSteps := 1000000) (maxDischargeDepth := 8) only [g0, g1, g7, gd, hf, a1, a2, a3, t1, t2, t3, r1, r2, d1, bo_tt, bo_ff, run_works8, zza, argsF, reduceIte, reduceCtorEq, Nat.reduceEqDiff, Nat.reduceBEq, Nat.reduceAdd, Int.reduceLT, Int.reduceLE, Int.reduceEq, Int.reduceToNat, Int.reduceNeg, Nat.reduceLeDiff, Int.reducePow, implies_true, UInt8.reduceToNat, Int.reduceSub, Int.reduceAdd, Nat.reduceLT, Nat.reduceMul, Nat.reduceSub, Nat.reduceBNe]
    · simp +contextual -implicitDefEqProofs (maxSteps := 1000000) (maxDischargeDepth := 8) only [F_l06_TreeAlike, hp, hq, c1, c2, run_works8, bo_tt, bo_ff, zza, argsF, reduceIte, reduceCtorEq, Nat.reduceEqDiff, Nat.reduceBEq, Nat.reduceAdd, Int.reduceLT, Int.reduceLE, Int.reduceEq, Int.reduceToNat, Int.reduceNeg, Nat.reduceLeDiff, Int.reducePow, implies_true, UInt8.reduceToNat, Int.reduceSub, Int.reduceAdd, Nat.reduceLT, Nat.reduceMul, Nat.reduceSub, Nat.reduceBNe]
  · simp +contextual -implicitDefEqProofs (maxSteps := 1000000) (maxDischargeDepth := 8) only [F_l06_TreeAlike, hp, c1, run_works8, bo_ff, zza, argsF, reduceIte, reduceCtorEq, Nat.reduceEqDiff, Nat.reduceBEq, Nat.reduceAdd, Int.reduceLT, Int.reduceLE, Int.reduceEq, Int.reduceToNat, Int.reduceNeg, Nat.reduceLeDiff, Int.reducePow, implies_true, UInt8.reduceToNat, Int.reduceSub, Int.reduceAdd, Nat.reduceLT, Nat.reduceMul, Nat.reduceSub, Nat.reduceBNe]
theorem fz_u8 {v : EV} {d : Dt} (h : FzV (.int .u8) v d) : ∃ x : Int, v = .int .u8 x ∧ 0 ≤ x ∧ x < 256 := by
  have h : Fz (.int .u8) [v] d := h
  cases h with | int w => exact ⟨_, rfl, by have := wf_u8 w; omega⟩
theorem treeAlike_run {m : Mem} {e e2 e' e2' : Nat} {es : List EV} {ds : List Dt} (hm : Stands m) (hg : GlobOk (still m)) (h : RepVs m [.slice e 5 (.struct [.int .i64, .slice e2 1 (.int .i64), .int .i64, .str, .int .i64]), .slice e' 5 (.struct [.int .i64, .slice e2' 1 (.int .i64), .int .i64, .str, .int .i64]), .int .u8] es ds) : ∃ m', run T n_l06_TreeAlike es m = some (.ret (.bool true) m') := by
  obtain ⟨us, hu, hl⟩ := law_pure entB (f := n_l06_TreeAlike) (F := F_l06_TreeAlike) (HasF.has (T := B)) hm h rfl hg
  obtain ⟨_, _, _, _, rfl, _, h1, hu⟩ := hu.one
  obtain ⟨_, _, _, _, rfl, _, h2, hu⟩ := hu.one
  obtain ⟨_, _, _, _, rfl, _, h3, hu⟩ := hu.one
  obtain rfl := hu.none
  obtain ⟨nl, l, rfl, hn, hin⟩ := fz_rows h1
  obtain ⟨nl', l', rfl, hn', hin'⟩ := fz_rows h2
  obtain ⟨x, rfl, hx⟩ := fz_u8 h3
  simp only [tagArgs_cons, tagArgs_nil, tagV_row, tagV_int] at hl
  exact hl (treeAlike_law hx hn hn' hin hin')
end Go.Proofs.YtblcomejcahkdaaDoor.Ev
end
