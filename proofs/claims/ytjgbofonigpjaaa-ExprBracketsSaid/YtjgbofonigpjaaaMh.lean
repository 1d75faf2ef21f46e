/- WExpr11, PExpr6, PLex2, PLex3, PExpr7, PExpr8, PExpr9, PLex4, WBrk, WBrkL, EvLive, LawBrk. -/
import Derived.Test.YtjgbofonigpjaaaMg
section
namespace Go.Proofs.Ytjgbofonigpjaaa.Ev
open Go
set_option linter.unusedSimpArgs false
set_option linter.unusedVariables false
set_option maxRecDepth 10000
set_option maxHeartbeats 4000000
theorem frzs_append {F : List EV → Option (List EV)} {m : Mem} : ∀ {a b a' b' : List EV}, frzs F m a = some a' → frzs F m b = some b' → frzs F m (a ++ b) = some (a' ++ b')
  | [], b, a', b', h, h' => by simp only [frzs, Option.some.injEq] at h; subst h; exact h'
  | v :: a, b, a', b', h, h' => by
    simp only [frzs] at h
    cases hv : frz F m v with
    | none => simp only [hv] at h; cases h
    | some w =>
      cases ha : frzs F m a with
      | none => simp only [hv, ha] at h; cases h
      | some c =>
        simp only [hv, ha, Option.some.injEq] at h
        subst h
        simp only [List.cons_append, frzs, hv, frzs_append ha h']
theorem is_flat {l : List Int} : is l = (ints l).flatten := by
  unfold is ints
  induction l with
  | nil => rfl
  | cons x l ih => simp only [List.map_cons, List.flatten_cons, List.cons_append, List.nil_append, ih]
theorem frz_kid {m : Mem} {b : Nat} {tv hv : EV} {d : Nd} {kv : EV} {n : Nat} (h : KidAt m b tv hv d kv) : frz (freezes (n + 1) m) m kv = some (row d.nl 0 1 (ints d.kids)) := by
  rcases h.o.is with ⟨rfl, h1, _⟩ | ⟨kb, cap, t, rfl, _, h2, h3, h4⟩
  · have : d.kids = [] := List.eq_nil_of_length_eq_zero h1
    rw [h.nl, this]; simp only [frz]; rfl
  · have hne : d.kids ≠ [] := fun q => by have := h.z q; cases this
    have hnl : d.nl = false := by rw [h.nl]; cases hk : d.kids with | nil => exact absurd hk hne | cons => rfl
    have hc : capOk cap d.kids.length = true := by rcases h4 with rfl | rfl <;> simp [capOk]
    simp only [frz, h3, hc, cond_true, Nat.ble_eq_true_of_le (show 0 + d.kids.length * 1 ≤ (is d.kids).length by rw [is_len]; omega), List.drop_zero]
    rw [Nat.mul_one, ← is_len, List.take_length, hnl]
    have hp : plains (is d.kids) = true := by
      rw [is_flat]; exact plains_flatten fun el hel => by
        obtain ⟨x, _, rfl⟩ := List.mem_map.1 hel; rfl
    rw [show freezes (n + 1) m (is d.kids) = some (is d.kids) from frzs_plain hp, Option.map_some]
    congr 1
    simp only [row, Bool.false_and, cond_false]
    congr 1
    rw [is_len, is_flat, ← show (ints d.kids).length = d.kids.length from List.length_map ..]
    exact chunk_flatten fun el hel => by obtain ⟨x, _, rfl⟩ := List.mem_map.1 hel; rfl
theorem frz_nodes {m : Mem} {b : Nat} {tv hv : EV} {n : Nat} : ∀ {xs : List Nv}, (∀ x ∈ xs, KidAt m b tv hv x.d x.kv) → frzs (freezes (n + 1) m) m (nvs xs) = some (nds (xs.map Nv.d)).flatten
  | [], _ => rfl
  | x :: xs, h => by
    have h1 := frz_kid (n := n) (h x (by simp))
    have h2 := frz_nodes (n := n) (xs := xs) fun y hy => h y (by simp [hy])
    refine frzs_append ?_ h2
    simp only [Nv.cells, ndCells, frzs, frz, h1]
    rfl
theorem frz_tree {m : Mem} {b : Nat} {tv hv v : EV} {lo : Nat} {xs : List Nv} (hx : ∀ x ∈ xs, KidAt m b tv hv x.d x.kv) (h : Own m v (nvs xs) xs.length 5 lo) (h0 : xs ≠ []) : frzV m v = some (.fz 0 5 (nds (xs.map Nv.d))) := by
  rcases h.is with ⟨rfl, h1, _⟩ | ⟨b', cap, t, rfl, _, h2, h3, h4⟩
  · exact absurd (List.eq_nil_of_length_eq_zero h1) h0
  · have hc : capOk cap xs.length = true := by rcases h4 with rfl | rfl <;> simp [capOk]
    simp only [frzV, frz, h3, hc, cond_true, Nat.ble_eq_true_of_le (show 0 + xs.length * 5 ≤ (nvs xs).length by rw [h.len]; omega), List.drop_zero]
    rw [← h.len, List.take_length, show freezes 7 m (nvs xs) = frzs (freezes 6 m) m (nvs xs) from rfl, frz_nodes hx, Option.map_some]
    congr 2
    have e1 : xs.length = (nds (xs.map Nv.d)).length := by simp [nds]
    rw [e1]
    exact chunk_flatten fun el hel => by obtain ⟨x, _, rfl⟩ := List.mem_map.1 hel; rfl
theorem RdV.poke {m : Mem} {b tg : Nat} {l : List Tok} {st : RS} {P : Nat → Prop} {tv hv : EV} {xs : List Nv} (h : RdV m b tg l st P tv hv xs) {c0 : Nat} (hp : P c0) (B : Blk) : RdV (m.set c0 B) b tg l st P tv hv xs := by
  have f := (h.p c0 hp).2
  have fk := h.pk c0 hp
  have key : ∀ c, c ≠ c0 → (m.set c0 B).get c = m.get c := fun c hc => get_set_ne hc
  exact ⟨(key b (fun q => f.ne q.symm)).trans h.g, h.lt, h.t.keep' (Nat.le_refl _) fun c _ _ ho => key c fun q => ho (q ▸ f.t), h.h.keep' (Nat.le_refl _) fun c _ _ ho => key c fun q => ho (q ▸ f.h), h.a, h.x, h.hl, fun x hx => ⟨(h.k x hx).o.keep' (Nat.le_refl _) fun c _ _ ho => key c fun q => ho (q ▸ fk x hx), (h.k x hx).f, (h.k x hx).nl, (h.k x hx).z⟩, h.p, h.pk⟩
/-- All nodes, told. -/
theorem tree_run {m : Mem} {b tg : Nat} {l : List Tok} {st : RS} {P : Nat → Prop} {tv hv : EV} {xs : List Nv} (h : RdV m b tg l st P tv hv xs) (h0 : st.tree ≠ []) (hl : st.tree.length < 1000000) : ∃ m' v, run U n_expr_Reader_Tree [.ptr b 0] m = some (.ret v m') ∧ RdV m' b tg l st P tv hv xs ∧ Own m' v (nvs xs) xs.length 5 m.next ∧ Kp m m' P ∧ (∃ c n, v = .slice c 0 n none) := by
  have hxl : xs.length = st.tree.length := by rw [← h.x, List.length_map]
  have hx0 : xs.length ≠ 0 := fun q => h0 (List.eq_nil_of_length_eq_zero (hxl ▸ q))
  have hg := h.g
  have hb := h.lt
  have ht : tv.cells = some [tv] ∧ evEq (.prim 4) tv .nilslice = some false := by
    rcases h.t.is with ⟨_, q, _⟩ | ⟨_, _, _, rfl, _⟩
    · exact absurd q hx0
    · exact ⟨rfl, rfl⟩
  obtain ⟨ht1, ht2⟩ := ht
  have own0 : Own (ext m [.cells [] 5 41 false]) (.slice (nb m.next 0) 0 0 (some 0)) [] 0 5 m.next := ⟨.inr ⟨nb m.next 0, some 0, 41, rfl, le_nb, by rw [next_ext]; unfold nb; simp, by rw [get_ext_nb rfl (by simp)]; rfl, .inr rfl⟩, rfl⟩
  obtain ⟨ha, ho⟩ := append_grow (e := 41) own0 (by rw [next_ext]; exact le_nb) (h.t.ext [.cells [] 5 41 false]).source h.t.len hx0 (by unfold room; omega)
  have hn : m.next ≤ (grow (ext m [.cells [] 5 41 false]) (.slice (nb m.next 0) 0 0 (some 0)) 41 5 ([] ++ nvs xs)).next := by rw [grow_next, next_ext]; unfold nb; omega
  have hold : ∀ c, c < m.next → (grow (ext m [.cells [] 5 41 false]) (.slice (nb m.next 0) 0 0 (some 0)) 41 5 ([] ++ nvs xs)).get c = m.get c := fun c hc => by
    rw [grow_old (by rw [next_ext]; unfold nb; omega) (Off.of (by unfold nb; omega)), get_ext_old hc]
  have hr : run U n_expr_Reader_Tree [.ptr b 0] m = some (.ret (.slice (nb (ext m [.cells [] 5 41 false]).next 0) 0 (0 + xs.length) none) (grow (ext m [.cells [] 5 41 false]) (.slice (nb m.next 0) 0 0 (some 0)) 41 5 ([] ++ nvs xs))) := by
    generalize grow (ext m [.cells [] 5 41 false]) (.slice (nb m.next 0) 0 0 (some 0)) 41 5 ([] ++ nvs xs) = G at *
    rw [next_ext, nb_nb] at ha ⊢
    rw [run_p2 (by simp [F_expr_Reader_Tree])]
    have hC : run U n_slices_Clone [tv] m = some (.ret (.slice (nb m.next 1) 0 (0 + xs.length) none) G) := by
      rw [run_p2 (by simp [F_slices_Clone])]
      simp +contextual -implicitDefEqProofs (maxSteps := 1000000) (maxDischargeDepth := 8) only [F_slices_Clone, ht2, ha, zz0, zz1, zz2, zz3, zz4, zz5, zz6, zz7, zz8, zz9, argsF, reduceIte, reduceCtorEq, Nat.reduceEqDiff, Nat.reduceBEq, Nat.reduceAdd, Int.reduceLT, Int.reduceLE, Int.reduceEq, Int.reduceToNat, Int.reduceNeg, Nat.reduceLeDiff, Int.reducePow, implies_true, UInt8.reduceToNat, Int.reduceSub, Int.reduceAdd, Nat.reduceLT, Nat.reduceMul, Nat.reduceSub, Nat.reduceBNe]
    simp +contextual -implicitDefEqProofs (maxSteps := 1000000) (maxDischargeDepth := 8) only [F_expr_Reader_Tree, hg, hb, hC, zz0, zz1, zz2, zz3, zz4, zz5, zz6, zz7, zz8, zz9, argsF, reduceIte, reduceCtorEq, Nat.reduceEqDiff, Nat.reduceBEq, Nat.reduceAdd, Int.reduceLT, Int.reduceLE, Int.reduceEq, Int.reduceToNat, Int.reduceNeg, Nat.reduceLeDiff, Int.reducePow, implies_true, UInt8.reduceToNat, Int.reduceSub, Int.reduceAdd, Nat.reduceLT, Nat.reduceMul, Nat.reduceSub, Nat.reduceBNe]
  refine ⟨_, _, hr, ?_, ?_, ⟨hn, fun c hc => hold c (h.p c hc).1⟩, _, _, rfl⟩
  · exact h.upd rfl rfl ⟨hn, (hold b hb).trans h.g, fun c hc _ => hold c hc⟩
  · rw [Nat.zero_add] at ho ⊢; exact ho
def RS.start : RS := ⟨0, 0, [], [], 0, 0⟩
/-- How a reader stands when all is read. -/
def parseF (l : List Tok) : RS := match goF l (8 * l.length + 5) .expr .start with
  | some (s, _) => if (s.now l).kind = 0 then s else s.fail 8 (s.now l).pos
  | none => .start
def parseV (s : RS) : EV := if s.fe = 0 then .tuple [.fz 0 5 (nds s.tree), .agg [.int .i64 0, .int .i64 0]] else .tuple [.nilslice, .agg [.int .i64 s.fe, .int .i64 s.fp]]
theorem start_ok {l : List Tok} (ht : TokOk l) : StOk l .start := ⟨ht.pos, Nat.le_refl _, Int.le_refl _, Int.le_refl _, by simp [RS.start]⟩
theorem parse_eq {l : List Tok} (ht : TokOk l) {tg : Nat} (h0 : (parseF l).fe = 0 → (parseF l).tree ≠ []) : pureR B K n_expr_Parse [.fz tg 4 (toks l)] = some (parseV (parseF l)) := by
  rw [pure_at (by simp [F_expr_Parse])]
  have hN : ∀ M, run U n_expr_New [.fz tg 4 (toks l)] M = some (.ret (.ptr (nb M.next 0) 0) (ext M [.cells (rdCells tg l .start .nilslice .nilslice) 7 t_expr_Reader false])) := fun M => by
    rw [run_p2 (by simp [F_expr_New])]
    simp +contextual -implicitDefEqProofs (maxSteps := 1000000) (maxDischargeDepth := 8) only [F_expr_New, zz0, zz1, zz2, zz3, zz4, zz5, zz6, zz7, zz8, zz9, argsF, reduceIte, reduceCtorEq, Nat.reduceEqDiff, Nat.reduceBEq, Nat.reduceAdd, Int.reduceLT, Int.reduceLE, Int.reduceEq, Int.reduceToNat, Int.reduceNeg, Nat.reduceLeDiff, Int.reducePow, implies_true, UInt8.reduceToNat, Int.reduceSub, Int.reduceAdd, Nat.reduceLT, Nat.reduceMul, Nat.reduceSub, Nat.reduceBNe]
    rfl
  generalize hX : resR F_expr_Parse.results (exec (UT B K) F_expr_Parse.body (argsF [.fz tg 4 (toks l)] 0 fr00) mem00) = X
  simp +contextual -implicitDefEqProofs (maxSteps := 1000000) (maxDischargeDepth := 8) only [F_expr_Parse, hN, zz0, zz1, zz2, zz3, zz4, zz5, zz6, zz7, zz8, zz9, argsF, reduceIte, reduceCtorEq, Nat.reduceEqDiff, Nat.reduceBEq, Nat.reduceAdd, Int.reduceLT, Int.reduceLE, Int.reduceEq, Int.reduceToNat, Int.reduceNeg, Nat.reduceLeDiff, Int.reducePow, implies_true, UInt8.reduceToNat, Int.reduceSub, Int.reduceAdd, Nat.reduceLT, Nat.reduceMul, Nat.reduceSub, Nat.reduceBNe] at hX
  have h00 : RdV (ext mem00 [.cells [.int .i64 0, .int .i64 0] 2 26 false, .cells (rdCells tg l .start .nilslice .nilslice) 7 t_expr_Reader false]) (nb mem00.next 1) tg l .start (fun c => c = nb mem00.next 0) .nilslice .nilslice [] := by
    refine ⟨by rw [get_ext_nb rfl (by simp)]; rfl, by rw [next_ext]; unfold nb; simp, ⟨.inl ⟨rfl, rfl, rfl⟩, rfl⟩, ⟨.inl ⟨rfl, rfl, rfl⟩, rfl⟩, fun _ _ => Off.nil, rfl, rfl, by simp, ?_, by simp⟩
    rintro c rfl
    exact ⟨by rw [next_ext]; unfold nb; simp, by unfold nb; omega, Off.nil, Off.nil⟩
  have g00 : (ext mem00 [.cells [.int .i64 0, .int .i64 0] 2 26 false, .cells (rdCells tg l .start .nilslice .nilslice) 7 t_expr_Reader false]).get (nb mem00.next 0) = .cells [.int .i64 0, .int .i64 0] 2 26 false := by rw [get_ext_nb rfl (by simp)]; rfl
  have hk : 8 * (l.length - RS.start.pos) + Cmd.expr.rank < 8 * l.length + 5 := by simp only [RS.start, Cmd.rank]; omega
  obtain ⟨s1, r, e, g, ar, _⟩ := go_ok ht (8 * l.length + 5) .expr .start (start_ok ht).p hk trivial
  have o1 := g.ok (start_ok ht)
  generalize hC : run U n_expr_Reader_Expr _ _ = C at hX
  obtain ⟨m1, rfl, r1, k1⟩ := (walk_all ht (8 * l.length + 5)).expr _ _ _ _ _ _ _ (start_ok ht) hk e ⟨_, _, _, h00⟩ hC
  clear hC
  have g1 := (k1.k _ rfl).trans g00
  have hT := tokenC (b := nb mem00.next 1) (tg := tg) (P := fun c => c = nb mem00.next 0) ht o1
  have hpf : parseF l = if (s1.now l).kind = 0 then s1 else s1.fail 8 (s1.now l).pos := by unfold parseF; rw [e]
  have hk0 : (((s1.now l).kind : Int) = 0) = ((s1.now l).kind = 0) := propext (by omega)
  have hlt := r1.plt rfl
  by_cases hkd : (s1.now l).kind = 0
  · rw [if_pos hkd] at hpf
    rw [hpf] at h0 ⊢
    have hF := fineC (b := nb mem00.next 1) (tg := tg) (l := l) (st := s1) (P := fun c => c = nb mem00.next 0)
    by_cases hfe : s1.fe = 0
    · have b1 := bo_pos hfe
      simp +contextual -implicitDefEqProofs (maxSteps := 1000000) (maxDischargeDepth := 8) only [hT, r1, hk0, hkd, hlt, hF, b1, rd_ext, rd_bump, zz0, zz1, zz2, zz3, zz4, zz5, zz6, zz7, zz8, zz9, argsF, reduceIte, reduceCtorEq, Nat.reduceEqDiff, Nat.reduceBEq, Nat.reduceAdd, Int.reduceLT, Int.reduceLE, Int.reduceEq, Int.reduceToNat, Int.reduceNeg, Nat.reduceLeDiff, Int.reducePow, implies_true, UInt8.reduceToNat, Int.reduceSub, Int.reduceAdd, Nat.reduceLT, Nat.reduceMul, Nat.reduceSub, Nat.reduceBNe] at hX
      generalize hC : run U n_expr_Reader_Tree _ _ = C at hX
      have RD : Rd (bump (ext (bump m1 19) [.cells [.int .i64 0, .str (s1.now l).text, .int .i64 ((s1.now l).n : Int), .int .i64 ((s1.now l).pos : Int)] 4 38 false]) 0) (nb mem00.next 1) tg l s1 (fun c => c = nb mem00.next 0) := by simp (maxDischargeDepth := 20) only [rd_ext, rd_bump, r1]
      have GG : (bump (ext (bump m1 19) [.cells [.int .i64 0, .str (s1.now l).text, .int .i64 ((s1.now l).n : Int), .int .i64 ((s1.now l).pos : Int)] 4 38 false]) 0).get (nb mem00.next 0) = .cells [.int .i64 0, .int .i64 0] 2 26 false := by rw [get_bump, get_ext_old (m := bump m1 19) (by rw [next_bump]; exact Nat.lt_of_lt_of_le hlt le_nb)]; exact g1
      obtain ⟨tv, hv, xs, RD⟩ := RD
      obtain ⟨m5, v, e5, r5, w5, k5, c5, n5, rfl⟩ := tree_run RD (h0 hfe) (by have := o1.t; have := o1.p; have := ht.lt; omega)
      obtain rfl := hC.symm.trans e5
      have g5 := (k5.k _ rfl).trans GG
      have hw5 : c5 ≠ nb mem00.next 0 := by
        have := w5.notOff (c := c5) (fun q => q c5 0 n5 none rfl rfl)
        have := RD.p _ rfl
        omega
      have hl5 := (r5.p _ rfl).1
      have r6 := r5.poke (c0 := nb mem00.next 0) rfl (.cells [.int .i64 0, .int .i64 0] 2 26 false)
      have w6 : Own (m5.set (nb mem00.next 0) (.cells [.int .i64 0, .int .i64 0] 2 26 false)) (.slice c5 0 n5 none) (nvs xs) xs.length 5 0 := w5.lo0.keep' (Nat.le_refl _) fun c _ _ ho => get_set_ne (by rw [notOff_slice ho]; exact hw5)
      have hxs : xs ≠ [] := fun q => h0 hfe (by rw [← RD.x, q]; rfl)
      have hz := frz_tree r6.k w6 hxs
      rw [RD.x] at hz
      simp +contextual -implicitDefEqProofs (maxSteps := 1000000) (maxDischargeDepth := 8) only [g5, hl5, hz, zz0, zz1, zz2, zz3, zz4, zz5, zz6, zz7, zz8, zz9, argsF, reduceIte, reduceCtorEq, Nat.reduceEqDiff, Nat.reduceBEq, Nat.reduceAdd, Int.reduceLT, Int.reduceLE, Int.reduceEq, Int.reduceToNat, Int.reduceNeg, Nat.reduceLeDiff, Int.reducePow, implies_true, UInt8.reduceToNat, Int.reduceSub, Int.reduceAdd, Nat.reduceLT, Nat.reduceMul, Nat.reduceSub, Nat.reduceBNe] at hX
      subst hX
      simp only [parseV, hfe, if_true]
      simp +contextual -implicitDefEqProofs (maxSteps := 1000000) (maxDischargeDepth := 8) only [hz, zz0, zz1, zz2, zz3, zz4, zz5, zz6, zz7, zz8, zz9, argsF, reduceIte, reduceCtorEq, Nat.reduceEqDiff, Nat.reduceBEq, Nat.reduceAdd, Int.reduceLT, Int.reduceLE, Int.reduceEq, Int.reduceToNat, Int.reduceNeg, Nat.reduceLeDiff, Int.reducePow, implies_true, UInt8.reduceToNat, Int.reduceSub, Int.reduceAdd, Nat.reduceLT, Nat.reduceMul, Nat.reduceSub, Nat.reduceBNe]
    · have b1 := bo_neg hfe
      have rr := r1
      obtain ⟨tv, hv, xs, RV⟩ := rr
      have hg := RV.g
      have hlt1 := RV.lt
      have hlt0 := (RV.p _ rfl).1
      simp +contextual -implicitDefEqProofs (maxSteps := 1000000) (maxDischargeDepth := 8) only [hT, r1, hk0, hkd, hlt, hF, b1, rd_ext, rd_bump, hg, hlt1, hlt0, g1, zz0, zz1, zz2, zz3, zz4, zz5, zz6, zz7, zz8, zz9, argsF, reduceIte, reduceCtorEq, Nat.reduceEqDiff, Nat.reduceBEq, Nat.reduceAdd, Int.reduceLT, Int.reduceLE, Int.reduceEq, Int.reduceToNat, Int.reduceNeg, Nat.reduceLeDiff, Int.reducePow, implies_true, UInt8.reduceToNat, Int.reduceSub, Int.reduceAdd, Nat.reduceLT, Nat.reduceMul, Nat.reduceSub, Nat.reduceBNe] at hX
      subst hX
      simp only [parseV, hfe, if_false]
      simp +contextual -implicitDefEqProofs (maxSteps := 1000000) (maxDischargeDepth := 8) only [hg, hlt1, hlt0, g1, zz0, zz1, zz2, zz3, zz4, zz5, zz6, zz7, zz8, zz9, argsF, reduceIte, reduceCtorEq, Nat.reduceEqDiff, Nat.reduceBEq, Nat.reduceAdd, Int.reduceLT, Int.reduceLE, Int.reduceEq, Int.reduceToNat, Int.reduceNeg, Nat.reduceLeDiff, Int.reducePow, implies_true, UInt8.reduceToNat, Int.reduceSub, Int.reduceAdd, Nat.reduceLT, Nat.reduceMul, Nat.reduceSub, Nat.reduceBNe]
  · rw [if_neg hkd] at hpf
    rw [hpf] at h0 ⊢
    simp +contextual -implicitDefEqProofs (maxSteps := 1000000) (maxDischargeDepth := 8) only [hT, r1, hk0, hkd, hlt, rd_ext, rd_bump, zz0, zz1, zz2, zz3, zz4, zz5, zz6, zz7, zz8, zz9, argsF, reduceIte, reduceCtorEq, Nat.reduceEqDiff, Nat.reduceBEq, Nat.reduceAdd, Int.reduceLT, Int.reduceLE, Int.reduceEq, Int.reduceToNat, Int.reduceNeg, Nat.reduceLeDiff, Int.reducePow, implies_true, UInt8.reduceToNat, Int.reduceSub, Int.reduceAdd, Nat.reduceLT, Nat.reduceMul, Nat.reduceSub, Nat.reduceBNe] at hX
    generalize hC : run U n_expr_Reader_Fail _ _ = C at hX
    obtain ⟨m2, rfl, r2, k2⟩ := failC (rd_ext (rd_bump r1)) hC
    clear hC
    have g2 := (k2.k _ rfl).trans ((get_ext_old (m := bump m1 19) (by rw [next_bump]; exact Nat.lt_of_lt_of_le hlt le_nb)).trans g1)
    have o2 := (Gr.fail o1.p (e := 8) (p := (s1.now l).pos) (by decide)).ok o1
    generalize s1.fail 8 (s1.now l).pos = s2 at *
    have hF := fineC (b := nb mem00.next 1) (tg := tg) (l := l) (st := s2) (P := fun c => c = nb mem00.next 0)
    by_cases hfe : s2.fe = 0
    · have b1 := bo_pos hfe
      simp +contextual -implicitDefEqProofs (maxSteps := 1000000) (maxDischargeDepth := 8) only [r2, hF, b1, rd_ext, rd_bump, zz0, zz1, zz2, zz3, zz4, zz5, zz6, zz7, zz8, zz9, argsF, reduceIte, reduceCtorEq, Nat.reduceEqDiff, Nat.reduceBEq, Nat.reduceAdd, Int.reduceLT, Int.reduceLE, Int.reduceEq, Int.reduceToNat, Int.reduceNeg, Nat.reduceLeDiff, Int.reducePow, implies_true, UInt8.reduceToNat, Int.reduceSub, Int.reduceAdd, Nat.reduceLT, Nat.reduceMul, Nat.reduceSub, Nat.reduceBNe] at hX
      generalize hC : run U n_expr_Reader_Tree _ _ = C at hX
      have RD : Rd (bump m2 0) (nb mem00.next 1) tg l s2 (fun c => c = nb mem00.next 0) := by simp (maxDischargeDepth := 20) only [rd_ext, rd_bump, r2]
      have GG : (bump m2 0).get (nb mem00.next 0) = .cells [.int .i64 0, .int .i64 0] 2 26 false := g2
      obtain ⟨tv, hv, xs, RD⟩ := RD
      obtain ⟨m5, v, e5, r5, w5, k5, c5, n5, rfl⟩ := tree_run RD (h0 hfe) (by have := o2.t; have := o2.p; have := ht.lt; omega)
      obtain rfl := hC.symm.trans e5
      have g5 := (k5.k _ rfl).trans GG
      have hw5 : c5 ≠ nb mem00.next 0 := by
        have := w5.notOff (c := c5) (fun q => q c5 0 n5 none rfl rfl)
        have := RD.p _ rfl
        omega
      have hl5 := (r5.p _ rfl).1
      have r6 := r5.poke (c0 := nb mem00.next 0) rfl (.cells [.int .i64 0, .int .i64 0] 2 26 false)
      have w6 : Own (m5.set (nb mem00.next 0) (.cells [.int .i64 0, .int .i64 0] 2 26 false)) (.slice c5 0 n5 none) (nvs xs) xs.length 5 0 := w5.lo0.keep' (Nat.le_refl _) fun c _ _ ho => get_set_ne (by rw [notOff_slice ho]; exact hw5)
      have hxs : xs ≠ [] := fun q => h0 hfe (by rw [← RD.x, q]; rfl)
      have hz := frz_tree r6.k w6 hxs
      rw [RD.x] at hz
      simp +contextual -implicitDefEqProofs (maxSteps := 1000000) (maxDischargeDepth := 8) only [g5, hl5, hz, zz0, zz1, zz2, zz3, zz4, zz5, zz6, zz7, zz8, zz9, argsF, reduceIte, reduceCtorEq, Nat.reduceEqDiff, Nat.reduceBEq, Nat.reduceAdd, Int.reduceLT, Int.reduceLE, Int.reduceEq, Int.reduceToNat, Int.reduceNeg, Nat.reduceLeDiff, Int.reducePow, implies_true, UInt8.reduceToNat, Int.reduceSub, Int.reduceAdd, Nat.reduceLT, Nat.reduceMul, Nat.reduceSub, Nat.reduceBNe] at hX
      subst hX
      simp only [parseV, hfe, if_true]
      simp +contextual -implicitDefEqProofs (maxSteps := 1000000) (maxDischargeDepth := 8) only [hz, zz0, zz1, zz2, zz3, zz4, zz5, zz6, zz7, zz8, zz9, argsF, reduceIte, reduceCtorEq, Nat.reduceEqDiff, Nat.reduceBEq, Nat.reduceAdd, Int.reduceLT, Int.reduceLE, Int.reduceEq, Int.reduceToNat, Int.reduceNeg, Nat.reduceLeDiff, Int.reducePow, implies_true, UInt8.reduceToNat, Int.reduceSub, Int.reduceAdd, Nat.reduceLT, Nat.reduceMul, Nat.reduceSub, Nat.reduceBNe]
    · have b1 := bo_neg hfe
      have rr := r2
      obtain ⟨tv, hv, xs, RV⟩ := rr
      have hg := RV.g
      have hlt1 := RV.lt
      have hlt0 := (RV.p _ rfl).1
      simp +contextual -implicitDefEqProofs (maxSteps := 1000000) (maxDischargeDepth := 8) only [r2, hF, b1, rd_ext, rd_bump, hg, hlt1, hlt0, g2, zz0, zz1, zz2, zz3, zz4, zz5, zz6, zz7, zz8, zz9, argsF, reduceIte, reduceCtorEq, Nat.reduceEqDiff, Nat.reduceBEq, Nat.reduceAdd, Int.reduceLT, Int.reduceLE, Int.reduceEq, Int.reduceToNat, Int.reduceNeg, Nat.reduceLeDiff, Int.reducePow, implies_true, UInt8.reduceToNat, Int.reduceSub, Int.reduceAdd, Nat.reduceLT, Nat.reduceMul, Nat.reduceSub, Nat.reduceBNe] at hX
      subst hX
      simp only [parseV, hfe, if_false]
      simp +contextual -implicitDefEqProofs (maxSteps := 1000000) (maxDischargeDepth := 8) only [hg, hlt1, hlt0, g2, zz0, zz1, zz2, zz3, zz4, zz5, zz6, zz7, zz8, zz9, argsF, reduceIte, reduceCtorEq, Nat.reduceEqDiff, Nat.reduceBEq, Nat.reduceAdd, Int.reduceLT, Int.reduceLE, Int.reduceEq, Int.reduceToNat, Int.reduceNeg, Nat.reduceLeDiff, Int.reducePow, implies_true, UInt8.reduceToNat, Int.reduceSub, Int.reduceAdd, Nat.reduceLT, Nat.reduceMul, Nat.reduceSub, Nat.reduceBNe]
end Go.Proofs.Ytjgbofonigpjaaa.Ev
end
section
namespace Go.Proofs.Ytjgbofonigpjaaa.Ev
set_option linter.unusedSimpArgs false
set_option linter.unusedVariables false
set_option maxHeartbeats 4000000
theorem count_range (n : Nat) (a : Int) : ((List.range n).map (fun i : Nat => (i : Int))).count a = inR 0 n a := by
  induction n with
  | zero => simp [inR]
  | succ n ih =>
    rw [List.range_succ, List.map_append, List.count_append, ih, inR_split (b := n) (Nat.zero_le _) (Nat.le_succ _), inR_one]
    rfl
theorem kindOf_ok {tr : List Nd} (h : ∀ d ∈ tr, exprK d.kind) {x : Int} (h0 : 0 ≤ x) (h1 : x < (tr.length : Int)) : exprK (kindOf tr x) := by
  have hx : x.toNat < tr.length := by omega
  unfold kindOf
  rw [List.getElem?_eq_getElem hx]
  exact h _ (List.getElem_mem hx)
theorem kidsP_ok {l : List Tok} {tr : List Nd} {d : Nd} (h : NdOk l d) (hk : ∀ x ∈ d.kids, exprK (kindOf tr x)) : kidsP tr d := by
  have k1 := h.kind
  have kn := h.kn
  have ex : ∀ n, n ≤ d.kids.length → exprsP tr d.kids n := fun n hn => ⟨hn, fun x hx => hk x (List.mem_of_mem_take hx)⟩
  unfold kidsP
  have hlt : d.kind < 12 := by have := k1.2; omega
  by_cases c1 : d.kind = 5 ∨ d.kind = 8
  · rw [if_pos c1] at kn
    rw [if_pos (by rcases c1 with c | c <;> simp [c])]
    exact ⟨kn, ex 2 (by omega)⟩
  · rw [if_neg c1] at kn
    rw [if_neg (by omega)]
    by_cases c2 : d.kind = 6 ∨ d.kind = 7 ∨ d.kind = 9 ∨ d.kind = 10
    · rw [if_pos c2] at kn
      rw [if_pos (by rcases c2 with c | c | c | c <;> simp [c])]
      exact ⟨kn, ex 1 (by omega)⟩
    · rw [if_neg c2] at kn
      rw [if_neg (by omega)]
      by_cases c3 : d.kind = 11
      · rw [if_pos c3] at kn
        rw [if_pos c3]
        exact ⟨kn, ex _ (Nat.le_refl _)⟩
      · rw [if_neg c3] at kn
        rw [if_neg c3, if_neg (by omega), if_neg (by omega), if_neg (by omega), if_neg (by omega), if_neg (by omega), if_neg (by omega), if_neg (by omega)]
        exact kn
structure Parsed (l : List Tok) (s : RS) : Prop where
  right : rightP s.tree
  ok : ∀ d ∈ s.tree, NdOk l d
  small : s.tree.length < l.length
  ne : s.tree ≠ []
theorem ti_start {l : List Tok} : TI l .start := ⟨fun _ => ⟨fun i d h => absurd h (by simp [RS.start]), fun d h => absurd h (by simp [RS.start]), rfl, fun i h => absurd h (by simp [RS.start])⟩, fun q => absurd rfl q⟩
theorem parse_ok {l : List Tok} (ht : TokOk l) (hg : ∀ t ∈ l, t.kind = 1 → t.text ≠ [] ∧ nameP t.text) : ((parseF l).fe = 0 → Parsed l (parseF l)) ∧ ((parseF l).fe ≠ 0 → ∃ t ∈ l, (parseF l).fp = (t.pos : Int)) := by
  have hk : 8 * (l.length - RS.start.pos) + Cmd.expr.rank < 8 * l.length + 5 := by simp only [RS.start, Cmd.rank]; omega
  obtain ⟨s1, r, e, g, ar, _⟩ := go_ok ht (8 * l.length + 5) .expr .start (start_ok ht).p hk trivial
  obtain ⟨x, rfl⟩ := one_of ar
  have o1 := g.ok (start_ok ht)
  obtain ⟨p, n⟩ := go_tr ht.pos hg _ _ _ _ _ e ti_start InT.nil trivial
  have hpf : parseF l = if (s1.now l).kind = 0 then s1 else s1.fail 8 (s1.now l).pos := by unfold parseF; rw [e]
  rw [hpf]
  have hend : TI l (if (s1.now l).kind = 0 then s1 else s1.fail 8 (s1.now l).pos) := by
    split
    · exact p.inv
    · exact p.inv.fail (by decide) ⟨_, now_mem ht.pos, rfl⟩
  refine ⟨fun q => ?_, hend.f⟩
  split at q
  · rename_i hkd
    rw [if_pos hkd]
    have tr := p.inv.t q
    obtain ⟨_, new, hn, hc⟩ := p.ok q
    have hc : ∀ a, cntU s1.tree a + [x].count a = inR 0 s1.tree.length a := fun a => by
      have := hc a
      rw [hn]; simp only [RS.start, List.nil_append, Cmd.ins, List.count_nil, List.length_nil] at *
      rw [hn] at this; omega
    have hne : s1.tree ≠ [] := fun q => by
      have := hc x
      rw [q] at this
      simp [cntU_nil, inR] at this
    have hlen : 0 < s1.tree.length := List.length_pos_iff.2 hne
    have perm : (usedL s1.tree ++ [x]).Perm ((List.range s1.tree.length).map (fun i : Nat => (i : Int))) := List.perm_iff_count.2 fun a => by
      rw [List.count_append, count_range]; exact hc a
    have hl2 := perm.length_eq
    rw [List.length_append, List.length_singleton, List.length_map, List.length_range] at hl2
    have hnd : (usedL s1.tree).Nodup := by
      have h1 : ((List.range s1.tree.length).map (fun i : Nat => (i : Int))).Nodup := List.pairwise_map.2 ((List.nodup_range (n := s1.tree.length)).imp fun h q => h (by omega))
      exact (List.nodup_append.1 (perm.nodup_iff.2 h1)).1
    refine ⟨⟨⟨tr.lt, hnd, fun d hd => ⟨(tr.ok d hd).own, kidsP_ok (tr.ok d hd) fun z hz => ?_⟩⟩, hlen, by omega, ?_⟩, tr.ok, ?_, hne⟩
    · obtain ⟨i, hi⟩ := List.mem_iff_getElem?.1 hd
      have h1 := tr.lt i d hi z hz
      have h2 := (List.getElem?_eq_some_iff.1 hi).1
      exact kindOf_ok (fun d hd => (tr.ok d hd).kind) h1.1 (by omega)
    · have h1 := tr.hh (s1.tree.length - 1) (by omega)
      exact o1.h _ (List.mem_of_getElem? h1)
    · have := o1.t; have := o1.p; have := ht.lt; omega
  · exact absurd q (fail_fe (by decide))
theorem Parsed.sm {l : List Tok} {s : RS} (h : Parsed l s) (hl : l.length < 100000) : Small s.tree where
  len := by have := h.small; omega
  kids d hd := by
    have := (h.ok d hd).kn
    split at this
    · omega
    · split at this
      · omega
      · split at this <;> omega
  s d hd := by
    by_cases q : d.s = []
    · rw [q]; decide
    · have := (h.ok d hd).own.2.1
      have hn : nameP d.s := Classical.byContradiction fun w => this ⟨q, w⟩
      have := hn.2.2.1; omega
end Go.Proofs.Ytjgbofonigpjaaa.Ev
end
section
namespace Go.Proofs.Ytjgbofonigpjaaa.Ev
set_option linter.unusedSimpArgs false
set_option linter.unusedVariables false
set_option maxHeartbeats 4000000
theorem word_name {s : Txt} (h0 : 0 < wordF s) (h1 : wordF s ≤ 32) (h2 : s.take (wordF s) ∉ wordsL) : s.take (wordF s) ≠ [] ∧ nameP (s.take (wordF s)) := by
  have hl := wordF_le s
  have hlen : (s.take (wordF s)).length = wordF s := by rw [List.length_take]; omega
  refine ⟨fun q => by rw [q] at hlen; simp at hlen; omega, ?_, by omega, by omega, h2⟩
  intro i c hi
  cases s with
  | nil => simp at hi
  | cons a s =>
    have hw : wordF (a :: s) = if LetterP (cI a) then 1 + lead (fun n => LetterP n ∨ DigitP n) s else 0 := rfl
    rw [hw] at hi h0
    split at h0
    · rename_i ha
      rw [if_pos ha, Nat.add_comm, List.take_succ_cons] at hi
      cases i with
      | zero =>
        simp only [List.getElem?_cons_zero, Option.some.injEq] at hi
        subst hi; exact .inl ha
      | succ i =>
        rw [List.getElem?_cons_succ] at hi
        have := lead_take (fun n => LetterP n ∨ DigitP n) s c (List.mem_of_getElem? hi)
        exact this.elim .inl fun q => .inr ⟨Nat.succ_ne_zero i, q⟩
    · omega
theorem oneF_name {s : Txt} {p : Nat} {t : Tok} (hs : 0 < s.length) (h : oneF s p = .ok t) (hk : t.kind = 1) : t.text ≠ [] ∧ nameP t.text := by
  rw [oneF_eq hs] at h
  by_cases h1 : DigitP (cI s[0])
  · rw [if_pos h1] at h
    unfold numT at h
    cases hn : numF 0 (s.take (lead DigitP s)) <;> rw [hn] at h <;> cases h
    cases hk
  · rw [if_neg h1] at h
    by_cases h2 : 0 < wordF s ∧ s.take (wordF s) ∈ wordsL
    · rw [if_pos h2] at h; cases h; cases hk
    · rw [if_neg h2] at h
      by_cases h3 : 32 < wordF s
      · rw [if_pos h3] at h; cases h
      · rw [if_neg h3] at h
        by_cases h4 : 0 < wordF s
        · rw [if_pos h4] at h; cases h
          exact word_name h4 (by omega) fun q => h2 ⟨h4, q⟩
        · rw [if_neg h4] at h
          by_cases h5 : signF s = 0
          · rw [if_pos h5] at h; cases h
          · rw [if_neg h5] at h; cases h; cases hk
theorem toksF_good : ∀ (k : Nat) (s : Txt) (p : Nat) (l : List Tok), toksF k s p = .ok l → l.length ≤ s.length ∧ ∀ t ∈ l, t.kind = 1 → t.text ≠ [] ∧ nameP t.text
  | 0, s, p, l, h => by simp only [toksF] at h; cases h
  | k + 1, [], p, l, h => by simp only [toksF] at h; cases h; exact ⟨Nat.le_refl _, fun t ht => by cases ht⟩
  | k + 1, c :: s, p, l, h => by
    simp only [toksF] at h
    cases ho : oneF (c :: s) p with
    | bad e q => rw [ho] at h; cases h
    | ok t =>
      rw [ho] at h
      simp only at h
      obtain ⟨g1, g2, g3, g4⟩ := oneF_len (by simp) ho
      cases hr : toksF k (((c :: s).drop t.text.length).drop (skipF false ((c :: s).drop t.text.length))) (p + t.text.length + skipF false ((c :: s).drop t.text.length)) with
      | bad e q => rw [hr] at h; cases h
      | ok l2 =>
        rw [hr] at h
        cases h
        obtain ⟨i1, i2⟩ := toksF_good k _ _ _ hr
        rw [List.length_drop, List.length_drop] at i1
        refine ⟨by rw [List.length_cons]; omega, fun t' ht' hk => ?_⟩
        rcases List.mem_cons.1 ht' with rfl | ht'
        · exact oneF_name (by simp) ho hk
        · exact i2 t' ht' hk
theorem lex_good {s : Txt} {l : List Tok} (h : lexF s = .ok l) : TokOk l ∧ (∀ t ∈ l, t.kind = 1 → t.text ≠ [] ∧ nameP t.text) ∧ l.length ≤ s.length + 1 := by
  unfold lexF at h
  split at h
  · cases h
  · rename_i h6
    cases hr : toksF (s.length + 1) (s.drop (skipF false s)) (skipF false s) with
    | bad e q => rw [hr] at h; cases h
    | ok l2 =>
      rw [hr] at h
      simp only [Res.map, Res.ok.injEq] at h
      obtain ⟨i1, i2⟩ := toksF_good _ _ _ _ hr
      rw [List.length_drop] at i1
      have hlen : l.length = l2.length + 1 := by rw [← h, List.length_append]; rfl
      refine ⟨⟨by omega, by omega, ?_⟩, fun t ht hk => ?_, by omega⟩
      · rw [hlen, List.getD_eq_getElem?_getD, Nat.add_sub_cancel, ← h, List.getElem?_append_right (Nat.le_refl _), Nat.sub_self]; rfl
      · rw [← h] at ht
        rcases List.mem_append.1 ht with ht | ht
        · exact i2 t ht hk
        · rw [List.mem_singleton.1 ht] at hk; cases hk
theorem toksF_bad : ∀ (k : Nat) (s : Txt) (p : Nat) (e q : Nat), s.length < k → toksF k s p = .bad e q → 0 < e
  | 0, s, p, e, q, hk, h => by omega
  | k + 1, [], p, e, q, hk, h => by simp only [toksF] at h; cases h
  | k + 1, c :: s, p, e, q, hk, h => by
    simp only [toksF] at h
    cases ho : oneF (c :: s) p with
    | bad e' q' => rw [ho] at h; cases h; exact (oneF_bad (by simp) ho).2
    | ok t =>
      rw [ho] at h
      simp only at h
      obtain ⟨g1, g2, g3, g4⟩ := oneF_len (by simp) ho
      cases hr : toksF k (((c :: s).drop t.text.length).drop (skipF false ((c :: s).drop t.text.length))) (p + t.text.length + skipF false ((c :: s).drop t.text.length)) with
      | bad e' q' =>
        rw [hr] at h; cases h
        exact toksF_bad k _ _ _ _ (by rw [List.length_drop, List.length_drop, List.length_cons]; rw [List.length_cons] at hk; omega) hr
      | ok l2 => rw [hr] at h; cases h
theorem lex_bad {s : Txt} {e p : Nat} (h : lexF s = .bad e p) : 0 < e := by
  unfold lexF at h
  split at h
  · cases h; decide
  · cases hr : toksF (s.length + 1) (s.drop (skipF false s)) (skipF false s) with
    | bad e' q => rw [hr] at h; cases h; exact toksF_bad _ _ _ _ _ (by rw [List.length_drop]; omega) hr
    | ok l2 => rw [hr] at h; cases h
end Go.Proofs.Ytjgbofonigpjaaa.Ev
end
section
namespace Go.Proofs.Ytjgbofonigpjaaa.Ev
set_option linter.unusedSimpArgs false
set_option linter.unusedVariables false
set_option maxHeartbeats 4000000
theorem skipF_close {rest : Txt} : ∀ (s : Txt) (r : Bool), skipF r (s ++ 10 :: rest) = if skipF r s = s.length then s.length + 1 + skipF false rest else skipF r s
  | [], r => by
    have e : ∀ t, skipF r (10 :: t) = 1 + skipF false t := fun t => by
      have : skipF r (10 :: t) = if (if cI 10 = 10 then false else if cI 10 = 35 then true else r) = false ∧ ¬ BlankP (cI 10) then 0 else 1 + skipF (if cI 10 = 10 then false else if cI 10 = 35 then true else r) t := rfl
      rw [this, if_neg (by rintro ⟨_, h⟩; exact h (by decide))]; rfl
    rw [List.nil_append, e, if_pos (by rfl), List.length_nil]
  | c :: s, r => by
    have ih := skipF_close (rest := rest) s (if cI c = 10 then false else if cI c = 35 then true else r)
    have hle := skipF_le s (if cI c = 10 then false else if cI c = 35 then true else r)
    have e : ∀ t, skipF r (c :: t) = if (if cI c = 10 then false else if cI c = 35 then true else r) = false ∧ ¬ BlankP (cI c) then 0 else 1 + skipF (if cI c = 10 then false else if cI c = 35 then true else r) t := fun t => rfl
    rw [List.cons_append, e, e, List.length_cons]
    by_cases h : (if cI c = 10 then false else if cI c = 35 then true else r) = false ∧ ¬ BlankP (cI c)
    · rw [if_pos h, if_pos h, if_neg (by omega)]
    · rw [if_neg h, if_neg h, ih]
      by_cases h2 : skipF (if cI c = 10 then false else if cI c = 35 then true else r) s = s.length
      · rw [if_pos h2, if_pos (by omega)]; omega
      · rw [if_neg (show ¬ (1 + skipF (if cI c = 10 then false else if cI c = 35 then true else r) s = s.length + 1) by omega), if_neg h2]
theorem lead_close {p : Int → Prop} [DecidablePred p] (h10 : ¬ p 10) {rest : Txt} : ∀ s : Txt, lead p (s ++ 10 :: rest) = lead p s
  | [] => by
    simp only [List.nil_append, lead]
    exact if_neg h10
  | c :: s => by simp only [List.cons_append, lead, lead_close h10 s]
theorem wordF_close {rest : Txt} (s : Txt) : wordF (s ++ 10 :: rest) = wordF s := by
  cases s with
  | nil => simp only [List.nil_append, wordF]; exact if_neg (by decide)
  | cons c s => simp only [List.cons_append, wordF, lead_close (p := fun n => LetterP n ∨ DigitP n) (by decide) s]
theorem two_ten (c : UInt8) : [c, 10] ∉ twoL := by
  intro h
  simp [twoL] at h
theorem signF_close {rest : Txt} (s : Txt) (h : s ≠ []) : signF (s ++ 10 :: rest) = signF s := by
  match s, h with
  | [c], _ =>
    unfold signF
    have a1 : ¬ (2 ≤ ([c] ++ 10 :: rest).length ∧ ([c] ++ 10 :: rest).take 2 ∈ twoL) := fun q => two_ten c q.2
    have a2 : ¬ (2 ≤ [c].length ∧ [c].take 2 ∈ twoL) := fun q => absurd q.1 (by simp)
    rw [if_neg a1, if_neg a2]
    rfl
  | c :: d :: s, _ =>
    unfold signF
    have e1 : (c :: d :: s ++ 10 :: rest).take 2 = (c :: d :: s).take 2 := rfl
    have e2 : (c :: d :: s ++ 10 :: rest)[0]? = (c :: d :: s)[0]? := rfl
    rw [e1, e2]
    simp only [List.length_append, List.length_cons]
    by_cases q : (c :: d :: s).take 2 ∈ twoL
    · rw [if_pos ⟨by omega, q⟩, if_pos ⟨by omega, q⟩]
    · have b : ∀ P : Prop, ¬ (P ∧ (c :: d :: s).take 2 ∈ twoL) := fun P w => q w.2
      rw [if_neg (b _), if_neg (b _)]
theorem oneF_close {rest : Txt} {s : Txt} {p : Nat} (h : s ≠ []) : oneF (s ++ 10 :: rest) p = oneF s p := by
  have hl := List.length_pos_iff.2 h
  rw [oneF_eq (s := s ++ 10 :: rest) (by rw [List.length_append]; omega), oneF_eq hl, List.getElem_append_left hl, lead_close (p := DigitP) (by decide), wordF_close, signF_close s h]
  have ld := lead_le DigitP s
  have lw := wordF_le s
  have ls := signF_le hl
  rw [List.take_append_of_le_length ld, List.take_append_of_le_length lw, List.take_append_of_le_length ls]
theorem toksF_cons {k : Nat} {s : Txt} {p : Nat} (h : s ≠ []) : toksF (k + 1) s p = match oneF s p with
    | .bad e q => .bad e q
    | .ok t => (toksF k ((s.drop t.text.length).drop (skipF false (s.drop t.text.length))) (p + t.text.length + skipF false (s.drop t.text.length))).map (t :: ·) := by
  cases s with
  | nil => exact absurd rfl h
  | cons c s => rfl
theorem toksF_fuel : ∀ (k k' : Nat) (s : Txt) (p : Nat), s.length < k → s.length < k' → toksF k s p = toksF k' s p
  | 0, _, s, p, h, _ => by omega
  | k + 1, 0, s, p, _, h => by omega
  | k + 1, k' + 1, s, p, h, h' => by
    by_cases hs : s = []
    · subst hs; rfl
    · rw [toksF_cons hs, toksF_cons hs]
      cases ho : oneF s p with
      | bad e q => rfl
      | ok t =>
        obtain ⟨g1, g2, _, _⟩ := oneF_len (List.length_pos_iff.2 hs) ho
        simp only
        rw [toksF_fuel k k' _ _ (by rw [List.length_drop, List.length_drop]; omega) (by rw [List.length_drop, List.length_drop]; omega)]
theorem toksF_close {rest : Txt} : ∀ (k : Nat) (s : Txt) (p : Nat) (l : List Tok), s ≠ [] → toksF k s p = .ok l → ∀ k', (s ++ 10 :: rest).length < k' → toksF k' (s ++ 10 :: rest) p = (toksF (rest.length + 1) (rest.drop (skipF false rest)) (p + s.length + 1 + skipF false rest)).map (l ++ ·)
  | 0, s, p, l, _, h, _, _ => by simp only [toksF] at h; cases h
  | k + 1, s, p, l, hs, h, 0, hk => by omega
  | k + 1, s, p, l, hs, h, k' + 1, hk => by
    rw [toksF_cons hs] at h
    rw [toksF_cons (by simp), oneF_close hs]
    cases ho : oneF s p with
    | bad e q => rw [ho] at h; cases h
    | ok t =>
      rw [ho] at h
      simp only at h ⊢
      obtain ⟨g1, g2, _, _⟩ := oneF_len (List.length_pos_iff.2 hs) ho
      have hd : (s ++ 10 :: rest).drop t.text.length = s.drop t.text.length ++ 10 :: rest := List.drop_append_of_le_length g2
      rw [hd, skipF_close]
      have hle := skipF_le (s.drop t.text.length) false
      have hk' : s.length + 1 + rest.length < k' + 1 := by rw [List.length_append, List.length_cons] at hk; omega
      have hrl := skipF_le rest false
      by_cases hz : skipF false (s.drop t.text.length) = (s.drop t.text.length).length
      · rw [if_pos hz]
        rw [hz, List.drop_length] at h
        have hl : l = [t] := by
          cases k with
          | zero => simp only [toksF, Res.map] at h; cases h
          | succ k => simp only [toksF, Res.map] at h; cases h; rfl
        subst hl
        have e1 : (s.drop t.text.length ++ 10 :: rest).drop ((s.drop t.text.length).length + 1 + skipF false rest) = rest.drop (skipF false rest) := by
          rw [Nat.add_assoc, ← List.drop_drop, List.drop_left, Nat.add_comm]; rfl
        rw [e1, toksF_fuel k' (rest.length + 1) _ _ (by rw [List.length_drop]; omega) (by rw [List.length_drop]; omega), List.length_drop]
        have e2 : p + t.text.length + (s.length - t.text.length + 1 + skipF false rest) = p + s.length + 1 + skipF false rest := by omega
        rw [e2]
        rfl
      · rw [if_neg hz]
        have hd2 : (s.drop t.text.length ++ 10 :: rest).drop (skipF false (s.drop t.text.length)) = (s.drop t.text.length).drop (skipF false (s.drop t.text.length)) ++ 10 :: rest := List.drop_append_of_le_length hle
        rw [hd2]
        cases hr : toksF k ((s.drop t.text.length).drop (skipF false (s.drop t.text.length))) (p + t.text.length + skipF false (s.drop t.text.length)) with
        | bad e q => rw [hr] at h; cases h
        | ok l2 =>
          rw [hr] at h
          simp only [Res.map, Res.ok.injEq] at h
          subst h
          have hne : (s.drop t.text.length).drop (skipF false (s.drop t.text.length)) ≠ [] := by
            intro q; have := congrArg List.length q; rw [List.length_drop, List.length_nil] at this; omega
          rw [toksF_close k _ _ l2 hne hr k' (by rw [List.length_append, List.length_drop, List.length_drop, List.length_cons]; omega), Res.map_map]
          rw [List.length_drop, List.length_drop]
          rw [List.length_drop] at hle
          have e2 : p + t.text.length + skipF false (s.drop t.text.length) + (s.length - t.text.length - skipF false (s.drop t.text.length)) + 1 + skipF false rest = p + s.length + 1 + skipF false rest := by omega
          rw [e2]
          rfl
end Go.Proofs.Ytjgbofonigpjaaa.Ev
end
section
namespace Go.Proofs.Ytjgbofonigpjaaa.Ev
set_option linter.unusedSimpArgs false
set_option linter.unusedVariables false
set_option maxHeartbeats 4000000
theorem bind_up {α β : Type} {x y : Option α} {f g : α → Option β} {b : β} (h : x.bind f = some b) (hx : ∀ a, x = some a → y = some a) (hf : ∀ a, f a = some b → g a = some b) : y.bind g = some b := by
  obtain ⟨a, h1, h2⟩ := bind_some h
  rw [hx a h1]; exact hf a h2
theorem ite_up {α : Type} {c : Prop} {i : Decidable c} {a b a' b' : Option α} {x : α} (h : (if c then a else b) = some x) (h1 : c → a = some x → a' = some x) (h2 : ¬ c → b = some x → b' = some x) : (if c then a' else b') = some x := by
  split at h
  · rename_i q; rw [if_pos q]; exact h1 q h
  · rename_i q; rw [if_neg q]; exact h2 q h
theorem goF_mono {l : List Tok} : ∀ (k : Nat) (c : Cmd) (st : RS) (x : RS × List Int), goF l k c st = some x → goF l (k + 1) c st = some x := by
  intro k
  induction k with
  | zero => intro c st x h; cases h
  | succ k ih =>
    intro c st x h
    cases c with
    | expr => exact bind_up h (fun a => ih _ _ _) fun a h => h
    | climb least => exact bind_up h (fun a => ih _ _ _) fun a h => ih _ _ _ h
    | climbL least most left => exact ite_up h (fun _ h => bind_up h (fun a => ih _ _ _) fun a h => ih _ _ _ h) fun _ h => h
    | front =>
      have one : ∀ (kind : Int), (if (st.next.open (st.now l).pos).fe = 0 then (goF l k .front (st.next.open (st.now l).pos)).bind fun (s1, r) => some (s1.close.put (nd kind r 0 [] (st.now l).pos), [s1.close.putR (nd kind r 0 [] (st.now l).pos)]) else some (st.next.open (st.now l).pos, [-1])) = some x → (if (st.next.open (st.now l).pos).fe = 0 then (goF l (k + 1) .front (st.next.open (st.now l).pos)).bind fun (s1, r) => some (s1.close.put (nd kind r 0 [] (st.now l).pos), [s1.close.putR (nd kind r 0 [] (st.now l).pos)]) else some (st.next.open (st.now l).pos, [-1])) = some x :=
        fun kind h => ite_up h (fun _ h => bind_up h (fun a => ih _ _ _) fun a h => h) fun _ h => h
      exact ite_up h (fun _ => one _) fun _ h => ite_up h (fun _ => one _) fun _ h => bind_up h (fun a => ih _ _ _) fun a h => ih _ _ _ h
    | atom =>
      exact ite_up h (fun _ h => h) fun _ h => ite_up h (fun _ h => ih _ _ _ h) fun _ h => ite_up h (fun _ h => h) fun _ h => ite_up h (fun _ h => ite_up h (fun _ h => bind_up h (fun a => ih _ _ _) fun a h => h) fun _ h => h) fun _ h => ite_up h (fun _ h => h) fun _ h => ite_up h (fun _ h => h) fun _ h => ite_up h (fun _ h => h) fun _ h => ite_up h (fun _ h => bind_up h (fun a => ih _ _ _) fun a h => h) fun _ h => ite_up h (fun _ h => bind_up h (fun a => ih _ _ _) fun a h => h) fun _ h => h
    | cellsL left => exact ite_up h (fun _ h => bind_up h (fun a => ih _ _ _) fun a h => ih _ _ _ h) fun _ h => h
    | inner a z => exact ite_up h (fun _ h => ite_up h (fun _ h => bind_up h (fun a => ih _ _ _) fun a h => h) fun _ h => h) fun _ h => h
    | args =>
      exact ite_up h (fun _ h => ite_up h (fun _ h => bind_up h (fun a h => ite_up h (fun _ h => h) fun _ h => ih _ _ _ h) fun a h => h) fun _ h => h) fun _ h => h
    | argsL out => exact bind_up h (fun a => ih _ _ _) fun a h => ite_up h (fun _ h => ih _ _ _ h) fun _ h => h
theorem goF_le {l : List Tok} {c : Cmd} {st : RS} {x : RS × List Int} {k k' : Nat} (h : k ≤ k') (hk : goF l k c st = some x) : goF l k' c st = some x := by
  obtain ⟨j, rfl⟩ := Nat.exists_eq_add_of_le h
  clear h
  induction j with
  | zero => exact hk
  | succ j ih => exact goF_mono _ _ _ _ ih
/-- The reader, told to do this, ends so. -/
def Ends (l : List Tok) (c : Cmd) (st s1 : RS) (r : List Int) : Prop := ∃ k, goF l k c st = some (s1, r)
theorem Ends.parse {l : List Tok} (ht : TokOk l) {s1 : RS} {r : List Int} (h : Ends l .expr ⟨0, 0, [], [], 0, 0⟩ s1 r) : goF l (8 * l.length + 5) .expr ⟨0, 0, [], [], 0, 0⟩ = some (s1, r) := by
  obtain ⟨k, hk⟩ := h
  obtain ⟨s2, r2, e, _⟩ := go_ok ht (8 * l.length + 5) .expr ⟨0, 0, [], [], 0, 0⟩ ht.pos (by simp only [Cmd.rank]; omega) trivial
  have h1 := goF_le (Nat.le_max_left k (8 * l.length + 5)) hk
  have h2 := goF_le (Nat.le_max_right k (8 * l.length + 5)) e
  rw [h1] at h2
  rw [e, h2]
end Go.Proofs.Ytjgbofonigpjaaa.Ev
end
section
namespace Go.Proofs.Ytjgbofonigpjaaa.Ev
set_option linter.unusedSimpArgs false
set_option linter.unusedVariables false
set_option maxHeartbeats 4000000
theorem go_gr {l : List Tok} (ht : TokOk l) {k : Nat} {c : Cmd} {st s1 : RS} {r : List Int} (hp : st.pos < l.length) (h : goF l k c st = some (s1, r)) (hm : c.may) : Gr l st s1 ∧ c.ans r ∧ c.more l st s1 := by
  obtain ⟨s2, r2, e, g⟩ := go_ok ht (k + 8 * l.length + 6) c st hp (by cases c <;> simp only [Cmd.rank] <;> omega) hm
  have h2 := goF_le (k' := k + 8 * l.length + 6) (by omega) h
  rw [e] at h2
  cases h2
  exact g
/-- The same token, but for its place. -/
structure TokSim (t t' : Tok) : Prop where
  kind : t'.kind = t.kind
  text : t'.text = t.text
  n : t'.n = t.n
/-- The same tokens from so many on, but for their places; the last one is an end there, or a closing bracket. -/
structure SimL (l l' : List Tok) (j : Nat) : Prop where
  ok : TokOk l
  len : l.length + j ≤ l'.length
  small : l.length + j ≤ 190
  tok : ∀ i, i + 1 < l.length → TokSim (l.getD i ⟨0, [], 0, 0⟩) (l'.getD (i + j) ⟨0, [], 0, 0⟩)
  last : (l'.getD (l.length - 1 + j) ⟨0, [], 0, 0⟩).kind = 0 ∨ (l'.getD (l.length - 1 + j) ⟨0, [], 0, 0⟩).kind = 4 ∧ (l'.getD (l.length - 1 + j) ⟨0, [], 0, 0⟩).text = [41]
def Nd.core (d : Nd) : Nd := { d with pos := 0 }
structure StSim (l : List Tok) (j : Nat) (st st' : RS) : Prop where
  pos : st'.pos = st.pos + j
  deep : st'.deep = st.deep + (j : Int)
  tree : st'.tree.map Nd.core = st.tree.map Nd.core
  high : st'.high = st.high
  f : st.fe = 0
  f' : st'.fe = 0
  d : st.deep ≤ (st.pos : Int)
  p : st.pos < l.length
section
variable {l l' : List Tok} {j : Nat} {st st' : RS}
theorem StSim.now (S : StSim l j st st') (h : SimL l l' j) : ((st.now l).kind = 0 ∧ ((st'.now l').kind = 0 ∨ (st'.now l').kind = 4 ∧ (st'.now l').text = [41])) ∨ TokSim (st.now l) (st'.now l') := by
  have hp := S.p
  have hl := h.len
  unfold RS.now
  have e1 : min st.pos (l.length - 1) = st.pos := by omega
  have e2 : min st'.pos (l'.length - 1) = st.pos + j := by rw [S.pos]; omega
  rw [e1, e2]
  by_cases q : st.pos + 1 < l.length
  · exact .inr (h.tok _ q)
  · have e3 : st.pos = l.length - 1 := by omega
    rw [e3]
    exact .inl ⟨h.ok.last, h.last⟩
theorem StSim.same (S : StSim l j st st') (h : SimL l l' j) (hk : (st.now l).kind ≠ 0) : TokSim (st.now l) (st'.now l') := (S.now h).resolve_left fun q => hk q.1
theorem StSim.fwd (S : StSim l j st st') (h : SimL l l' j) {s : Txt} (hs : st.is l s) : st'.is l' s := by
  have t := S.same h (by have := hs.2.1; omega)
  exact ⟨S.f', by rw [t.kind]; exact hs.2.1, by rw [t.text]; exact hs.2.2⟩
theorem StSim.back (S : StSim l j st st') (h : SimL l l' j) {s : Txt} (h41 : s ≠ [41] ∨ (st.now l).kind ≠ 0) (hs : st'.is l' s) : st.is l s := by
  rcases S.now h with ⟨q, q'⟩ | t
  · rcases q' with q' | q'
    · have := hs.2.1; omega
    · rcases h41 with h41 | h41
      · exact absurd (hs.2.2.symm.trans q'.2) h41
      · exact absurd q h41
  · exact ⟨S.f, by rw [← t.kind]; exact hs.2.1, by rw [← t.text]; exact hs.2.2⟩
theorem StSim.next (S : StSim l j st st') (h : SimL l l' j) (hk : (st.now l).kind ≠ 0) : StSim l j st.next st'.next := by
  have := next_lt h.ok S.p hk
  have hd := S.d
  have e := S.pos
  exact ⟨by simp only [RS.next]; omega, S.deep, S.tree, S.high, S.f, S.f', by simp only [RS.next]; omega, this⟩
theorem StSim.opened (S : StSim l j st st') (h : SimL l l' j) (hk : (st.now l).kind ≠ 0) {p p' : Int} : StSim l j (st.next.open p) (st'.next.open p') := by
  have N := S.next h hk
  have hd := S.d
  have hn := N.p
  have e := S.deep
  have hs := h.small
  simp only [RS.next] at hn
  unfold RS.open
  rw [if_neg (by simp only [RS.next]; omega), if_neg (by simp only [RS.next]; omega)]
  have d1 : st'.next.deep = st.next.deep + (j : Int) := N.deep
  exact ⟨N.pos, by simp only; omega, N.tree, N.high, N.f, N.f', by simp only [RS.next]; omega, N.p⟩
theorem StSim.close (S : StSim l j st st') : StSim l j st.close st'.close := by
  have hd := S.d
  have e := S.deep
  exact ⟨S.pos, by simp only [RS.close]; omega, S.tree, S.high, S.f, S.f', by simp only [RS.close]; omega, S.p⟩
theorem put_fe {d : Nd} (h : (st.put d).fe = 0) : st.fe = 0 ∧ ¬ 200 < hiAll st.high d.kids := by
  unfold RS.put RS.put0 at h
  by_cases h2 : 200 < hiAll st.high d.kids
  · rw [if_pos h2, if_neg (fail_fe (by decide))] at h
    exact absurd h (fail_fe (by decide))
  · rw [if_neg h2] at h
    refine ⟨?_, h2⟩
    split at h
    · assumption
    · assumption
theorem StSim.put (S : StSim l j st st') {d d' : Nd} (hc : d'.core = d.core) (hf : (st.put d).fe = 0) : StSim l j (st.put d) (st'.put d') ∧ st'.putR d' = st.putR d := by
  obtain ⟨-, h2⟩ := put_fe hf
  have hk : d'.kids = d.kids := by have := congrArg Nd.kids hc; exact this
  have h2' : ¬ 200 < hiAll st'.high d'.kids := by rw [S.high, hk]; exact h2
  have a : st.put0 d = st := by unfold RS.put0; rw [if_neg h2]
  have a' : st'.put0 d' = st' := by unfold RS.put0; rw [if_neg h2']
  have hl : st'.tree.length = st.tree.length := by have := congrArg List.length S.tree; rwa [List.length_map, List.length_map] at this
  unfold RS.put RS.putR
  rw [a, a', if_pos S.f, if_pos S.f', if_pos S.f, if_pos S.f']
  refine ⟨⟨S.pos, S.deep, ?_, ?_, S.f, S.f', S.d, S.p⟩, by rw [hl]⟩
  · simp only [List.map_append, S.tree, List.map_cons, List.map_nil, hc]
  · simp only [S.high, hk]
theorem StSim.want (S : StSim l j st st') (h : SimL l l' j) {s : Txt} (hf : (st.want l s).fe = 0) : StSim l j (st.want l s) (st'.want l' s) := by
  unfold RS.want at hf ⊢
  by_cases q : st.is l s
  · rw [if_pos q, if_pos (S.fwd h q)]
    exact S.next h (by have := q.2.1; omega)
  · rw [if_neg q] at hf
    exact absurd hf (fail_fe (by decide))
theorem no_is (hk : (st.now l).kind = 0) (s : Txt) : ¬ st.is l s := fun q => by have := q.2.1; omega
theorem end_atom {k : Nat} {s1 : RS} {r : List Int} (hk : (st.now l).kind = 0) (h : goF l k .atom st = some (s1, r)) : s1.fe ≠ 0 := by
  cases k with
  | zero => cases h
  | succ k =>
    simp only [goF] at h
    by_cases hf : st.fe = 0
    · rw [if_neg (by simp only [hf, not_true_eq_false, not_false_eq_true]), if_neg (no_is hk _), if_neg (by omega), if_neg (by omega), if_neg (no_is hk _), if_neg (no_is hk _), if_neg (no_is hk _), if_neg (no_is hk _), if_neg (no_is hk _)] at h
      cases h
      exact fail_fe (by decide)
    · rw [if_pos hf] at h
      cases h
      exact hf
theorem end_front {k : Nat} {s1 : RS} {r : List Int} (ht : TokOk l) (hp : st.pos < l.length) (hk : (st.now l).kind = 0) (h : goF l k .front st = some (s1, r)) : s1.fe ≠ 0 := by
  cases k with
  | zero => cases h
  | succ k =>
    simp only [goF] at h
    rw [if_neg (no_is hk _), if_neg (no_is hk _)] at h
    obtain ⟨⟨s2, r2⟩, e1, e2⟩ := bind_some h
    have g1 := go_gr ht hp e1 trivial
    have g2 := go_gr ht g1.1.pl e2 trivial
    exact fun q => end_atom hk e1 (g2.1.f q)
theorem end_expr {k : Nat} {s1 : RS} {r : List Int} (ht : TokOk l) (hp : st.pos < l.length) (hk : (st.now l).kind = 0) (h : goF l k .expr st = some (s1, r)) : s1.fe ≠ 0 := by
  cases k with
  | zero => cases h
  | succ k =>
    simp only [goF] at h
    obtain ⟨⟨s2, r2⟩, e1, e2⟩ := bind_some h
    cases e2
    cases k with
    | zero => cases e1
    | succ k =>
      simp only [goF] at e1
      obtain ⟨⟨s3, r3⟩, e3, e4⟩ := bind_some e1
      have g1 := go_gr ht hp e3 trivial
      have g2 := go_gr ht g1.1.pl e4 trivial
      exact fun q => end_front ht hp hk e3 (g2.1.f q)
end
def Cmd.std : Cmd → Prop
  | .inner a z => a = [40] ∧ z = [41] ∨ a = [91] ∧ z = [93]
  | _ => True
theorem core_nd (kind : Int) (kids : List Int) (n : Int) (s : Txt) (p p' : Int) : (nd kind kids n s p').core = (nd kind kids n s p).core := rfl
theorem go_sim {l l' : List Tok} {j : Nat} (h : SimL l l' j) : ∀ (k : Nat) (c : Cmd) (st st' s1 : RS) (r : List Int), StSim l j st st' → goF l k c st = some (s1, r) → s1.fe = 0 → c.may → c.std → ∃ s1', goF l' k c st' = some (s1', r) ∧ StSim l j s1 s1' := by
  have ht := h.ok
  intro k
  induction k with
  | zero => intro c st st' s1 r S he hf hm hs; cases he
  | succ k ih =>
    intro c st st' s1 r S he hf hm hs
    cases c with
    | expr =>
      simp only [goF] at he ⊢
      obtain ⟨⟨s2, r2⟩, e1, e2⟩ := bind_some he
      simp only [Option.some.injEq, Prod.mk.injEq] at e2
      obtain ⟨rfl, rfl⟩ := e2
      obtain ⟨s1', e', S'⟩ := ih _ _ _ _ _ S e1 hf trivial trivial
      refine ⟨s1', ?_, S'⟩
      rw [e', Option.bind_some]
      simp only [S'.f', hf, if_true]
    | climb least =>
      simp only [goF] at he ⊢
      obtain ⟨⟨s2, r2⟩, e1, e2⟩ := bind_some he
      have g1 := go_gr ht S.p e1 trivial
      have g2 := go_gr ht g1.1.pl e2 trivial
      obtain ⟨s2', e', S'⟩ := ih _ _ _ _ _ S e1 (g2.1.f hf) trivial trivial
      obtain ⟨s3', e3, S3⟩ := ih _ _ _ _ _ S' e2 hf trivial trivial
      exact ⟨s3', by rw [e', Option.bind_some]; exact e3, S3⟩
    | climbL least most left =>
      simp only [goF] at he ⊢
      by_cases hc : st.fe = 0 ∧ ¬ ((((st.now l).kind ≠ 4 ∨ (opsF (st.now l).text).2 = 0) ∨ (opsF (st.now l).text).1 < least) ∨ most < (opsF (st.now l).text).1)
      · rw [if_pos hc] at he
        have hk : (st.now l).kind ≠ 0 := by have := hc.2; omega
        have t := S.same h hk
        rw [t.kind, t.text]
        rw [if_pos ⟨S.f', hc.2⟩]
        have N := S.next h hk
        obtain ⟨⟨s2, r2⟩, e1, e2⟩ := bind_some he
        have g1 := go_gr ht N.p e1 trivial
        have gp : (s2.put (nd 5 [left, r2.headD 0] (opsF (st.now l).text).2 [] (st.now l).pos)).pos < l.length := by
          have : ∀ d, (s2.put d).pos = s2.pos := fun d => by unfold RS.put RS.put0; split <;> split <;> first | rfl | exact fail_pos.1
          rw [this]; exact g1.1.pl
        have g2 := go_gr ht gp e2 trivial
        have hfp := g2.1.f hf
        obtain ⟨s2', e', S'⟩ := ih _ _ _ _ _ N e1 (put_fe hfp).1 trivial trivial
        obtain ⟨P1, P2⟩ := S'.put (d := nd 5 [left, r2.headD 0] (opsF (st.now l).text).2 [] (st.now l).pos) (d' := nd 5 [left, r2.headD 0] (opsF (st.now l).text).2 [] (st'.now l').pos) rfl hfp
        obtain ⟨s3', e3, S3⟩ := ih _ _ _ _ _ P1 e2 hf trivial trivial
        exact ⟨s3', by rw [e', Option.bind_some]; simp only; rw [P2]; exact e3, S3⟩
      · rw [if_neg hc] at he
        cases he
        have hc' : ¬ (st'.fe = 0 ∧ ¬ ((((st'.now l').kind ≠ 4 ∨ (opsF (st'.now l').text).2 = 0) ∨ (opsF (st'.now l').text).1 < least) ∨ most < (opsF (st'.now l').text).1)) := by
          rintro ⟨q1, q2⟩
          rcases S.now h with ⟨q, q' | q'⟩ | t
          · omega
          · rw [q'.2] at q2
            exact q2 (.inl (.inl (.inr (by decide))))
          · rw [t.kind, t.text] at q2
            exact hc ⟨S.f, q2⟩
        rw [if_neg hc']
        exact ⟨st', rfl, S⟩
    | front =>
      simp only [goF] at he ⊢
      have one : ∀ (s : Txt) (kind : Int), st.is l s → (if (st.next.open (st.now l).pos).fe = 0 then (goF l k .front (st.next.open (st.now l).pos)).bind fun (s1, r) => some (s1.close.put (nd kind r 0 [] (st.now l).pos), [s1.close.putR (nd kind r 0 [] (st.now l).pos)]) else some (st.next.open (st.now l).pos, [-1])) = some (s1, r) →
          ∃ s1', (if (st'.next.open (st'.now l').pos).fe = 0 then (goF l' k .front (st'.next.open (st'.now l').pos)).bind fun (s1, r) => some (s1.close.put (nd kind r 0 [] (st'.now l').pos), [s1.close.putR (nd kind r 0 [] (st'.now l').pos)]) else some (st'.next.open (st'.now l').pos, [-1])) = some (s1', r) ∧ StSim l j s1 s1' := by
        intro s kind hs he
        have O := S.opened h (p := (st.now l).pos) (p' := (st'.now l').pos) (by have := hs.2.1; omega)
        rw [if_pos O.f] at he
        rw [if_pos O.f']
        obtain ⟨⟨s2, r2⟩, e1, e2⟩ := bind_some he
        simp only [Option.some.injEq, Prod.mk.injEq] at e2
        obtain ⟨rfl, rfl⟩ := e2
        obtain ⟨s2', e', S'⟩ := ih _ _ _ _ _ O e1 (put_fe hf).1 trivial trivial
        obtain ⟨P1, P2⟩ := S'.close.put (d := nd kind r2 0 [] (st.now l).pos) (d' := nd kind r2 0 [] (st'.now l').pos) rfl hf
        exact ⟨_, by rw [e', Option.bind_some]; simp only; rw [P2], P1⟩
      by_cases h1 : st.is l [45]
      · rw [if_pos h1] at he
        rw [if_pos (S.fwd h h1)]
        exact one _ _ h1 he
      · rw [if_neg h1] at he
        rw [if_neg fun q => h1 (S.back h (.inl (by decide)) q)]
        by_cases h2 : st.is l [33]
        · rw [if_pos h2] at he
          rw [if_pos (S.fwd h h2)]
          exact one _ _ h2 he
        · rw [if_neg h2] at he
          rw [if_neg fun q => h2 (S.back h (.inl (by decide)) q)]
          obtain ⟨⟨s2, r2⟩, e1, e2⟩ := bind_some he
          have g1 := go_gr ht S.p e1 trivial
          have g2 := go_gr ht g1.1.pl e2 trivial
          obtain ⟨s2', e', S'⟩ := ih _ _ _ _ _ S e1 (g2.1.f hf) trivial trivial
          obtain ⟨s3', e3, S3⟩ := ih _ _ _ _ _ S' e2 hf trivial trivial
          exact ⟨s3', by rw [e', Option.bind_some]; exact e3, S3⟩
    | atom =>
      have hk : (st.now l).kind ≠ 0 := fun q => end_atom q he hf
      have t := S.same h hk
      have N := S.next h hk
      have iff : ∀ s, ¬ st.is l s → ¬ st'.is l' s := fun s q w => q (S.back h (.inr hk) w)
      simp only [goF] at he ⊢
      rw [if_neg (by simp only [S.f, not_true_eq_false, not_false_eq_true])] at he
      rw [if_neg (by simp only [S.f', not_true_eq_false, not_false_eq_true])]
      have lay : ∀ (s s' : RS) (d d' : Nd), StSim l j s s' → d'.core = d.core → some (s.put d, [s.putR d]) = some (s1, r) → ∃ s1', some (s'.put d', [s'.putR d']) = some (s1', r) ∧ StSim l j s1 s1' := by
        intro s s' d d' S1 hd he
        simp only [Option.some.injEq, Prod.mk.injEq] at he
        obtain ⟨rfl, rfl⟩ := he
        obtain ⟨P1, P2⟩ := S1.put hd hf
        exact ⟨_, by rw [P2], P1⟩
      by_cases h1 : st.is l [40]
      · rw [if_pos h1] at he
        rw [if_pos (S.fwd h h1)]
        exact ih _ _ _ _ _ S he hf trivial (.inl ⟨rfl, rfl⟩)
      rw [if_neg h1] at he
      rw [if_neg (iff _ h1), t.kind, t.n, t.text]
      by_cases h2 : (st.now l).kind = 2
      · rw [if_pos h2] at he ⊢
        exact lay _ _ _ _ N (core_nd ..) he
      rw [if_neg h2] at he ⊢
      by_cases h3 : (st.now l).kind = 1
      · rw [if_pos h3] at he ⊢
        by_cases h4 : st.next.is l [40]
        · rw [if_pos h4] at he
          rw [if_pos (N.fwd h h4)]
          obtain ⟨⟨s2, r2⟩, e1, e2⟩ := bind_some he
          have hf2 : s2.fe = 0 := by
            simp only [Option.some.injEq, Prod.mk.injEq] at e2
            obtain ⟨rfl, rfl⟩ := e2
            exact (put_fe hf).1
          obtain ⟨s2', e', S'⟩ := ih _ _ _ _ _ N e1 hf2 trivial trivial
          obtain ⟨s3', e3, S3⟩ := lay _ _ (nd 11 r2 0 (st.now l).text (st.now l).pos) (nd 11 r2 0 (st.now l).text (st'.now l').pos) S' rfl e2
          exact ⟨s3', by rw [e', Option.bind_some]; exact e3, S3⟩
        · rw [if_neg h4] at he
          rw [if_neg fun q => h4 (N.back h (.inl (by decide)) q)]
          exact lay _ _ _ _ N (core_nd ..) he
      rw [if_neg h3] at he ⊢
      by_cases h5 : st.is l [116, 114, 117, 101]
      · rw [if_pos h5] at he
        rw [if_pos (S.fwd h h5)]
        exact lay _ _ _ _ N (core_nd ..) he
      rw [if_neg h5] at he
      rw [if_neg (iff _ h5)]
      by_cases h6 : st.is l [102, 97, 108, 115, 101]
      · rw [if_pos h6] at he
        rw [if_pos (S.fwd h h6)]
        exact lay _ _ _ _ N (core_nd ..) he
      rw [if_neg h6] at he
      rw [if_neg (iff _ h6)]
      by_cases h7 : st.is l [110, 105, 108]
      · rw [if_pos h7] at he
        rw [if_pos (S.fwd h h7)]
        exact lay _ _ _ _ N (core_nd ..) he
      rw [if_neg h7] at he
      rw [if_neg (iff _ h7)]
      have inn : ∀ (kind : Int), ((goF l k (.inner [40] [41]) st.next).bind fun (s1, r) => some (s1.put (nd kind r 0 [] (st.now l).pos), [s1.putR (nd kind r 0 [] (st.now l).pos)])) = some (s1, r) → ∃ s1', ((goF l' k (.inner [40] [41]) st'.next).bind fun (s1, r) => some (s1.put (nd kind r 0 [] (st'.now l').pos), [s1.putR (nd kind r 0 [] (st'.now l').pos)])) = some (s1', r) ∧ StSim l j s1 s1' := by
        intro kind he
        obtain ⟨⟨s2, r2⟩, e1, e2⟩ := bind_some he
        have hf2 : s2.fe = 0 := by
          simp only [Option.some.injEq, Prod.mk.injEq] at e2
          obtain ⟨rfl, rfl⟩ := e2
          exact (put_fe hf).1
        obtain ⟨s2', e', S'⟩ := ih _ _ _ _ _ N e1 hf2 trivial (.inl ⟨rfl, rfl⟩)
        obtain ⟨s3', e3, S3⟩ := lay _ _ (nd kind r2 0 [] (st.now l).pos) (nd kind r2 0 [] (st'.now l').pos) S' rfl e2
        exact ⟨s3', by rw [e', Option.bind_some]; exact e3, S3⟩
      by_cases h8 : st.is l [108, 101, 110]
      · rw [if_pos h8] at he
        rw [if_pos (S.fwd h h8)]
        exact inn _ he
      rw [if_neg h8] at he
      rw [if_neg (iff _ h8)]
      by_cases h9 : st.is l [110, 101, 119]
      · rw [if_pos h9] at he
        rw [if_pos (S.fwd h h9)]
        exact inn _ he
      rw [if_neg h9] at he
      simp only [Option.some.injEq, Prod.mk.injEq] at he
      obtain ⟨rfl, rfl⟩ := he
      exact absurd hf (fail_fe (by decide))
    | cellsL left =>
      simp only [goF] at he ⊢
      by_cases h1 : st.is l [91]
      · rw [if_pos h1] at he
        rw [if_pos (S.fwd h h1)]
        obtain ⟨⟨s2, r2⟩, e1, e2⟩ := bind_some he
        have g1 := go_gr ht S.p e1 trivial
        have gp : (s2.put (nd 8 (left :: r2) 0 [] (st.now l).pos)).pos < l.length := by
          have : ∀ d, (s2.put d).pos = s2.pos := fun d => by unfold RS.put RS.put0; split <;> split <;> first | rfl | exact fail_pos.1
          rw [this]; exact g1.1.pl
        have g2 := go_gr ht gp e2 trivial
        have hfp := g2.1.f hf
        obtain ⟨s2', e', S'⟩ := ih _ _ _ _ _ S e1 (put_fe hfp).1 trivial (.inr ⟨rfl, rfl⟩)
        obtain ⟨P1, P2⟩ := S'.put (d := nd 8 (left :: r2) 0 [] (st.now l).pos) (d' := nd 8 (left :: r2) 0 [] (st'.now l').pos) rfl hfp
        obtain ⟨s3', e3, S3⟩ := ih _ _ _ _ _ P1 e2 hf trivial trivial
        exact ⟨s3', by rw [e', Option.bind_some]; simp only; rw [P2]; exact e3, S3⟩
      · rw [if_neg h1] at he
        rw [if_neg fun q => h1 (S.back h (.inl (by decide)) q)]
        cases he
        exact ⟨st', rfl, S⟩
    | inner a z =>
      simp only [goF] at he ⊢
      by_cases h1 : st.is l a
      · rw [if_pos h1] at he
        rw [if_pos (S.fwd h h1)]
        have O := S.opened h (p := (st.now l).pos) (p' := (st'.now l').pos) (by have := h1.2.1; omega)
        rw [if_pos O.f] at he
        rw [if_pos O.f']
        obtain ⟨⟨s2, r2⟩, e1, e2⟩ := bind_some he
        simp only [Option.some.injEq, Prod.mk.injEq] at e2
        obtain ⟨rfl, rfl⟩ := e2
        have hfw : (s2.want l z).fe = 0 := hf
        have g1 := go_gr ht O.p e1 trivial
        have hf2 := (Gr.want ht g1.1.pl (s := z)).f hfw
        obtain ⟨s2', e', S'⟩ := ih _ _ _ _ _ O e1 hf2 trivial trivial
        have W := S'.want h hfw
        refine ⟨_, ?_, W.close⟩
        rw [e', Option.bind_some]
        simp only [W.f', hfw, if_true]
      · rw [if_neg h1] at he
        cases he
        exact absurd hf (fail_fe (by decide))
    | args =>
      simp only [goF] at he ⊢
      by_cases h1 : st.is l [40]
      · rw [if_pos h1] at he
        rw [if_pos (S.fwd h h1)]
        have O := S.opened h (p := (st.now l).pos) (p' := (st'.now l').pos) (by have := h1.2.1; omega)
        rw [if_pos O.f] at he
        rw [if_pos O.f']
        obtain ⟨⟨s2, r2⟩, e1, e2⟩ := bind_some he
        simp only [Option.some.injEq, Prod.mk.injEq] at e2
        obtain ⟨rfl, rfl⟩ := e2
        have hfw : (s2.want l [41]).fe = 0 := hf
        by_cases h2 : (st.next.open (st.now l).pos).is l [41]
        · rw [if_pos h2] at e1
          rw [if_pos (O.fwd h h2)]
          cases e1
          have W := O.want h hfw
          exact ⟨_, rfl, W.close⟩
        · rw [if_neg h2] at e1
          have g1 := go_gr ht O.p e1 (Nat.zero_le 8)
          have hf2 := (Gr.want ht g1.1.pl (s := [41])).f hfw
          have hk : ((st.next.open (st.now l).pos).now l).kind ≠ 0 := by
            intro q
            cases k with
            | zero => cases e1
            | succ k =>
              simp only [goF] at e1
              rw [if_neg (by simp)] at e1
              obtain ⟨⟨s3, r3⟩, e3, e4⟩ := bind_some e1
              have g3 := go_gr ht O.p e3 trivial
              have n3 := end_expr ht O.p q e3
              simp only at e4
              rw [if_neg fun w => n3 w.1] at e4
              cases e4
              exact n3 hf2
          rw [if_neg fun q => h2 (O.back h (.inr hk) q)]
          obtain ⟨s2', e', S'⟩ := ih _ _ _ _ _ O e1 hf2 (Nat.zero_le 8) trivial
          have W := S'.want h hfw
          exact ⟨_, by rw [e', Option.bind_some], W.close⟩
      · rw [if_neg h1] at he
        cases he
        exact absurd hf (fail_fe (by decide))
    | argsL out =>
      simp only [goF] at he ⊢
      obtain ⟨⟨s2, r2⟩, e1, e2⟩ := bind_some he
      simp only at e2
      by_cases h8 : out.length = 8
      · rw [if_pos h8] at e1
        exfalso
        have g1 := go_gr ht (by rw [fail_pos.1]; exact S.p) e1 trivial
        have n2 : s2.fe ≠ 0 := fun q => absurd (g1.1.f q) (fail_fe (by decide))
        rw [if_neg fun w => n2 w.1] at e2
        cases e2
        exact n2 hf
      · rw [if_neg h8] at e1 ⊢
        have g1 := go_gr ht S.p e1 trivial
        have ho : out.length ≤ 8 := hm
        have hr : r2.length = 1 := g1.2.1
        by_cases h4 : s2.is l [44]
        · rw [if_pos h4] at e2
          obtain ⟨s2', e', S'⟩ := ih _ _ _ _ _ S e1 h4.1 trivial trivial
          obtain ⟨s3', e3, S3⟩ := ih _ _ _ _ _ (S'.next h (by have := h4.2.1; omega)) e2 hf (by simp only [Cmd.may, List.length_append]; omega) trivial
          exact ⟨s3', by rw [e', Option.bind_some]; simp only; rw [if_pos (S'.fwd h h4)]; exact e3, S3⟩
        · rw [if_neg h4] at e2
          cases e2
          obtain ⟨s2', e', S'⟩ := ih _ _ _ _ _ S e1 hf trivial trivial
          exact ⟨s2', by rw [e', Option.bind_some]; simp only; rw [if_neg fun q => h4 (S'.back h (.inl (by decide)) q)], S'⟩
end Go.Proofs.Ytjgbofonigpjaaa.Ev
end
section
namespace Go.Proofs.Ytjgbofonigpjaaa.Ev
set_option linter.unusedSimpArgs false
set_option linter.unusedVariables false
set_option maxHeartbeats 4000000
/-- So many brackets around the tokens. -/
structure Br (l l' : List Tok) (j : Nat) : Prop where
  sim : SimL l l' j
  ok : TokOk l'
  pre : ∀ i, i < j → (l'.getD i ⟨0, [], 0, 0⟩).kind = 4 ∧ (l'.getD i ⟨0, [], 0, 0⟩).text = [40]
  suf : ∀ i, i < j → (l'.getD (l.length - 1 + j + i) ⟨0, [], 0, 0⟩).kind = 4 ∧ (l'.getD (l.length - 1 + j + i) ⟨0, [], 0, 0⟩).text = [41]
  fin : (l'.getD (l.length - 1 + j + j) ⟨0, [], 0, 0⟩).kind = 0
  len : l'.length = l.length + j + j
  kinds : ∀ i, i + 1 < l.length → (l.getD i ⟨0, [], 0, 0⟩).kind ≠ 0
theorem now_at {l : List Tok} {st : RS} (h : st.pos < l.length) : st.now l = l.getD st.pos ⟨0, [], 0, 0⟩ := by
  unfold RS.now
  rw [show min st.pos (l.length - 1) = st.pos by omega]
theorem want_is {l : List Tok} {st : RS} {s : Txt} (h : st.is l s) : st.want l s = st.next := by unfold RS.want; rw [if_pos h]
theorem br_step {l l' : List Tok} {j : Nat} (h : Br l l' j) {x : Int} {tr : List Nd} {k i : Nat} (hi : i < j) {s : RS} (he : goF l' k .expr ⟨j - i, ((j - i : Nat) : Int), [], [], 0, 0⟩ = some (s, [x])) (hf : s.fe = 0) (hp : s.pos = l.length - 1 + j + i) (ht : s.tree.map Nd.core = tr) :
    ∃ s', goF l' (k + 5) .expr ⟨j - (i + 1), ((j - (i + 1) : Nat) : Int), [], [], 0, 0⟩ = some (s', [x]) ∧ s'.fe = 0 ∧ s'.pos = l.length - 1 + j + (i + 1) ∧ s'.tree.map Nd.core = tr := by
  have hl := h.len
  have h0 := h.sim.ok.pos
  have hs := h.sim.small
  generalize hst : (⟨j - (i + 1), ((j - (i + 1) : Nat) : Int), [], [], 0, 0⟩ : RS) = st
  have sp : st.pos = j - (i + 1) := by rw [← hst]
  have sf : st.fe = 0 := by rw [← hst]
  obtain ⟨n1, n2⟩ := h.pre (j - (i + 1)) (by omega)
  rw [← sp, ← now_at (by omega)] at n1 n2
  have i40 : st.is l' [40] := ⟨sf, by omega, n2⟩
  have ni : ∀ s, s ≠ [40] → ¬ st.is l' s := fun s q w => q (w.2.2.symm.trans n2)
  have ho : ∀ p, st.next.open p = ⟨j - i, ((j - i : Nat) : Int), [], [], 0, 0⟩ := fun p => by
    have d1 : st.next.deep = ((j - (i + 1) : Nat) : Int) := by rw [← hst]; rfl
    unfold RS.open
    rw [if_neg (by rw [d1]; omega), ← hst]
    simp only [RS.next, RS.mk.injEq, and_true, true_and]
    omega
  obtain ⟨c1, c2⟩ := h.suf i hi
  rw [← hp, ← now_at (by omega)] at c1 c2
  have i41 : s.is l' [41] := ⟨hf, by omega, c2⟩
  have hw := want_is i41
  have e1 : goF l' (k + 1) (.inner [40] [41]) st = some (s.next.close, [x]) := by
    simp only [goF]
    rw [if_pos i40, ho, if_pos rfl, he, Option.bind_some, hw]
    have : s.next.fe = 0 := hf
    simp only [this, if_true]
  have e2 : goF l' (k + 2) .atom st = some (s.next.close, [x]) := by
    simp only [goF]
    rw [if_neg (by simp only [sf, not_true_eq_false, not_false_eq_true]), if_pos i40]
    exact e1
  have q1 : s.next.close.pos = l.length - 1 + j + (i + 1) := by simp only [RS.next, RS.close]; omega
  have q2 : (s.next.close.now l').kind = 0 ∨ (s.next.close.now l').kind = 4 ∧ (s.next.close.now l').text = [41] := by
    rw [now_at (by omega), q1]
    by_cases q : i + 1 < j
    · exact .inr (h.suf _ q)
    · have : i + 1 = j := by omega
      rw [this]; exact .inl h.fin
  have e3 : goF l' (k + 2) (.cellsL x) s.next.close = some (s.next.close, [x]) := by
    simp only [goF]
    rw [if_neg]
    rintro ⟨w1, w2, w3⟩
    rcases q2 with q | q
    · omega
    · rw [q.2] at w3; cases w3
  have e4 : goF l' (k + 3) .front st = some (s.next.close, [x]) := by
    simp only [goF]
    rw [if_neg (ni _ (by decide)), if_neg (ni _ (by decide))]
    have e2' := e2
    simp only [goF] at e2' e3
    rw [e2', Option.bind_some]
    exact e3
  have e5 : goF l' (k + 3) (.climbL 1 6 x) s.next.close = some (s.next.close, [x]) := by
    simp only [goF]
    rw [if_neg]
    rintro ⟨w1, w2⟩
    rcases q2 with q | q
    · omega
    · rw [q.2] at w2
      exact w2 (.inl (.inl (.inr (by decide))))
  have e6 : goF l' (k + 4) (.climb 1) st = some (s.next.close, [x]) := by
    have : goF l' (k + 4) (.climb 1) st = (goF l' (k + 3) .front st).bind fun (s1, r) => goF l' (k + 3) (.climbL 1 6 (r.headD 0)) s1 := rfl
    rw [this, e4, Option.bind_some]
    exact e5
  refine ⟨s.next.close, ?_, hf, q1, ht⟩
  have : goF l' (k + 5) .expr st = (goF l' (k + 4) (.climb 1) st).bind fun (s1, r) => some (s1, if s1.fe = 0 then r else [-1]) := rfl
  rw [this, e6, Option.bind_some]
  have : s.next.close.fe = 0 := hf
  simp only [this, if_true]
theorem br_all {l l' : List Tok} {j : Nat} (h : Br l l' j) {x : Int} {tr : List Nd} {k : Nat} {s : RS} (he : goF l' k .expr ⟨j, (j : Int), [], [], 0, 0⟩ = some (s, [x])) (hf : s.fe = 0) (hp : s.pos = l.length - 1 + j) (ht : s.tree.map Nd.core = tr) : ∀ i, i ≤ j →
    ∃ k s', goF l' k .expr ⟨j - i, ((j - i : Nat) : Int), [], [], 0, 0⟩ = some (s', [x]) ∧ s'.fe = 0 ∧ s'.pos = l.length - 1 + j + i ∧ s'.tree.map Nd.core = tr
  | 0, _ => ⟨k, s, he, hf, hp, ht⟩
  | i + 1, hi => by
    obtain ⟨k1, s1, a1, a2, a3, a4⟩ := br_all h he hf hp ht i (by omega)
    obtain ⟨s2, b⟩ := br_step h (by omega) a1 a2 a3 a4
    exact ⟨_, s2, b⟩
theorem parseF_eq {l : List Tok} {s : RS} {r : List Int} (h : goF l (8 * l.length + 5) .expr .start = some (s, r)) : parseF l = if (s.now l).kind = 0 then s else s.fail 8 (s.now l).pos := by
  unfold parseF; rw [h]
theorem br_parse {l l' : List Tok} {j : Nat} (h : Br l l' j) (hf : (parseF l).fe = 0) : (parseF l').fe = 0 ∧ (parseF l').tree.map Nd.core = (parseF l).tree.map Nd.core := by
  have ht := h.sim.ok
  have hpos := ht.pos
  obtain ⟨s1, r, e, g, ar, _⟩ := go_ok ht (8 * l.length + 5) .expr .start (start_ok ht).p (by simp only [RS.start, Cmd.rank]; omega) trivial
  obtain ⟨x, rfl⟩ := one_of' ar
  rw [parseF_eq e] at hf ⊢
  by_cases hk : (s1.now l).kind = 0
  · rw [if_pos hk] at hf ⊢
    have hp1 : s1.pos = l.length - 1 := by
      refine Classical.byContradiction fun q => ?_
      have := g.pl
      rw [now_at g.pl] at hk
      exact h.kinds _ (by omega) hk
    have S0 : StSim l j .start ⟨j, (j : Int), [], [], 0, 0⟩ := ⟨(Nat.zero_add j).symm, (Int.zero_add _).symm, rfl, rfl, rfl, rfl, Int.le_refl _, (start_ok ht).p⟩
    obtain ⟨s', e', S'⟩ := go_sim h.sim _ _ _ _ _ _ S0 e hf trivial trivial
    obtain ⟨k, s2, a1, a2, a3, a4⟩ := br_all h e' S'.f' (by rw [S'.pos, hp1]) S'.tree j (Nat.le_refl j)
    rw [Nat.sub_self] at a1
    have e2 := Ends.parse h.ok ⟨k, a1⟩
    have e3 := parseF_eq e2
    have hk2 : (s2.now l').kind = 0 := by
      rw [now_at (by rw [a3, h.len]; omega), a3]; exact h.fin
    rw [e3, if_pos hk2]
    exact ⟨a2, a4⟩
  · rw [if_neg hk] at hf
    exact absurd hf (fail_fe (by decide))
end Go.Proofs.Ytjgbofonigpjaaa.Ev
end
section
namespace Go.Proofs.Ytjgbofonigpjaaa.Ev
set_option linter.unusedSimpArgs false
set_option linter.unusedVariables false
set_option maxHeartbeats 4000000
def Tok.move (d : Nat) (t : Tok) : Tok := { t with pos := t.pos + d }
theorem oneF_move {s : Txt} {p d : Nat} {t : Tok} (hs : s ≠ []) (h : oneF s p = .ok t) : oneF s (p + d) = .ok (t.move d) ∧ t.kind ≠ 0 := by
  have hl := List.length_pos_iff.2 hs
  rw [oneF_eq hl] at h ⊢
  by_cases h1 : DigitP (cI s[0])
  · rw [if_pos h1] at h ⊢
    unfold numT at h ⊢
    cases hn : numF 0 (s.take (lead DigitP s)) <;> rw [hn] at h <;> cases h
    exact ⟨rfl, fun q => by cases q⟩
  · rw [if_neg h1] at h ⊢
    by_cases h2 : 0 < wordF s ∧ s.take (wordF s) ∈ wordsL
    · rw [if_pos h2] at h ⊢; cases h; exact ⟨rfl, fun q => by cases q⟩
    · rw [if_neg h2] at h ⊢
      by_cases h3 : 32 < wordF s
      · rw [if_pos h3] at h; cases h
      · rw [if_neg h3] at h ⊢
        by_cases h4 : 0 < wordF s
        · rw [if_pos h4] at h ⊢; cases h; exact ⟨rfl, fun q => by cases q⟩
        · rw [if_neg h4] at h ⊢
          by_cases h5 : signF s = 0
          · rw [if_pos h5] at h; cases h
          · rw [if_neg h5] at h ⊢; cases h; exact ⟨rfl, fun q => by cases q⟩
theorem toksF_move {d : Nat} : ∀ (k : Nat) (s : Txt) (p : Nat) (l : List Tok), toksF k s p = .ok l → toksF k s (p + d) = .ok (l.map (Tok.move d)) ∧ ∀ t ∈ l, t.kind ≠ 0
  | 0, s, p, l, h => by simp only [toksF] at h; cases h
  | k + 1, s, p, l, h => by
    by_cases hs : s = []
    · subst hs; simp only [toksF] at h ⊢; cases h; exact ⟨rfl, fun t ht => by cases ht⟩
    rw [toksF_cons hs] at h ⊢
    cases ho : oneF s p with
    | bad e q => rw [ho] at h; cases h
    | ok t =>
      rw [ho] at h
      obtain ⟨o1, o2⟩ := oneF_move (d := d) hs ho
      rw [o1]
      simp only at h ⊢
      have et : (t.move d).text = t.text := rfl
      rw [et]
      cases hr : toksF k ((s.drop t.text.length).drop (skipF false (s.drop t.text.length))) (p + t.text.length + skipF false (s.drop t.text.length)) with
      | bad e q => rw [hr] at h; cases h
      | ok l2 =>
        rw [hr] at h
        cases h
        obtain ⟨r1, r2⟩ := toksF_move (d := d) k _ _ _ hr
        rw [show p + d + t.text.length + skipF false (s.drop t.text.length) = p + t.text.length + skipF false (s.drop t.text.length) + d by omega, r1]
        refine ⟨rfl, fun t' ht' => ?_⟩
        rcases List.mem_cons.1 ht' with rfl | ht'
        · exact o2
        · exact r2 t' ht'
/-- The tokens of a text that begins at a place. -/
def textF (p : Nat) (s : Txt) : Res (List Tok) := toksF (s.length + 1) (s.drop (skipF false s)) (p + skipF false s)
theorem lexF_text {s : Txt} (h : s.length ≤ 65536) : lexF s = (textF 0 s).map (· ++ [⟨0, [], 0, s.length⟩]) := by
  unfold lexF textF
  rw [if_neg (by omega), Nat.zero_add]
theorem one_br {c : UInt8} (hc : c = 40 ∨ c = 41) (s : Txt) (p : Nat) : oneF (c :: s) p = .ok ⟨4, [c], 0, p⟩ := by
  have hd : ¬ DigitP (cI c) := by rcases hc with rfl | rfl <;> decide
  have hL : ¬ LetterP (cI c) := by rcases hc with rfl | rfl <;> decide
  have hw : wordF (c :: s) = 0 := by simp only [wordF]; rw [if_neg hL]
  have hs : signF (c :: s) = 1 := by
    unfold signF
    rw [if_neg, if_pos]
    · exact ⟨c, by rcases hc with rfl | rfl <;> decide, rfl⟩
    · rintro ⟨_, q⟩
      cases s with
      | nil => rcases hc with rfl | rfl <;> simp [twoL] at q
      | cons d s => rcases hc with rfl | rfl <;> simp [twoL] at q
  rw [oneF_eq (by simp)]
  simp only [List.getElem_cons_zero]
  rw [if_neg hd, hw, if_neg (by omega), if_neg (by omega), if_neg (by omega), hs, if_neg (by decide)]
  rfl
theorem skip_br {c : UInt8} (hc : c = 40 ∨ c = 41) (s : Txt) : skipF false (c :: s) = 0 := by
  have : skipF false (c :: s) = if (if cI c = 10 then false else if cI c = 35 then true else false) = false ∧ ¬ BlankP (cI c) then 0 else 1 + skipF (if cI c = 10 then false else if cI c = 35 then true else false) s := rfl
  rw [this, if_pos]
  rcases hc with rfl | rfl <;> decide
theorem textF_br {c : UInt8} (hc : c = 40 ∨ c = 41) (s : Txt) (p : Nat) : textF p (c :: s) = (textF (p + 1) s).map (⟨4, [c], 0, p⟩ :: ·) := by
  have hle := skipF_le s false
  unfold textF
  rw [skip_br hc, List.drop_zero, toksF_cons (by simp), Nat.add_zero, one_br hc]
  simp only [List.length_cons, List.length_nil, Nat.zero_add, List.drop_succ_cons, List.drop_zero]
def brs (c : UInt8) : Nat → Nat → List Tok
  | 0, _ => []
  | j + 1, p => ⟨4, [c], 0, p⟩ :: brs c j (p + 1)
theorem brs_len {c : UInt8} : ∀ (j p : Nat), (brs c j p).length = j
  | 0, _ => rfl
  | j + 1, p => by simp only [brs, List.length_cons, brs_len j]
theorem brs_at {c : UInt8} : ∀ (j p i : Nat), i < j → (brs c j p)[i]? = some ⟨4, [c], 0, p + i⟩
  | 0, _, i, h => by omega
  | j + 1, p, 0, _ => rfl
  | j + 1, p, i + 1, h => by
    rw [brs, List.getElem?_cons_succ, brs_at j (p + 1) i (by omega), show p + 1 + i = p + (i + 1) by omega]
theorem textF_brs {c : UInt8} (hc : c = 40 ∨ c = 41) (s : Txt) : ∀ (j p : Nat), textF p (List.replicate j c ++ s) = (textF (p + j) s).map (brs c j p ++ ·)
  | 0, p => by
    have : ∀ x : Res (List Tok), x.map (fun a => a) = x := fun x => by cases x <;> rfl
    simp only [List.replicate_zero, List.nil_append, brs, Nat.add_zero, this]
  | j + 1, p => by
    rw [List.replicate_succ, List.cons_append, textF_br hc, textF_brs hc s j, Res.map_map, show p + 1 + j = p + (j + 1) by omega]
    rfl
theorem textF_nil (p : Nat) : textF p [] = .ok [] := rfl
theorem textF_line {s rest : Txt} {l : List Tok} (p : Nat) (h : textF 0 s = .ok l) : textF p (s ++ 10 :: rest) = (textF (p + s.length + 1) rest).map (l.map (Tok.move p) ++ ·) ∧ ∀ t ∈ l, t.kind ≠ 0 := by
  have hle := skipF_le s false
  have hr := skipF_le rest false
  unfold textF at h ⊢
  rw [Nat.zero_add] at h
  obtain ⟨m1, m2⟩ := toksF_move (d := p) _ _ _ _ h
  refine ⟨?_, m2⟩
  rw [skipF_close]
  by_cases hz : skipF false s = s.length
  · rw [if_pos hz]
    rw [hz, List.drop_length] at h
    simp only [toksF] at h
    cases h
    have e1 : (s ++ 10 :: rest).drop (s.length + 1 + skipF false rest) = rest.drop (skipF false rest) := by
      rw [Nat.add_assoc, ← List.drop_drop, List.drop_left, Nat.add_comm]; rfl
    have : ∀ x : Res (List Tok), x.map (fun a => List.map (Tok.move p) [] ++ a) = x := fun x => by cases x <;> rfl
    rw [e1, this, toksF_fuel _ (rest.length + 1) _ _ (by rw [List.length_drop, List.length_append, List.length_cons]; omega) (by rw [List.length_drop]; omega)]
    rw [show p + (s.length + 1 + skipF false rest) = p + s.length + 1 + skipF false rest by omega]
  · rw [if_neg hz]
    have hne : s.drop (skipF false s) ≠ [] := by
      intro q; have := congrArg List.length q; rw [List.length_drop, List.length_nil] at this; omega
    rw [List.drop_append_of_le_length hle]
    rw [show p + skipF false s = skipF false s + p by omega, toksF_close _ _ _ _ hne m1 _ (by rw [List.length_append, List.length_drop, List.length_append, List.length_cons]; omega)]
    rw [List.length_drop, show skipF false s + p + (s.length - skipF false s) + 1 + skipF false rest = p + s.length + 1 + skipF false rest by omega]
/-- A text with brackets around it. -/
def brText (j : Nat) (s : Txt) : Txt := List.replicate j 40 ++ (s ++ 10 :: (List.replicate j 41 ++ []))
theorem brText_len (j : Nat) (s : Txt) : (brText j s).length = s.length + 1 + j + j := by
  unfold brText
  simp only [List.length_append, List.length_replicate, List.length_cons, List.length_nil]; omega
theorem lex_br {s : Txt} {l : List Tok} {j : Nat} (hl : s.length ≤ 150) (hj : j ≤ 4) (h : lexF s = .ok l) : ∃ l', lexF (brText j s) = .ok l' ∧ Br l l' j := by
  obtain ⟨ht, _, hll⟩ := lex_good h
  rw [lexF_text (by omega)] at h
  cases hb : textF 0 s with
  | bad e q => rw [hb] at h; cases h
  | ok body =>
    rw [hb] at h
    simp only [Res.map, Res.ok.injEq] at h
    obtain ⟨t1, t2⟩ := textF_line (rest := List.replicate j 41 ++ []) j hb
    have e : lexF (brText j s) = .ok ((brs 40 j 0 ++ (body.map (Tok.move j) ++ (brs 41 j (j + s.length + 1) ++ []))) ++ [⟨0, [], 0, (brText j s).length⟩]) := by
      rw [lexF_text (by rw [brText_len]; omega)]
      have : textF 0 (brText j s) = .ok (brs 40 j 0 ++ (body.map (Tok.move j) ++ (brs 41 j (j + s.length + 1) ++ []))) := by
        unfold brText
        rw [textF_brs (.inl rfl), Nat.zero_add, t1, textF_brs (.inr rfl), textF_nil]
        rfl
      rw [this]; rfl
    refine ⟨_, e, ?_⟩
    obtain ⟨ht', _, _⟩ := lex_good e
    generalize hE : (⟨0, [], 0, (brText j s).length⟩ : Tok) = E at *
    have kE : E.kind = 0 := by rw [← hE]
    have hlen : l.length = body.length + 1 := by rw [← h, List.length_append]; rfl
    have b1 := brs_len (c := 40) j 0
    have b2 := brs_len (c := 41) j (j + s.length + 1)
    have at1 : ∀ i, i < j → ((brs 40 j 0 ++ (body.map (Tok.move j) ++ (brs 41 j (j + s.length + 1) ++ []))) ++ [E]).getD i ⟨0, [], 0, 0⟩ = ⟨4, [40], 0, 0 + i⟩ := fun i hi => by
      rw [List.getD_eq_getElem?_getD, List.append_assoc, List.getElem?_append_left (by omega), brs_at _ _ _ hi]; rfl
    have at2 : ∀ i, i < body.length → ((brs 40 j 0 ++ (body.map (Tok.move j) ++ (brs 41 j (j + s.length + 1) ++ []))) ++ [E]).getD (i + j) ⟨0, [], 0, 0⟩ = (body.getD i ⟨0, [], 0, 0⟩).move j := fun i hi => by
      rw [List.getD_eq_getElem?_getD, List.getD_eq_getElem?_getD, List.append_assoc, List.getElem?_append_right (by omega), b1, Nat.add_sub_cancel, List.append_assoc, List.getElem?_append_left (by rw [List.length_map]; exact hi), List.getElem?_map, List.getElem?_eq_getElem hi]; rfl
    have at3 : ∀ i, i < j → ((brs 40 j 0 ++ (body.map (Tok.move j) ++ (brs 41 j (j + s.length + 1) ++ []))) ++ [E]).getD (body.length + j + i) ⟨0, [], 0, 0⟩ = ⟨4, [41], 0, j + s.length + 1 + i⟩ := fun i hi => by
      rw [List.getD_eq_getElem?_getD, List.append_assoc, List.getElem?_append_right (by omega), b1, List.append_assoc, List.getElem?_append_right (by rw [List.length_map]; omega), List.length_map, show body.length + j + i - j - body.length = i by omega, List.append_nil, List.getElem?_append_left (by omega), brs_at _ _ _ hi]; rfl
    have at4 : ((brs 40 j 0 ++ (body.map (Tok.move j) ++ (brs 41 j (j + s.length + 1) ++ []))) ++ [E]).getD (body.length + j + j) ⟨0, [], 0, 0⟩ = E := by
      have hL : (brs 40 j 0 ++ (body.map (Tok.move j) ++ (brs 41 j (j + s.length + 1) ++ []))).length = body.length + j + j := by
        simp only [List.length_append, List.length_map, b1, b2, List.length_nil]; omega
      rw [List.getD_eq_getElem?_getD, List.getElem?_append_right (by omega), hL, Nat.sub_self]; rfl
    have hL' : ((brs 40 j 0 ++ (body.map (Tok.move j) ++ (brs 41 j (j + s.length + 1) ++ []))) ++ [E]).length = body.length + 1 + j + j := by
      simp only [List.length_append, List.length_map, b1, b2, List.length_nil, List.length_singleton]; omega
    have la : ∀ i, i < body.length → l.getD i ⟨0, [], 0, 0⟩ = body.getD i ⟨0, [], 0, 0⟩ := fun i hi => by
      rw [← h, List.getD_eq_getElem?_getD, List.getElem?_append_left hi, List.getD_eq_getElem?_getD]
    generalize ((brs 40 j 0 ++ (body.map (Tok.move j) ++ (brs 41 j (j + s.length + 1) ++ []))) ++ [E]) = l' at *
    refine ⟨⟨ht, by omega, by omega, fun i hi => ?_, ?_⟩, ht', fun i hi => ?_, fun i hi => ?_, ?_, by omega, fun i hi => ?_⟩
    · rw [la i (by omega), at2 i (by omega)]
      exact ⟨rfl, rfl, rfl⟩
    · rw [hlen, Nat.add_sub_cancel]
      by_cases q : j = 0
      · have := at4
        rw [q] at this ⊢
        rw [this]; exact .inl kE
      · have := at3 0 (by omega)
        rw [Nat.add_zero] at this
        rw [this]; exact .inr ⟨rfl, rfl⟩
    · rw [at1 i hi]; exact ⟨rfl, rfl⟩
    · rw [hlen, Nat.add_sub_cancel, at3 i hi]; exact ⟨rfl, rfl⟩
    · rw [hlen, Nat.add_sub_cancel, at4]; exact kE
    · rw [la i (by omega), List.getD_eq_getElem?_getD, List.getElem?_eq_getElem (by omega)]
      exact t2 _ (List.getElem_mem _)
theorem TokSim.symm {t t' : Tok} (h : TokSim t t') : TokSim t' t := ⟨h.kind.symm, h.text.symm, h.n.symm⟩
/-- Without brackets the text is read asx before. -/
theorem br_zero {l l' : List Tok} (h : Br l l' 0) : Br l' l 0 := by
  have e := h.len
  have hp := h.sim.ok.pos
  have hs := h.sim.small
  have hlast : l'.length - 1 = l.length - 1 := by omega
  refine ⟨⟨h.ok, by omega, by omega, fun i hi => (h.sim.tok i (by omega)).symm, ?_⟩, h.sim.ok, fun i hi => by omega, fun i hi => by omega, ?_, by omega, fun i hi => ?_⟩
  · rw [hlast]; exact .inl h.sim.ok.last
  · rw [hlast]; exact h.sim.ok.last
  · have := (h.sim.tok i (by omega)).kind
    rw [Nat.add_zero] at this
    rw [this]; exact h.kinds i (by omega)
end Go.Proofs.Ytjgbofonigpjaaa.Ev
end
section
namespace Go.Proofs.Ytjgbofonigpjaaa.Ev
open Go
set_option linter.unusedSimpArgs false
set_option linter.unusedVariables false
set_option maxRecDepth 10000
set_option maxHeartbeats 4000000
theorem bin_cat2 {a b : List UInt8} (h : a.length + b.length ≤ 4294967296) : evBin .add (.str a) (.str b) = some (.str (a ++ b)) := by rw [bin_cat, Nat.ble_eq_true_of_le h]; rfl
theorem sameInts_loop {A : List Int} {t t' : Nat} {nl nl' : Bool} (hl : A.length < 1000000000) {m0 : Mem} {fr : Fr} (h0 : fr.get 0 = row nl t 1 (ints A)) (h1 : fr.get 1 = row nl' t' 1 (ints A)) (h5 : fr.get 5 = .int .i64 0) (hd : fr.defers = []) :
    ∃ o, exec U (.loop F_base_SameInts_l0) fr m0 = some o ∧ ∃ fr' m', o = .exit 0 fr' m' ∧ fr'.defers = [] := by
  refine loop_w (σ := Nat) (fun i fr m => i ≤ A.length ∧ fr.get 0 = row nl t 1 (ints A) ∧ fr.get 1 = row nl' t' 1 (ints A) ∧ fr.get 5 = .int .i64 (i : Int) ∧ fr.defers = []) (fun i => A.length - i) _ ?_ 0 fr m0 ⟨Nat.zero_le _, h0, h1, h5, hd⟩
  rintro i fr m ⟨hi, h0, h1, h5, hd⟩
  generalize hX : exec U F_base_SameInts_l0 fr m = X
  by_cases hlt : i < A.length
  · have hc : (i : Int) < (A.length : Int) := by omega
    have hg : A[i]? = some A[i] := List.getElem?_eq_getElem hlt
    have hw1 := wrap_succ (i := i) (by omega)
    simp +contextual -implicitDefEqProofs (maxSteps := 1000000) (maxDischargeDepth := 8) only [F_base_SameInts_l0, h0, h1, h5, hd, hc, hg, hlt, hw1, idx_cast, ints_get, ints_len, zz0, zz1, zz2, zz3, zz4, zz5, zz6, zz7, zz8, zz9, argsF, reduceIte, reduceCtorEq, Nat.reduceEqDiff, Nat.reduceBEq, Nat.reduceAdd, Int.reduceLT, Int.reduceLE, Int.reduceEq, Int.reduceToNat, Int.reduceNeg, Nat.reduceLeDiff, Int.reducePow, implies_true, UInt8.reduceToNat, Int.reduceSub, Int.reduceAdd, Nat.reduceLT, Nat.reduceMul, Nat.reduceSub, Nat.reduceBNe] at hX
    subst hX
    exact lw_norm (i + 1) (by omega) ⟨hlt, by simp only [h0, get_set', selE_t, selE_f, Nat.reduceBEq, set_defers, fr00_get, fr00_defers, put_some, put_none ], by simp only [h1, get_set', selE_t, selE_f, Nat.reduceBEq, set_defers, fr00_get, fr00_defers, put_some, put_none ], by simp only [get_set', selE_t, selE_f, Nat.reduceBEq, set_defers, fr00_get, fr00_defers, put_some, put_none ], by simp only [hd, get_set', selE_t, selE_f, Nat.reduceBEq, set_defers, fr00_get, fr00_defers, put_some, put_none ]⟩
  · have hc : ¬ ((i : Int) < (A.length : Int)) := by omega
    simp +contextual -implicitDefEqProofs (maxSteps := 1000000) (maxDischargeDepth := 8) only [F_base_SameInts_l0, h0, h1, h5, hd, hc, ints_len, zz0, zz1, zz2, zz3, zz4, zz5, zz6, zz7, zz8, zz9, argsF, reduceIte, reduceCtorEq, Nat.reduceEqDiff, Nat.reduceBEq, Nat.reduceAdd, Int.reduceLT, Int.reduceLE, Int.reduceEq, Int.reduceToNat, Int.reduceNeg, Nat.reduceLeDiff, Int.reducePow, implies_true, UInt8.reduceToNat, Int.reduceSub, Int.reduceAdd, Nat.reduceLT, Nat.reduceMul, Nat.reduceSub, Nat.reduceBNe] at hX
    subst hX
    exact lw_exit ⟨_, _, rfl, by simp only [hd, get_set', selE_t, selE_f, Nat.reduceBEq, set_defers, fr00_get, fr00_defers, put_some, put_none ]⟩
theorem sameInts_eq {A : List Int} {t t' : Nat} {nl nl' : Bool} (hl : A.length < 1000000000) : pureR B K n_base_SameInts [row nl t 1 (ints A), row nl' t' 1 (ints A)] = some (.bool true) := by
  rw [pure_at (by simp [F_base_SameInts])]
  generalize hL : exec (UT B K) (ICode.loop F_base_SameInts_l0) = L
  simp +contextual -implicitDefEqProofs (maxSteps := 1000000) (maxDischargeDepth := 8) only [F_base_SameInts, ints_len, zz0, zz1, zz2, zz3, zz4, zz5, zz6, zz7, zz8, zz9, argsF, reduceIte, reduceCtorEq, Nat.reduceEqDiff, Nat.reduceBEq, Nat.reduceAdd, Int.reduceLT, Int.reduceLE, Int.reduceEq, Int.reduceToNat, Int.reduceNeg, Nat.reduceLeDiff, Int.reducePow, implies_true, UInt8.reduceToNat, Int.reduceSub, Int.reduceAdd, Nat.reduceLT, Nat.reduceMul, Nat.reduceSub, Nat.reduceBNe]
  subst hL
  generalize hX : exec _ (.loop F_base_SameInts_l0) _ _ = X
  obtain ⟨o, rfl, fr', m', rfl, hd⟩ := looped hX (sameInts_loop (A := A) (nl := nl) (t := t) (nl' := nl') (t' := t') hl (by simp only [get_set', selE_t, selE_f, Nat.reduceBEq, set_defers, fr00_get, fr00_defers, put_some, put_none ]) (by simp only [get_set', selE_t, selE_f, Nat.reduceBEq, set_defers, fr00_get, fr00_defers, put_some, put_none ]) (by simp only [get_set', selE_t, selE_f, Nat.reduceBEq, set_defers, fr00_get, fr00_defers, put_some, put_none ]) (by simp only [get_set', selE_t, selE_f, Nat.reduceBEq, set_defers, fr00_get, fr00_defers, put_some, put_none ]))
  simp +contextual -implicitDefEqProofs (maxSteps := 1000000) (maxDischargeDepth := 8) only [hd, zz0, zz1, zz2, zz3, zz4, zz5, zz6, zz7, zz8, zz9, argsF, reduceIte, reduceCtorEq, Nat.reduceEqDiff, Nat.reduceBEq, Nat.reduceAdd, Int.reduceLT, Int.reduceLE, Int.reduceEq, Int.reduceToNat, Int.reduceNeg, Nat.reduceLeDiff, Int.reducePow, implies_true, UInt8.reduceToNat, Int.reduceSub, Int.reduceAdd, Nat.reduceLT, Nat.reduceMul, Nat.reduceSub, Nat.reduceBNe]
theorem sameNodes_loop {A A' : List Nd} {t t' : Nat} (hA : A'.map Nd.core = A.map Nd.core) (hl : A.length < 1000000000) (hk : ∀ d ∈ A, d.kids.length < 1000000000) {m0 : Mem} {fr : Fr} (h0 : fr.get 0 = .fz t 5 (nds A)) (h1 : fr.get 1 = .fz t' 5 (nds A')) (h5 : fr.get 5 = .int .i64 0) (hd : fr.defers = []) :
    ∃ o, exec U (.loop F_base_SameNodes_l0) fr m0 = some o ∧ ∃ fr' m', o = .exit 0 fr' m' ∧ fr'.defers = [] := by
  have hlen : A'.length = A.length := by have := congrArg List.length hA; rwa [List.length_map, List.length_map] at this
  refine loop_w (σ := Nat) (fun i fr m => i ≤ A.length ∧ fr.get 0 = .fz t 5 (nds A) ∧ fr.get 1 = .fz t' 5 (nds A') ∧ fr.get 5 = .int .i64 (i : Int) ∧ fr.defers = []) (fun i => A.length - i) _ ?_ 0 fr m0 ⟨Nat.zero_le _, h0, h1, h5, hd⟩
  rintro i fr m ⟨hi, h0, h1, h5, hd⟩
  generalize hX : exec U F_base_SameNodes_l0 fr m = X
  by_cases hlt : i < A.length
  · have hc : (i : Int) < (A.length : Int) := by omega
    have hlt' : i < A'.length := by omega
    have hg : A[i]? = some A[i] := List.getElem?_eq_getElem hlt
    have hg' : A'[i]? = some A'[i] := List.getElem?_eq_getElem hlt'
    have hw1 := wrap_succ (i := i) (by omega)
    have hcore : A'[i].core = A[i].core := by
      have := congrArg (fun l => l[i]?) hA
      simp only [List.getElem?_map, hg, hg', Option.map_some, Option.some.injEq] at this
      exact this
    have hki := hk _ (List.getElem_mem hlt)
    have c1 : A'[i].kind = A[i].kind := by have := congrArg Nd.kind hcore; exact this
    have c2 : A'[i].kids = A[i].kids := by have := congrArg Nd.kids hcore; exact this
    have c3 : A'[i].n = A[i].n := by have := congrArg Nd.n hcore; exact this
    have c4 : A'[i].s = A[i].s := by have := congrArg Nd.s hcore; exact this
    generalize A[i] = d at *
    generalize A'[i] = d' at *
    have hs := sameInts_eq (A := d.kids) (t := 1) (t' := 2) (nl := d.nl) (nl' := d'.nl) hki
    simp +contextual -implicitDefEqProofs (maxSteps := 1000000) (maxDischargeDepth := 8) only [F_base_SameNodes_l0, h0, h1, h5, hd, hc, hg, hg', hlt, hlt', hlen, hw1, c1, c2, c3, c4, hs, Nd.cells, idx_cast, nds_get, nds_len, zz0, zz1, zz2, zz3, zz4, zz5, zz6, zz7, zz8, zz9, argsF, reduceIte, reduceCtorEq, Nat.reduceEqDiff, Nat.reduceBEq, Nat.reduceAdd, Int.reduceLT, Int.reduceLE, Int.reduceEq, Int.reduceToNat, Int.reduceNeg, Nat.reduceLeDiff, Int.reducePow, implies_true, UInt8.reduceToNat, Int.reduceSub, Int.reduceAdd, Nat.reduceLT, Nat.reduceMul, Nat.reduceSub, Nat.reduceBNe] at hX
    subst hX
    exact lw_norm (i + 1) (by omega) ⟨hlt, by simp only [h0, get_set', selE_t, selE_f, Nat.reduceBEq, set_defers, fr00_get, fr00_defers, put_some, put_none ], by simp only [h1, get_set', selE_t, selE_f, Nat.reduceBEq, set_defers, fr00_get, fr00_defers, put_some, put_none ], by simp only [get_set', selE_t, selE_f, Nat.reduceBEq, set_defers, fr00_get, fr00_defers, put_some, put_none ], by simp only [hd, get_set', selE_t, selE_f, Nat.reduceBEq, set_defers, fr00_get, fr00_defers, put_some, put_none ]⟩
  · have hc : ¬ ((i : Int) < (A.length : Int)) := by omega
    simp +contextual -implicitDefEqProofs (maxSteps := 1000000) (maxDischargeDepth := 8) only [F_base_SameNodes_l0, h0, h1, h5, hd, hc, nds_len, zz0, zz1, zz2, zz3, zz4, zz5, zz6, zz7, zz8, zz9, argsF, reduceIte, reduceCtorEq, Nat.reduceEqDiff, Nat.reduceBEq, Nat.reduceAdd, Int.reduceLT, Int.reduceLE, Int.reduceEq, Int.reduceToNat, Int.reduceNeg, Nat.reduceLeDiff, Int.reducePow, implies_true, UInt8.reduceToNat, Int.reduceSub, Int.reduceAdd, Nat.reduceLT, Nat.reduceMul, Nat.reduceSub, Nat.reduceBNe] at hX
    subst hX
    exact lw_exit ⟨_, _, rfl, by simp only [hd, get_set', selE_t, selE_f, Nat.reduceBEq, set_defers, fr00_get, fr00_defers, put_some, put_none ]⟩
theorem sameNodes_eq {A A' : List Nd} {t t' : Nat} (hA : A'.map Nd.core = A.map Nd.core) (hl : A.length < 1000000000) (hk : ∀ d ∈ A, d.kids.length < 1000000000) : pureR B K n_base_SameNodes [.fz t 5 (nds A), .fz t' 5 (nds A')] = some (.bool true) := by
  have hlen : A'.length = A.length := by have := congrArg List.length hA; rwa [List.length_map, List.length_map] at this
  rw [pure_at (by simp [F_base_SameNodes])]
  generalize hL : exec (UT B K) (ICode.loop F_base_SameNodes_l0) = L
  simp +contextual -implicitDefEqProofs (maxSteps := 1000000) (maxDischargeDepth := 8) only [F_base_SameNodes, nds_len, hlen, zz0, zz1, zz2, zz3, zz4, zz5, zz6, zz7, zz8, zz9, argsF, reduceIte, reduceCtorEq, Nat.reduceEqDiff, Nat.reduceBEq, Nat.reduceAdd, Int.reduceLT, Int.reduceLE, Int.reduceEq, Int.reduceToNat, Int.reduceNeg, Nat.reduceLeDiff, Int.reducePow, implies_true, UInt8.reduceToNat, Int.reduceSub, Int.reduceAdd, Nat.reduceLT, Nat.reduceMul, Nat.reduceSub, Nat.reduceBNe]
  subst hL
  generalize hX : exec _ (.loop F_base_SameNodes_l0) _ _ = X
  obtain ⟨o, rfl, fr', m', rfl, hd⟩ := looped hX (sameNodes_loop (A := A) (A' := A') (t := t) (t' := t') hA hl hk (by simp only [get_set', selE_t, selE_f, Nat.reduceBEq, set_defers, fr00_get, fr00_defers, put_some, put_none ]) (by simp only [get_set', selE_t, selE_f, Nat.reduceBEq, set_defers, fr00_get, fr00_defers, put_some, put_none ]) (by simp only [get_set', selE_t, selE_f, Nat.reduceBEq, set_defers, fr00_get, fr00_defers, put_some, put_none ]) (by simp only [get_set', selE_t, selE_f, Nat.reduceBEq, set_defers, fr00_get, fr00_defers, put_some, put_none ]))
  simp +contextual -implicitDefEqProofs (maxSteps := 1000000) (maxDischargeDepth := 8) only [hd, zz0, zz1, zz2, zz3, zz4, zz5, zz6, zz7, zz8, zz9, argsF, reduceIte, reduceCtorEq, Nat.reduceEqDiff, Nat.reduceBEq, Nat.reduceAdd, Int.reduceLT, Int.reduceLE, Int.reduceEq, Int.reduceToNat, Int.reduceNeg, Nat.reduceLeDiff, Int.reducePow, implies_true, UInt8.reduceToNat, Int.reduceSub, Int.reduceAdd, Nat.reduceLT, Nat.reduceMul, Nat.reduceSub, Nat.reduceBNe]
theorem brText_zero (s : Txt) : brText 0 s = s ++ [10] := by unfold brText; simp
theorem brText_succ (j : Nat) (s : Txt) : (40 :: brText j s) ++ [41] = brText (j + 1) s := by
  show [40] ++ brText j s ++ [41] = _
  unfold brText
  rw [List.replicate_succ (n := j) (a := (40 : UInt8)), List.replicate_succ' (n := j) (a := (41 : UInt8))]
  simp only [List.append_assoc, List.cons_append, List.nil_append, List.append_nil]
theorem brk_l0 {x : Int} {j : Nat} {s : Txt} (hj : x.tmod 5 = (j : Int)) (hx : 0 ≤ x ∧ x < 256) (h4 : j ≤ 4) (hs : s.length ≤ 150) {fr : Fr} {m0 : Mem} (h1 : fr.get 1 = .int .u8 x) (h9 : fr.get 9 = .str (s ++ [10])) (h10 : fr.get 10 = .int .i64 0) (hd : fr.defers = []) :
    ∃ o, exec U (.loop F_l07_ExprBrackets_l0) fr m0 = some o ∧ ∃ fr', o = .exit 0 fr' m0 ∧ fr'.get 9 = .str (brText j s) ∧ fr'.defers = [] ∧ ∀ k, k < 9 → fr'.get k = fr.get k := by
  refine loop_w (σ := Nat) (fun i f m => m = m0 ∧ i ≤ j ∧ f.get 1 = .int .u8 x ∧ f.get 9 = .str (brText i s) ∧ f.get 10 = .int .i64 (i : Int) ∧ f.defers = [] ∧ ∀ k, k < 9 → f.get k = fr.get k) (fun i => j - i) _ ?_ 0 fr m0
    ⟨rfl, Nat.zero_le _, h1, by rw [brText_zero]; exact h9, h10, hd, fun k _ => rfl⟩
  rintro i f m ⟨rfl, hi, h1, h9, h10, hd, hk⟩
  generalize hX : exec U F_l07_ExprBrackets_l0 f m = X
  have z5 : ¬ ((5 : Int) = 0) := by decide
  have w1 : IntKind.i64.wrap x = x := wrap_i64 (by omega) (by omega)
  by_cases hlt : i < j
  · have hc : (i : Int) < (j : Int) := by omega
    have hw := wrap_succ (i := i) (by omega)
    have bl := brText_len i s
    have c1 : evBin .add (.str [40]) (.str (brText i s)) = some (.str (40 :: brText i s)) := bin_cat2 (a := [40]) (b := brText i s) (by rw [bl]; simp; omega)
    have c2 := bin_cat2 (a := 40 :: brText i s) (b := [41]) (by rw [List.length_cons, bl]; simp; omega)
    rw [brText_succ] at c2
    simp +contextual -implicitDefEqProofs (maxSteps := 1000000) (maxDischargeDepth := 8) only [F_l07_ExprBrackets_l0, h1, h9, h10, hd, hc, hw, z5, w1, hj, c1, c2, if_false, zz0, zz1, zz2, zz3, zz4, zz5, zz6, zz7, zz8, zz9, argsF, reduceIte, reduceCtorEq, Nat.reduceEqDiff, Nat.reduceBEq, Nat.reduceAdd, Int.reduceLT, Int.reduceLE, Int.reduceEq, Int.reduceToNat, Int.reduceNeg, Nat.reduceLeDiff, Int.reducePow, implies_true, UInt8.reduceToNat, Int.reduceSub, Int.reduceAdd, Nat.reduceLT, Nat.reduceMul, Nat.reduceSub, Nat.reduceBNe] at hX
    subst hX
    refine lw_norm (i + 1) (by omega) ⟨rfl, by omega, by simp only [h1, get_set', selE_t, selE_f, Nat.reduceBEq, set_defers, fr00_get, fr00_defers, put_some, put_none ], by simp only [get_set', selE_t, selE_f, Nat.reduceBEq, set_defers, fr00_get, fr00_defers, put_some, put_none ], by simp only [get_set', selE_t, selE_f, Nat.reduceBEq, set_defers, fr00_get, fr00_defers, put_some, put_none ], by simp only [hd, get_set', selE_t, selE_f, Nat.reduceBEq, set_defers, fr00_get, fr00_defers, put_some, put_none ], fun k h => ?_⟩
    obtain rfl | rfl | rfl | rfl | rfl | rfl | rfl | rfl | rfl : k = 0 ∨ k = 1 ∨ k = 2 ∨ k = 3 ∨ k = 4 ∨ k = 5 ∨ k = 6 ∨ k = 7 ∨ k = 8 := by omega
    all_goals (have := hk _ h; simp only [this, get_set', selE_t, selE_f, Nat.reduceBEq, set_defers, fr00_get, fr00_defers, put_some, put_none ])
  · have hc : ¬ (i : Int) < (j : Int) := by omega
    obtain rfl : i = j := by omega
    simp +contextual -implicitDefEqProofs (maxSteps := 1000000) (maxDischargeDepth := 8) only [F_l07_ExprBrackets_l0, h1, h9, h10, hd, hc, z5, w1, hj, if_false, zz0, zz1, zz2, zz3, zz4, zz5, zz6, zz7, zz8, zz9, argsF, reduceIte, reduceCtorEq, Nat.reduceEqDiff, Nat.reduceBEq, Nat.reduceAdd, Int.reduceLT, Int.reduceLE, Int.reduceEq, Int.reduceToNat, Int.reduceNeg, Nat.reduceLeDiff, Int.reducePow, implies_true, UInt8.reduceToNat, Int.reduceSub, Int.reduceAdd, Nat.reduceLT, Nat.reduceMul, Nat.reduceSub, Nat.reduceBNe] at hX
    subst hX
    refine lw_exit ⟨_, rfl, by simp only [h9, get_set', selE_t, selE_f, Nat.reduceBEq, set_defers, fr00_get, fr00_defers, put_some, put_none ], by simp only [hd, get_set', selE_t, selE_f, Nat.reduceBEq, set_defers, fr00_get, fr00_defers, put_some, put_none ], fun k h => ?_⟩
    obtain rfl | rfl | rfl | rfl | rfl | rfl | rfl | rfl | rfl : k = 0 ∨ k = 1 ∨ k = 2 ∨ k = 3 ∨ k = 4 ∨ k = 5 ∨ k = 6 ∨ k = 7 ∨ k = 8 := by omega
    all_goals (have := hk _ h; simp only [this, get_set', selE_t, selE_f, Nat.reduceBEq, set_defers, fr00_get, fr00_defers, put_some, put_none ])
end Go.Proofs.Ytjgbofonigpjaaa.Ev
end
section
namespace Go.Proofs.Ytjgbofonigpjaaa.Ev
open Go
set_option linter.unusedSimpArgs false
set_option linter.unusedVariables false
set_option maxRecDepth 10000
set_option maxHeartbeats 4000000
theorem brackets_law {s : Txt} {x : Int} (hx : 0 ≤ x ∧ x < 256) : pureR B K n_l07_ExprBrackets [.str s, .int .u8 x] = some (.bool true) := by
  obtain ⟨j, hj, h4⟩ : ∃ j : Nat, x.tmod 5 = (j : Int) ∧ j ≤ 4 := ⟨(x.tmod 5).toNat, by rw [Int.tmod_eq_emod_of_nonneg hx.1]; omega, by rw [Int.tmod_eq_emod_of_nonneg hx.1]; omega⟩
  have hwk : ∀ M, run U 6 [] M = some (.ret (.bool true) M) := fun M => run_works6
  have w1 : IntKind.i64.wrap x = x := wrap_i64 (by omega) (by omega)
  have z5 : ¬ ((5 : Int) = 0) := by decide
  rw [pure_at (by simp [F_l07_ExprBrackets])]
  generalize hL0 : exec (UT B K) (ICode.loop F_l07_ExprBrackets_l0) = L0
  by_cases h6 : 150 < s.length
  · have hc : (150 : Int) < (s.length : Int) := by omega
    simp +contextual -implicitDefEqProofs (maxSteps := 1000000) (maxDischargeDepth := 8) only [F_l07_ExprBrackets, hc, hwk, zz0, zz1, zz2, zz3, zz4, zz5, zz6, zz7, zz8, zz9, argsF, reduceIte, reduceCtorEq, Nat.reduceEqDiff, Nat.reduceBEq, Nat.reduceAdd, Int.reduceLT, Int.reduceLE, Int.reduceEq, Int.reduceToNat, Int.reduceNeg, Nat.reduceLeDiff, Int.reducePow, implies_true, UInt8.reduceToNat, Int.reduceSub, Int.reduceAdd, Nat.reduceLT, Nat.reduceMul, Nat.reduceSub, Nat.reduceBNe]
  · have hc : ¬ (150 : Int) < (s.length : Int) := by omega
    have htk := tokens_eq (s := s) (by omega)
    cases hxx : lexF s with
    | bad e p =>
      have he := lex_bad hxx
      have hne : ¬ ((e : Int) = 0) := by omega
      rw [hxx] at htk
      simp only [lexV] at htk
      simp +contextual -implicitDefEqProofs (maxSteps := 1000000) (maxDischargeDepth := 8) only [F_l07_ExprBrackets, hc, hwk, htk, hne, zz0, zz1, zz2, zz3, zz4, zz5, zz6, zz7, zz8, zz9, argsF, reduceIte, reduceCtorEq, Nat.reduceEqDiff, Nat.reduceBEq, Nat.reduceAdd, Int.reduceLT, Int.reduceLE, Int.reduceEq, Int.reduceToNat, Int.reduceNeg, Nat.reduceLeDiff, Int.reducePow, implies_true, UInt8.reduceToNat, Int.reduceSub, Int.reduceAdd, Nat.reduceLT, Nat.reduceMul, Nat.reduceSub, Nat.reduceBNe]
    | ok l =>
      obtain ⟨ht, hg, hll⟩ := lex_good hxx
      rw [hxx] at htk
      simp only [lexV] at htk
      obtain ⟨l', hx', hbr⟩ := lex_br (by omega) h4 hxx
      obtain ⟨ht', hg', hll'⟩ := lex_good hx'
      have htk' := tokens_eq (s := brText j s) (by rw [brText_len]; omega)
      rw [hx'] at htk'
      simp only [lexV] at htk'
      obtain ⟨pa, pb⟩ := parse_ok ht hg
      have hpe := parse_eq ht (tg := 1) fun q => (pa q).ne
      obtain ⟨pa', pb'⟩ := parse_ok ht' hg'
      have hpe' := parse_eq ht' (tg := 1) fun q => (pa' q).ne
      have hfwd := br_parse hbr
      have hback : j = 0 → (parseF l').fe = 0 → (parseF l).fe = 0 := fun q hf => by
        subst q; exact (br_parse (br_zero hbr) hf).1
      have hcat := bin_cat2 (a := s) (b := [10]) (by simp; omega)
      generalize hP : parseF l = pf at *
      generalize hP' : parseF l' = pf' at *
      generalize hX : frR _ = X
      by_cases hfe : pf.fe = 0
      · obtain ⟨hfe', hcore⟩ := hfwd hfe
        have hPa := pa hfe
        simp only [parseV, hfe, if_true] at hpe
        simp only [parseV, hfe', if_true] at hpe'
        have hsn := sameNodes_eq (t := 1) (t' := 2) hcore (by have := hPa.small; omega) (fun d hd => by have := (hPa.sm (by omega)).kids d hd; omega)
        simp +contextual -implicitDefEqProofs (maxSteps := 1000000) (maxDischargeDepth := 8) only [F_l07_ExprBrackets, hc, htk, hpe, hcat, zz0, zz1, zz2, zz3, zz4, zz5, zz6, zz7, zz8, zz9, argsF, reduceIte, reduceCtorEq, Nat.reduceEqDiff, Nat.reduceBEq, Nat.reduceAdd, Int.reduceLT, Int.reduceLE, Int.reduceEq, Int.reduceToNat, Int.reduceNeg, Nat.reduceLeDiff, Int.reducePow, implies_true, UInt8.reduceToNat, Int.reduceSub, Int.reduceAdd, Nat.reduceLT, Nat.reduceMul, Nat.reduceSub, Nat.reduceBNe] at hX
        subst hL0
        generalize hC : exec _ (.loop F_l07_ExprBrackets_l0) _ _ = C at hX
        obtain ⟨o, rfl, fr', rfl, f9, fd, fk⟩ := looped hC (brk_l0 (x := x) (j := j) (s := s) hj hx h4 (by omega) (by simp only [get_set', selE_t, selE_f, Nat.reduceBEq, set_defers, fr00_get, fr00_defers, put_some, put_none ]) (by simp only [get_set', selE_t, selE_f, Nat.reduceBEq, set_defers, fr00_get, fr00_defers, put_some, put_none ]) (by simp only [get_set', selE_t, selE_f, Nat.reduceBEq, set_defers, fr00_get, fr00_defers, put_some, put_none ]) (by simp only [get_set', selE_t, selE_f, Nat.reduceBEq, set_defers, fr00_get, fr00_defers, put_some, put_none ]))
        clear hC
        have f7 := fk 7 (by decide)
        have f8 := fk 8 (by decide)
        simp only [get_set', selE_t, selE_f, Nat.reduceBEq, set_defers, fr00_get, fr00_defers, put_some, put_none ] at f7 f8
        simp +contextual -implicitDefEqProofs (maxSteps := 1000000) (maxDischargeDepth := 8) only [f7, f8, f9, fd, htk', hpe', hsn, hwk, zz0, zz1, zz2, zz3, zz4, zz5, zz6, zz7, zz8, zz9, argsF, reduceIte, reduceCtorEq, Nat.reduceEqDiff, Nat.reduceBEq, Nat.reduceAdd, Int.reduceLT, Int.reduceLE, Int.reduceEq, Int.reduceToNat, Int.reduceNeg, Nat.reduceLeDiff, Int.reducePow, implies_true, UInt8.reduceToNat, Int.reduceSub, Int.reduceAdd, Nat.reduceLT, Nat.reduceMul, Nat.reduceSub, Nat.reduceBNe] at hX
        exact hX.symm
      · simp only [parseV, hfe, if_false] at hpe
        simp +contextual -implicitDefEqProofs (maxSteps := 1000000) (maxDischargeDepth := 8) only [F_l07_ExprBrackets, hc, htk, hpe, hcat, zz0, zz1, zz2, zz3, zz4, zz5, zz6, zz7, zz8, zz9, argsF, reduceIte, reduceCtorEq, Nat.reduceEqDiff, Nat.reduceBEq, Nat.reduceAdd, Int.reduceLT, Int.reduceLE, Int.reduceEq, Int.reduceToNat, Int.reduceNeg, Nat.reduceLeDiff, Int.reducePow, implies_true, UInt8.reduceToNat, Int.reduceSub, Int.reduceAdd, Nat.reduceLT, Nat.reduceMul, Nat.reduceSub, Nat.reduceBNe] at hX
        subst hL0
        generalize hC : exec _ (.loop F_l07_ExprBrackets_l0) _ _ = C at hX
        obtain ⟨o, rfl, fr', rfl, f9, fd, fk⟩ := looped hC (brk_l0 (x := x) (j := j) (s := s) hj hx h4 (by omega) (by simp only [get_set', selE_t, selE_f, Nat.reduceBEq, set_defers, fr00_get, fr00_defers, put_some, put_none ]) (by simp only [get_set', selE_t, selE_f, Nat.reduceBEq, set_defers, fr00_get, fr00_defers, put_some, put_none ]) (by simp only [get_set', selE_t, selE_f, Nat.reduceBEq, set_defers, fr00_get, fr00_defers, put_some, put_none ]) (by simp only [get_set', selE_t, selE_f, Nat.reduceBEq, set_defers, fr00_get, fr00_defers, put_some, put_none ]))
        clear hC
        have f1 := fk 1 (by decide)
        have f7 := fk 7 (by decide)
        have f8 := fk 8 (by decide)
        simp only [get_set', selE_t, selE_f, Nat.reduceBEq, set_defers, fr00_get, fr00_defers, put_some, put_none ] at f1 f7 f8
        by_cases hfe' : pf'.fe = 0
        · have hj0 : j ≠ 0 := fun q => hfe (hback q hfe')
          have hc0 : (0 : Int) < (j : Int) := by omega
          simp only [parseV, hfe', if_true] at hpe'
          simp +contextual -implicitDefEqProofs (maxSteps := 1000000) (maxDischargeDepth := 8) only [f1, f7, f8, f9, fd, htk', hpe', hfe, hwk, z5, w1, hj, hc0, if_false, zz0, zz1, zz2, zz3, zz4, zz5, zz6, zz7, zz8, zz9, argsF, reduceIte, reduceCtorEq, Nat.reduceEqDiff, Nat.reduceBEq, Nat.reduceAdd, Int.reduceLT, Int.reduceLE, Int.reduceEq, Int.reduceToNat, Int.reduceNeg, Nat.reduceLeDiff, Int.reducePow, implies_true, UInt8.reduceToNat, Int.reduceSub, Int.reduceAdd, Nat.reduceLT, Nat.reduceMul, Nat.reduceSub, Nat.reduceBNe] at hX
          exact hX.symm
        · simp only [parseV, hfe', if_false] at hpe'
          simp +contextual -implicitDefEqProofs (maxSteps := 1000000) (maxDischargeDepth := 8) only [f1, f7, f8, f9, fd, htk', hpe', hfe, hfe', hwk, z5, w1, hj, if_false, zz0, zz1, zz2, zz3, zz4, zz5, zz6, zz7, zz8, zz9, argsF, reduceIte, reduceCtorEq, Nat.reduceEqDiff, Nat.reduceBEq, Nat.reduceAdd, Int.reduceLT, Int.reduceLE, Int.reduceEq, Int.reduceToNat, Int.reduceNeg, Nat.reduceLeDiff, Int.reducePow, implies_true, UInt8.reduceToNat, Int.reduceSub, Int.reduceAdd, Nat.reduceLT, Nat.reduceMul, Nat.reduceSub, Nat.reduceBNe] at hX
          exact hX.symm
end Go.Proofs.Ytjgbofonigpjaaa.Ev
end
section
namespace Go.Proofs.Ytjgbofonigpjaaa.Ev
open Go
/-- What stands in memory stands below its end. -/
def Stands (m : Mem) : Prop := ∀ b cs e t ro, m.get b = .cells cs e t ro → b < m.next
theorem in_live {n0 : Nat} {bs : List InB} : Stands (inMem n0 bs) := by
  intro b cs e t ro h
  refine Classical.byContradiction fun q => ?_
  have : (inMem n0 bs).next = n0 + bs.length := rfl
  rw [inMem_dead (.inr (by omega))] at h
  cases h
end Go.Proofs.Ytjgbofonigpjaaa.Ev
end
section
namespace Go.Proofs.Ytjgbofonigpjaaa.Ev
open Go
theorem brackets_run {m : Mem} {es : List EV} {ds : List Dt} (hm : Stands m) (h : RepVs m [.str, .int .u8] es ds) : ∃ m', run T n_l07_ExprBrackets es m = some (.ret (.bool true) m') := by
  obtain ⟨us, hu, hl⟩ := law_pure entB (f := n_l07_ExprBrackets) (F := F_l07_ExprBrackets) (HasF.has (T := B)) hm h rfl
  obtain ⟨e1, d1, es', ds', rfl, _, h1, hu⟩ := hu.one
  obtain ⟨e2, d2, es'', ds'', rfl, _, h2, hu⟩ := hu.one
  obtain rfl := hu.none
  obtain ⟨s, rfl, _⟩ := fz_str h1
  obtain ⟨x, rfl, hx⟩ := fz_int h2
  exact hl (brackets_law (wf_u8 hx))
end Go.Proofs.Ytjgbofonigpjaaa.Ev
end
