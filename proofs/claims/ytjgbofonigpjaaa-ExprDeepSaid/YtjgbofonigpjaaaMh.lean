/- WExpr8, WExpr9, WExpr10, WTree4, WExpr11, PExpr6, PLex2, WDeep, WDeepC0, WDeepC1, WDeepC2, WDeepC3, WDeepL, EvLive, LawDeep. -/
import Derived.Test.YtjgbofonigpjaaaMg
section
namespace Go.Proofs.Ytjgbofonigpjaaa.Ev
open Go
set_option linter.unusedSimpArgs false
set_option linter.unusedVariables false
set_option maxRecDepth 10000
set_option maxHeartbeats 4000000
/-- The loop of arguments. -/
def WArgsL (l : List Tok) (tg k : Nat) : Prop := ∀ (out : List Int) (v : EV) (st : RS) (fr : Fr) (m : Mem) (b n0 : Nat) (P : Nat → Prop) (s1 : RS) (r : List Int) (X : Option Out), StOk l st → 8 * (l.length - st.pos) + (Cmd.argsL out).rank < k → out.length ≤ 8 → st.fe = 0 → goF l k (.argsL out) st = some (s1, r) → Rd m b tg l st (Pv P v) → (∀ c, P c → c < n0) → n0 ≤ m.next → Own m v (is out) out.length 1 n0 → fr.get 0 = .ptr b 0 → fr.get 4 = v → fr.get 5 = .bool true → fr.defers = [] → exec U (.loop F_expr_Reader_arguments_l0) fr m = X → ∃ fr' m' v', X = some (.exit 0 fr' m') ∧ fr'.get 0 = .ptr b 0 ∧ fr'.get 4 = v' ∧ fr'.defers = [] ∧ Own m' v' (is r) r.length 1 n0 ∧ Rd m' b tg l s1 (Pv P v') ∧ Kp m m' P ∧ r ≠ []
theorem Own.kp {m m' : Mem} {v : EV} {cs : List EV} {n esz lo : Nat} {P : Nat → Prop} (h : Own m v cs n esz lo) (k : Kp m m' P) (hp : ∀ c, ¬ Off v c → P c) : Own m' v cs n esz lo := h.keep' k.n fun c _ _ ho => k.k c (hp c ho)
theorem is_snoc {r : List Int} {x : Int} : is (r ++ [x]) = is r ++ [.int .i64 x] := by simp [is]
section
variable {l : List Tok} {tg : Nat} (ht : TokOk l) {k : Nat}
include ht
theorem args_loop (ih1 : WInt l tg n_expr_Reader_Expr [] k .expr) (ih2 : WArgsL l tg k) : WArgsL l tg (k + 1) := by
  intro out v st fr m b n0 P s1 r X o hk ho8 hfe hgo h hP hn0 hown h0 h4 h5 hd hX
  rw [exec_loop] at hX
  generalize hL : exec U (.loop F_expr_Reader_arguments_l0) = L at hX
  have hF := fineC (b := b) (tg := tg) (l := l) (st := st) (P := Pv P v)
  have hlen : ∀ M, lenE v M = some (.val (.int .i64 (out.length : Int)) M) := fun M => by
    rcases hown.is with ⟨rfl, q, _⟩ | ⟨kb, cap, t, rfl, _⟩
    · rw [q]; rfl
    · rfl
  have h8 : ((out.length : Int) = 8) = (out.length = 8) := propext (by omega)
  by_cases h8' : out.length = 8
  · have hT := tokenC (b := b) (tg := tg) (P := Pv P v) ht o
    simp +contextual -implicitDefEqProofs (maxSteps := 1000000) (maxDischargeDepth := 8) only [F_expr_Reader_arguments_l0, h0, h4, h5, hd, hF, hT, h, hfe, hlen, h8, h8', bo_tt, rd_ext, rd_bump, zz0, zz1, zz2, zz3, zz4, zz5, zz6, zz7, zz8, zz9, argsF, reduceIte, reduceCtorEq, Nat.reduceEqDiff, Nat.reduceBEq, Nat.reduceAdd, Int.reduceLT, Int.reduceLE, Int.reduceEq, Int.reduceToNat, Int.reduceNeg, Nat.reduceLeDiff, Int.reducePow, implies_true, UInt8.reduceToNat, Int.reduceSub, Int.reduceAdd, Nat.reduceLT, Nat.reduceMul, Nat.reduceSub, Nat.reduceBNe] at hX
    generalize hC : run U n_expr_Reader_Fail _ _ = C at hX
    obtain ⟨m9, rfl, RD, k9⟩ := failC (rd_bump (rd_bump h)) hC
    clear hC
    have KP := ((kp_bump h).trans (kp_bump (rd_bump h))).trans k9
    have oo : StOk l (st.fail 3 (st.now l).pos) := (Gr.fail o.p (by decide)).ok o
    have p0 : (st.fail 3 (st.now l).pos).pos = st.pos := fail_pos.1
    have f0 : (st.fail 3 (st.now l).pos).fe = 0 → out.length < 8 := fun q => absurd q (fail_fe (by decide))
    simp only [goF, if_pos h8'] at hgo
    generalize st.fail 3 (st.now l).pos = S0 at *
    simp +contextual -implicitDefEqProofs (maxSteps := 1000000) (maxDischargeDepth := 8) only [h0, h4, zz0, zz1, zz2, zz3, zz4, zz5, zz6, zz7, zz8, zz9, argsF, reduceIte, reduceCtorEq, Nat.reduceEqDiff, Nat.reduceBEq, Nat.reduceAdd, Int.reduceLT, Int.reduceLE, Int.reduceEq, Int.reduceToNat, Int.reduceNeg, Nat.reduceLeDiff, Int.reducePow, implies_true, UInt8.reduceToNat, Int.reduceSub, Int.reduceAdd, Nat.reduceLT, Nat.reduceMul, Nat.reduceSub, Nat.reduceBNe] at hX
    obtain ⟨s2, r2, e, g, ar, _⟩ := go_ok ht k .expr S0 oo.p (by rw [p0]; simp only [Cmd.rank] at *; omega) trivial
    obtain ⟨x, rfl⟩ := one_of ar
    simp only [e, Option.bind_some] at hgo
    generalize hC : run U n_expr_Reader_Expr _ _ = C at hX
    obtain ⟨m1, rfl, h1, k1⟩ := ih1 _ _ _ _ _ _ _ oo (by rw [p0]; simp only [Cmd.rank] at *; omega) e RD hC
    clear hC
    have k1 := KP.trans k1
    have o2 := g.ok oo
    have hown1 := hown.kp k1 fun c hc => .inr hc
    obtain ⟨ha, hown2⟩ := append_grow (e := 3) (hown1.ext [.cells [.int .i64 x] 1 3 false]) (by rw [next_ext]; have := k1.n; unfold nb; omega) (source_new rfl) rfl (by decide) (by unfold room; omega)
    have hr2 := Rd.grow (e := 3) (n := out.length + 1) (cs := is out ++ [.int .i64 x]) (rd_ext (ys := [.cells [.int .i64 x] 1 3 false]) h1) fun c hc => hown.lt (.inr (hP c hc))
    have hk2 : Kp (ext m1 [.cells [.int .i64 x] 1 3 false]) (grow (ext m1 [.cells [.int .i64 x] 1 3 false]) v 3 1 (is out ++ [.int .i64 x])) P := ⟨by rw [grow_next]; exact le_nb, fun c hc => grow_old ((rd_ext (ys := [.cells [.int .i64 x] 1 3 false]) h1).plt (.inl hc)) (hown.lt (.inr (hP c hc)))⟩
    have k2 := ((k1.trans (kp_ext h1)).weak fun c hc => .inl hc).trans hk2
    generalize hG : grow _ v 3 1 _ = M2 at ha hown2 hr2 hk2 k2
    clear hG hk2
    rw [next_ext, nb_nb] at ha hown2 hr2
    simp +contextual -implicitDefEqProofs (maxSteps := 1000000) (maxDischargeDepth := 8) only [h0, ha, List.headD_cons, zz0, zz1, zz2, zz3, zz4, zz5, zz6, zz7, zz8, zz9, argsF, reduceIte, reduceCtorEq, Nat.reduceEqDiff, Nat.reduceBEq, Nat.reduceAdd, Int.reduceLT, Int.reduceLE, Int.reduceEq, Int.reduceToNat, Int.reduceNeg, Nat.reduceLeDiff, Int.reducePow, implies_true, UInt8.reduceToNat, Int.reduceSub, Int.reduceAdd, Nat.reduceLT, Nat.reduceMul, Nat.reduceSub, Nat.reduceBNe] at hX
    generalize hC : run U n_expr_Reader_Skip _ _ = C at hX
    obtain ⟨m3, rfl, h3, k3⟩ := skipC ht o2 hr2 hC
    clear hC
    have hown3 : Own m3 (.slice (nb m1.next ([Blk.cells [EV.int .i64 x] 1 3 false].length + 0)) 0 (out.length + 1) none) (is (out ++ [x])) (out ++ [x]).length 1 n0 := by rw [is_snoc, List.length_append]; exact hown2.kp k3 fun c hc => .inr hc
    have k3 := k2.trans (k3.weak fun c hc => .inl hc)
    by_cases hc : s2.is l [44]
    · rw [if_pos hc] at hgo
      have hn := is_lt ht o2.p hc
      have hw : s2.skip l [44] = s2.next := by unfold RS.skip; rw [if_pos hc]
      rw [hw] at h3
      rw [bo_pos hc] at hX
      simp +contextual -implicitDefEqProofs (maxSteps := 1000000) (maxDischargeDepth := 8) only [zz0, zz1, zz2, zz3, zz4, zz5, zz6, zz7, zz8, zz9, argsF, reduceIte, reduceCtorEq, Nat.reduceEqDiff, Nat.reduceBEq, Nat.reduceAdd, Int.reduceLT, Int.reduceLE, Int.reduceEq, Int.reduceToNat, Int.reduceNeg, Nat.reduceLeDiff, Int.reducePow, implies_true, UInt8.reduceToNat, Int.reduceSub, Int.reduceAdd, Nat.reduceLT, Nat.reduceMul, Nat.reduceSub, Nat.reduceBNe] at hX
      subst hL
      have hlt8 := f0 (g.f hc.1)
      obtain ⟨fr', m', v', rfl, q0, q4, qd, qo, qr, qk, qz⟩ := ih2 (out ++ [x]) _ _ _ _ _ n0 P _ _ _ ((Gr.next hn).ok o2) (by have := g.p; simp only [Cmd.rank, RS.next] at *; omega) (by rw [List.length_append]; exact hlt8) hc.1 hgo h3 hP (Nat.le_trans hn0 k3.n) hown3 (by simp only [h0, get_set', selE_t, selE_f, Nat.reduceBEq, set_defers, fr00_get, fr00_defers, put_some, put_none ]) (by simp only [get_set', selE_t, selE_f, Nat.reduceBEq, set_defers, fr00_get, fr00_defers, put_some, put_none ]; rfl) (by simp only [get_set', selE_t, selE_f, Nat.reduceBEq, set_defers, fr00_get, fr00_defers, put_some, put_none ]) (by simp only [hd, get_set', selE_t, selE_f, Nat.reduceBEq, set_defers, fr00_get, fr00_defers, put_some, put_none ]) hX
      exact ⟨fr', m', v', rfl, q0, q4, qd, qo, qr, k3.trans qk, qz⟩
    · rw [if_neg hc] at hgo
      simp only [Option.some.injEq, Prod.mk.injEq] at hgo
      obtain ⟨rfl, rfl⟩ := hgo
      have hw : s2.skip l [44] = s2 := by unfold RS.skip; rw [if_neg hc]
      rw [hw] at h3
      rw [bo_neg hc] at hX
      simp +contextual -implicitDefEqProofs (maxSteps := 1000000) (maxDischargeDepth := 8) only [zz0, zz1, zz2, zz3, zz4, zz5, zz6, zz7, zz8, zz9, argsF, reduceIte, reduceCtorEq, Nat.reduceEqDiff, Nat.reduceBEq, Nat.reduceAdd, Int.reduceLT, Int.reduceLE, Int.reduceEq, Int.reduceToNat, Int.reduceNeg, Nat.reduceLeDiff, Int.reducePow, implies_true, UInt8.reduceToNat, Int.reduceSub, Int.reduceAdd, Nat.reduceLT, Nat.reduceMul, Nat.reduceSub, Nat.reduceBNe] at hX
      subst hL
      rw [exec_loop] at hX
      generalize exec U (.loop F_expr_Reader_arguments_l0) = L at hX
      simp +contextual -implicitDefEqProofs (maxSteps := 1000000) (maxDischargeDepth := 8) only [F_expr_Reader_arguments_l0, h0, hd, zz0, zz1, zz2, zz3, zz4, zz5, zz6, zz7, zz8, zz9, argsF, reduceIte, reduceCtorEq, Nat.reduceEqDiff, Nat.reduceBEq, Nat.reduceAdd, Int.reduceLT, Int.reduceLE, Int.reduceEq, Int.reduceToNat, Int.reduceNeg, Nat.reduceLeDiff, Int.reducePow, implies_true, UInt8.reduceToNat, Int.reduceSub, Int.reduceAdd, Nat.reduceLT, Nat.reduceMul, Nat.reduceSub, Nat.reduceBNe] at hX
      subst hX
      exact ⟨_, _, _, rfl, by simp only [h0, get_set', selE_t, selE_f, Nat.reduceBEq, set_defers, fr00_get, fr00_defers, put_some, put_none ], by simp only [get_set', selE_t, selE_f, Nat.reduceBEq, set_defers, fr00_get, fr00_defers, put_some, put_none ]; rfl, by simp only [hd, get_set', selE_t, selE_f, Nat.reduceBEq, set_defers, fr00_get, fr00_defers, put_some, put_none ], hown3, h3, k3, by simp⟩
  · simp +contextual -implicitDefEqProofs (maxSteps := 1000000) (maxDischargeDepth := 8) only [F_expr_Reader_arguments_l0, h0, h4, h5, hd, hF, h, hfe, hlen, h8, h8', bo_tt, bo_ff, rd_ext, rd_bump, zz0, zz1, zz2, zz3, zz4, zz5, zz6, zz7, zz8, zz9, argsF, reduceIte, reduceCtorEq, Nat.reduceEqDiff, Nat.reduceBEq, Nat.reduceAdd, Int.reduceLT, Int.reduceLE, Int.reduceEq, Int.reduceToNat, Int.reduceNeg, Nat.reduceLeDiff, Int.reducePow, implies_true, UInt8.reduceToNat, Int.reduceSub, Int.reduceAdd, Nat.reduceLT, Nat.reduceMul, Nat.reduceSub, Nat.reduceBNe] at hX
    have RD := rd_bump (k := 0) h
    have KP := kp_bump (k := 0) h
    have oo := o
    have p0 : st.pos = st.pos := rfl
    have f0 : st.fe = 0 → out.length < 8 := fun _ => by omega
    simp only [goF, if_neg h8'] at hgo
    obtain ⟨s2, r2, e, g, ar, _⟩ := go_ok ht k .expr st oo.p (by rw [p0]; simp only [Cmd.rank] at *; omega) trivial
    obtain ⟨x, rfl⟩ := one_of ar
    simp only [e, Option.bind_some] at hgo
    generalize hC : run U n_expr_Reader_Expr _ _ = C at hX
    obtain ⟨m1, rfl, h1, k1⟩ := ih1 _ _ _ _ _ _ _ oo (by rw [p0]; simp only [Cmd.rank] at *; omega) e RD hC
    clear hC
    have k1 := KP.trans k1
    have o2 := g.ok oo
    have hown1 := hown.kp k1 fun c hc => .inr hc
    obtain ⟨ha, hown2⟩ := append_grow (e := 3) (hown1.ext [.cells [.int .i64 x] 1 3 false]) (by rw [next_ext]; have := k1.n; unfold nb; omega) (source_new rfl) rfl (by decide) (by unfold room; omega)
    have hr2 := Rd.grow (e := 3) (n := out.length + 1) (cs := is out ++ [.int .i64 x]) (rd_ext (ys := [.cells [.int .i64 x] 1 3 false]) h1) fun c hc => hown.lt (.inr (hP c hc))
    have hk2 : Kp (ext m1 [.cells [.int .i64 x] 1 3 false]) (grow (ext m1 [.cells [.int .i64 x] 1 3 false]) v 3 1 (is out ++ [.int .i64 x])) P := ⟨by rw [grow_next]; exact le_nb, fun c hc => grow_old ((rd_ext (ys := [.cells [.int .i64 x] 1 3 false]) h1).plt (.inl hc)) (hown.lt (.inr (hP c hc)))⟩
    have k2 := ((k1.trans (kp_ext h1)).weak fun c hc => .inl hc).trans hk2
    generalize hG : grow _ v 3 1 _ = M2 at ha hown2 hr2 hk2 k2
    clear hG hk2
    rw [next_ext, nb_nb] at ha hown2 hr2
    simp +contextual -implicitDefEqProofs (maxSteps := 1000000) (maxDischargeDepth := 8) only [h0, ha, List.headD_cons, zz0, zz1, zz2, zz3, zz4, zz5, zz6, zz7, zz8, zz9, argsF, reduceIte, reduceCtorEq, Nat.reduceEqDiff, Nat.reduceBEq, Nat.reduceAdd, Int.reduceLT, Int.reduceLE, Int.reduceEq, Int.reduceToNat, Int.reduceNeg, Nat.reduceLeDiff, Int.reducePow, implies_true, UInt8.reduceToNat, Int.reduceSub, Int.reduceAdd, Nat.reduceLT, Nat.reduceMul, Nat.reduceSub, Nat.reduceBNe] at hX
    generalize hC : run U n_expr_Reader_Skip _ _ = C at hX
    obtain ⟨m3, rfl, h3, k3⟩ := skipC ht o2 hr2 hC
    clear hC
    have hown3 : Own m3 (.slice (nb m1.next ([Blk.cells [EV.int .i64 x] 1 3 false].length + 0)) 0 (out.length + 1) none) (is (out ++ [x])) (out ++ [x]).length 1 n0 := by rw [is_snoc, List.length_append]; exact hown2.kp k3 fun c hc => .inr hc
    have k3 := k2.trans (k3.weak fun c hc => .inl hc)
    by_cases hc : s2.is l [44]
    · rw [if_pos hc] at hgo
      have hn := is_lt ht o2.p hc
      have hw : s2.skip l [44] = s2.next := by unfold RS.skip; rw [if_pos hc]
      rw [hw] at h3
      rw [bo_pos hc] at hX
      simp +contextual -implicitDefEqProofs (maxSteps := 1000000) (maxDischargeDepth := 8) only [zz0, zz1, zz2, zz3, zz4, zz5, zz6, zz7, zz8, zz9, argsF, reduceIte, reduceCtorEq, Nat.reduceEqDiff, Nat.reduceBEq, Nat.reduceAdd, Int.reduceLT, Int.reduceLE, Int.reduceEq, Int.reduceToNat, Int.reduceNeg, Nat.reduceLeDiff, Int.reducePow, implies_true, UInt8.reduceToNat, Int.reduceSub, Int.reduceAdd, Nat.reduceLT, Nat.reduceMul, Nat.reduceSub, Nat.reduceBNe] at hX
      subst hL
      have hlt8 := f0 (g.f hc.1)
      obtain ⟨fr', m', v', rfl, q0, q4, qd, qo, qr, qk, qz⟩ := ih2 (out ++ [x]) _ _ _ _ _ n0 P _ _ _ ((Gr.next hn).ok o2) (by have := g.p; simp only [Cmd.rank, RS.next] at *; omega) (by rw [List.length_append]; exact hlt8) hc.1 hgo h3 hP (Nat.le_trans hn0 k3.n) hown3 (by simp only [h0, get_set', selE_t, selE_f, Nat.reduceBEq, set_defers, fr00_get, fr00_defers, put_some, put_none ]) (by simp only [get_set', selE_t, selE_f, Nat.reduceBEq, set_defers, fr00_get, fr00_defers, put_some, put_none ]; rfl) (by simp only [get_set', selE_t, selE_f, Nat.reduceBEq, set_defers, fr00_get, fr00_defers, put_some, put_none ]) (by simp only [hd, get_set', selE_t, selE_f, Nat.reduceBEq, set_defers, fr00_get, fr00_defers, put_some, put_none ]) hX
      exact ⟨fr', m', v', rfl, q0, q4, qd, qo, qr, k3.trans qk, qz⟩
    · rw [if_neg hc] at hgo
      simp only [Option.some.injEq, Prod.mk.injEq] at hgo
      obtain ⟨rfl, rfl⟩ := hgo
      have hw : s2.skip l [44] = s2 := by unfold RS.skip; rw [if_neg hc]
      rw [hw] at h3
      rw [bo_neg hc] at hX
      simp +contextual -implicitDefEqProofs (maxSteps := 1000000) (maxDischargeDepth := 8) only [zz0, zz1, zz2, zz3, zz4, zz5, zz6, zz7, zz8, zz9, argsF, reduceIte, reduceCtorEq, Nat.reduceEqDiff, Nat.reduceBEq, Nat.reduceAdd, Int.reduceLT, Int.reduceLE, Int.reduceEq, Int.reduceToNat, Int.reduceNeg, Nat.reduceLeDiff, Int.reducePow, implies_true, UInt8.reduceToNat, Int.reduceSub, Int.reduceAdd, Nat.reduceLT, Nat.reduceMul, Nat.reduceSub, Nat.reduceBNe] at hX
      subst hL
      rw [exec_loop] at hX
      generalize exec U (.loop F_expr_Reader_arguments_l0) = L at hX
      simp +contextual -implicitDefEqProofs (maxSteps := 1000000) (maxDischargeDepth := 8) only [F_expr_Reader_arguments_l0, h0, hd, zz0, zz1, zz2, zz3, zz4, zz5, zz6, zz7, zz8, zz9, argsF, reduceIte, reduceCtorEq, Nat.reduceEqDiff, Nat.reduceBEq, Nat.reduceAdd, Int.reduceLT, Int.reduceLE, Int.reduceEq, Int.reduceToNat, Int.reduceNeg, Nat.reduceLeDiff, Int.reducePow, implies_true, UInt8.reduceToNat, Int.reduceSub, Int.reduceAdd, Nat.reduceLT, Nat.reduceMul, Nat.reduceSub, Nat.reduceBNe] at hX
      subst hX
      exact ⟨_, _, _, rfl, by simp only [h0, get_set', selE_t, selE_f, Nat.reduceBEq, set_defers, fr00_get, fr00_defers, put_some, put_none ], by simp only [get_set', selE_t, selE_f, Nat.reduceBEq, set_defers, fr00_get, fr00_defers, put_some, put_none ]; rfl, by simp only [hd, get_set', selE_t, selE_f, Nat.reduceBEq, set_defers, fr00_get, fr00_defers, put_some, put_none ], hown3, h3, k3, by simp⟩
/-- The arguments of a call. -/
def WArgs (l : List Tok) (tg k : Nat) : Prop := ∀ (st : RS) (m : Mem) (b : Nat) (P : Nat → Prop) (s1 : RS) (r : List Int) (X : Option Fin), StOk l st → 8 * (l.length - st.pos) + Cmd.args.rank < k → goF l k .args st = some (s1, r) → Rd m b tg l st P → run U n_expr_Reader_arguments [.ptr b 0] m = X → ∃ m' v, X = some (.ret v m') ∧ Own m' v (is r) r.length 1 m.next ∧ Rd m' b tg l s1 (Pv P v) ∧ Kp m m' P ∧ (r = [] → v = .nilslice)
omit ht in
theorem Rd.pv {m : Mem} {b : Nat} {st : RS} {P : Nat → Prop} (h : Rd m b tg l st P) : Rd m b tg l st (Pv P .nilslice) := h.weak fun c hc => hc.elim id fun q => absurd Off.nil q
theorem args_walk (ih : WArgsL l tg k) : WArgs l tg (k + 1) := by
  intro st m b P s1 r X o hk hgo h hX
  rw [run_p2 (by simp [F_expr_Reader_arguments])] at hX
  generalize hL : exec (UT B K) (ICode.loop F_expr_Reader_arguments_l0) = L at hX
  have hT := tokenC (b := b) (tg := tg) (P := P) ht o
  simp +contextual -implicitDefEqProofs (maxSteps := 1000000) (maxDischargeDepth := 8) only [F_expr_Reader_arguments, hT, h, rd_ext, rd_bump, zz0, zz1, zz2, zz3, zz4, zz5, zz6, zz7, zz8, zz9, argsF, reduceIte, reduceCtorEq, Nat.reduceEqDiff, Nat.reduceBEq, Nat.reduceAdd, Int.reduceLT, Int.reduceLE, Int.reduceEq, Int.reduceToNat, Int.reduceNeg, Nat.reduceLeDiff, Int.reducePow, implies_true, UInt8.reduceToNat, Int.reduceSub, Int.reduceAdd, Nat.reduceLT, Nat.reduceMul, Nat.reduceSub, Nat.reduceBNe] at hX
  generalize hC : run U n_expr_Reader_Want _ _ = C at hX
  obtain ⟨m1, rfl, h1, k1⟩ := wantC ht o (rd_bump h) hC
  clear hC
  have k1 : Kp m m1 P := (kp_bump h).trans k1
  by_cases ha : st.is l [40]
  · have hn := is_lt ht o.p ha
    have hw : st.want l [40] = st.next := by unfold RS.want; rw [if_pos ha]
    rw [hw] at h1
    have on : StOk l st.next := (Gr.next hn).ok o
    rw [bo_pos ha] at hX
    simp +contextual -implicitDefEqProofs (maxSteps := 1000000) (maxDischargeDepth := 8) only [zz0, zz1, zz2, zz3, zz4, zz5, zz6, zz7, zz8, zz9, argsF, reduceIte, reduceCtorEq, Nat.reduceEqDiff, Nat.reduceBEq, Nat.reduceAdd, Int.reduceLT, Int.reduceLE, Int.reduceEq, Int.reduceToNat, Int.reduceNeg, Nat.reduceLeDiff, Int.reducePow, implies_true, UInt8.reduceToNat, Int.reduceSub, Int.reduceAdd, Nat.reduceLT, Nat.reduceMul, Nat.reduceSub, Nat.reduceBNe] at hX
    generalize hC : run U n_expr_Reader_Open _ _ = C at hX
    obtain ⟨m2, rfl, h2, k2⟩ := openC ht on h1 hC
    clear hC
    have k2 := k1.trans k2
    have go := Gr.open hn (p := ((st.now l).pos : Int))
    have oo := go.ok o
    obtain ⟨o1, o2, o3⟩ := open_pos (st := st.next) (p := ((st.now l).pos : Int))
    simp only [goF, if_pos ha] at hgo
    by_cases hf : (st.next.open (st.now l).pos).fe = 0
    · rw [if_pos hf] at hgo
      rw [bo_pos hf] at hX
      have hk' : 8 * (l.length - (st.next.open (st.now l).pos).pos) + (Cmd.argsL []).rank < k := by rw [o1]; simp only [Cmd.rank, RS.next] at *; omega
      generalize st.next.open (st.now l).pos = so at *
      have hI := isC (b := b) (tg := tg) (P := P) ht oo
      by_cases hb : so.is l [41]
      · rw [if_pos hb] at hgo
        simp only [Option.bind_some, Option.some.injEq, Prod.mk.injEq] at hgo
        obtain ⟨rfl, rfl⟩ := hgo
        simp +contextual -implicitDefEqProofs (maxSteps := 1000000) (maxDischargeDepth := 8) only [hI, h2, hb, bo_tt, zz0, zz1, zz2, zz3, zz4, zz5, zz6, zz7, zz8, zz9, argsF, reduceIte, reduceCtorEq, Nat.reduceEqDiff, Nat.reduceBEq, Nat.reduceAdd, Int.reduceLT, Int.reduceLE, Int.reduceEq, Int.reduceToNat, Int.reduceNeg, Nat.reduceLeDiff, Int.reducePow, implies_true, UInt8.reduceToNat, Int.reduceSub, Int.reduceAdd, Nat.reduceLT, Nat.reduceMul, Nat.reduceSub, Nat.reduceBNe] at hX
        subst hL
        generalize hC : exec _ (.loop F_expr_Reader_arguments_l0) _ _ = C at hX
        rw [exec_loop] at hC
        generalize exec U (.loop F_expr_Reader_arguments_l0) = L at hC
        simp +contextual -implicitDefEqProofs (maxSteps := 1000000) (maxDischargeDepth := 8) only [F_expr_Reader_arguments_l0, zz0, zz1, zz2, zz3, zz4, zz5, zz6, zz7, zz8, zz9, argsF, reduceIte, reduceCtorEq, Nat.reduceEqDiff, Nat.reduceBEq, Nat.reduceAdd, Int.reduceLT, Int.reduceLE, Int.reduceEq, Int.reduceToNat, Int.reduceNeg, Nat.reduceLeDiff, Int.reducePow, implies_true, UInt8.reduceToNat, Int.reduceSub, Int.reduceAdd, Nat.reduceLT, Nat.reduceMul, Nat.reduceSub, Nat.reduceBNe] at hC
        subst hC
        simp +contextual -implicitDefEqProofs (maxSteps := 1000000) (maxDischargeDepth := 8) only [zz0, zz1, zz2, zz3, zz4, zz5, zz6, zz7, zz8, zz9, argsF, reduceIte, reduceCtorEq, Nat.reduceEqDiff, Nat.reduceBEq, Nat.reduceAdd, Int.reduceLT, Int.reduceLE, Int.reduceEq, Int.reduceToNat, Int.reduceNeg, Nat.reduceLeDiff, Int.reducePow, implies_true, UInt8.reduceToNat, Int.reduceSub, Int.reduceAdd, Nat.reduceLT, Nat.reduceMul, Nat.reduceSub, Nat.reduceBNe] at hX
        generalize hC : run U n_expr_Reader_Want _ _ = C at hX
        obtain ⟨m4, rfl, h4, k4⟩ := wantC ht oo (rd_bump h2) hC
        clear hC
        have o4 := (Gr.want ht oo.p (s := [41])).ok oo
        have k4 := (k2.trans (kp_bump h2)).trans k4
        simp +contextual -implicitDefEqProofs (maxSteps := 1000000) (maxDischargeDepth := 8) only [zz0, zz1, zz2, zz3, zz4, zz5, zz6, zz7, zz8, zz9, argsF, reduceIte, reduceCtorEq, Nat.reduceEqDiff, Nat.reduceBEq, Nat.reduceAdd, Int.reduceLT, Int.reduceLE, Int.reduceEq, Int.reduceToNat, Int.reduceNeg, Nat.reduceLeDiff, Int.reducePow, implies_true, UInt8.reduceToNat, Int.reduceSub, Int.reduceAdd, Nat.reduceLT, Nat.reduceMul, Nat.reduceSub, Nat.reduceBNe] at hX
        generalize hC : run U n_expr_Reader_Close _ _ = C at hX
        obtain ⟨m5, rfl, h5, k5⟩ := closeC ht o4 h4 hC
        clear hC
        simp +contextual -implicitDefEqProofs (maxSteps := 1000000) (maxDischargeDepth := 8) only [zz0, zz1, zz2, zz3, zz4, zz5, zz6, zz7, zz8, zz9, argsF, reduceIte, reduceCtorEq, Nat.reduceEqDiff, Nat.reduceBEq, Nat.reduceAdd, Int.reduceLT, Int.reduceLE, Int.reduceEq, Int.reduceToNat, Int.reduceNeg, Nat.reduceLeDiff, Int.reducePow, implies_true, UInt8.reduceToNat, Int.reduceSub, Int.reduceAdd, Nat.reduceLT, Nat.reduceMul, Nat.reduceSub, Nat.reduceBNe] at hX
        subst hX
        exact ⟨_, _, rfl, ⟨.inl ⟨rfl, rfl, rfl⟩, rfl⟩, h5.pv, k4.trans k5, fun _ => rfl⟩
      · rw [if_neg hb] at hgo
        obtain ⟨s2, r2, e, g, a, _⟩ := go_ok ht k (.argsL []) so go.pl hk' (Nat.zero_le _)
        simp only [e, Option.bind_some, Option.some.injEq, Prod.mk.injEq] at hgo
        obtain ⟨rfl, rfl⟩ := hgo
        simp +contextual -implicitDefEqProofs (maxSteps := 1000000) (maxDischargeDepth := 8) only [hI, h2, hb, bo_ff, zz0, zz1, zz2, zz3, zz4, zz5, zz6, zz7, zz8, zz9, argsF, reduceIte, reduceCtorEq, Nat.reduceEqDiff, Nat.reduceBEq, Nat.reduceAdd, Int.reduceLT, Int.reduceLE, Int.reduceEq, Int.reduceToNat, Int.reduceNeg, Nat.reduceLeDiff, Int.reducePow, implies_true, UInt8.reduceToNat, Int.reduceSub, Int.reduceAdd, Nat.reduceLT, Nat.reduceMul, Nat.reduceSub, Nat.reduceBNe] at hX
        subst hL
        generalize hC : exec _ (.loop F_expr_Reader_arguments_l0) _ _ = C at hX
        obtain ⟨fr', m3, v, rfl, q0, q4, qd, qo, qr, qk, qz⟩ := ih [] .nilslice so _ _ b m.next P _ _ _ oo hk' (Nat.zero_le _) hf e (rd_bump h2).pv (fun c hc => h.plt hc) (by rw [next_bump]; exact Nat.le_trans k2.n le_nb) ⟨.inl ⟨rfl, rfl, rfl⟩, rfl⟩ (by simp only [get_set', selE_t, selE_f, Nat.reduceBEq, set_defers, fr00_get, fr00_defers, put_some, put_none ]) (by simp only [get_set', selE_t, selE_f, Nat.reduceBEq, set_defers, fr00_get, fr00_defers, put_some, put_none ]) (by simp only [get_set', selE_t, selE_f, Nat.reduceBEq, set_defers, fr00_get, fr00_defers, put_some, put_none ]) (by simp only [get_set', selE_t, selE_f, Nat.reduceBEq, set_defers, fr00_get, fr00_defers, put_some, put_none ]) hC
        clear hC
        have k3 := (k2.trans (kp_bump h2)).trans qk
        have o3' := g.ok oo
        simp +contextual -implicitDefEqProofs (maxSteps := 1000000) (maxDischargeDepth := 8) only [q0, q4, qd, zz0, zz1, zz2, zz3, zz4, zz5, zz6, zz7, zz8, zz9, argsF, reduceIte, reduceCtorEq, Nat.reduceEqDiff, Nat.reduceBEq, Nat.reduceAdd, Int.reduceLT, Int.reduceLE, Int.reduceEq, Int.reduceToNat, Int.reduceNeg, Nat.reduceLeDiff, Int.reducePow, implies_true, UInt8.reduceToNat, Int.reduceSub, Int.reduceAdd, Nat.reduceLT, Nat.reduceMul, Nat.reduceSub, Nat.reduceBNe] at hX
        generalize hC : run U n_expr_Reader_Want _ _ = C at hX
        obtain ⟨m4, rfl, h4, k4⟩ := wantC ht o3' qr hC
        clear hC
        have o4 := (Gr.want ht o3'.p (s := [41])).ok o3'
        have w4 := qo.kp k4 fun c hc => .inr hc
        have k4 := k3.trans (k4.weak fun c hc => .inl hc)
        simp +contextual -implicitDefEqProofs (maxSteps := 1000000) (maxDischargeDepth := 8) only [q0, q4, qd, zz0, zz1, zz2, zz3, zz4, zz5, zz6, zz7, zz8, zz9, argsF, reduceIte, reduceCtorEq, Nat.reduceEqDiff, Nat.reduceBEq, Nat.reduceAdd, Int.reduceLT, Int.reduceLE, Int.reduceEq, Int.reduceToNat, Int.reduceNeg, Nat.reduceLeDiff, Int.reducePow, implies_true, UInt8.reduceToNat, Int.reduceSub, Int.reduceAdd, Nat.reduceLT, Nat.reduceMul, Nat.reduceSub, Nat.reduceBNe] at hX
        generalize hC : run U n_expr_Reader_Close _ _ = C at hX
        obtain ⟨m5, rfl, h5, k5⟩ := closeC ht o4 h4 hC
        clear hC
        have w5 := w4.kp k5 fun c hc => .inr hc
        simp +contextual -implicitDefEqProofs (maxSteps := 1000000) (maxDischargeDepth := 8) only [q0, q4, qd, zz0, zz1, zz2, zz3, zz4, zz5, zz6, zz7, zz8, zz9, argsF, reduceIte, reduceCtorEq, Nat.reduceEqDiff, Nat.reduceBEq, Nat.reduceAdd, Int.reduceLT, Int.reduceLE, Int.reduceEq, Int.reduceToNat, Int.reduceNeg, Nat.reduceLeDiff, Int.reducePow, implies_true, UInt8.reduceToNat, Int.reduceSub, Int.reduceAdd, Nat.reduceLT, Nat.reduceMul, Nat.reduceSub, Nat.reduceBNe] at hX
        subst hX
        exact ⟨_, _, rfl, w5, h5, k4.trans (k5.weak fun c hc => .inl hc), fun q => absurd q qz⟩
    · rw [if_neg hf] at hgo
      rw [bo_neg hf] at hX
      simp only [Option.some.injEq, Prod.mk.injEq] at hgo
      obtain ⟨rfl, rfl⟩ := hgo
      simp +contextual -implicitDefEqProofs (maxSteps := 1000000) (maxDischargeDepth := 8) only [zz0, zz1, zz2, zz3, zz4, zz5, zz6, zz7, zz8, zz9, argsF, reduceIte, reduceCtorEq, Nat.reduceEqDiff, Nat.reduceBEq, Nat.reduceAdd, Int.reduceLT, Int.reduceLE, Int.reduceEq, Int.reduceToNat, Int.reduceNeg, Nat.reduceLeDiff, Int.reducePow, implies_true, UInt8.reduceToNat, Int.reduceSub, Int.reduceAdd, Nat.reduceLT, Nat.reduceMul, Nat.reduceSub, Nat.reduceBNe] at hX
      subst hX
      exact ⟨_, _, rfl, ⟨.inl ⟨rfl, rfl, rfl⟩, rfl⟩, h2.pv, k2, fun _ => rfl⟩
  · have hw : st.want l [40] = st.fail 8 (st.now l).pos := by unfold RS.want; rw [if_neg ha]
    rw [hw] at h1
    simp only [goF, if_neg ha, Option.some.injEq, Prod.mk.injEq] at hgo
    obtain ⟨rfl, rfl⟩ := hgo
    rw [bo_neg ha] at hX
    simp +contextual -implicitDefEqProofs (maxSteps := 1000000) (maxDischargeDepth := 8) only [zz0, zz1, zz2, zz3, zz4, zz5, zz6, zz7, zz8, zz9, argsF, reduceIte, reduceCtorEq, Nat.reduceEqDiff, Nat.reduceBEq, Nat.reduceAdd, Int.reduceLT, Int.reduceLE, Int.reduceEq, Int.reduceToNat, Int.reduceNeg, Nat.reduceLeDiff, Int.reducePow, implies_true, UInt8.reduceToNat, Int.reduceSub, Int.reduceAdd, Nat.reduceLT, Nat.reduceMul, Nat.reduceSub, Nat.reduceBNe] at hX
    subst hX
    exact ⟨_, _, rfl, ⟨.inl ⟨rfl, rfl, rfl⟩, rfl⟩, h1.pv, k1, fun _ => rfl⟩
/-- A call: its arguments, and the node. -/
theorem call_walk (ih : WArgs l tg k) {s : Txt} {p : Int} {st : RS} {m : Mem} {b : Nat} {P : Nat → Prop} {s1 : RS} {r : List Int} {X : Option Fin} (o : StOk l st) (hk : 8 * (l.length - st.pos) + Cmd.args.rank < k) (hgo : goF l k .args st = some (s1, r)) (h : Rd m b tg l st P) (hX : run U n_expr_Reader_Call [.ptr b 0, .str s, .int .i64 p] m = X) : ∃ m', X = some (.ret (.int .i64 (s1.putR (nd 11 r 0 s p))) m') ∧ Rd m' b tg l (s1.put (nd 11 r 0 s p)) P ∧ Kp m m' P := by
  obtain ⟨s2, r2, e, g, a, _⟩ := go_ok ht k .args st o.p hk trivial
  rw [hgo] at e
  obtain ⟨rfl, rfl⟩ := Prod.mk.injEq _ _ _ _ ▸ Option.some.inj e
  rw [run_p2 (by simp [F_expr_Reader_Call])] at hX
  simp +contextual -implicitDefEqProofs (maxSteps := 1000000) (maxDischargeDepth := 8) only [F_expr_Reader_Call, zz0, zz1, zz2, zz3, zz4, zz5, zz6, zz7, zz8, zz9, argsF, reduceIte, reduceCtorEq, Nat.reduceEqDiff, Nat.reduceBEq, Nat.reduceAdd, Int.reduceLT, Int.reduceLE, Int.reduceEq, Int.reduceToNat, Int.reduceNeg, Nat.reduceLeDiff, Int.reducePow, implies_true, UInt8.reduceToNat, Int.reduceSub, Int.reduceAdd, Nat.reduceLT, Nat.reduceMul, Nat.reduceSub, Nat.reduceBNe] at hX
  generalize hC : run U n_expr_Reader_arguments _ _ = C at hX
  obtain ⟨m1, v, rfl, qo, q1, k1, qz⟩ := ih _ _ _ _ _ _ _ o hk hgo h hC
  clear hC
  have hvc : v.cells = some [v] := by rcases qo.is with ⟨rfl, _⟩ | ⟨_, _, _, rfl, _⟩ <;> rfl
  simp +contextual -implicitDefEqProofs (maxSteps := 1000000) (maxDischargeDepth := 8) only [hvc, zz0, zz1, zz2, zz3, zz4, zz5, zz6, zz7, zz8, zz9, argsF, reduceIte, reduceCtorEq, Nat.reduceEqDiff, Nat.reduceBEq, Nat.reduceAdd, Int.reduceLT, Int.reduceLE, Int.reduceEq, Int.reduceToNat, Int.reduceNeg, Nat.reduceLeDiff, Int.reducePow, implies_true, UInt8.reduceToNat, Int.reduceSub, Int.reduceAdd, Nat.reduceLT, Nat.reduceMul, Nat.reduceSub, Nat.reduceBNe] at hX
  generalize hC : run U n_expr_Reader_Put _ _ = C at hX
  obtain ⟨m5, rfl, h5, k5⟩ := putC (P := P) (kids := r) ht (g.ok o) q1 (by have : r.length ≤ 9 := a; omega) qo.lo0 (fun c hc => .inr hc) (fun c hc => ⟨.inl hc, qo.lt (.inr (h.plt hc))⟩) qz hC
  clear hC
  simp +contextual -implicitDefEqProofs (maxSteps := 1000000) (maxDischargeDepth := 8) only [zz0, zz1, zz2, zz3, zz4, zz5, zz6, zz7, zz8, zz9, argsF, reduceIte, reduceCtorEq, Nat.reduceEqDiff, Nat.reduceBEq, Nat.reduceAdd, Int.reduceLT, Int.reduceLE, Int.reduceEq, Int.reduceToNat, Int.reduceNeg, Nat.reduceLeDiff, Int.reducePow, implies_true, UInt8.reduceToNat, Int.reduceSub, Int.reduceAdd, Nat.reduceLT, Nat.reduceMul, Nat.reduceSub, Nat.reduceBNe] at hX
  subst hX
  exact ⟨_, rfl, h5, k1.trans k5⟩
end
end Go.Proofs.Ytjgbofonigpjaaa.Ev
end
section
namespace Go.Proofs.Ytjgbofonigpjaaa.Ev
open Go
set_option linter.unusedSimpArgs false
set_option linter.unusedVariables false
set_option maxRecDepth 10000
set_option maxHeartbeats 4000000
theorem RdV.next {m : Mem} {b tg : Nat} {l : List Tok} {st : RS} {P : Nat → Prop} {tv hv : EV} {xs : List Nv} (h : RdV m b tg l st P tv hv xs) : Rd (m.set b (.cells [.fz tg 4 (toks l), .int .i64 ((st.pos + 1 : Nat) : Int), .int .i64 st.deep, tv, hv, .int .i64 st.fe, .int .i64 st.fp] 7 t_expr_Reader false)) b tg l st.next P ∧ Kp m (m.set b (.cells [.fz tg 4 (toks l), .int .i64 ((st.pos + 1 : Nat) : Int), .int .i64 st.deep, tv, hv, .int .i64 st.fe, .int .i64 st.fp] 7 t_expr_Reader false)) P := by
  have u : Upd m (m.set b (.cells (rdCells tg l st.next tv hv) 7 t_expr_Reader false)) b (.cells (rdCells tg l st.next tv hv) 7 t_expr_Reader false) := .set (Nat.le_refl _) fun _ _ _ => rfl
  exact ⟨⟨tv, hv, xs, h.upd rfl rfl u⟩, h.kp u⟩
/-- A block of the caller's is written. -/
theorem Rd.poke {m : Mem} {b tg : Nat} {l : List Tok} {st : RS} {P : Nat → Prop} (h : Rd m b tg l st P) {c0 : Nat} (hp : P c0) (B : Blk) : Rd (m.set c0 B) b tg l st P := by
  obtain ⟨tv, hv, xs, h⟩ := h
  have f := (h.p c0 hp).2
  have fk := h.pk c0 hp
  have key : ∀ c, c ≠ c0 → (m.set c0 B).get c = m.get c := fun c hc => get_set_ne hc
  exact ⟨tv, hv, xs, (key b (fun q => f.ne q.symm)).trans h.g, h.lt, h.t.keep' (Nat.le_refl _) fun c _ _ ho => key c fun q => ho (q ▸ f.t), h.h.keep' (Nat.le_refl _) fun c _ _ ho => key c fun q => ho (q ▸ f.h), h.a, h.x, h.hl, fun x hx => ⟨(h.k x hx).o.keep' (Nat.le_refl _) fun c _ _ ho => key c fun q => ho (q ▸ fk x hx), (h.k x hx).f, (h.k x hx).nl, (h.k x hx).z⟩, h.p, h.pk⟩
section
variable {l : List Tok} {tg : Nat} (ht : TokOk l) {k : Nat}
include ht
theorem atom_walk (ih1 : WInt l tg n_expr_Reader_Inner [.str [40], .str [41]] k (.inner [40] [41])) (ih2 : WArgs l tg k) : WInt l tg n_expr_Reader_atom [] (k + 1) .atom := by
  intro st m b P s1 r X o hk hgo h hX
  rw [run_p2 (by simp [F_expr_Reader_atom])] at hX
  have hT := tokenC (b := b) (tg := tg) (P := P) ht o
  have hF := fineC (b := b) (tg := tg) (l := l) (st := st) (P := P)
  have hI := isC (b := b) (tg := tg) (P := P) ht o
  have hlt := h.lt
  by_cases hfe : st.fe = 0
  · have b1 := bo_pos hfe
    by_cases hp : st.is l [40]
    · have b2 := bo_pos hp
      simp +contextual -implicitDefEqProofs (maxSteps := 1000000) (maxDischargeDepth := 8) only [F_expr_Reader_atom, hT, hF, hI, h, b1, b2, rd_ext, rd_bump, zz0, zz1, zz2, zz3, zz4, zz5, zz6, zz7, zz8, zz9, argsF, reduceIte, reduceCtorEq, Nat.reduceEqDiff, Nat.reduceBEq, Nat.reduceAdd, Int.reduceLT, Int.reduceLE, Int.reduceEq, Int.reduceToNat, Int.reduceNeg, Nat.reduceLeDiff, Int.reducePow, implies_true, UInt8.reduceToNat, Int.reduceSub, Int.reduceAdd, Nat.reduceLT, Nat.reduceMul, Nat.reduceSub, Nat.reduceBNe] at hX
      simp only [goF, hfe, not_true_eq_false, if_false, if_pos hp] at hgo
      generalize hC : run U n_expr_Reader_Inner _ _ = C at hX
      have kp : Kp m (bump (bump (ext (bump m 19) [.cells [.int .i64 ((st.now l).kind : Int), .str (st.now l).text, .int .i64 ((st.now l).n : Int), .int .i64 ((st.now l).pos : Int)] 4 38 false]) 0) 20) P := h.kp (by simp +contextual -implicitDefEqProofs (maxSteps := 1000000) (maxDischargeDepth := 8) only [le_nb, zz0, zz1, zz2, zz3, zz4, zz5, argsF, reduceIte, reduceCtorEq, Nat.reduceEqDiff, Nat.reduceBEq, Nat.reduceAdd, Int.reduceLT, Int.reduceLE, Int.reduceEq, Int.reduceToNat, Int.reduceNeg, Nat.reduceLeDiff, Int.reducePow, implies_true, UInt8.reduceToNat, Int.reduceSub, Int.reduceAdd, Nat.reduceLT, Nat.reduceMul, Nat.reduceSub]) (fun c hc => by simp +contextual -implicitDefEqProofs (maxSteps := 1000000) (maxDischargeDepth := 8) only [hc, zz0, zz1, zz2, zz3, zz4, zz5, argsF, reduceIte, reduceCtorEq, Nat.reduceEqDiff, Nat.reduceBEq, Nat.reduceAdd, Int.reduceLT, Int.reduceLE, Int.reduceEq, Int.reduceToNat, Int.reduceNeg, Nat.reduceLeDiff, Int.reducePow, implies_true, UInt8.reduceToNat, Int.reduceSub, Int.reduceAdd, Nat.reduceLT, Nat.reduceMul, Nat.reduceSub])
      obtain ⟨m1, rfl, h1, k1⟩ := ih1 _ _ _ P _ _ _ o (by simp only [Cmd.rank] at *; omega) hgo (by simp (maxDischargeDepth := 20) only [rd_ext, rd_bump, h]) hC
      clear hC
      simp +contextual -implicitDefEqProofs (maxSteps := 1000000) (maxDischargeDepth := 8) only [zz0, zz1, zz2, zz3, zz4, zz5, zz6, zz7, zz8, zz9, argsF, reduceIte, reduceCtorEq, Nat.reduceEqDiff, Nat.reduceBEq, Nat.reduceAdd, Int.reduceLT, Int.reduceLE, Int.reduceEq, Int.reduceToNat, Int.reduceNeg, Nat.reduceLeDiff, Int.reducePow, implies_true, UInt8.reduceToNat, Int.reduceSub, Int.reduceAdd, Nat.reduceLT, Nat.reduceMul, Nat.reduceSub, Nat.reduceBNe] at hX
      subst hX
      exact ⟨_, rfl, h1, kp.trans k1⟩
    · have b2 := bo_neg hp
      by_cases q2 : (st.now l).kind = 2
      · have b3 : bo (((st.now l).kind : Int) = 2) = .bool true := bo_pos (by omega)
        have hn := next_lt ht o.p (by omega)
        have on : StOk l st.next := (Gr.next hn).ok o
        simp only [goF, hfe, not_true_eq_false, if_false, if_neg hp, if_pos q2, Option.some.injEq, Prod.mk.injEq] at hgo
        obtain ⟨rfl, rfl⟩ := hgo
        clear q2
        obtain ⟨tv, hv, xs, h⟩ := h
        have hr : Rd m b tg l st P := ⟨tv, hv, xs, h⟩
        have hg := h.g
        have hw := wrap_succ (i := st.pos) (by have := o.p; have := ht.lt; omega)
        obtain ⟨hnx, knx⟩ := h.next
        simp +contextual -implicitDefEqProofs (maxSteps := 1000000) (maxDischargeDepth := 8) only [F_expr_Reader_atom, hT, hF, hI, hr, b1, b2, b3, rd_ext, rd_bump, hg, hlt, hw, zz0, zz1, zz2, zz3, zz4, zz5, zz6, zz7, zz8, zz9, argsF, reduceIte, reduceCtorEq, Nat.reduceEqDiff, Nat.reduceBEq, Nat.reduceAdd, Int.reduceLT, Int.reduceLE, Int.reduceEq, Int.reduceToNat, Int.reduceNeg, Nat.reduceLeDiff, Int.reducePow, implies_true, UInt8.reduceToNat, Int.reduceSub, Int.reduceAdd, Nat.reduceLT, Nat.reduceMul, Nat.reduceSub, Nat.reduceBNe] at hX
        generalize m.set b _ = m' at *
        generalize hC : run U n_expr_Reader_Put _ _ = C at hX
        have RD : Rd (bump (bump (ext (bump m' 19) [.cells [.int .i64 ((st.now l).kind : Int), .str (st.now l).text, .int .i64 ((st.now l).n : Int), .int .i64 ((st.now l).pos : Int)] 4 38 false]) 0) 20) b tg l st.next P := by simp (maxDischargeDepth := 20) only [rd_ext, rd_bump, hnx]
        have kp : Kp m' (bump (bump (ext (bump m' 19) [.cells [.int .i64 ((st.now l).kind : Int), .str (st.now l).text, .int .i64 ((st.now l).n : Int), .int .i64 ((st.now l).pos : Int)] 4 38 false]) 0) 20) P := hnx.kp (by simp +contextual -implicitDefEqProofs (maxSteps := 1000000) (maxDischargeDepth := 8) only [le_nb, zz0, zz1, zz2, zz3, zz4, zz5, argsF, reduceIte, reduceCtorEq, Nat.reduceEqDiff, Nat.reduceBEq, Nat.reduceAdd, Int.reduceLT, Int.reduceLE, Int.reduceEq, Int.reduceToNat, Int.reduceNeg, Nat.reduceLeDiff, Int.reducePow, implies_true, UInt8.reduceToNat, Int.reduceSub, Int.reduceAdd, Nat.reduceLT, Nat.reduceMul, Nat.reduceSub]) (fun c hc => by simp +contextual -implicitDefEqProofs (maxSteps := 1000000) (maxDischargeDepth := 8) only [hc, zz0, zz1, zz2, zz3, zz4, zz5, argsF, reduceIte, reduceCtorEq, Nat.reduceEqDiff, Nat.reduceBEq, Nat.reduceAdd, Int.reduceLT, Int.reduceLE, Int.reduceEq, Int.reduceToNat, Int.reduceNeg, Nat.reduceLeDiff, Int.reducePow, implies_true, UInt8.reduceToNat, Int.reduceSub, Int.reduceAdd, Nat.reduceLT, Nat.reduceMul, Nat.reduceSub])
        obtain ⟨m5, rfl, h5, k5⟩ := putC (P := P) (Q := P) (kids := []) ht on RD (by simp) ⟨.inl ⟨rfl, rfl, rfl⟩, rfl⟩ (fun c hc => absurd Off.nil hc) (fun c hc => ⟨hc, Off.nil⟩) (fun _ => rfl) hC
        clear hC
        simp +contextual -implicitDefEqProofs (maxSteps := 1000000) (maxDischargeDepth := 8) only [zz0, zz1, zz2, zz3, zz4, zz5, zz6, zz7, zz8, zz9, argsF, reduceIte, reduceCtorEq, Nat.reduceEqDiff, Nat.reduceBEq, Nat.reduceAdd, Int.reduceLT, Int.reduceLE, Int.reduceEq, Int.reduceToNat, Int.reduceNeg, Nat.reduceLeDiff, Int.reducePow, implies_true, UInt8.reduceToNat, Int.reduceSub, Int.reduceAdd, Nat.reduceLT, Nat.reduceMul, Nat.reduceSub, Nat.reduceBNe] at hX
        subst hX
        exact ⟨_, rfl, h5, (knx.trans kp).trans k5⟩
      · have b3 : bo (((st.now l).kind : Int) = 2) = .bool false := bo_neg (by omega)
        by_cases q1 : (st.now l).kind = 1
        · have b4 : bo (((st.now l).kind : Int) = 1) = .bool true := bo_pos (by omega)
          have hn := next_lt ht o.p (by omega)
          have on : StOk l st.next := (Gr.next hn).ok o
          simp only [goF, hfe, not_true_eq_false, if_false, if_neg hp, if_neg q2, if_pos q1] at hgo
          clear q2 q1
          obtain ⟨tv, hv, xs, h⟩ := h
          have hr : Rd m b tg l st P := ⟨tv, hv, xs, h⟩
          have hg := h.g
          have hw := wrap_succ (i := st.pos) (by have := o.p; have := ht.lt; omega)
          obtain ⟨hnx, knx⟩ := h.next
          simp +contextual -implicitDefEqProofs (maxSteps := 1000000) (maxDischargeDepth := 8) only [F_expr_Reader_atom, hT, hF, hI, hr, b1, b2, b3, b4, rd_ext, rd_bump, hg, hlt, hw, zz0, zz1, zz2, zz3, zz4, zz5, zz6, zz7, zz8, zz9, argsF, reduceIte, reduceCtorEq, Nat.reduceEqDiff, Nat.reduceBEq, Nat.reduceAdd, Int.reduceLT, Int.reduceLE, Int.reduceEq, Int.reduceToNat, Int.reduceNeg, Nat.reduceLeDiff, Int.reducePow, implies_true, UInt8.reduceToNat, Int.reduceSub, Int.reduceAdd, Nat.reduceLT, Nat.reduceMul, Nat.reduceSub, Nat.reduceBNe] at hX
          have hlt' : b < (m.set b (.cells [.fz tg 4 (toks l), .int .i64 ((st.pos + 1 : Nat) : Int), .int .i64 st.deep, tv, hv, .int .i64 st.fe, .int .i64 st.fp] 7 t_expr_Reader false)).next := hlt
          have hmn : (m.set b (.cells [.fz tg 4 (toks l), .int .i64 ((st.pos + 1 : Nat) : Int), .int .i64 st.deep, tv, hv, .int .i64 st.fe, .int .i64 st.fp] 7 t_expr_Reader false)).next = m.next := rfl
          generalize m.set b _ = m' at *
          have hI' := isC (b := b) (tg := tg) (P := P) ht on
          have RD : Rd (bump (bump (bump (ext (bump m' 19) [.cells [.int .i64 ((st.now l).kind : Int), .str (st.now l).text, .int .i64 ((st.now l).n : Int), .int .i64 ((st.now l).pos : Int)] 4 38 false]) 0) 20) 20) b tg l st.next P := by simp (maxDischargeDepth := 20) only [rd_ext, rd_bump, hnx]
          have kp : Kp m' (bump (bump (bump (ext (bump m' 19) [.cells [.int .i64 ((st.now l).kind : Int), .str (st.now l).text, .int .i64 ((st.now l).n : Int), .int .i64 ((st.now l).pos : Int)] 4 38 false]) 0) 20) 20) P := hnx.kp (by simp +contextual -implicitDefEqProofs (maxSteps := 1000000) (maxDischargeDepth := 8) only [le_nb, zz0, zz1, zz2, zz3, zz4, zz5, argsF, reduceIte, reduceCtorEq, Nat.reduceEqDiff, Nat.reduceBEq, Nat.reduceAdd, Int.reduceLT, Int.reduceLE, Int.reduceEq, Int.reduceToNat, Int.reduceNeg, Nat.reduceLeDiff, Int.reducePow, implies_true, UInt8.reduceToNat, Int.reduceSub, Int.reduceAdd, Nat.reduceLT, Nat.reduceMul, Nat.reduceSub]) (fun c hc => by simp +contextual -implicitDefEqProofs (maxSteps := 1000000) (maxDischargeDepth := 8) only [hc, zz0, zz1, zz2, zz3, zz4, zz5, argsF, reduceIte, reduceCtorEq, Nat.reduceEqDiff, Nat.reduceBEq, Nat.reduceAdd, Int.reduceLT, Int.reduceLE, Int.reduceEq, Int.reduceToNat, Int.reduceNeg, Nat.reduceLeDiff, Int.reducePow, implies_true, UInt8.reduceToNat, Int.reduceSub, Int.reduceAdd, Nat.reduceLT, Nat.reduceMul, Nat.reduceSub])
          by_cases hq : st.next.is l [40]
          · have b5 := bo_pos hq
            rw [if_pos hq] at hgo
            have hk' : 8 * (l.length - st.next.pos) + Cmd.args.rank < k := by simp only [Cmd.rank, RS.next] at *; omega
            obtain ⟨s2, r2, e, g, a, _⟩ := go_ok ht k .args st.next on.p hk' trivial
            simp only [e, Option.bind_some, Option.some.injEq, Prod.mk.injEq] at hgo
            obtain ⟨rfl, rfl⟩ := hgo
            simp +contextual -implicitDefEqProofs (maxSteps := 1000000) (maxDischargeDepth := 8) only [hI', hnx, b5, rd_ext, rd_bump, hmn, zz0, zz1, zz2, zz3, zz4, zz5, zz6, zz7, zz8, zz9, argsF, reduceIte, reduceCtorEq, Nat.reduceEqDiff, Nat.reduceBEq, Nat.reduceAdd, Int.reduceLT, Int.reduceLE, Int.reduceEq, Int.reduceToNat, Int.reduceNeg, Nat.reduceLeDiff, Int.reducePow, implies_true, UInt8.reduceToNat, Int.reduceSub, Int.reduceAdd, Nat.reduceLT, Nat.reduceMul, Nat.reduceSub, Nat.reduceBNe] at hX
            generalize hC : run U n_expr_Reader_Call _ _ = C at hX
            obtain ⟨m5, rfl, h5, k5⟩ := call_walk (P := P) ht ih2 on hk' e RD hC
            clear hC
            simp +contextual -implicitDefEqProofs (maxSteps := 1000000) (maxDischargeDepth := 8) only [zz0, zz1, zz2, zz3, zz4, zz5, zz6, zz7, zz8, zz9, argsF, reduceIte, reduceCtorEq, Nat.reduceEqDiff, Nat.reduceBEq, Nat.reduceAdd, Int.reduceLT, Int.reduceLE, Int.reduceEq, Int.reduceToNat, Int.reduceNeg, Nat.reduceLeDiff, Int.reducePow, implies_true, UInt8.reduceToNat, Int.reduceSub, Int.reduceAdd, Nat.reduceLT, Nat.reduceMul, Nat.reduceSub, Nat.reduceBNe] at hX
            subst hX
            exact ⟨_, rfl, h5, (knx.trans kp).trans k5⟩
          · have b5 := bo_neg hq
            rw [if_neg hq] at hgo
            simp only [Option.some.injEq, Prod.mk.injEq] at hgo
            obtain ⟨rfl, rfl⟩ := hgo
            simp +contextual -implicitDefEqProofs (maxSteps := 1000000) (maxDischargeDepth := 8) only [hI', hnx, b5, rd_ext, rd_bump, hmn, zz0, zz1, zz2, zz3, zz4, zz5, zz6, zz7, zz8, zz9, argsF, reduceIte, reduceCtorEq, Nat.reduceEqDiff, Nat.reduceBEq, Nat.reduceAdd, Int.reduceLT, Int.reduceLE, Int.reduceEq, Int.reduceToNat, Int.reduceNeg, Nat.reduceLeDiff, Int.reducePow, implies_true, UInt8.reduceToNat, Int.reduceSub, Int.reduceAdd, Nat.reduceLT, Nat.reduceMul, Nat.reduceSub, Nat.reduceBNe] at hX
            generalize hC : run U n_expr_Reader_Put _ _ = C at hX
            obtain ⟨m5, rfl, h5, k5⟩ := putC (P := P) (Q := P) (kids := []) ht on RD (by simp) ⟨.inl ⟨rfl, rfl, rfl⟩, rfl⟩ (fun c hc => absurd Off.nil hc) (fun c hc => ⟨hc, Off.nil⟩) (fun _ => rfl) hC
            clear hC
            simp +contextual -implicitDefEqProofs (maxSteps := 1000000) (maxDischargeDepth := 8) only [zz0, zz1, zz2, zz3, zz4, zz5, zz6, zz7, zz8, zz9, argsF, reduceIte, reduceCtorEq, Nat.reduceEqDiff, Nat.reduceBEq, Nat.reduceAdd, Int.reduceLT, Int.reduceLE, Int.reduceEq, Int.reduceToNat, Int.reduceNeg, Nat.reduceLeDiff, Int.reducePow, implies_true, UInt8.reduceToNat, Int.reduceSub, Int.reduceAdd, Nat.reduceLT, Nat.reduceMul, Nat.reduceSub, Nat.reduceBNe] at hX
            subst hX
            exact ⟨_, rfl, h5, (knx.trans kp).trans k5⟩
        · have b4 : bo (((st.now l).kind : Int) = 1) = .bool false := bo_neg (by omega)
          --BEGIN
          have n0 : nb m.next 19 < (bump (bump (ext (bump m 19) [.cells [.int .i64 ((st.now l).kind : Int), .str (st.now l).text, .int .i64 ((st.now l).n : Int), .int .i64 ((st.now l).pos : Int)] 4 38 false]) 0) 20).next := by simp only [next_bump, next_ext, nb_nb]; unfold nb; simp
          have h0 : Rd (bump (bump (ext (bump m 19) [.cells [.int .i64 ((st.now l).kind : Int), .str (st.now l).text, .int .i64 ((st.now l).n : Int), .int .i64 ((st.now l).pos : Int)] 4 38 false]) 0) 20) b tg l st (Pr P m.next (nb m.next (19 + 1))) := by
            exact rd_bump (rd_bump (h.box 19 [.cells [.int .i64 ((st.now l).kind : Int), .str (st.now l).text, .int .i64 ((st.now l).n : Int), .int .i64 ((st.now l).pos : Int)] 4 38 false]))
          have kp : Kp m (bump (bump (ext (bump m 19) [.cells [.int .i64 ((st.now l).kind : Int), .str (st.now l).text, .int .i64 ((st.now l).n : Int), .int .i64 ((st.now l).pos : Int)] 4 38 false]) 0) 20) P := h.kp (by simp +contextual -implicitDefEqProofs (maxSteps := 1000000) (maxDischargeDepth := 8) only [le_nb, zz0, zz1, zz2, zz3, zz4, zz5, argsF, reduceIte, reduceCtorEq, Nat.reduceEqDiff, Nat.reduceBEq, Nat.reduceAdd, Int.reduceLT, Int.reduceLE, Int.reduceEq, Int.reduceToNat, Int.reduceNeg, Nat.reduceLeDiff, Int.reducePow, implies_true, UInt8.reduceToNat, Int.reduceSub, Int.reduceAdd, Nat.reduceLT, Nat.reduceMul, Nat.reduceSub]) (fun c hc => by simp +contextual -implicitDefEqProofs (maxSteps := 1000000) (maxDischargeDepth := 8) only [hc, zz0, zz1, zz2, zz3, zz4, zz5, argsF, reduceIte, reduceCtorEq, Nat.reduceEqDiff, Nat.reduceBEq, Nat.reduceAdd, Int.reduceLT, Int.reduceLE, Int.reduceEq, Int.reduceToNat, Int.reduceNeg, Nat.reduceLeDiff, Int.reducePow, implies_true, UInt8.reduceToNat, Int.reduceSub, Int.reduceAdd, Nat.reduceLT, Nat.reduceMul, Nat.reduceSub])
          have p0 : Pr P m.next (nb m.next (19 + 1)) (nb m.next 19) := pr_of (by decide)
          have b0 : (bump (bump (ext (bump m 19) [.cells [.int .i64 ((st.now l).kind : Int), .str (st.now l).text, .int .i64 ((st.now l).n : Int), .int .i64 ((st.now l).pos : Int)] 4 38 false]) 0) 20).get (nb m.next 19) = .cells [.int .i64 ((st.now l).kind : Int), .str (st.now l).text, .int .i64 ((st.now l).n : Int), .int .i64 ((st.now l).pos : Int)] 4 38 false := by
            rw [get_bump, get_bump, ← Nat.add_zero 19, ← nb_nb]
            exact (get_ext_nb (m := bump m 19) (i := 0) rfl (by simp)).trans rfl
          have k0 : Kp (bump (bump (ext (bump m 19) [.cells [.int .i64 ((st.now l).kind : Int), .str (st.now l).text, .int .i64 ((st.now l).n : Int), .int .i64 ((st.now l).pos : Int)] 4 38 false]) 0) 20) (bump (bump (ext (bump m 19) [.cells [.int .i64 ((st.now l).kind : Int), .str (st.now l).text, .int .i64 ((st.now l).n : Int), .int .i64 ((st.now l).pos : Int)] 4 38 false]) 0) 20) (Pr P m.next (nb m.next (19 + 1))) := ⟨Nat.le_refl _, fun _ _ => rfl⟩
          simp +contextual -implicitDefEqProofs (maxSteps := 1000000) (maxDischargeDepth := 8) only [F_expr_Reader_atom, hT, hF, hI, h, b1, b2, b3, b4, rd_ext, rd_bump, zz0, zz1, zz2, zz3, zz4, zz5, zz6, zz7, zz8, zz9, argsF, reduceIte, reduceCtorEq, Nat.reduceEqDiff, Nat.reduceBEq, Nat.reduceAdd, Int.reduceLT, Int.reduceLE, Int.reduceEq, Int.reduceToNat, Int.reduceNeg, Nat.reduceLeDiff, Int.reducePow, implies_true, UInt8.reduceToNat, Int.reduceSub, Int.reduceAdd, Nat.reduceLT, Nat.reduceMul, Nat.reduceSub, Nat.reduceBNe] at hX
          clear b1 b2 b3 b4
          generalize hC : run U n_expr_Reader_Skip _ _ = C at hX
          obtain ⟨m1, rfl, h1, k1⟩ := skipC ht o h0 hC
          clear hC
          have b1 := (k1.k _ p0).trans b0
          have k1 := k0.trans k1
          have n1 := Nat.lt_of_lt_of_le n0 k1.n
          by_cases w0 : st.is l [116, 114, 117, 101]
          · have hn := is_lt ht o.p w0
            have hw : st.skip l [116, 114, 117, 101] = st.next := by unfold RS.skip; rw [if_pos w0]
            rw [hw] at h1
            have on : StOk l st.next := (Gr.next hn).ok o
            rw [bo_pos w0] at hX
            simp +contextual -implicitDefEqProofs (maxSteps := 1000000) (maxDischargeDepth := 8) only [b1, n1, zz0, zz1, zz2, zz3, zz4, zz5, zz6, zz7, zz8, zz9, argsF, reduceIte, reduceCtorEq, Nat.reduceEqDiff, Nat.reduceBEq, Nat.reduceAdd, Int.reduceLT, Int.reduceLE, Int.reduceEq, Int.reduceToNat, Int.reduceNeg, Nat.reduceLeDiff, Int.reducePow, implies_true, UInt8.reduceToNat, Int.reduceSub, Int.reduceAdd, Nat.reduceLT, Nat.reduceMul, Nat.reduceSub, Nat.reduceBNe] at hX
            simp only [goF, hfe, not_true_eq_false, if_false, if_neg hp, if_neg q2, if_neg q1, if_pos w0, Option.some.injEq, Prod.mk.injEq] at hgo
            obtain ⟨rfl, rfl⟩ := hgo
            generalize hC : run U n_expr_Reader_Put _ _ = C at hX
            obtain ⟨m5, rfl, h5, k5⟩ := putC (P := P) (kids := []) ht on h1 (by simp) ⟨.inl ⟨rfl, rfl, rfl⟩, rfl⟩ (fun c hc => absurd Off.nil hc) (fun c hc => ⟨.inl hc, Off.nil⟩) (fun _ => rfl) hC
            clear hC
            simp +contextual -implicitDefEqProofs (maxSteps := 1000000) (maxDischargeDepth := 8) only [zz0, zz1, zz2, zz3, zz4, zz5, zz6, zz7, zz8, zz9, argsF, reduceIte, reduceCtorEq, Nat.reduceEqDiff, Nat.reduceBEq, Nat.reduceAdd, Int.reduceLT, Int.reduceLE, Int.reduceEq, Int.reduceToNat, Int.reduceNeg, Nat.reduceLeDiff, Int.reducePow, implies_true, UInt8.reduceToNat, Int.reduceSub, Int.reduceAdd, Nat.reduceLT, Nat.reduceMul, Nat.reduceSub, Nat.reduceBNe] at hX
            subst hX
            exact ⟨_, rfl, h5, kp.trans ((k1.weak fun c hc => .inl hc).trans k5)⟩
          · have hw : st.skip l [116, 114, 117, 101] = st := by unfold RS.skip; rw [if_neg w0]
            rw [hw] at h1
            rw [bo_neg w0] at hX
            simp +contextual -implicitDefEqProofs (maxSteps := 1000000) (maxDischargeDepth := 8) only [b1, n1, zz0, zz1, zz2, zz3, zz4, zz5, zz6, zz7, zz8, zz9, argsF, reduceIte, reduceCtorEq, Nat.reduceEqDiff, Nat.reduceBEq, Nat.reduceAdd, Int.reduceLT, Int.reduceLE, Int.reduceEq, Int.reduceToNat, Int.reduceNeg, Nat.reduceLeDiff, Int.reducePow, implies_true, UInt8.reduceToNat, Int.reduceSub, Int.reduceAdd, Nat.reduceLT, Nat.reduceMul, Nat.reduceSub, Nat.reduceBNe] at hX
            clear h0 b0 k0
            have h0 := h1
            have b0 := b1
            have k0 := k1
            clear h1 b1 k1 n1
            generalize hC : run U n_expr_Reader_Skip _ _ = C at hX
            obtain ⟨m2, rfl, h1, k1⟩ := skipC ht o h0 hC
            clear hC
            have b1 := (k1.k _ p0).trans b0
            have k1 := k0.trans k1
            have n1 := Nat.lt_of_lt_of_le n0 k1.n
            by_cases w1 : st.is l [102, 97, 108, 115, 101]
            · have hn := is_lt ht o.p w1
              have hw : st.skip l [102, 97, 108, 115, 101] = st.next := by unfold RS.skip; rw [if_pos w1]
              rw [hw] at h1
              have on : StOk l st.next := (Gr.next hn).ok o
              rw [bo_pos w1] at hX
              simp +contextual -implicitDefEqProofs (maxSteps := 1000000) (maxDischargeDepth := 8) only [b1, n1, zz0, zz1, zz2, zz3, zz4, zz5, zz6, zz7, zz8, zz9, argsF, reduceIte, reduceCtorEq, Nat.reduceEqDiff, Nat.reduceBEq, Nat.reduceAdd, Int.reduceLT, Int.reduceLE, Int.reduceEq, Int.reduceToNat, Int.reduceNeg, Nat.reduceLeDiff, Int.reducePow, implies_true, UInt8.reduceToNat, Int.reduceSub, Int.reduceAdd, Nat.reduceLT, Nat.reduceMul, Nat.reduceSub, Nat.reduceBNe] at hX
              simp only [goF, hfe, not_true_eq_false, if_false, if_neg hp, if_neg q2, if_neg q1, if_neg w0, if_pos w1, Option.some.injEq, Prod.mk.injEq] at hgo
              obtain ⟨rfl, rfl⟩ := hgo
              generalize hC : run U n_expr_Reader_Put _ _ = C at hX
              obtain ⟨m5, rfl, h5, k5⟩ := putC (P := P) (kids := []) ht on h1 (by simp) ⟨.inl ⟨rfl, rfl, rfl⟩, rfl⟩ (fun c hc => absurd Off.nil hc) (fun c hc => ⟨.inl hc, Off.nil⟩) (fun _ => rfl) hC
              clear hC
              simp +contextual -implicitDefEqProofs (maxSteps := 1000000) (maxDischargeDepth := 8) only [zz0, zz1, zz2, zz3, zz4, zz5, zz6, zz7, zz8, zz9, argsF, reduceIte, reduceCtorEq, Nat.reduceEqDiff, Nat.reduceBEq, Nat.reduceAdd, Int.reduceLT, Int.reduceLE, Int.reduceEq, Int.reduceToNat, Int.reduceNeg, Nat.reduceLeDiff, Int.reducePow, implies_true, UInt8.reduceToNat, Int.reduceSub, Int.reduceAdd, Nat.reduceLT, Nat.reduceMul, Nat.reduceSub, Nat.reduceBNe] at hX
              subst hX
              exact ⟨_, rfl, h5, kp.trans ((k1.weak fun c hc => .inl hc).trans k5)⟩
            · have hw : st.skip l [102, 97, 108, 115, 101] = st := by unfold RS.skip; rw [if_neg w1]
              rw [hw] at h1
              rw [bo_neg w1] at hX
              simp +contextual -implicitDefEqProofs (maxSteps := 1000000) (maxDischargeDepth := 8) only [b1, n1, zz0, zz1, zz2, zz3, zz4, zz5, zz6, zz7, zz8, zz9, argsF, reduceIte, reduceCtorEq, Nat.reduceEqDiff, Nat.reduceBEq, Nat.reduceAdd, Int.reduceLT, Int.reduceLE, Int.reduceEq, Int.reduceToNat, Int.reduceNeg, Nat.reduceLeDiff, Int.reducePow, implies_true, UInt8.reduceToNat, Int.reduceSub, Int.reduceAdd, Nat.reduceLT, Nat.reduceMul, Nat.reduceSub, Nat.reduceBNe] at hX
              clear h0 b0 k0
              have h0 := h1
              have b0 := b1
              have k0 := k1
              clear h1 b1 k1 n1
              generalize hC : run U n_expr_Reader_Skip _ _ = C at hX
              obtain ⟨m3, rfl, h1, k1⟩ := skipC ht o h0 hC
              clear hC
              have b1 := (k1.k _ p0).trans b0
              have k1 := k0.trans k1
              have n1 := Nat.lt_of_lt_of_le n0 k1.n
              by_cases w2 : st.is l [110, 105, 108]
              · have hn := is_lt ht o.p w2
                have hw : st.skip l [110, 105, 108] = st.next := by unfold RS.skip; rw [if_pos w2]
                rw [hw] at h1
                have on : StOk l st.next := (Gr.next hn).ok o
                rw [bo_pos w2] at hX
                simp +contextual -implicitDefEqProofs (maxSteps := 1000000) (maxDischargeDepth := 8) only [b1, n1, zz0, zz1, zz2, zz3, zz4, zz5, zz6, zz7, zz8, zz9, argsF, reduceIte, reduceCtorEq, Nat.reduceEqDiff, Nat.reduceBEq, Nat.reduceAdd, Int.reduceLT, Int.reduceLE, Int.reduceEq, Int.reduceToNat, Int.reduceNeg, Nat.reduceLeDiff, Int.reducePow, implies_true, UInt8.reduceToNat, Int.reduceSub, Int.reduceAdd, Nat.reduceLT, Nat.reduceMul, Nat.reduceSub, Nat.reduceBNe] at hX
                simp only [goF, hfe, not_true_eq_false, if_false, if_neg hp, if_neg q2, if_neg q1, if_neg w0, if_neg w1, if_pos w2, Option.some.injEq, Prod.mk.injEq] at hgo
                obtain ⟨rfl, rfl⟩ := hgo
                generalize hC : run U n_expr_Reader_Put _ _ = C at hX
                obtain ⟨m5, rfl, h5, k5⟩ := putC (P := P) (kids := []) ht on h1 (by simp) ⟨.inl ⟨rfl, rfl, rfl⟩, rfl⟩ (fun c hc => absurd Off.nil hc) (fun c hc => ⟨.inl hc, Off.nil⟩) (fun _ => rfl) hC
                clear hC
                simp +contextual -implicitDefEqProofs (maxSteps := 1000000) (maxDischargeDepth := 8) only [zz0, zz1, zz2, zz3, zz4, zz5, zz6, zz7, zz8, zz9, argsF, reduceIte, reduceCtorEq, Nat.reduceEqDiff, Nat.reduceBEq, Nat.reduceAdd, Int.reduceLT, Int.reduceLE, Int.reduceEq, Int.reduceToNat, Int.reduceNeg, Nat.reduceLeDiff, Int.reducePow, implies_true, UInt8.reduceToNat, Int.reduceSub, Int.reduceAdd, Nat.reduceLT, Nat.reduceMul, Nat.reduceSub, Nat.reduceBNe] at hX
                subst hX
                exact ⟨_, rfl, h5, kp.trans ((k1.weak fun c hc => .inl hc).trans k5)⟩
              · have hw : st.skip l [110, 105, 108] = st := by unfold RS.skip; rw [if_neg w2]
                rw [hw] at h1
                rw [bo_neg w2] at hX
                simp +contextual -implicitDefEqProofs (maxSteps := 1000000) (maxDischargeDepth := 8) only [b1, n1, zz0, zz1, zz2, zz3, zz4, zz5, zz6, zz7, zz8, zz9, argsF, reduceIte, reduceCtorEq, Nat.reduceEqDiff, Nat.reduceBEq, Nat.reduceAdd, Int.reduceLT, Int.reduceLE, Int.reduceEq, Int.reduceToNat, Int.reduceNeg, Nat.reduceLeDiff, Int.reducePow, implies_true, UInt8.reduceToNat, Int.reduceSub, Int.reduceAdd, Nat.reduceLT, Nat.reduceMul, Nat.reduceSub, Nat.reduceBNe] at hX
                clear h0 b0 k0
                have h0 := h1
                have b0 := b1
                have k0 := k1
                clear h1 b1 k1 n1
                generalize hC : run U n_expr_Reader_Skip _ _ = C at hX
                obtain ⟨m4, rfl, h1, k1⟩ := skipC ht o h0 hC
                clear hC
                have b1 := (k1.k _ p0).trans b0
                have k1 := k0.trans k1
                have n1 := Nat.lt_of_lt_of_le n0 k1.n
                by_cases w3 : st.is l [108, 101, 110]
                · have hn := is_lt ht o.p w3
                  have hw : st.skip l [108, 101, 110] = st.next := by unfold RS.skip; rw [if_pos w3]
                  rw [hw] at h1
                  have on : StOk l st.next := (Gr.next hn).ok o
                  rw [bo_pos w3] at hX
                  simp +contextual -implicitDefEqProofs (maxSteps := 1000000) (maxDischargeDepth := 8) only [b1, n1, zz0, zz1, zz2, zz3, zz4, zz5, zz6, zz7, zz8, zz9, argsF, reduceIte, reduceCtorEq, Nat.reduceEqDiff, Nat.reduceBEq, Nat.reduceAdd, Int.reduceLT, Int.reduceLE, Int.reduceEq, Int.reduceToNat, Int.reduceNeg, Nat.reduceLeDiff, Int.reducePow, implies_true, UInt8.reduceToNat, Int.reduceSub, Int.reduceAdd, Nat.reduceLT, Nat.reduceMul, Nat.reduceSub, Nat.reduceBNe] at hX
                  simp only [goF, hfe, not_true_eq_false, if_false, if_neg hp, if_neg q2, if_neg q1, if_neg w0, if_neg w1, if_neg w2, if_pos w3] at hgo
                  have hb := h1.grown (M := bump m4 9) (by rw [next_bump]; exact le_nb) (fun _ _ => rfl)
                  have hk' : 8 * (l.length - st.next.pos) + (Cmd.inner [40] [41]).rank < k := by simp only [Cmd.rank, RS.next] at *; omega
                  obtain ⟨s2, r2, e, g, ar, _⟩ := go_ok ht k (.inner [40] [41]) st.next on.p hk' trivial
                  obtain ⟨x, rfl⟩ := one_of ar
                  simp only [e, Option.bind_some, Option.some.injEq, Prod.mk.injEq] at hgo
                  obtain ⟨rfl, rfl⟩ := hgo
                  generalize hC : run U n_expr_Reader_Inner _ _ = C at hX
                  obtain ⟨m7, rfl, h7, k7⟩ := ih1 _ _ _ _ _ _ _ on hk' e hb hC
                  clear hC
                  have b7 := (k7.k _ (.inl p0)).trans b1
                  have hM : ∀ B, Mem.mk m7.next (ext (Mem.mk (m4.next + 3) m7.tbl) [B]).tbl = m7.set (m4.next + 3) B := fun _ => rfl
                  have hne : nb m.next 19 ≠ m4.next + 3 := by omega
                  have k7n : m4.next + 9 ≤ m7.next := k7.n
                  have hn3 : m4.next + 3 < m7.next := by omega
                  have pc : Pr (Pr P m.next (nb m.next (19 + 1))) m4.next (bump m4 9).next (m4.next + 3) := .inr ⟨by omega, by rw [next_bump]; unfold nb; omega⟩
                  have h8 := h7.poke pc (.cells [.int .i64 x] 1 3 false)
                  simp +contextual -implicitDefEqProofs (maxSteps := 1000000) (maxDischargeDepth := 8) only [b7, hM, hne, hn3, List.headD_cons, zz0, zz1, zz2, zz3, zz4, zz5, zz6, zz7, zz8, zz9, argsF, reduceIte, reduceCtorEq, Nat.reduceEqDiff, Nat.reduceBEq, Nat.reduceAdd, Int.reduceLT, Int.reduceLE, Int.reduceEq, Int.reduceToNat, Int.reduceNeg, Nat.reduceLeDiff, Int.reducePow, implies_true, UInt8.reduceToNat, Int.reduceSub, Int.reduceAdd, Nat.reduceLT, Nat.reduceMul, Nat.reduceSub, Nat.reduceBNe] at hX
                  generalize hC : run U n_expr_Reader_Put _ _ = C at hX
                  obtain ⟨m8, rfl, h9, k9⟩ := putC (P := Pr P m.next (nb m.next (19 + 1))) (kids := [x]) ht (g.ok on) h8 (by simp) ⟨.inr ⟨_, _, _, rfl, Nat.zero_le _, hn3, get_set_eq, .inr rfl⟩, rfl⟩ (fun c hc => by rw [notOff_slice hc]; exact pc) (fun c hc => ⟨.inl hc, Off.of (by have := h1.plt hc; omega)⟩) (by simp) hC
                  clear hC
                  have kq : Kp m7 (m7.set (m4.next + 3) (.cells [.int .i64 x] 1 3 false)) (Pr P m.next (nb m.next (19 + 1))) := ⟨Nat.le_refl _, fun c hc => get_set_ne (by have := h1.plt hc; omega)⟩
                  simp +contextual -implicitDefEqProofs (maxSteps := 1000000) (maxDischargeDepth := 8) only [zz0, zz1, zz2, zz3, zz4, zz5, zz6, zz7, zz8, zz9, argsF, reduceIte, reduceCtorEq, Nat.reduceEqDiff, Nat.reduceBEq, Nat.reduceAdd, Int.reduceLT, Int.reduceLE, Int.reduceEq, Int.reduceToNat, Int.reduceNeg, Nat.reduceLeDiff, Int.reducePow, implies_true, UInt8.reduceToNat, Int.reduceSub, Int.reduceAdd, Nat.reduceLT, Nat.reduceMul, Nat.reduceSub, Nat.reduceBNe] at hX
                  subst hX
                  exact ⟨_, rfl, h9.weak fun c hc => .inl hc, kp.trans ((((k1.trans (kp_bump h1)).trans (k7.weak fun c hc => .inl hc)).trans (kq.trans k9)).weak fun c hc => .inl hc)⟩
                · have hw : st.skip l [108, 101, 110] = st := by unfold RS.skip; rw [if_neg w3]
                  rw [hw] at h1
                  rw [bo_neg w3] at hX
                  simp +contextual -implicitDefEqProofs (maxSteps := 1000000) (maxDischargeDepth := 8) only [b1, n1, zz0, zz1, zz2, zz3, zz4, zz5, zz6, zz7, zz8, zz9, argsF, reduceIte, reduceCtorEq, Nat.reduceEqDiff, Nat.reduceBEq, Nat.reduceAdd, Int.reduceLT, Int.reduceLE, Int.reduceEq, Int.reduceToNat, Int.reduceNeg, Nat.reduceLeDiff, Int.reducePow, implies_true, UInt8.reduceToNat, Int.reduceSub, Int.reduceAdd, Nat.reduceLT, Nat.reduceMul, Nat.reduceSub, Nat.reduceBNe] at hX
                  clear h0 b0 k0
                  have h0 := h1
                  have b0 := b1
                  have k0 := k1
                  clear h1 b1 k1 n1
                  generalize hC : run U n_expr_Reader_Skip _ _ = C at hX
                  obtain ⟨m5, rfl, h1, k1⟩ := skipC ht o h0 hC
                  clear hC
                  have b1 := (k1.k _ p0).trans b0
                  have k1 := k0.trans k1
                  have n1 := Nat.lt_of_lt_of_le n0 k1.n
                  by_cases w4 : st.is l [110, 101, 119]
                  · have hn := is_lt ht o.p w4
                    have hw : st.skip l [110, 101, 119] = st.next := by unfold RS.skip; rw [if_pos w4]
                    rw [hw] at h1
                    have on : StOk l st.next := (Gr.next hn).ok o
                    rw [bo_pos w4] at hX
                    simp +contextual -implicitDefEqProofs (maxSteps := 1000000) (maxDischargeDepth := 8) only [b1, n1, zz0, zz1, zz2, zz3, zz4, zz5, zz6, zz7, zz8, zz9, argsF, reduceIte, reduceCtorEq, Nat.reduceEqDiff, Nat.reduceBEq, Nat.reduceAdd, Int.reduceLT, Int.reduceLE, Int.reduceEq, Int.reduceToNat, Int.reduceNeg, Nat.reduceLeDiff, Int.reducePow, implies_true, UInt8.reduceToNat, Int.reduceSub, Int.reduceAdd, Nat.reduceLT, Nat.reduceMul, Nat.reduceSub, Nat.reduceBNe] at hX
                    simp only [goF, hfe, not_true_eq_false, if_false, if_neg hp, if_neg q2, if_neg q1, if_neg w0, if_neg w1, if_neg w2, if_neg w3, if_pos w4] at hgo
                    have hb := h1.grown (M := bump m5 9) (by rw [next_bump]; exact le_nb) (fun _ _ => rfl)
                    have hk' : 8 * (l.length - st.next.pos) + (Cmd.inner [40] [41]).rank < k := by simp only [Cmd.rank, RS.next] at *; omega
                    obtain ⟨s2, r2, e, g, ar, _⟩ := go_ok ht k (.inner [40] [41]) st.next on.p hk' trivial
                    obtain ⟨x, rfl⟩ := one_of ar
                    simp only [e, Option.bind_some, Option.some.injEq, Prod.mk.injEq] at hgo
                    obtain ⟨rfl, rfl⟩ := hgo
                    generalize hC : run U n_expr_Reader_Inner _ _ = C at hX
                    obtain ⟨m7, rfl, h7, k7⟩ := ih1 _ _ _ _ _ _ _ on hk' e hb hC
                    clear hC
                    have b7 := (k7.k _ (.inl p0)).trans b1
                    have hM : ∀ B, Mem.mk m7.next (ext (Mem.mk (m5.next + 3) m7.tbl) [B]).tbl = m7.set (m5.next + 3) B := fun _ => rfl
                    have hne : nb m.next 19 ≠ m5.next + 3 := by omega
                    have k7n : m5.next + 9 ≤ m7.next := k7.n
                    have hn3 : m5.next + 3 < m7.next := by omega
                    have pc : Pr (Pr P m.next (nb m.next (19 + 1))) m5.next (bump m5 9).next (m5.next + 3) := .inr ⟨by omega, by rw [next_bump]; unfold nb; omega⟩
                    have h8 := h7.poke pc (.cells [.int .i64 x] 1 3 false)
                    simp +contextual -implicitDefEqProofs (maxSteps := 1000000) (maxDischargeDepth := 8) only [b7, hM, hne, hn3, List.headD_cons, zz0, zz1, zz2, zz3, zz4, zz5, zz6, zz7, zz8, zz9, argsF, reduceIte, reduceCtorEq, Nat.reduceEqDiff, Nat.reduceBEq, Nat.reduceAdd, Int.reduceLT, Int.reduceLE, Int.reduceEq, Int.reduceToNat, Int.reduceNeg, Nat.reduceLeDiff, Int.reducePow, implies_true, UInt8.reduceToNat, Int.reduceSub, Int.reduceAdd, Nat.reduceLT, Nat.reduceMul, Nat.reduceSub, Nat.reduceBNe] at hX
                    generalize hC : run U n_expr_Reader_Put _ _ = C at hX
                    obtain ⟨m8, rfl, h9, k9⟩ := putC (P := Pr P m.next (nb m.next (19 + 1))) (kids := [x]) ht (g.ok on) h8 (by simp) ⟨.inr ⟨_, _, _, rfl, Nat.zero_le _, hn3, get_set_eq, .inr rfl⟩, rfl⟩ (fun c hc => by rw [notOff_slice hc]; exact pc) (fun c hc => ⟨.inl hc, Off.of (by have := h1.plt hc; omega)⟩) (by simp) hC
                    clear hC
                    have kq : Kp m7 (m7.set (m5.next + 3) (.cells [.int .i64 x] 1 3 false)) (Pr P m.next (nb m.next (19 + 1))) := ⟨Nat.le_refl _, fun c hc => get_set_ne (by have := h1.plt hc; omega)⟩
                    simp +contextual -implicitDefEqProofs (maxSteps := 1000000) (maxDischargeDepth := 8) only [zz0, zz1, zz2, zz3, zz4, zz5, zz6, zz7, zz8, zz9, argsF, reduceIte, reduceCtorEq, Nat.reduceEqDiff, Nat.reduceBEq, Nat.reduceAdd, Int.reduceLT, Int.reduceLE, Int.reduceEq, Int.reduceToNat, Int.reduceNeg, Nat.reduceLeDiff, Int.reducePow, implies_true, UInt8.reduceToNat, Int.reduceSub, Int.reduceAdd, Nat.reduceLT, Nat.reduceMul, Nat.reduceSub, Nat.reduceBNe] at hX
                    subst hX
                    exact ⟨_, rfl, h9.weak fun c hc => .inl hc, kp.trans ((((k1.trans (kp_bump h1)).trans (k7.weak fun c hc => .inl hc)).trans (kq.trans k9)).weak fun c hc => .inl hc)⟩
                  · have hw : st.skip l [110, 101, 119] = st := by unfold RS.skip; rw [if_neg w4]
                    rw [hw] at h1
                    rw [bo_neg w4] at hX
                    simp +contextual -implicitDefEqProofs (maxSteps := 1000000) (maxDischargeDepth := 8) only [b1, n1, zz0, zz1, zz2, zz3, zz4, zz5, zz6, zz7, zz8, zz9, argsF, reduceIte, reduceCtorEq, Nat.reduceEqDiff, Nat.reduceBEq, Nat.reduceAdd, Int.reduceLT, Int.reduceLE, Int.reduceEq, Int.reduceToNat, Int.reduceNeg, Nat.reduceLeDiff, Int.reducePow, implies_true, UInt8.reduceToNat, Int.reduceSub, Int.reduceAdd, Nat.reduceLT, Nat.reduceMul, Nat.reduceSub, Nat.reduceBNe] at hX
                    clear h0 b0 k0
                    have h0 := h1
                    have b0 := b1
                    have k0 := k1
                    clear h1 b1 k1 n1
                    simp only [goF, hfe, not_true_eq_false, if_false, if_neg hp, if_neg q2, if_neg q1, if_neg w0, if_neg w1, if_neg w2, if_neg w3, if_neg w4, Option.some.injEq, Prod.mk.injEq] at hgo
                    obtain ⟨rfl, rfl⟩ := hgo
                    generalize hC : run U n_expr_Reader_Fail _ _ = C at hX
                    obtain ⟨m5, rfl, h5, k5⟩ := failC h0 hC
                    clear hC
                    simp +contextual -implicitDefEqProofs (maxSteps := 1000000) (maxDischargeDepth := 8) only [zz0, zz1, zz2, zz3, zz4, zz5, zz6, zz7, zz8, zz9, argsF, reduceIte, reduceCtorEq, Nat.reduceEqDiff, Nat.reduceBEq, Nat.reduceAdd, Int.reduceLT, Int.reduceLE, Int.reduceEq, Int.reduceToNat, Int.reduceNeg, Nat.reduceLeDiff, Int.reducePow, implies_true, UInt8.reduceToNat, Int.reduceSub, Int.reduceAdd, Nat.reduceLT, Nat.reduceMul, Nat.reduceSub, Nat.reduceBNe] at hX
                    subst hX
                    exact ⟨_, rfl, h5.weak fun c hc => .inl hc, kp.trans ((k0.trans k5).weak fun c hc => .inl hc)⟩
          --END
  · have b1 := bo_neg hfe
    have kp : Kp m (bump (ext (bump m 19) [.cells [.int .i64 ((st.now l).kind : Int), .str (st.now l).text, .int .i64 ((st.now l).n : Int), .int .i64 ((st.now l).pos : Int)] 4 38 false]) 0) P := h.kp (by simp +contextual -implicitDefEqProofs (maxSteps := 1000000) (maxDischargeDepth := 8) only [le_nb, zz0, zz1, zz2, zz3, zz4, zz5, argsF, reduceIte, reduceCtorEq, Nat.reduceEqDiff, Nat.reduceBEq, Nat.reduceAdd, Int.reduceLT, Int.reduceLE, Int.reduceEq, Int.reduceToNat, Int.reduceNeg, Nat.reduceLeDiff, Int.reducePow, implies_true, UInt8.reduceToNat, Int.reduceSub, Int.reduceAdd, Nat.reduceLT, Nat.reduceMul, Nat.reduceSub]) (fun c hc => by simp +contextual -implicitDefEqProofs (maxSteps := 1000000) (maxDischargeDepth := 8) only [hc, zz0, zz1, zz2, zz3, zz4, zz5, argsF, reduceIte, reduceCtorEq, Nat.reduceEqDiff, Nat.reduceBEq, Nat.reduceAdd, Int.reduceLT, Int.reduceLE, Int.reduceEq, Int.reduceToNat, Int.reduceNeg, Nat.reduceLeDiff, Int.reducePow, implies_true, UInt8.reduceToNat, Int.reduceSub, Int.reduceAdd, Nat.reduceLT, Nat.reduceMul, Nat.reduceSub])
    simp +contextual -implicitDefEqProofs (maxSteps := 1000000) (maxDischargeDepth := 8) only [F_expr_Reader_atom, hT, hF, hI, h, b1, rd_ext, rd_bump, zz0, zz1, zz2, zz3, zz4, zz5, zz6, zz7, zz8, zz9, argsF, reduceIte, reduceCtorEq, Nat.reduceEqDiff, Nat.reduceBEq, Nat.reduceAdd, Int.reduceLT, Int.reduceLE, Int.reduceEq, Int.reduceToNat, Int.reduceNeg, Nat.reduceLeDiff, Int.reducePow, implies_true, UInt8.reduceToNat, Int.reduceSub, Int.reduceAdd, Nat.reduceLT, Nat.reduceMul, Nat.reduceSub, Nat.reduceBNe] at hX
    subst hX
    simp only [goF, hfe, not_false_eq_true, if_true, Option.some.injEq, Prod.mk.injEq] at hgo
    obtain ⟨rfl, rfl⟩ := hgo
    exact ⟨_, rfl, by simp (maxDischargeDepth := 20) only [rd_ext, rd_bump, h], kp⟩
end
end Go.Proofs.Ytjgbofonigpjaaa.Ev
end
section
namespace Go.Proofs.Ytjgbofonigpjaaa.Ev
open Go
set_option linter.unusedSimpArgs false
set_option linter.unusedVariables false
set_option maxRecDepth 10000
set_option maxHeartbeats 4000000
/-- The loop of climb. -/
def WClimbL (l : List Tok) (tg k : Nat) : Prop := ∀ (least most left : Int) (st : RS) (fr : Fr) (m : Mem) (b : Nat) (P : Nat → Prop) (s1 : RS) (r : List Int) (X : Option Out), StOk l st → 8 * (l.length - st.pos) + (Cmd.climbL least most left).rank < k → goF l k (.climbL least most left) st = some (s1, r) → Rd m b tg l st P → fr.get 0 = .ptr b 0 → fr.get 1 = .int .i64 least → fr.get 5 = .int .i64 left → fr.get 6 = .int .i64 most → fr.defers = [] → exec U (.loop F_expr_Reader_climb_l0) fr m = X → ∃ fr' m', X = some (.exit 0 fr' m') ∧ fr'.get 5 = .int .i64 (r.headD 0) ∧ fr'.defers = [] ∧ Rd m' b tg l s1 P ∧ Kp m m' P
section
variable {l : List Tok} {tg : Nat} (ht : TokOk l) {k : Nat}
include ht
theorem climb_loop (ih1 : ∀ n : Int, WInt l tg n_expr_Reader_climb [.int .i64 n] k (.climb n)) (ih2 : WClimbL l tg k) : WClimbL l tg (k + 1) := by
  intro least most left st fr m b P s1 r X o hk hgo h h0 h1 h5 h6 hd hX
  rw [exec_loop] at hX
  generalize hL : exec U (.loop F_expr_Reader_climb_l0) = L at hX
  have hT := tokenC (b := b) (tg := tg) (P := P) ht o
  have hF := fineC (b := b) (tg := tg) (l := l) (st := st) (P := P)
  have hlt := h.lt
  by_cases hfe : st.fe = 0
  · have b1 := bo_pos hfe
    have hop := ops_eq (st.now l).text
    have hk4 : (((st.now l).kind : Int) = 4) = ((st.now l).kind = 4) := propext (by omega)
    have hle := opsF_le (st.now l).text
    simp only [goF, hfe, true_and] at hgo
    generalize hO : opsF (st.now l).text = O at *
    obtain ⟨o1, o2⟩ := O
    simp only at hgo hle hop
    have w1 : IntKind.i64.wrap (o1 + 1) = o1 + 1 := wrap_i64 (by omega) (by omega)
    have w2 : IntKind.i64.wrap (o1 - 1) = o1 - 1 := wrap_i64 (by omega) (by omega)
    obtain ⟨tv, hv, xs, h⟩ := h
    have hr : Rd m b tg l st P := ⟨tv, hv, xs, h⟩
    have hg := h.g
    have hw := wrap_succ (i := st.pos) (by have := o.p; have := ht.lt; omega)
    obtain ⟨hnx, knx⟩ := h.next
    have hcp : copies 2 [EV.int .i64 0] = [EV.int .i64 0, EV.int .i64 0] := rfl
    simp +contextual -implicitDefEqProofs (maxSteps := 1000000) (maxDischargeDepth := 8) only [F_expr_Reader_climb_l0, h0, h1, h5, h6, hd, hT, hF, hr, b1, hop, hk4, w1, w2, hlt, hg, hw, hcp, evOp_bsliceN, bsF_some, rd_ext, rd_bump, zz0, zz1, zz2, zz3, zz4, zz5, zz6, zz7, zz8, zz9, argsF, reduceIte, reduceCtorEq, Nat.reduceEqDiff, Nat.reduceBEq, Nat.reduceAdd, Int.reduceLT, Int.reduceLE, Int.reduceEq, Int.reduceToNat, Int.reduceNeg, Nat.reduceLeDiff, Int.reducePow, implies_true, UInt8.reduceToNat, Int.reduceSub, Int.reduceAdd, Nat.reduceLT, Nat.reduceMul, Nat.reduceSub, Nat.reduceBNe] at hX
    by_cases hc : ((((st.now l).kind ≠ 4 ∨ o2 = 0) ∨ o1 < least) ∨ most < o1)
    · simp only [hc, not_true_eq_false, if_false, Option.some.injEq, Prod.mk.injEq] at hgo
      obtain ⟨rfl, rfl⟩ := hgo
      rw [iF_pos hc] at hX
      subst hX
      have kp : Kp m (ext (bump (bump m 0) 19) [.cells [.int .i64 ((st.now l).kind : Int), .str (st.now l).text, .int .i64 ((st.now l).n : Int), .int .i64 ((st.now l).pos : Int)] 4 38 false, .cells [.int .i64 o1, .int .i64 o2] 2 73 false]) P := hr.kp (by simp +contextual -implicitDefEqProofs (maxSteps := 1000000) (maxDischargeDepth := 8) only [le_nb, zz0, zz1, zz2, zz3, zz4, zz5, argsF, reduceIte, reduceCtorEq, Nat.reduceEqDiff, Nat.reduceBEq, Nat.reduceAdd, Int.reduceLT, Int.reduceLE, Int.reduceEq, Int.reduceToNat, Int.reduceNeg, Nat.reduceLeDiff, Int.reducePow, implies_true, UInt8.reduceToNat, Int.reduceSub, Int.reduceAdd, Nat.reduceLT, Nat.reduceMul, Nat.reduceSub]) (fun c hc => by simp +contextual -implicitDefEqProofs (maxSteps := 1000000) (maxDischargeDepth := 8) only [hc, zz0, zz1, zz2, zz3, zz4, zz5, argsF, reduceIte, reduceCtorEq, Nat.reduceEqDiff, Nat.reduceBEq, Nat.reduceAdd, Int.reduceLT, Int.reduceLE, Int.reduceEq, Int.reduceToNat, Int.reduceNeg, Nat.reduceLeDiff, Int.reducePow, implies_true, UInt8.reduceToNat, Int.reduceSub, Int.reduceAdd, Nat.reduceLT, Nat.reduceMul, Nat.reduceSub])
      exact ⟨_, _, rfl, by simp only [h5, List.headD_cons, get_set', selE_t, selE_f, Nat.reduceBEq, set_defers, fr00_get, fr00_defers, put_some, put_none ], by simp only [hd, get_set', selE_t, selE_f, Nat.reduceBEq, set_defers, fr00_get, fr00_defers, put_some, put_none ], by simp (maxDischargeDepth := 20) only [rd_ext, rd_bump, hr], kp⟩
    · simp only [hc, not_false_eq_true, if_true] at hgo
      rw [iF_neg hc] at hX
      have hn := next_lt ht o.p (by omega)
      have on : StOk l st.next := (Gr.next hn).ok o
      have hmn : (m.set b (.cells [.fz tg 4 (toks l), .int .i64 ((st.pos + 1 : Nat) : Int), .int .i64 st.deep, tv, hv, .int .i64 st.fe, .int .i64 st.fp] 7 t_expr_Reader false)).next = m.next := rfl
      generalize m.set b _ = m' at *
      have hk' : 8 * (l.length - st.next.pos) + (Cmd.climb (o1 + 1)).rank < k := by simp only [Cmd.rank, RS.next] at *; omega
      obtain ⟨s2, r2, e, g, ar, _⟩ := go_ok ht k (.climb (o1 + 1)) st.next on.p hk' trivial
      obtain ⟨x, rfl⟩ := one_of ar
      simp only [e, Option.bind_some, List.headD_cons] at hgo
      have r0 : Rd (ext (bump (bump m' 0) 19) [.cells [.int .i64 ((st.now l).kind : Int), .str (st.now l).text, .int .i64 ((st.now l).n : Int), .int .i64 ((st.now l).pos : Int)] 4 38 false, .cells [.int .i64 o1, .int .i64 o2] 2 73 false]) b tg l st.next (Pr P m.next (nb m.next 21)) := by
        have := (rd_bump (k := 0) hnx).box 19 [.cells [.int .i64 ((st.now l).kind : Int), .str (st.now l).text, .int .i64 ((st.now l).n : Int), .int .i64 ((st.now l).pos : Int)] 4 38 false, .cells [.int .i64 o1, .int .i64 o2] 2 73 false]
        rw [← hmn]; exact this
      have kp : Kp m' (ext (bump (bump m' 0) 19) [.cells [.int .i64 ((st.now l).kind : Int), .str (st.now l).text, .int .i64 ((st.now l).n : Int), .int .i64 ((st.now l).pos : Int)] 4 38 false, .cells [.int .i64 o1, .int .i64 o2] 2 73 false]) P := hnx.kp (by simp +contextual -implicitDefEqProofs (maxSteps := 1000000) (maxDischargeDepth := 8) only [le_nb, zz0, zz1, zz2, zz3, zz4, zz5, argsF, reduceIte, reduceCtorEq, Nat.reduceEqDiff, Nat.reduceBEq, Nat.reduceAdd, Int.reduceLT, Int.reduceLE, Int.reduceEq, Int.reduceToNat, Int.reduceNeg, Nat.reduceLeDiff, Int.reducePow, implies_true, UInt8.reduceToNat, Int.reduceSub, Int.reduceAdd, Nat.reduceLT, Nat.reduceMul, Nat.reduceSub]) (fun c hc => by simp +contextual -implicitDefEqProofs (maxSteps := 1000000) (maxDischargeDepth := 8) only [hc, zz0, zz1, zz2, zz3, zz4, zz5, argsF, reduceIte, reduceCtorEq, Nat.reduceEqDiff, Nat.reduceBEq, Nat.reduceAdd, Int.reduceLT, Int.reduceLE, Int.reduceEq, Int.reduceToNat, Int.reduceNeg, Nat.reduceLeDiff, Int.reducePow, implies_true, UInt8.reduceToNat, Int.reduceSub, Int.reduceAdd, Nat.reduceLT, Nat.reduceMul, Nat.reduceSub])
      have p19 : Pr P m.next (nb m.next 21) (nb m.next 19) := pr_of (by decide)
      have p20 : Pr P m.next (nb m.next 21) (nb m.next 20) := pr_of (by decide)
      have g19 : (ext (bump (bump m' 0) 19) [.cells [.int .i64 ((st.now l).kind : Int), .str (st.now l).text, .int .i64 ((st.now l).n : Int), .int .i64 ((st.now l).pos : Int)] 4 38 false, .cells [.int .i64 o1, .int .i64 o2] 2 73 false]).get (nb m.next 19) = .cells [.int .i64 ((st.now l).kind : Int), .str (st.now l).text, .int .i64 ((st.now l).n : Int), .int .i64 ((st.now l).pos : Int)] 4 38 false := by
        rw [← hmn]; exact (get_ext_nb (m := bump (bump m' 0) 19) (i := 0) rfl (by simp)).trans rfl
      have g20 : (ext (bump (bump m' 0) 19) [.cells [.int .i64 ((st.now l).kind : Int), .str (st.now l).text, .int .i64 ((st.now l).n : Int), .int .i64 ((st.now l).pos : Int)] 4 38 false, .cells [.int .i64 o1, .int .i64 o2] 2 73 false]).get (nb m.next 20) = .cells [.int .i64 o1, .int .i64 o2] 2 73 false := by
        rw [← hmn]; exact (get_ext_nb (m := bump (bump m' 0) 19) (i := 1) rfl (by simp)).trans rfl
      have n0 : (ext (bump (bump m' 0) 19) [.cells [.int .i64 ((st.now l).kind : Int), .str (st.now l).text, .int .i64 ((st.now l).n : Int), .int .i64 ((st.now l).pos : Int)] 4 38 false, .cells [.int .i64 o1, .int .i64 o2] 2 73 false]).next = nb m.next 21 := by rw [← hmn, next_ext]; rfl
      generalize hC : run U n_expr_Reader_climb _ _ = C at hX
      obtain ⟨m1, rfl, r1, k1⟩ := ih1 (o1 + 1) _ _ _ _ _ _ _ on hk' e r0 hC
      clear hC
      have g19 := (k1.k _ p19).trans g19
      have g20 := (k1.k _ p20).trans g20
      have n1 : nb m.next 21 ≤ m1.next := by rw [← n0]; exact k1.n
      have n19 : nb m.next 19 < m1.next := Nat.lt_of_lt_of_le (by unfold nb; omega) n1
      have n20 : nb m.next 20 < m1.next := Nat.lt_of_lt_of_le (by unfold nb; omega) n1
      have o2' := g.ok on
      simp +contextual -implicitDefEqProofs (maxSteps := 1000000) (maxDischargeDepth := 8) only [h0, h1, h5, h6, hd, g19, g20, n19, n20, hcp, evOp_bsliceN, bsF_some, List.headD_cons, zz0, zz1, zz2, zz3, zz4, zz5, zz6, zz7, zz8, zz9, argsF, reduceIte, reduceCtorEq, Nat.reduceEqDiff, Nat.reduceBEq, Nat.reduceAdd, Int.reduceLT, Int.reduceLE, Int.reduceEq, Int.reduceToNat, Int.reduceNeg, Nat.reduceLeDiff, Int.reducePow, implies_true, UInt8.reduceToNat, Int.reduceSub, Int.reduceAdd, Nat.reduceLT, Nat.reduceMul, Nat.reduceSub, Nat.reduceBNe] at hX
      generalize hC : run U n_expr_Reader_Put _ _ = C at hX
      obtain ⟨m5, rfl, r5, k5⟩ := putC (P := Pr P m.next (nb m.next 21)) (kids := [left, x]) ht o2' (r1.boxe _) (by simp) (own_row (by rfl)) (fun c hc => by rw [notOff_slice hc]; exact pr_of (by simp)) (fun c hc => ⟨.inl hc, Off.of (by have := r1.plt hc; unfold nb; omega)⟩) (by simp) hC
      clear hC
      have k5' := (k1.trans (kp_boxe r1 _)).trans k5
      have g20 := ((kp_boxe r1 _).trans k5).k _ p20 |>.trans g20
      have kk := (knx.trans kp).trans (k5'.weak fun c hc => .inl hc)
      have g1 := ((Gr.next hn).trans g).put (by have := g.t; simp only [RS.next] at this; omega) (d := nd 5 [left, x] o2 [] (st.now l).pos)
      have hq : (s2.put (nd 5 [left, x] o2 [] (st.now l).pos)).pos = s2.pos := by unfold RS.put RS.put0; split <;> split <;> first | rfl | exact fail_pos.1
      have hk2 : ∀ a b' c, 8 * (l.length - (s2.put (nd 5 [left, x] o2 [] (st.now l).pos)).pos) + (Cmd.climbL a b' c).rank < k := fun _ _ _ => by have := g.p; have := g.pl; simp only [Cmd.rank, RS.next] at *; omega
      have o5 := g1.ok o
      have r5 := r5.weak (Q := P) fun c hc => .inl hc
      clear r0 r1 k1 kp knx k5 k5' hnx
      simp +contextual -implicitDefEqProofs (maxSteps := 1000000) (maxDischargeDepth := 8) only [h0, h1, h5, h6, hd, g20, w2, zz0, zz1, zz2, zz3, zz4, zz5, zz6, zz7, zz8, zz9, argsF, reduceIte, reduceCtorEq, Nat.reduceEqDiff, Nat.reduceBEq, Nat.reduceAdd, Int.reduceLT, Int.reduceLE, Int.reduceEq, Int.reduceToNat, Int.reduceNeg, Nat.reduceLeDiff, Int.reducePow, implies_true, UInt8.reduceToNat, Int.reduceSub, Int.reduceAdd, Nat.reduceLT, Nat.reduceMul, Nat.reduceSub, Nat.reduceBNe] at hX
      have w3 : IntKind.i64.wrap 2 = 2 := wrap_i64 (by omega) (by omega)
      by_cases h3 : o1 = 3
      · rw [if_pos h3] at hgo
        rw [iF_pos h3] at hX
        subst hL
        obtain ⟨fr', m9, rfl, q5, qd, q6, q7⟩ := ih2 _ _ _ _ _ _ _ P _ _ _ o5 (hk2 _ _ _) hgo r5 (by simp only [h0, get_set', selE_t, selE_f, Nat.reduceBEq, set_defers, fr00_get, fr00_defers, put_some, put_none ]) (by simp only [h1, get_set', selE_t, selE_f, Nat.reduceBEq, set_defers, fr00_get, fr00_defers, put_some, put_none ]) (by simp only [get_set', selE_t, selE_f, Nat.reduceBEq, set_defers, fr00_get, fr00_defers, put_some, put_none ]) (by first | (simp only [get_set', selE_t, selE_f, Nat.reduceBEq, set_defers, fr00_get, fr00_defers, put_some, put_none ]; done) | simp only [h3, w3, Int.reduceSub, get_set', selE_t, selE_f, Nat.reduceBEq, set_defers, fr00_get, fr00_defers, put_some, put_none ]) (by simp only [hd, get_set', selE_t, selE_f, Nat.reduceBEq, set_defers, fr00_get, fr00_defers, put_some, put_none ]) hX
        exact ⟨fr', m9, rfl, q5, qd, q6, kk.trans q7⟩
      · rw [if_neg h3] at hgo
        rw [iF_neg h3] at hX
        subst hL
        obtain ⟨fr', m9, rfl, q5, qd, q6, q7⟩ := ih2 _ _ _ _ _ _ _ P _ _ _ o5 (hk2 _ _ _) hgo r5 (by simp only [h0, get_set', selE_t, selE_f, Nat.reduceBEq, set_defers, fr00_get, fr00_defers, put_some, put_none ]) (by simp only [h1, get_set', selE_t, selE_f, Nat.reduceBEq, set_defers, fr00_get, fr00_defers, put_some, put_none ]) (by simp only [get_set', selE_t, selE_f, Nat.reduceBEq, set_defers, fr00_get, fr00_defers, put_some, put_none ]) (by first | (simp only [get_set', selE_t, selE_f, Nat.reduceBEq, set_defers, fr00_get, fr00_defers, put_some, put_none ]; done) | simp only [h3, w3, Int.reduceSub, get_set', selE_t, selE_f, Nat.reduceBEq, set_defers, fr00_get, fr00_defers, put_some, put_none ]) (by simp only [hd, get_set', selE_t, selE_f, Nat.reduceBEq, set_defers, fr00_get, fr00_defers, put_some, put_none ]) hX
        exact ⟨fr', m9, rfl, q5, qd, q6, kk.trans q7⟩
  · have b1 := bo_neg hfe
    simp only [goF, hfe, false_and, if_false, Option.some.injEq, Prod.mk.injEq] at hgo
    obtain ⟨rfl, rfl⟩ := hgo
    simp +contextual -implicitDefEqProofs (maxSteps := 1000000) (maxDischargeDepth := 8) only [F_expr_Reader_climb_l0, h0, h1, h5, h6, hd, hF, h, b1, rd_ext, rd_bump, zz0, zz1, zz2, zz3, zz4, zz5, zz6, zz7, zz8, zz9, argsF, reduceIte, reduceCtorEq, Nat.reduceEqDiff, Nat.reduceBEq, Nat.reduceAdd, Int.reduceLT, Int.reduceLE, Int.reduceEq, Int.reduceToNat, Int.reduceNeg, Nat.reduceLeDiff, Int.reducePow, implies_true, UInt8.reduceToNat, Int.reduceSub, Int.reduceAdd, Nat.reduceLT, Nat.reduceMul, Nat.reduceSub, Nat.reduceBNe] at hX
    subst hX
    exact ⟨_, _, rfl, by simp only [h5, List.headD_cons, get_set', selE_t, selE_f, Nat.reduceBEq, set_defers, fr00_get, fr00_defers, put_some, put_none ], by simp only [hd, get_set', selE_t, selE_f, Nat.reduceBEq, set_defers, fr00_get, fr00_defers, put_some, put_none ], rd_bump h, kp_bump h⟩
omit ht in
theorem climb_walk (ht : TokOk l) (ih1 : WInt l tg n_expr_Reader_front [] k .front) (ih2 : WClimbL l tg k) (least : Int) : WInt l tg n_expr_Reader_climb [.int .i64 least] (k + 1) (.climb least) := by
  intro st m b P s1 r X o hk hgo h hX
  rw [run_p2 (by simp [F_expr_Reader_climb])] at hX
  generalize hL : exec (UT B K) (ICode.loop F_expr_Reader_climb_l0) = L at hX
  have hk' : 8 * (l.length - st.pos) + Cmd.front.rank < k := by simp only [Cmd.rank] at *; omega
  obtain ⟨s2, r2, e, g, ar, _⟩ := go_ok ht k .front st o.p hk' trivial
  obtain ⟨x, rfl⟩ := one_of ar
  simp only [goF, e, Option.bind_some, List.headD_cons] at hgo
  simp +contextual -implicitDefEqProofs (maxSteps := 1000000) (maxDischargeDepth := 8) only [F_expr_Reader_climb, zz0, zz1, zz2, zz3, zz4, zz5, zz6, zz7, zz8, zz9, argsF, reduceIte, reduceCtorEq, Nat.reduceEqDiff, Nat.reduceBEq, Nat.reduceAdd, Int.reduceLT, Int.reduceLE, Int.reduceEq, Int.reduceToNat, Int.reduceNeg, Nat.reduceLeDiff, Int.reducePow, implies_true, UInt8.reduceToNat, Int.reduceSub, Int.reduceAdd, Nat.reduceLT, Nat.reduceMul, Nat.reduceSub, Nat.reduceBNe] at hX
  generalize hC : run U n_expr_Reader_front _ _ = C at hX
  obtain ⟨m1, rfl, r1, k1⟩ := ih1 _ _ _ _ _ _ _ o hk' e h hC
  clear hC
  simp +contextual -implicitDefEqProofs (maxSteps := 1000000) (maxDischargeDepth := 8) only [List.headD_cons, zz0, zz1, zz2, zz3, zz4, zz5, zz6, zz7, zz8, zz9, argsF, reduceIte, reduceCtorEq, Nat.reduceEqDiff, Nat.reduceBEq, Nat.reduceAdd, Int.reduceLT, Int.reduceLE, Int.reduceEq, Int.reduceToNat, Int.reduceNeg, Nat.reduceLeDiff, Int.reducePow, implies_true, UInt8.reduceToNat, Int.reduceSub, Int.reduceAdd, Nat.reduceLT, Nat.reduceMul, Nat.reduceSub, Nat.reduceBNe] at hX
  subst hL
  generalize hC : exec _ (.loop F_expr_Reader_climb_l0) _ _ = C at hX
  obtain ⟨fr', m9, rfl, q5, qd, q6, q7⟩ := ih2 _ _ _ _ _ _ _ P _ _ _ (g.ok o) (by have := g.p; simp only [Cmd.rank] at *; omega) hgo r1 (by simp only [get_set', selE_t, selE_f, Nat.reduceBEq, set_defers, fr00_get, fr00_defers, put_some, put_none ]) (by simp only [get_set', selE_t, selE_f, Nat.reduceBEq, set_defers, fr00_get, fr00_defers, put_some, put_none ]) (by simp only [get_set', selE_t, selE_f, Nat.reduceBEq, set_defers, fr00_get, fr00_defers, put_some, put_none ]) (by simp only [get_set', selE_t, selE_f, Nat.reduceBEq, set_defers, fr00_get, fr00_defers, put_some, put_none ]) (by simp only [get_set', selE_t, selE_f, Nat.reduceBEq, set_defers, fr00_get, fr00_defers, put_some, put_none ]) hC
  clear hC
  simp +contextual -implicitDefEqProofs (maxSteps := 1000000) (maxDischargeDepth := 8) only [q5, qd, zz0, zz1, zz2, zz3, zz4, zz5, zz6, zz7, zz8, zz9, argsF, reduceIte, reduceCtorEq, Nat.reduceEqDiff, Nat.reduceBEq, Nat.reduceAdd, Int.reduceLT, Int.reduceLE, Int.reduceEq, Int.reduceToNat, Int.reduceNeg, Nat.reduceLeDiff, Int.reducePow, implies_true, UInt8.reduceToNat, Int.reduceSub, Int.reduceAdd, Nat.reduceLT, Nat.reduceMul, Nat.reduceSub, Nat.reduceBNe] at hX
  subst hX
  exact ⟨_, rfl, q6, k1.trans q7⟩
/-- All of the reader's walk. -/
structure WAll (l : List Tok) (tg k : Nat) : Prop where
  expr : WInt l tg n_expr_Reader_Expr [] k .expr
  climb : ∀ n : Int, WInt l tg n_expr_Reader_climb [.int .i64 n] k (.climb n)
  climbL : WClimbL l tg k
  front : WInt l tg n_expr_Reader_front [] k .front
  atom : WInt l tg n_expr_Reader_atom [] k .atom
  cells : WCells l tg k
  inner : ∀ a z : Txt, WInt l tg n_expr_Reader_Inner [.str a, .str z] k (.inner a z)
  args : WArgs l tg k
  argsL : WArgsL l tg k
omit ht in
theorem walk_all (ht : TokOk l) : ∀ k, WAll l tg k := by
  intro k
  induction k with
  | zero =>
    exact ⟨fun _ _ _ _ _ _ _ _ q => absurd q (by omega), fun _ _ _ _ _ _ _ _ _ q => absurd q (by omega), fun _ _ _ _ _ _ _ _ _ _ _ _ q => absurd q (by omega), fun _ _ _ _ _ _ _ _ q => absurd q (by omega), fun _ _ _ _ _ _ _ _ q => absurd q (by omega), fun _ _ _ _ _ _ _ _ _ _ q => absurd q (by omega), fun _ _ _ _ _ _ _ _ _ _ q => absurd q (by omega), fun _ _ _ _ _ _ _ _ q => absurd q (by omega), fun _ _ _ _ _ _ _ _ _ _ _ _ q => absurd q (by omega)⟩
  | succ k ih =>
    exact ⟨expr_walk ht (ih.climb 1), climb_walk ht ih.front ih.climbL, climb_loop ht ih.climb ih.climbL, front_walk ht ih.front ih.atom (cells_walk ih.cells), atom_walk ht (ih.inner _ _) ih.args, cells_loop ht (ih.inner _ _) ih.cells, fun a z => inner_walk ht ih.expr, args_walk ht ih.argsL, args_loop ht ih.expr ih.argsL⟩
end
end Go.Proofs.Ytjgbofonigpjaaa.Ev
end
section
namespace Go.Proofs.Ytjgbofonigpjaaa.Ev
open Go
set_option linter.unusedSimpArgs false
set_option maxRecDepth 10000
set_option maxHeartbeats 4000000
theorem ints_snoc (l : List Int) (x : Int) : (ints (l ++ [x])).flatten = (ints l).flatten ++ [.int .i64 x] := by rw [ints_flat, ints_flat]; simp
theorem right_l0 {l : List Nd} {t : Nat} {nl : Bool} {i lo : Nat} {d : Nd} {u : List Int} (hd0 : l[i]? = some d) (hkl : d.kids.length < 10000000) (hul : u.length < 500000000) (hu : u.Nodup) {m0 : Mem} {fr : Fr} {v : EV} (h0 : fr.get 0 = row nl t 5 (nds l)) (h3 : fr.get 3 = v) (hown : Own m0 v (ints u).flatten u.length 1 lo) (hlo : lo ≤ m0.next) (h4 : fr.get 4 = .int .i64 (i : Int)) (h5 : fr.get 5 = .int .i64 0) (hd : fr.defers = []) :
    ∃ o, exec U (.loop F_r06_Right_l0) fr m0 = some o ∧ ((((∀ x ∈ d.kids, 0 ≤ x ∧ x < (i : Int)) ∧ (u ++ d.kids).Nodup) ∧ ∃ fr' m' v', o = .exit 2 fr' m' ∧ fr'.get 0 = row nl t 5 (nds l) ∧ fr'.get 3 = v' ∧ Own m' v' (ints (u ++ d.kids)).flatten (u ++ d.kids).length 1 lo ∧ lo ≤ m'.next ∧ fr'.get 4 = .int .i64 (i : Int) ∧ fr'.defers = []) ∨
      (¬ ((∀ x ∈ d.kids, 0 ≤ x ∧ x < (i : Int)) ∧ (u ++ d.kids).Nodup) ∧ ∃ fr' m', o = .ret fr' m' ∧ fr'.get 2 = .bool false ∧ fr'.defers = [])) := by
  have hil : i < l.length := (List.getElem?_eq_some_iff.1 hd0).1
  refine loop_w (σ := Nat) (fun j fr m => j ≤ d.kids.length ∧ fr.get 0 = row nl t 5 (nds l) ∧ (∃ v, fr.get 3 = v ∧ Own m v (ints (u ++ d.kids.take j)).flatten (u ++ d.kids.take j).length 1 lo) ∧ lo ≤ m.next ∧ (∀ x ∈ d.kids.take j, 0 ≤ x ∧ x < (i : Int)) ∧ (u ++ d.kids.take j).Nodup ∧ fr.get 4 = .int .i64 (i : Int) ∧ fr.get 5 = .int .i64 (j : Int) ∧ fr.defers = []) (fun j => d.kids.length - j) _ ?_ 0 fr m0
    ⟨Nat.zero_le _, h0, ⟨v, h3, by simpa using hown⟩, hlo, by simp, by simpa using hu, h4, h5, hd⟩
  rintro j fr m ⟨hj, h0, ⟨v, h3, hown⟩, hlo, hall, hnd, h4, h5, hd⟩
  generalize hX : exec U F_r06_Right_l0 fr m = X
  by_cases hlt : j < d.kids.length
  · have hc : (j : Int) < (d.kids.length : Int) := by omega
    have hg : d.kids[j]? = some d.kids[j] := List.getElem?_eq_getElem hlt
    have htk : d.kids.take (j + 1) = d.kids.take j ++ [d.kids[j]] := List.take_succ_eq_append_getElem hlt
    have hmem := List.getElem_mem hlt
    have hw1 := wrap_succ (i := j) (by omega)
    have hul' : (u ++ d.kids.take j).length < 600000000 := by rw [List.length_append, List.length_take]; omega
    obtain ⟨nl2, hfz⟩ := hown.frz (by rw [ints_len]) (ints_els _) (ints_plain _)
    generalize hx : d.kids[j] = x at *
    have hhas := fun t2 nl2 => hasInt_eq (l := u ++ d.kids.take j) (t := t2) (nl := nl2) (x := x) (by omega)
    have hM : (ext m [.cells [EV.int .i64 x] 1 t_int false]).get (nb m.next 0) = .cells [EV.int .i64 x] 1 t_int false := by rw [get_ext_nb rfl (by simp)]; rfl
    obtain ⟨ha, hown'⟩ := append_grow (e := t_int) (hown.ext [.cells [EV.int .i64 x] 1 t_int false]) (by rw [next_ext]; unfold nb; omega) (source_at (cap := some 1) hM rfl) rfl (by decide) (by unfold room; omega)
    rw [next_ext, nb_nb] at ha
    generalize hG : grow _ v t_int 1 _ = M2 at ha hown'
    have hMn : lo ≤ M2.next := by rw [← hG, grow_next, next_ext]; unfold nb; omega
    simp +contextual -implicitDefEqProofs (maxSteps := 1000000) (maxDischargeDepth := 8) only [F_r06_Right_l0, h0, h3, h4, h5, hd, hd0, hil, hc, hg, hlt, hw1, idx_cast, ints_get, ints_len, nds_get, nds_len, Nd.cells, hfz, hhas, ha, zz0, zz1, zz2, zz3, zz4, zz5, zz6, zz7, zz8, zz9, argsF, reduceIte, reduceCtorEq, Nat.reduceEqDiff, Nat.reduceBEq, Nat.reduceAdd, Int.reduceLT, Int.reduceLE, Int.reduceEq, Int.reduceToNat, Int.reduceNeg, Nat.reduceLeDiff, Int.reducePow, implies_true, UInt8.reduceToNat, Int.reduceSub, Int.reduceAdd, Nat.reduceLT, Nat.reduceMul, Nat.reduceSub, Nat.reduceBNe] at hX
    subst hX
    refine lw_iF (fun hp => lw_ret (Or.inr ⟨fun q => ?_, _, _, rfl, by simp only [get_set', selE_t, selE_f, Nat.reduceBEq, set_defers, fr00_get, fr00_defers, put_some, put_none ], by simp only [hd, get_set', selE_t, selE_f, Nat.reduceBEq, set_defers, fr00_get, fr00_defers, put_some, put_none ]⟩)) (fun hp => lw_norm (j + 1) (by omega) ⟨hlt, by simp only [h0, get_set', selE_t, selE_f, Nat.reduceBEq, set_defers, fr00_get, fr00_defers, put_some, put_none ], ⟨_, by simp only [get_set', selE_t, selE_f, Nat.reduceBEq, set_defers, fr00_get, fr00_defers, put_some, put_none ]; rfl, ?_⟩, hMn, ?_, ?_, by simp only [h4, get_set', selE_t, selE_f, Nat.reduceBEq, set_defers, fr00_get, fr00_defers, put_some, put_none ], by simp only [get_set', selE_t, selE_f, Nat.reduceBEq, set_defers, fr00_get, fr00_defers, put_some, put_none ], by simp only [hd, get_set', selE_t, selE_f, Nat.reduceBEq, set_defers, fr00_get, fr00_defers, put_some, put_none ]⟩)
    · have q1 := q.1 x hmem
      rcases hp with (hp | hp) | hp
      · omega
      · omega
      · have q2 : (u ++ d.kids.take j ++ [x]).Nodup := by
          rw [List.append_assoc, ← htk]
          exact List.Nodup.sublist (List.Sublist.append (List.Sublist.refl u) (List.take_sublist _ _)) q.2
        rw [List.nodup_append] at q2
        exact q2.2.2 x hp x (by simp) rfl
    · rw [htk, ← List.append_assoc, ints_snoc]
      simp only [List.length_append, List.length_cons, List.length_nil, next_ext, nb_nb, Nat.zero_add, Nat.add_zero] at hown' ⊢
      exact hown'
    · intro y hy
      rw [htk, List.mem_append] at hy
      rcases hy with hy | hy
      · exact hall y hy
      · rw [List.mem_singleton.1 hy]; omega
    · rw [htk, ← List.append_assoc, List.nodup_append]
      refine ⟨hnd, by simp, fun a ha2 b hb => ?_⟩
      rw [List.mem_singleton.1 hb]
      rintro rfl
      exact hp (.inr ha2)
  · have hc : ¬ ((j : Int) < (d.kids.length : Int)) := by omega
    have htk : d.kids.take j = d.kids := List.take_of_length_le (by omega)
    rw [htk] at hall hnd hown
    simp +contextual -implicitDefEqProofs (maxSteps := 1000000) (maxDischargeDepth := 8) only [F_r06_Right_l0, h0, h3, h4, h5, hd, hd0, hil, hc, idx_cast, ints_len, nds_get, nds_len, Nd.cells, zz0, zz1, zz2, zz3, zz4, zz5, zz6, zz7, zz8, zz9, argsF, reduceIte, reduceCtorEq, Nat.reduceEqDiff, Nat.reduceBEq, Nat.reduceAdd, Int.reduceLT, Int.reduceLE, Int.reduceEq, Int.reduceToNat, Int.reduceNeg, Nat.reduceLeDiff, Int.reducePow, implies_true, UInt8.reduceToNat, Int.reduceSub, Int.reduceAdd, Nat.reduceLT, Nat.reduceMul, Nat.reduceSub, Nat.reduceBNe] at hX
    subst hX
    exact lw_exit (Or.inl ⟨⟨hall, hnd⟩, _, _, v, rfl, by simp only [h0, get_set', selE_t, selE_f, Nat.reduceBEq, set_defers, fr00_get, fr00_defers, put_some, put_none ], by simp only [h3, get_set', selE_t, selE_f, Nat.reduceBEq, set_defers, fr00_get, fr00_defers, put_some, put_none ], hown, hlo, by simp only [h4, get_set', selE_t, selE_f, Nat.reduceBEq, set_defers, fr00_get, fr00_defers, put_some, put_none ], by simp only [hd, get_set', selE_t, selE_f, Nat.reduceBEq, set_defers, fr00_get, fr00_defers, put_some, put_none ]⟩)
/-- So many nodes are right. -/
def rightTo (l : List Nd) (i : Nat) : Prop := (∀ (j : Nat) (d : Nd), j < i → l[j]? = some d → (∀ x ∈ d.kids, 0 ≤ x ∧ x < (j : Int)) ∧ ownP d ∧ kidsP l d) ∧ (usedL (l.take i)).Nodup
theorem usedL_snoc {l : List Nd} {i : Nat} {d : Nd} (h : l[i]? = some d) : usedL (l.take (i + 1)) = usedL (l.take i) ++ d.kids := by
  obtain ⟨h1, h2⟩ := List.getElem?_eq_some_iff.1 h
  unfold usedL
  rw [List.take_succ_eq_append_getElem h1, h2]; simp
theorem usedL_pre {l : List Nd} (i : Nat) : List.Sublist (usedL (l.take i)) (usedL l) := by
  unfold usedL
  conv => rhs; rw [← List.take_append_drop i l, List.map_append, List.flatten_append]
  exact List.sublist_append_left _ _
structure Small (l : List Nd) : Prop where
  len : l.length < 100000
  kids : ∀ d ∈ l, d.kids.length < 1000
  s : ∀ d ∈ l, d.s.length < 1000000
theorem Small.used {l : List Nd} (h : Small l) : (usedL l).length < 1000 * (l.length + 1) := by
  have : ∀ l : List Nd, (∀ d ∈ l, d.kids.length < 1000) → (usedL l).length ≤ 1000 * l.length := by
    intro l
    induction l with
    | nil => intro _; simp [usedL]
    | cons a l ih =>
      intro h
      have h1 := h a (by simp)
      have h2 := ih fun d hd => h d (by simp [hd])
      unfold usedL at h2 ⊢
      rw [List.map_cons, List.flatten_cons, List.length_append, List.length_cons]; omega
  have := this l h.kids
  omega
theorem right_l1 {l : List Nd} {t : Nat} {nl : Bool} (hs : Small l) {m0 : Mem} {fr : Fr} {v : EV} {lo : Nat} (h0 : fr.get 0 = row nl t 5 (nds l)) (h3 : fr.get 3 = v) (hown : Own m0 v [] 0 1 lo) (hlo : lo ≤ m0.next) (h4 : fr.get 4 = .int .i64 0) (hd : fr.defers = []) :
    ∃ o, exec U (.loop F_r06_Right_l1) fr m0 = some o ∧ ((rightTo l l.length ∧ ∃ fr' m' v', o = .exit 0 fr' m' ∧ fr'.get 0 = row nl t 5 (nds l) ∧ fr'.get 3 = v' ∧ Own m' v' (ints (usedL l)).flatten (usedL l).length 1 lo ∧ fr'.defers = []) ∨
      (¬ rightTo l l.length ∧ ∃ fr' m', o = .ret fr' m' ∧ fr'.get 2 = .bool false ∧ fr'.defers = [])) := by
  have hlen := hs.len
  have husd := hs.used
  refine loop_w (σ := Nat) (fun i fr m => i ≤ l.length ∧ rightTo l i ∧ fr.get 0 = row nl t 5 (nds l) ∧ (∃ v, fr.get 3 = v ∧ Own m v (ints (usedL (l.take i))).flatten (usedL (l.take i)).length 1 lo) ∧ lo ≤ m.next ∧ fr.get 4 = .int .i64 (i : Int) ∧ fr.defers = []) (fun i => l.length - i) _ ?_ 0 fr m0
    ⟨Nat.zero_le _, ⟨fun j d hj => by omega, by simp [usedL]⟩, h0, ⟨v, h3, hown⟩, hlo, h4, hd⟩
  rintro i fr m ⟨hi, hr, h0, ⟨v, h3, hown⟩, hlo, h4, hd⟩
  generalize hX : exec U F_r06_Right_l1 fr m = X
  by_cases hlt : i < l.length
  · have hc : (i : Int) < (l.length : Int) := by omega
    have hd0 : l[i]? = some l[i] := List.getElem?_eq_getElem hlt
    have hmem := List.getElem_mem hlt
    have hk1 := hs.kids _ hmem
    have hk2 := hs.s _ hmem
    have hus := (usedL_pre (l := l) i).length_le
    have hsn := usedL_snoc hd0
    generalize l[i] = d at *
    have hw1 := wrap_succ (i := i) (by omega)
    generalize hL : exec (UT B K) (ICode.loop F_r06_Right_l0) = L
    simp +contextual -implicitDefEqProofs (maxSteps := 1000000) (maxDischargeDepth := 8) only [F_r06_Right_l1, h0, h3, h4, hd, hc, nds_len, zz0, zz1, zz2, zz3, zz4, zz5, zz6, zz7, zz8, zz9, argsF, reduceIte, reduceCtorEq, Nat.reduceEqDiff, Nat.reduceBEq, Nat.reduceAdd, Int.reduceLT, Int.reduceLE, Int.reduceEq, Int.reduceToNat, Int.reduceNeg, Nat.reduceLeDiff, Int.reducePow, implies_true, UInt8.reduceToNat, Int.reduceSub, Int.reduceAdd, Nat.reduceLT, Nat.reduceMul, Nat.reduceSub, Nat.reduceBNe] at hX
    subst hL
    generalize hY : exec _ (.loop F_r06_Right_l0) _ _ = Y at hX
    obtain ⟨o, rfl, h⟩ := looped hY (right_l0 (l := l) (t := t) (nl := nl) (i := i) (d := d) (u := usedL (l.take i)) hd0 (by omega) (by omega) hr.2 (by simp only [h0, get_set', selE_t, selE_f, Nat.reduceBEq, set_defers, fr00_get, fr00_defers, put_some, put_none ]) (by simp only [h3, get_set', selE_t, selE_f, Nat.reduceBEq, set_defers, fr00_get, fr00_defers, put_some, put_none ]) hown hlo (by simp only [h4, get_set', selE_t, selE_f, Nat.reduceBEq, set_defers, fr00_get, fr00_defers, put_some, put_none ]) (by simp only [get_set', selE_t, selE_f, Nat.reduceBEq, set_defers, fr00_get, fr00_defers, put_some, put_none ]) (by simp only [hd, get_set', selE_t, selE_f, Nat.reduceBEq, set_defers, fr00_get, fr00_defers, put_some, put_none ]))
    rcases h with ⟨⟨g1, g2⟩, fr', m', v', rfl, h0, h3, hown, hlo, h4, hd⟩ | ⟨g, fr', m', rfl, h2, hd⟩
    · have hv : validK l d.kids := fun x hx => by have := g1 x hx; omega
      have ho : pureR B K n_r06_own [.agg [.int .i64 d.kind, row d.nl 0 1 (ints d.kids), .int .i64 d.n, .str d.s, .int .i64 d.pos]] = some (bo (ownP d)) := own_eq (d := d) (by omega)
      have hkd : ∀ t1 nl1, pureR B K n_r06_kids [row nl1 t1 5 (nds l), .agg [.int .i64 d.kind, row d.nl 0 1 (ints d.kids), .int .i64 d.n, .str d.s, .int .i64 d.pos]] = some (bo (kidsP l d)) := fun t1 nl1 => kids_eq (l := l) (d := d) (t1 := t1) (nl1 := nl1) hv (by omega)
      simp +contextual -implicitDefEqProofs (maxSteps := 1000000) (maxDischargeDepth := 8) only [h0, h3, h4, hd, hd0, hlt, hw1, idx_cast, nds_get, nds_len, Nd.cells, ho, hkd, zz0, zz1, zz2, zz3, zz4, zz5, zz6, zz7, zz8, zz9, argsF, reduceIte, reduceCtorEq, Nat.reduceEqDiff, Nat.reduceBEq, Nat.reduceAdd, Int.reduceLT, Int.reduceLE, Int.reduceEq, Int.reduceToNat, Int.reduceNeg, Nat.reduceLeDiff, Int.reducePow, implies_true, UInt8.reduceToNat, Int.reduceSub, Int.reduceAdd, Nat.reduceLT, Nat.reduceMul, Nat.reduceSub, Nat.reduceBNe] at hX
      subst hX
      refine lw_iF (fun hp => lw_ret (Or.inr ⟨fun q => ?_, _, _, rfl, by simp only [get_set', selE_t, selE_f, Nat.reduceBEq, set_defers, fr00_get, fr00_defers, put_some, put_none ], by simp only [hd, get_set', selE_t, selE_f, Nat.reduceBEq, set_defers, fr00_get, fr00_defers, put_some, put_none ]⟩)) (fun hp => lw_norm (i + 1) (by omega) ⟨hlt, ⟨fun j e hj he => ?_, by rw [hsn]; exact g2⟩, by simp only [h0, get_set', selE_t, selE_f, Nat.reduceBEq, set_defers, fr00_get, fr00_defers, put_some, put_none ], ⟨v', by simp only [h3, get_set', selE_t, selE_f, Nat.reduceBEq, set_defers, fr00_get, fr00_defers, put_some, put_none ], by rw [hsn]; exact hown⟩, hlo, by simp only [get_set', selE_t, selE_f, Nat.reduceBEq, set_defers, fr00_get, fr00_defers, put_some, put_none ], by simp only [hd, get_set', selE_t, selE_f, Nat.reduceBEq, set_defers, fr00_get, fr00_defers, put_some, put_none ]⟩)
      · obtain ⟨_, q1, q2⟩ := q.1 i d hlt hd0
        exact hp.elim (fun h => h q1) (fun h => h q2)
      · by_cases hji : j < i
        · exact hr.1 j e hji he
        · obtain rfl : j = i := by omega
          rw [hd0] at he; cases he
          exact ⟨g1, Classical.byContradiction fun h => hp (.inl h), Classical.byContradiction fun h => hp (.inr h)⟩
    · simp +contextual -implicitDefEqProofs (maxSteps := 1000000) (maxDischargeDepth := 8) only [h2, hd, zz0, zz1, zz2, zz3, zz4, zz5, zz6, zz7, zz8, zz9, argsF, reduceIte, reduceCtorEq, Nat.reduceEqDiff, Nat.reduceBEq, Nat.reduceAdd, Int.reduceLT, Int.reduceLE, Int.reduceEq, Int.reduceToNat, Int.reduceNeg, Nat.reduceLeDiff, Int.reducePow, implies_true, UInt8.reduceToNat, Int.reduceSub, Int.reduceAdd, Nat.reduceLT, Nat.reduceMul, Nat.reduceSub, Nat.reduceBNe] at hX
      subst hX
      refine lw_ret (Or.inr ⟨fun q => g ⟨(q.1 i d hlt hd0).1, ?_⟩, _, _, rfl, h2, hd⟩)
      rw [← hsn]
      exact q.2.sublist (by rw [List.take_of_length_le (Nat.le_refl _)]; exact usedL_pre _)
  · have hc : ¬ ((i : Int) < (l.length : Int)) := by omega
    obtain rfl : i = l.length := by omega
    rw [List.take_of_length_le (Nat.le_refl _)] at hown
    simp +contextual -implicitDefEqProofs (maxSteps := 1000000) (maxDischargeDepth := 8) only [F_r06_Right_l1, h0, h3, h4, hd, hc, nds_len, zz0, zz1, zz2, zz3, zz4, zz5, zz6, zz7, zz8, zz9, argsF, reduceIte, reduceCtorEq, Nat.reduceEqDiff, Nat.reduceBEq, Nat.reduceAdd, Int.reduceLT, Int.reduceLE, Int.reduceEq, Int.reduceToNat, Int.reduceNeg, Nat.reduceLeDiff, Int.reducePow, implies_true, UInt8.reduceToNat, Int.reduceSub, Int.reduceAdd, Nat.reduceLT, Nat.reduceMul, Nat.reduceSub, Nat.reduceBNe] at hX
    subst hX
    exact lw_exit (Or.inl ⟨hr, _, _, v, rfl, by simp only [h0, get_set', selE_t, selE_f, Nat.reduceBEq, set_defers, fr00_get, fr00_defers, put_some, put_none ], by simp only [h3, get_set', selE_t, selE_f, Nat.reduceBEq, set_defers, fr00_get, fr00_defers, put_some, put_none ], hown, by simp only [hd, get_set', selE_t, selE_f, Nat.reduceBEq, set_defers, fr00_get, fr00_defers, put_some, put_none ]⟩)
theorem rightTo_iff {l : List Nd} : rightTo l l.length ↔ kidsLt l ∧ (usedL l).Nodup ∧ ∀ d ∈ l, ownP d ∧ kidsP l d := by
  unfold rightTo
  rw [List.take_of_length_le (Nat.le_refl _)]
  constructor
  · rintro ⟨h1, h2⟩
    refine ⟨fun i d hd => (h1 i d (List.getElem?_eq_some_iff.1 hd).1 hd).1, h2, fun d hd => ?_⟩
    obtain ⟨i, hi⟩ := List.mem_iff_getElem?.1 hd
    exact (h1 i d (List.getElem?_eq_some_iff.1 hi).1 hi).2
  · rintro ⟨h1, h2, h3⟩
    exact ⟨fun j d _ hd => ⟨h1 j d hd, h3 d (List.mem_iff_getElem?.2 ⟨j, hd⟩)⟩, h2⟩
theorem right_eq {l : List Nd} {t : Nat} {nl : Bool} (hs : Small l) : pureR B K n_r06_Right [row nl t 5 (nds l)] = some (bo (rightP l)) := by
  have hlen := hs.len
  rw [pure_at (by simp [F_r06_Right])]
  generalize hL : exec (UT B K) (ICode.loop F_r06_Right_l1) = L
  simp +contextual -implicitDefEqProofs (maxSteps := 1000000) (maxDischargeDepth := 8) only [F_r06_Right, zz0, zz1, zz2, zz3, zz4, zz5, zz6, zz7, zz8, zz9, argsF, reduceIte, reduceCtorEq, Nat.reduceEqDiff, Nat.reduceBEq, Nat.reduceAdd, Int.reduceLT, Int.reduceLE, Int.reduceEq, Int.reduceToNat, Int.reduceNeg, Nat.reduceLeDiff, Int.reducePow, implies_true, UInt8.reduceToNat, Int.reduceSub, Int.reduceAdd, Nat.reduceLT, Nat.reduceMul, Nat.reduceSub, Nat.reduceBNe]
  subst hL
  generalize hX : exec _ (.loop F_r06_Right_l1) _ _ = X
  obtain ⟨o, rfl, h⟩ := looped hX (right_l1 (l := l) (t := t) (nl := nl) hs (v := .slice (nb mem00.next 0) 0 0 (some 0)) (lo := mem00.next) (by simp only [get_set', selE_t, selE_f, Nat.reduceBEq, set_defers, fr00_get, fr00_defers, put_some, put_none ]) (by simp only [get_set', selE_t, selE_f, Nat.reduceBEq, set_defers, fr00_get, fr00_defers, put_some, put_none ]) ⟨.inr ⟨_, _, t_int, rfl, Nat.le_refl _, by rw [next_ext]; unfold nb; simp, by rw [get_ext_nb rfl (by simp)]; rfl, .inr rfl⟩, rfl⟩ (by rw [next_ext]; exact le_nb) (by simp only [get_set', selE_t, selE_f, Nat.reduceBEq, set_defers, fr00_get, fr00_defers, put_some, put_none ]) (by simp only [get_set', selE_t, selE_f, Nat.reduceBEq, set_defers, fr00_get, fr00_defers, put_some, put_none ]))
  rcases h with ⟨h, fr', m', v', rfl, h0, h3, hown, hd⟩ | ⟨h, fr', m', rfl, h2, hd⟩
  · have hr := rightTo_iff.1 h
    have husd := hs.used
    by_cases hl0 : l.length = 0
    · have : ¬ rightP l := fun q => by have := q.2.1; omega
      rcases hown.len with _
      simp +contextual -implicitDefEqProofs (maxSteps := 1000000) (maxDischargeDepth := 8) only [h0, h3, hd, hl0, nds_len, zz0, zz1, zz2, zz3, zz4, zz5, zz6, zz7, zz8, zz9, argsF, reduceIte, reduceCtorEq, Nat.reduceEqDiff, Nat.reduceBEq, Nat.reduceAdd, Int.reduceLT, Int.reduceLE, Int.reduceEq, Int.reduceToNat, Int.reduceNeg, Nat.reduceLeDiff, Int.reducePow, implies_true, UInt8.reduceToNat, Int.reduceSub, Int.reduceAdd, Nat.reduceLT, Nat.reduceMul, Nat.reduceSub, Nat.reduceBNe]
      exact congrArg some (ff_bo this)
    · have hc : (0 : Int) < (l.length : Int) := by omega
      have hw : IntKind.i64.wrap ((l.length : Int) - 1) = ((l.length - 1 : Nat) : Int) := by rw [wrap_i64 (by omega) (by omega)]; omega
      have hh := fun t => height_eq (l := l) (nl := nl) hr.1 (by omega) (fun d hd => by have := hs.kids d hd; omega) (l.length - 1) (by omega) t
      have hlv : ∀ m, lenE v' m = some (.val (.int .i64 ((usedL l).length : Int)) m) := by
        intro m
        rcases hown.is with ⟨rfl, q, _⟩ | ⟨b, cap, ty, rfl, _⟩
        · rw [q]; rfl
        · rfl
      have hq : (((usedL l).length : Int) = ((l.length - 1 : Nat) : Int)) = ((usedL l).length = l.length - 1) := propext (by omega)
      have hq2 : ((highN l (l.length - 1) : Int) ≤ 200) = (highN l (l.length - 1) ≤ 200) := propext (by omega)
      simp +contextual -implicitDefEqProofs (maxSteps := 1000000) (maxDischargeDepth := 8) only [h0, h3, hd, hc, hw, hh, hlv, hq, hq2, nds_len, zz0, zz1, zz2, zz3, zz4, zz5, zz6, zz7, zz8, zz9, argsF, reduceIte, reduceCtorEq, Nat.reduceEqDiff, Nat.reduceBEq, Nat.reduceAdd, Int.reduceLT, Int.reduceLE, Int.reduceEq, Int.reduceToNat, Int.reduceNeg, Nat.reduceLeDiff, Int.reducePow, implies_true, UInt8.reduceToNat, Int.reduceSub, Int.reduceAdd, Nat.reduceLT, Nat.reduceMul, Nat.reduceSub, Nat.reduceBNe]
      refine bo_some ?_
      unfold rightP
      grind
  · simp +contextual -implicitDefEqProofs (maxSteps := 1000000) (maxDischargeDepth := 8) only [h2, hd, zz0, zz1, zz2, zz3, zz4, zz5, zz6, zz7, zz8, zz9, argsF, reduceIte, reduceCtorEq, Nat.reduceEqDiff, Nat.reduceBEq, Nat.reduceAdd, Int.reduceLT, Int.reduceLE, Int.reduceEq, Int.reduceToNat, Int.reduceNeg, Nat.reduceLeDiff, Int.reducePow, implies_true, UInt8.reduceToNat, Int.reduceSub, Int.reduceAdd, Nat.reduceLT, Nat.reduceMul, Nat.reduceSub, Nat.reduceBNe]
    exact congrArg some (ff_bo fun q => h (rightTo_iff.2 q.1))
end Go.Proofs.Ytjgbofonigpjaaa.Ev
end
section
namespace Go.Proofs.Ytjgbofonigpjaaa.Ev
open Go
set_option linter.unusedSimpArgs false
set_option linter.unusedVariables false
set_option maxRecDepth 10000
set_option maxHeartbeats 4000000
theorem frzs_append {F : List EV → Option (List EV)} {m : Mem} : ∀ {a b a' b' : List EV}, frzs F m a = some a' → frzs F m b = some b' → frzs F m (a ++ b) = some (a' ++ b')
  | [], b, a', b', h, h' => by simp only [frzs, Option.some.injEq] at h; subst h; exact h'
  | v :: a, b, a', b', h, h' => by
    simp only [frzs] at h
    cases hv : frz F m v with
    | none => simp only [hv] at h; cases h
    | some w =>
      cases ha : frzs F m a with
      | none => simp only [hv, ha] at h; cases h
      | some c =>
        simp only [hv, ha, Option.some.injEq] at h
        subst h
        simp only [List.cons_append, frzs, hv, frzs_append ha h']
theorem is_flat {l : List Int} : is l = (ints l).flatten := by
  unfold is ints
  induction l with
  | nil => rfl
  | cons x l ih => simp only [List.map_cons, List.flatten_cons, List.cons_append, List.nil_append, ih]
theorem frz_kid {m : Mem} {b : Nat} {tv hv : EV} {d : Nd} {kv : EV} {n : Nat} (h : KidAt m b tv hv d kv) : frz (freezes (n + 1) m) m kv = some (row d.nl 0 1 (ints d.kids)) := by
  rcases h.o.is with ⟨rfl, h1, _⟩ | ⟨kb, cap, t, rfl, _, h2, h3, h4⟩
  · have : d.kids = [] := List.eq_nil_of_length_eq_zero h1
    rw [h.nl, this]; simp only [frz]; rfl
  · have hne : d.kids ≠ [] := fun q => by have := h.z q; cases this
    have hnl : d.nl = false := by rw [h.nl]; cases hk : d.kids with | nil => exact absurd hk hne | cons => rfl
    have hc : capOk cap d.kids.length = true := by rcases h4 with rfl | rfl <;> simp [capOk]
    simp only [frz, h3, hc, cond_true, Nat.ble_eq_true_of_le (show 0 + d.kids.length * 1 ≤ (is d.kids).length by rw [is_len]; omega), List.drop_zero]
    rw [Nat.mul_one, ← is_len, List.take_length, hnl]
    have hp : plains (is d.kids) = true := by
      rw [is_flat]; exact plains_flatten fun el hel => by
        obtain ⟨x, _, rfl⟩ := List.mem_map.1 hel; rfl
    rw [show freezes (n + 1) m (is d.kids) = some (is d.kids) from frzs_plain hp, Option.map_some]
    congr 1
    simp only [row, Bool.false_and, cond_false]
    congr 1
    rw [is_len, is_flat, ← show (ints d.kids).length = d.kids.length from List.length_map ..]
    exact chunk_flatten fun el hel => by obtain ⟨x, _, rfl⟩ := List.mem_map.1 hel; rfl
theorem frz_nodes {m : Mem} {b : Nat} {tv hv : EV} {n : Nat} : ∀ {xs : List Nv}, (∀ x ∈ xs, KidAt m b tv hv x.d x.kv) → frzs (freezes (n + 1) m) m (nvs xs) = some (nds (xs.map Nv.d)).flatten
  | [], _ => rfl
  | x :: xs, h => by
    have h1 := frz_kid (n := n) (h x (by simp))
    have h2 := frz_nodes (n := n) (xs := xs) fun y hy => h y (by simp [hy])
    refine frzs_append ?_ h2
    simp only [Nv.cells, ndCells, frzs, frz, h1]
    rfl
theorem frz_tree {m : Mem} {b : Nat} {tv hv v : EV} {lo : Nat} {xs : List Nv} (hx : ∀ x ∈ xs, KidAt m b tv hv x.d x.kv) (h : Own m v (nvs xs) xs.length 5 lo) (h0 : xs ≠ []) : frzV m v = some (.fz 0 5 (nds (xs.map Nv.d))) := by
  rcases h.is with ⟨rfl, h1, _⟩ | ⟨b', cap, t, rfl, _, h2, h3, h4⟩
  · exact absurd (List.eq_nil_of_length_eq_zero h1) h0
  · have hc : capOk cap xs.length = true := by rcases h4 with rfl | rfl <;> simp [capOk]
    simp only [frzV, frz, h3, hc, cond_true, Nat.ble_eq_true_of_le (show 0 + xs.length * 5 ≤ (nvs xs).length by rw [h.len]; omega), List.drop_zero]
    rw [← h.len, List.take_length, show freezes 7 m (nvs xs) = frzs (freezes 6 m) m (nvs xs) from rfl, frz_nodes hx, Option.map_some]
    congr 2
    have e1 : xs.length = (nds (xs.map Nv.d)).length := by simp [nds]
    rw [e1]
    exact chunk_flatten fun el hel => by obtain ⟨x, _, rfl⟩ := List.mem_map.1 hel; rfl
theorem RdV.poke {m : Mem} {b tg : Nat} {l : List Tok} {st : RS} {P : Nat → Prop} {tv hv : EV} {xs : List Nv} (h : RdV m b tg l st P tv hv xs) {c0 : Nat} (hp : P c0) (B : Blk) : RdV (m.set c0 B) b tg l st P tv hv xs := by
  have f := (h.p c0 hp).2
  have fk := h.pk c0 hp
  have key : ∀ c, c ≠ c0 → (m.set c0 B).get c = m.get c := fun c hc => get_set_ne hc
  exact ⟨(key b (fun q => f.ne q.symm)).trans h.g, h.lt, h.t.keep' (Nat.le_refl _) fun c _ _ ho => key c fun q => ho (q ▸ f.t), h.h.keep' (Nat.le_refl _) fun c _ _ ho => key c fun q => ho (q ▸ f.h), h.a, h.x, h.hl, fun x hx => ⟨(h.k x hx).o.keep' (Nat.le_refl _) fun c _ _ ho => key c fun q => ho (q ▸ fk x hx), (h.k x hx).f, (h.k x hx).nl, (h.k x hx).z⟩, h.p, h.pk⟩
/-- All nodes, told. -/
theorem tree_run {m : Mem} {b tg : Nat} {l : List Tok} {st : RS} {P : Nat → Prop} {tv hv : EV} {xs : List Nv} (h : RdV m b tg l st P tv hv xs) (h0 : st.tree ≠ []) (hl : st.tree.length < 1000000) : ∃ m' v, run U n_expr_Reader_Tree [.ptr b 0] m = some (.ret v m') ∧ RdV m' b tg l st P tv hv xs ∧ Own m' v (nvs xs) xs.length 5 m.next ∧ Kp m m' P ∧ (∃ c n, v = .slice c 0 n none) := by
  have hxl : xs.length = st.tree.length := by rw [← h.x, List.length_map]
  have hx0 : xs.length ≠ 0 := fun q => h0 (List.eq_nil_of_length_eq_zero (hxl ▸ q))
  have hg := h.g
  have hb := h.lt
  have ht : tv.cells = some [tv] ∧ evEq (.prim 4) tv .nilslice = some false := by
    rcases h.t.is with ⟨_, q, _⟩ | ⟨_, _, _, rfl, _⟩
    · exact absurd q hx0
    · exact ⟨rfl, rfl⟩
  obtain ⟨ht1, ht2⟩ := ht
  have own0 : Own (ext m [.cells [] 5 41 false]) (.slice (nb m.next 0) 0 0 (some 0)) [] 0 5 m.next := ⟨.inr ⟨nb m.next 0, some 0, 41, rfl, le_nb, by rw [next_ext]; unfold nb; simp, by rw [get_ext_nb rfl (by simp)]; rfl, .inr rfl⟩, rfl⟩
  obtain ⟨ha, ho⟩ := append_grow (e := 41) own0 (by rw [next_ext]; exact le_nb) (h.t.ext [.cells [] 5 41 false]).source h.t.len hx0 (by unfold room; omega)
  have hn : m.next ≤ (grow (ext m [.cells [] 5 41 false]) (.slice (nb m.next 0) 0 0 (some 0)) 41 5 ([] ++ nvs xs)).next := by rw [grow_next, next_ext]; unfold nb; omega
  have hold : ∀ c, c < m.next → (grow (ext m [.cells [] 5 41 false]) (.slice (nb m.next 0) 0 0 (some 0)) 41 5 ([] ++ nvs xs)).get c = m.get c := fun c hc => by
    rw [grow_old (by rw [next_ext]; unfold nb; omega) (Off.of (by unfold nb; omega)), get_ext_old hc]
  have hr : run U n_expr_Reader_Tree [.ptr b 0] m = some (.ret (.slice (nb (ext m [.cells [] 5 41 false]).next 0) 0 (0 + xs.length) none) (grow (ext m [.cells [] 5 41 false]) (.slice (nb m.next 0) 0 0 (some 0)) 41 5 ([] ++ nvs xs))) := by
    generalize grow (ext m [.cells [] 5 41 false]) (.slice (nb m.next 0) 0 0 (some 0)) 41 5 ([] ++ nvs xs) = G at *
    rw [next_ext, nb_nb] at ha ⊢
    rw [run_p2 (by simp [F_expr_Reader_Tree])]
    have hC : run U n_slices_Clone [tv] m = some (.ret (.slice (nb m.next 1) 0 (0 + xs.length) none) G) := by
      rw [run_p2 (by simp [F_slices_Clone])]
      simp +contextual -implicitDefEqProofs (maxSteps := 1000000) (maxDischargeDepth := 8) only [F_slices_Clone, ht2, ha, zz0, zz1, zz2, zz3, zz4, zz5, zz6, zz7, zz8, zz9, argsF, reduceIte, reduceCtorEq, Nat.reduceEqDiff, Nat.reduceBEq, Nat.reduceAdd, Int.reduceLT, Int.reduceLE, Int.reduceEq, Int.reduceToNat, Int.reduceNeg, Nat.reduceLeDiff, Int.reducePow, implies_true, UInt8.reduceToNat, Int.reduceSub, Int.reduceAdd, Nat.reduceLT, Nat.reduceMul, Nat.reduceSub, Nat.reduceBNe]
    simp +contextual -implicitDefEqProofs (maxSteps := 1000000) (maxDischargeDepth := 8) only [F_expr_Reader_Tree, hg, hb, hC, zz0, zz1, zz2, zz3, zz4, zz5, zz6, zz7, zz8, zz9, argsF, reduceIte, reduceCtorEq, Nat.reduceEqDiff, Nat.reduceBEq, Nat.reduceAdd, Int.reduceLT, Int.reduceLE, Int.reduceEq, Int.reduceToNat, Int.reduceNeg, Nat.reduceLeDiff, Int.reducePow, implies_true, UInt8.reduceToNat, Int.reduceSub, Int.reduceAdd, Nat.reduceLT, Nat.reduceMul, Nat.reduceSub, Nat.reduceBNe]
  refine ⟨_, _, hr, ?_, ?_, ⟨hn, fun c hc => hold c (h.p c hc).1⟩, _, _, rfl⟩
  · exact h.upd rfl rfl ⟨hn, (hold b hb).trans h.g, fun c hc _ => hold c hc⟩
  · rw [Nat.zero_add] at ho ⊢; exact ho
def RS.start : RS := ⟨0, 0, [], [], 0, 0⟩
/-- How a reader stands when all is read. -/
def parseF (l : List Tok) : RS := match goF l (8 * l.length + 5) .expr .start with
  | some (s, _) => if (s.now l).kind = 0 then s else s.fail 8 (s.now l).pos
  | none => .start
def parseV (s : RS) : EV := if s.fe = 0 then .tuple [.fz 0 5 (nds s.tree), .agg [.int .i64 0, .int .i64 0]] else .tuple [.nilslice, .agg [.int .i64 s.fe, .int .i64 s.fp]]
theorem start_ok {l : List Tok} (ht : TokOk l) : StOk l .start := ⟨ht.pos, Nat.le_refl _, Int.le_refl _, Int.le_refl _, by simp [RS.start]⟩
theorem parse_eq {l : List Tok} (ht : TokOk l) {tg : Nat} (h0 : (parseF l).fe = 0 → (parseF l).tree ≠ []) : pureR B K n_expr_Parse [.fz tg 4 (toks l)] = some (parseV (parseF l)) := by
  rw [pure_at (by simp [F_expr_Parse])]
  have hN : ∀ M, run U n_expr_New [.fz tg 4 (toks l)] M = some (.ret (.ptr (nb M.next 0) 0) (ext M [.cells (rdCells tg l .start .nilslice .nilslice) 7 t_expr_Reader false])) := fun M => by
    rw [run_p2 (by simp [F_expr_New])]
    simp +contextual -implicitDefEqProofs (maxSteps := 1000000) (maxDischargeDepth := 8) only [F_expr_New, zz0, zz1, zz2, zz3, zz4, zz5, zz6, zz7, zz8, zz9, argsF, reduceIte, reduceCtorEq, Nat.reduceEqDiff, Nat.reduceBEq, Nat.reduceAdd, Int.reduceLT, Int.reduceLE, Int.reduceEq, Int.reduceToNat, Int.reduceNeg, Nat.reduceLeDiff, Int.reducePow, implies_true, UInt8.reduceToNat, Int.reduceSub, Int.reduceAdd, Nat.reduceLT, Nat.reduceMul, Nat.reduceSub, Nat.reduceBNe]
    rfl
  generalize hX : resR F_expr_Parse.results (exec (UT B K) F_expr_Parse.body (argsF [.fz tg 4 (toks l)] 0 fr00) mem00) = X
  simp +contextual -implicitDefEqProofs (maxSteps := 1000000) (maxDischargeDepth := 8) only [F_expr_Parse, hN, zz0, zz1, zz2, zz3, zz4, zz5, zz6, zz7, zz8, zz9, argsF, reduceIte, reduceCtorEq, Nat.reduceEqDiff, Nat.reduceBEq, Nat.reduceAdd, Int.reduceLT, Int.reduceLE, Int.reduceEq, Int.reduceToNat, Int.reduceNeg, Nat.reduceLeDiff, Int.reducePow, implies_true, UInt8.reduceToNat, Int.reduceSub, Int.reduceAdd, Nat.reduceLT, Nat.reduceMul, Nat.reduceSub, Nat.reduceBNe] at hX
  have h00 : RdV (ext mem00 [.cells [.int .i64 0, .int .i64 0] 2 26 false, .cells (rdCells tg l .start .nilslice .nilslice) 7 t_expr_Reader false]) (nb mem00.next 1) tg l .start (fun c => c = nb mem00.next 0) .nilslice .nilslice [] := by
    refine ⟨by rw [get_ext_nb rfl (by simp)]; rfl, by rw [next_ext]; unfold nb; simp, ⟨.inl ⟨rfl, rfl, rfl⟩, rfl⟩, ⟨.inl ⟨rfl, rfl, rfl⟩, rfl⟩, fun _ _ => Off.nil, rfl, rfl, by simp, ?_, by simp⟩
    rintro c rfl
    exact ⟨by rw [next_ext]; unfold nb; simp, by unfold nb; omega, Off.nil, Off.nil⟩
  have g00 : (ext mem00 [.cells [.int .i64 0, .int .i64 0] 2 26 false, .cells (rdCells tg l .start .nilslice .nilslice) 7 t_expr_Reader false]).get (nb mem00.next 0) = .cells [.int .i64 0, .int .i64 0] 2 26 false := by rw [get_ext_nb rfl (by simp)]; rfl
  have hk : 8 * (l.length - RS.start.pos) + Cmd.expr.rank < 8 * l.length + 5 := by simp only [RS.start, Cmd.rank]; omega
  obtain ⟨s1, r, e, g, ar, _⟩ := go_ok ht (8 * l.length + 5) .expr .start (start_ok ht).p hk trivial
  have o1 := g.ok (start_ok ht)
  generalize hC : run U n_expr_Reader_Expr _ _ = C at hX
  obtain ⟨m1, rfl, r1, k1⟩ := (walk_all ht (8 * l.length + 5)).expr _ _ _ _ _ _ _ (start_ok ht) hk e ⟨_, _, _, h00⟩ hC
  clear hC
  have g1 := (k1.k _ rfl).trans g00
  have hT := tokenC (b := nb mem00.next 1) (tg := tg) (P := fun c => c = nb mem00.next 0) ht o1
  have hpf : parseF l = if (s1.now l).kind = 0 then s1 else s1.fail 8 (s1.now l).pos := by unfold parseF; rw [e]
  have hk0 : (((s1.now l).kind : Int) = 0) = ((s1.now l).kind = 0) := propext (by omega)
  have hlt := r1.plt rfl
  by_cases hkd : (s1.now l).kind = 0
  · rw [if_pos hkd] at hpf
    rw [hpf] at h0 ⊢
    have hF := fineC (b := nb mem00.next 1) (tg := tg) (l := l) (st := s1) (P := fun c => c = nb mem00.next 0)
    by_cases hfe : s1.fe = 0
    · have b1 := bo_pos hfe
      simp +contextual -implicitDefEqProofs (maxSteps := 1000000) (maxDischargeDepth := 8) only [hT, r1, hk0, hkd, hlt, hF, b1, rd_ext, rd_bump, zz0, zz1, zz2, zz3, zz4, zz5, zz6, zz7, zz8, zz9, argsF, reduceIte, reduceCtorEq, Nat.reduceEqDiff, Nat.reduceBEq, Nat.reduceAdd, Int.reduceLT, Int.reduceLE, Int.reduceEq, Int.reduceToNat, Int.reduceNeg, Nat.reduceLeDiff, Int.reducePow, implies_true, UInt8.reduceToNat, Int.reduceSub, Int.reduceAdd, Nat.reduceLT, Nat.reduceMul, Nat.reduceSub, Nat.reduceBNe] at hX
      generalize hC : run U n_expr_Reader_Tree _ _ = C at hX
      have RD : Rd (bump (ext (bump m1 19) [.cells [.int .i64 0, .str (s1.now l).text, .int .i64 ((s1.now l).n : Int), .int .i64 ((s1.now l).pos : Int)] 4 38 false]) 0) (nb mem00.next 1) tg l s1 (fun c => c = nb mem00.next 0) := by simp (maxDischargeDepth := 20) only [rd_ext, rd_bump, r1]
      have GG : (bump (ext (bump m1 19) [.cells [.int .i64 0, .str (s1.now l).text, .int .i64 ((s1.now l).n : Int), .int .i64 ((s1.now l).pos : Int)] 4 38 false]) 0).get (nb mem00.next 0) = .cells [.int .i64 0, .int .i64 0] 2 26 false := by rw [get_bump, get_ext_old (m := bump m1 19) (by rw [next_bump]; exact Nat.lt_of_lt_of_le hlt le_nb)]; exact g1
      obtain ⟨tv, hv, xs, RD⟩ := RD
      obtain ⟨m5, v, e5, r5, w5, k5, c5, n5, rfl⟩ := tree_run RD (h0 hfe) (by have := o1.t; have := o1.p; have := ht.lt; omega)
      obtain rfl := hC.symm.trans e5
      have g5 := (k5.k _ rfl).trans GG
      have hw5 : c5 ≠ nb mem00.next 0 := by
        have := w5.notOff (c := c5) (fun q => q c5 0 n5 none rfl rfl)
        have := RD.p _ rfl
        omega
      have hl5 := (r5.p _ rfl).1
      have r6 := r5.poke (c0 := nb mem00.next 0) rfl (.cells [.int .i64 0, .int .i64 0] 2 26 false)
      have w6 : Own (m5.set (nb mem00.next 0) (.cells [.int .i64 0, .int .i64 0] 2 26 false)) (.slice c5 0 n5 none) (nvs xs) xs.length 5 0 := w5.lo0.keep' (Nat.le_refl _) fun c _ _ ho => get_set_ne (by rw [notOff_slice ho]; exact hw5)
      have hxs : xs ≠ [] := fun q => h0 hfe (by rw [← RD.x, q]; rfl)
      have hz := frz_tree r6.k w6 hxs
      rw [RD.x] at hz
      simp +contextual -implicitDefEqProofs (maxSteps := 1000000) (maxDischargeDepth := 8) only [g5, hl5, hz, zz0, zz1, zz2, zz3, zz4, zz5, zz6, zz7, zz8, zz9, argsF, reduceIte, reduceCtorEq, Nat.reduceEqDiff, Nat.reduceBEq, Nat.reduceAdd, Int.reduceLT, Int.reduceLE, Int.reduceEq, Int.reduceToNat, Int.reduceNeg, Nat.reduceLeDiff, Int.reducePow, implies_true, UInt8.reduceToNat, Int.reduceSub, Int.reduceAdd, Nat.reduceLT, Nat.reduceMul, Nat.reduceSub, Nat.reduceBNe] at hX
      subst hX
      simp only [parseV, hfe, if_true]
      simp +contextual -implicitDefEqProofs (maxSteps := 1000000) (maxDischargeDepth := 8) only [hz, zz0, zz1, zz2, zz3, zz4, zz5, zz6, zz7, zz8, zz9, argsF, reduceIte, reduceCtorEq, Nat.reduceEqDiff, Nat.reduceBEq, Nat.reduceAdd, Int.reduceLT, Int.reduceLE, Int.reduceEq, Int.reduceToNat, Int.reduceNeg, Nat.reduceLeDiff, Int.reducePow, implies_true, UInt8.reduceToNat, Int.reduceSub, Int.reduceAdd, Nat.reduceLT, Nat.reduceMul, Nat.reduceSub, Nat.reduceBNe]
    · have b1 := bo_neg hfe
      have rr := r1
      obtain ⟨tv, hv, xs, RV⟩ := rr
      have hg := RV.g
      have hlt1 := RV.lt
      have hlt0 := (RV.p _ rfl).1
      simp +contextual -implicitDefEqProofs (maxSteps := 1000000) (maxDischargeDepth := 8) only [hT, r1, hk0, hkd, hlt, hF, b1, rd_ext, rd_bump, hg, hlt1, hlt0, g1, zz0, zz1, zz2, zz3, zz4, zz5, zz6, zz7, zz8, zz9, argsF, reduceIte, reduceCtorEq, Nat.reduceEqDiff, Nat.reduceBEq, Nat.reduceAdd, Int.reduceLT, Int.reduceLE, Int.reduceEq, Int.reduceToNat, Int.reduceNeg, Nat.reduceLeDiff, Int.reducePow, implies_true, UInt8.reduceToNat, Int.reduceSub, Int.reduceAdd, Nat.reduceLT, Nat.reduceMul, Nat.reduceSub, Nat.reduceBNe] at hX
      subst hX
      simp only [parseV, hfe, if_false]
      simp +contextual -implicitDefEqProofs (maxSteps := 1000000) (maxDischargeDepth := 8) only [hg, hlt1, hlt0, g1, zz0, zz1, zz2, zz3, zz4, zz5, zz6, zz7, zz8, zz9, argsF, reduceIte, reduceCtorEq, Nat.reduceEqDiff, Nat.reduceBEq, Nat.reduceAdd, Int.reduceLT, Int.reduceLE, Int.reduceEq, Int.reduceToNat, Int.reduceNeg, Nat.reduceLeDiff, Int.reducePow, implies_true, UInt8.reduceToNat, Int.reduceSub, Int.reduceAdd, Nat.reduceLT, Nat.reduceMul, Nat.reduceSub, Nat.reduceBNe]
  · rw [if_neg hkd] at hpf
    rw [hpf] at h0 ⊢
    simp +contextual -implicitDefEqProofs (maxSteps := 1000000) (maxDischargeDepth := 8) only [hT, r1, hk0, hkd, hlt, rd_ext, rd_bump, zz0, zz1, zz2, zz3, zz4, zz5, zz6, zz7, zz8, zz9, argsF, reduceIte, reduceCtorEq, Nat.reduceEqDiff, Nat.reduceBEq, Nat.reduceAdd, Int.reduceLT, Int.reduceLE, Int.reduceEq, Int.reduceToNat, Int.reduceNeg, Nat.reduceLeDiff, Int.reducePow, implies_true, UInt8.reduceToNat, Int.reduceSub, Int.reduceAdd, Nat.reduceLT, Nat.reduceMul, Nat.reduceSub, Nat.reduceBNe] at hX
    generalize hC : run U n_expr_Reader_Fail _ _ = C at hX
    obtain ⟨m2, rfl, r2, k2⟩ := failC (rd_ext (rd_bump r1)) hC
    clear hC
    have g2 := (k2.k _ rfl).trans ((get_ext_old (m := bump m1 19) (by rw [next_bump]; exact Nat.lt_of_lt_of_le hlt le_nb)).trans g1)
    have o2 := (Gr.fail o1.p (e := 8) (p := (s1.now l).pos) (by decide)).ok o1
    generalize s1.fail 8 (s1.now l).pos = s2 at *
    have hF := fineC (b := nb mem00.next 1) (tg := tg) (l := l) (st := s2) (P := fun c => c = nb mem00.next 0)
    by_cases hfe : s2.fe = 0
    · have b1 := bo_pos hfe
      simp +contextual -implicitDefEqProofs (maxSteps := 1000000) (maxDischargeDepth := 8) only [r2, hF, b1, rd_ext, rd_bump, zz0, zz1, zz2, zz3, zz4, zz5, zz6, zz7, zz8, zz9, argsF, reduceIte, reduceCtorEq, Nat.reduceEqDiff, Nat.reduceBEq, Nat.reduceAdd, Int.reduceLT, Int.reduceLE, Int.reduceEq, Int.reduceToNat, Int.reduceNeg, Nat.reduceLeDiff, Int.reducePow, implies_true, UInt8.reduceToNat, Int.reduceSub, Int.reduceAdd, Nat.reduceLT, Nat.reduceMul, Nat.reduceSub, Nat.reduceBNe] at hX
      generalize hC : run U n_expr_Reader_Tree _ _ = C at hX
      have RD : Rd (bump m2 0) (nb mem00.next 1) tg l s2 (fun c => c = nb mem00.next 0) := by simp (maxDischargeDepth := 20) only [rd_ext, rd_bump, r2]
      have GG : (bump m2 0).get (nb mem00.next 0) = .cells [.int .i64 0, .int .i64 0] 2 26 false := g2
      obtain ⟨tv, hv, xs, RD⟩ := RD
      obtain ⟨m5, v, e5, r5, w5, k5, c5, n5, rfl⟩ := tree_run RD (h0 hfe) (by have := o2.t; have := o2.p; have := ht.lt; omega)
      obtain rfl := hC.symm.trans e5
      have g5 := (k5.k _ rfl).trans GG
      have hw5 : c5 ≠ nb mem00.next 0 := by
        have := w5.notOff (c := c5) (fun q => q c5 0 n5 none rfl rfl)
        have := RD.p _ rfl
        omega
      have hl5 := (r5.p _ rfl).1
      have r6 := r5.poke (c0 := nb mem00.next 0) rfl (.cells [.int .i64 0, .int .i64 0] 2 26 false)
      have w6 : Own (m5.set (nb mem00.next 0) (.cells [.int .i64 0, .int .i64 0] 2 26 false)) (.slice c5 0 n5 none) (nvs xs) xs.length 5 0 := w5.lo0.keep' (Nat.le_refl _) fun c _ _ ho => get_set_ne (by rw [notOff_slice ho]; exact hw5)
      have hxs : xs ≠ [] := fun q => h0 hfe (by rw [← RD.x, q]; rfl)
      have hz := frz_tree r6.k w6 hxs
      rw [RD.x] at hz
      simp +contextual -implicitDefEqProofs (maxSteps := 1000000) (maxDischargeDepth := 8) only [g5, hl5, hz, zz0, zz1, zz2, zz3, zz4, zz5, zz6, zz7, zz8, zz9, argsF, reduceIte, reduceCtorEq, Nat.reduceEqDiff, Nat.reduceBEq, Nat.reduceAdd, Int.reduceLT, Int.reduceLE, Int.reduceEq, Int.reduceToNat, Int.reduceNeg, Nat.reduceLeDiff, Int.reducePow, implies_true, UInt8.reduceToNat, Int.reduceSub, Int.reduceAdd, Nat.reduceLT, Nat.reduceMul, Nat.reduceSub, Nat.reduceBNe] at hX
      subst hX
      simp only [parseV, hfe, if_true]
      simp +contextual -implicitDefEqProofs (maxSteps := 1000000) (maxDischargeDepth := 8) only [hz, zz0, zz1, zz2, zz3, zz4, zz5, zz6, zz7, zz8, zz9, argsF, reduceIte, reduceCtorEq, Nat.reduceEqDiff, Nat.reduceBEq, Nat.reduceAdd, Int.reduceLT, Int.reduceLE, Int.reduceEq, Int.reduceToNat, Int.reduceNeg, Nat.reduceLeDiff, Int.reducePow, implies_true, UInt8.reduceToNat, Int.reduceSub, Int.reduceAdd, Nat.reduceLT, Nat.reduceMul, Nat.reduceSub, Nat.reduceBNe]
    · have b1 := bo_neg hfe
      have rr := r2
      obtain ⟨tv, hv, xs, RV⟩ := rr
      have hg := RV.g
      have hlt1 := RV.lt
      have hlt0 := (RV.p _ rfl).1
      simp +contextual -implicitDefEqProofs (maxSteps := 1000000) (maxDischargeDepth := 8) only [r2, hF, b1, rd_ext, rd_bump, hg, hlt1, hlt0, g2, zz0, zz1, zz2, zz3, zz4, zz5, zz6, zz7, zz8, zz9, argsF, reduceIte, reduceCtorEq, Nat.reduceEqDiff, Nat.reduceBEq, Nat.reduceAdd, Int.reduceLT, Int.reduceLE, Int.reduceEq, Int.reduceToNat, Int.reduceNeg, Nat.reduceLeDiff, Int.reducePow, implies_true, UInt8.reduceToNat, Int.reduceSub, Int.reduceAdd, Nat.reduceLT, Nat.reduceMul, Nat.reduceSub, Nat.reduceBNe] at hX
      subst hX
      simp only [parseV, hfe, if_false]
      simp +contextual -implicitDefEqProofs (maxSteps := 1000000) (maxDischargeDepth := 8) only [hg, hlt1, hlt0, g2, zz0, zz1, zz2, zz3, zz4, zz5, zz6, zz7, zz8, zz9, argsF, reduceIte, reduceCtorEq, Nat.reduceEqDiff, Nat.reduceBEq, Nat.reduceAdd, Int.reduceLT, Int.reduceLE, Int.reduceEq, Int.reduceToNat, Int.reduceNeg, Nat.reduceLeDiff, Int.reducePow, implies_true, UInt8.reduceToNat, Int.reduceSub, Int.reduceAdd, Nat.reduceLT, Nat.reduceMul, Nat.reduceSub, Nat.reduceBNe]
end Go.Proofs.Ytjgbofonigpjaaa.Ev
end
section
namespace Go.Proofs.Ytjgbofonigpjaaa.Ev
set_option linter.unusedSimpArgs false
set_option linter.unusedVariables false
set_option maxHeartbeats 4000000
theorem count_range (n : Nat) (a : Int) : ((List.range n).map (fun i : Nat => (i : Int))).count a = inR 0 n a := by
  induction n with
  | zero => simp [inR]
  | succ n ih =>
    rw [List.range_succ, List.map_append, List.count_append, ih, inR_split (b := n) (Nat.zero_le _) (Nat.le_succ _), inR_one]
    rfl
theorem kindOf_ok {tr : List Nd} (h : ∀ d ∈ tr, exprK d.kind) {x : Int} (h0 : 0 ≤ x) (h1 : x < (tr.length : Int)) : exprK (kindOf tr x) := by
  have hx : x.toNat < tr.length := by omega
  unfold kindOf
  rw [List.getElem?_eq_getElem hx]
  exact h _ (List.getElem_mem hx)
theorem kidsP_ok {l : List Tok} {tr : List Nd} {d : Nd} (h : NdOk l d) (hk : ∀ x ∈ d.kids, exprK (kindOf tr x)) : kidsP tr d := by
  have k1 := h.kind
  have kn := h.kn
  have ex : ∀ n, n ≤ d.kids.length → exprsP tr d.kids n := fun n hn => ⟨hn, fun x hx => hk x (List.mem_of_mem_take hx)⟩
  unfold kidsP
  have hlt : d.kind < 12 := by have := k1.2; omega
  by_cases c1 : d.kind = 5 ∨ d.kind = 8
  · rw [if_pos c1] at kn
    rw [if_pos (by rcases c1 with c | c <;> simp [c])]
    exact ⟨kn, ex 2 (by omega)⟩
  · rw [if_neg c1] at kn
    rw [if_neg (by omega)]
    by_cases c2 : d.kind = 6 ∨ d.kind = 7 ∨ d.kind = 9 ∨ d.kind = 10
    · rw [if_pos c2] at kn
      rw [if_pos (by rcases c2 with c | c | c | c <;> simp [c])]
      exact ⟨kn, ex 1 (by omega)⟩
    · rw [if_neg c2] at kn
      rw [if_neg (by omega)]
      by_cases c3 : d.kind = 11
      · rw [if_pos c3] at kn
        rw [if_pos c3]
        exact ⟨kn, ex _ (Nat.le_refl _)⟩
      · rw [if_neg c3] at kn
        rw [if_neg c3, if_neg (by omega), if_neg (by omega), if_neg (by omega), if_neg (by omega), if_neg (by omega), if_neg (by omega), if_neg (by omega)]
        exact kn
structure Parsed (l : List Tok) (s : RS) : Prop where
  right : rightP s.tree
  ok : ∀ d ∈ s.tree, NdOk l d
  small : s.tree.length < l.length
  ne : s.tree ≠ []
theorem ti_start {l : List Tok} : TI l .start := ⟨fun _ => ⟨fun i d h => absurd h (by simp [RS.start]), fun d h => absurd h (by simp [RS.start]), rfl, fun i h => absurd h (by simp [RS.start])⟩, fun q => absurd rfl q⟩
theorem parse_ok {l : List Tok} (ht : TokOk l) (hg : ∀ t ∈ l, t.kind = 1 → t.text ≠ [] ∧ nameP t.text) : ((parseF l).fe = 0 → Parsed l (parseF l)) ∧ ((parseF l).fe ≠ 0 → ∃ t ∈ l, (parseF l).fp = (t.pos : Int)) := by
  have hk : 8 * (l.length - RS.start.pos) + Cmd.expr.rank < 8 * l.length + 5 := by simp only [RS.start, Cmd.rank]; omega
  obtain ⟨s1, r, e, g, ar, _⟩ := go_ok ht (8 * l.length + 5) .expr .start (start_ok ht).p hk trivial
  obtain ⟨x, rfl⟩ := one_of ar
  have o1 := g.ok (start_ok ht)
  obtain ⟨p, n⟩ := go_tr ht.pos hg _ _ _ _ _ e ti_start InT.nil trivial
  have hpf : parseF l = if (s1.now l).kind = 0 then s1 else s1.fail 8 (s1.now l).pos := by unfold parseF; rw [e]
  rw [hpf]
  have hend : TI l (if (s1.now l).kind = 0 then s1 else s1.fail 8 (s1.now l).pos) := by
    split
    · exact p.inv
    · exact p.inv.fail (by decide) ⟨_, now_mem ht.pos, rfl⟩
  refine ⟨fun q => ?_, hend.f⟩
  split at q
  · rename_i hkd
    rw [if_pos hkd]
    have tr := p.inv.t q
    obtain ⟨_, new, hn, hc⟩ := p.ok q
    have hc : ∀ a, cntU s1.tree a + [x].count a = inR 0 s1.tree.length a := fun a => by
      have := hc a
      rw [hn]; simp only [RS.start, List.nil_append, Cmd.ins, List.count_nil, List.length_nil] at *
      rw [hn] at this; omega
    have hne : s1.tree ≠ [] := fun q => by
      have := hc x
      rw [q] at this
      simp [cntU_nil, inR] at this
    have hlen : 0 < s1.tree.length := List.length_pos_iff.2 hne
    have perm : (usedL s1.tree ++ [x]).Perm ((List.range s1.tree.length).map (fun i : Nat => (i : Int))) := List.perm_iff_count.2 fun a => by
      rw [List.count_append, count_range]; exact hc a
    have hl2 := perm.length_eq
    rw [List.length_append, List.length_singleton, List.length_map, List.length_range] at hl2
    have hnd : (usedL s1.tree).Nodup := by
      have h1 : ((List.range s1.tree.length).map (fun i : Nat => (i : Int))).Nodup := List.pairwise_map.2 ((List.nodup_range (n := s1.tree.length)).imp fun h q => h (by omega))
      exact (List.nodup_append.1 (perm.nodup_iff.2 h1)).1
    refine ⟨⟨⟨tr.lt, hnd, fun d hd => ⟨(tr.ok d hd).own, kidsP_ok (tr.ok d hd) fun z hz => ?_⟩⟩, hlen, by omega, ?_⟩, tr.ok, ?_, hne⟩
    · obtain ⟨i, hi⟩ := List.mem_iff_getElem?.1 hd
      have h1 := tr.lt i d hi z hz
      have h2 := (List.getElem?_eq_some_iff.1 hi).1
      exact kindOf_ok (fun d hd => (tr.ok d hd).kind) h1.1 (by omega)
    · have h1 := tr.hh (s1.tree.length - 1) (by omega)
      exact o1.h _ (List.mem_of_getElem? h1)
    · have := o1.t; have := o1.p; have := ht.lt; omega
  · exact absurd q (fail_fe (by decide))
theorem Parsed.sm {l : List Tok} {s : RS} (h : Parsed l s) (hl : l.length < 100000) : Small s.tree where
  len := by have := h.small; omega
  kids d hd := by
    have := (h.ok d hd).kn
    split at this
    · omega
    · split at this
      · omega
      · split at this <;> omega
  s d hd := by
    by_cases q : d.s = []
    · rw [q]; decide
    · have := (h.ok d hd).own.2.1
      have hn : nameP d.s := Classical.byContradiction fun w => this ⟨q, w⟩
      have := hn.2.2.1; omega
end Go.Proofs.Ytjgbofonigpjaaa.Ev
end
section
namespace Go.Proofs.Ytjgbofonigpjaaa.Ev
set_option linter.unusedSimpArgs false
set_option linter.unusedVariables false
set_option maxHeartbeats 4000000
theorem word_name {s : Txt} (h0 : 0 < wordF s) (h1 : wordF s ≤ 32) (h2 : s.take (wordF s) ∉ wordsL) : s.take (wordF s) ≠ [] ∧ nameP (s.take (wordF s)) := by
  have hl := wordF_le s
  have hlen : (s.take (wordF s)).length = wordF s := by rw [List.length_take]; omega
  refine ⟨fun q => by rw [q] at hlen; simp at hlen; omega, ?_, by omega, by omega, h2⟩
  intro i c hi
  cases s with
  | nil => simp at hi
  | cons a s =>
    have hw : wordF (a :: s) = if LetterP (cI a) then 1 + lead (fun n => LetterP n ∨ DigitP n) s else 0 := rfl
    rw [hw] at hi h0
    split at h0
    · rename_i ha
      rw [if_pos ha, Nat.add_comm, List.take_succ_cons] at hi
      cases i with
      | zero =>
        simp only [List.getElem?_cons_zero, Option.some.injEq] at hi
        subst hi; exact .inl ha
      | succ i =>
        rw [List.getElem?_cons_succ] at hi
        have := lead_take (fun n => LetterP n ∨ DigitP n) s c (List.mem_of_getElem? hi)
        exact this.elim .inl fun q => .inr ⟨Nat.succ_ne_zero i, q⟩
    · omega
theorem oneF_name {s : Txt} {p : Nat} {t : Tok} (hs : 0 < s.length) (h : oneF s p = .ok t) (hk : t.kind = 1) : t.text ≠ [] ∧ nameP t.text := by
  rw [oneF_eq hs] at h
  by_cases h1 : DigitP (cI s[0])
  · rw [if_pos h1] at h
    unfold numT at h
    cases hn : numF 0 (s.take (lead DigitP s)) <;> rw [hn] at h <;> cases h
    cases hk
  · rw [if_neg h1] at h
    by_cases h2 : 0 < wordF s ∧ s.take (wordF s) ∈ wordsL
    · rw [if_pos h2] at h; cases h; cases hk
    · rw [if_neg h2] at h
      by_cases h3 : 32 < wordF s
      · rw [if_pos h3] at h; cases h
      · rw [if_neg h3] at h
        by_cases h4 : 0 < wordF s
        · rw [if_pos h4] at h; cases h
          exact word_name h4 (by omega) fun q => h2 ⟨h4, q⟩
        · rw [if_neg h4] at h
          by_cases h5 : signF s = 0
          · rw [if_pos h5] at h; cases h
          · rw [if_neg h5] at h; cases h; cases hk
theorem toksF_good : ∀ (k : Nat) (s : Txt) (p : Nat) (l : List Tok), toksF k s p = .ok l → l.length ≤ s.length ∧ ∀ t ∈ l, t.kind = 1 → t.text ≠ [] ∧ nameP t.text
  | 0, s, p, l, h => by simp only [toksF] at h; cases h
  | k + 1, [], p, l, h => by simp only [toksF] at h; cases h; exact ⟨Nat.le_refl _, fun t ht => by cases ht⟩
  | k + 1, c :: s, p, l, h => by
    simp only [toksF] at h
    cases ho : oneF (c :: s) p with
    | bad e q => rw [ho] at h; cases h
    | ok t =>
      rw [ho] at h
      simp only at h
      obtain ⟨g1, g2, g3, g4⟩ := oneF_len (by simp) ho
      cases hr : toksF k (((c :: s).drop t.text.length).drop (skipF false ((c :: s).drop t.text.length))) (p + t.text.length + skipF false ((c :: s).drop t.text.length)) with
      | bad e q => rw [hr] at h; cases h
      | ok l2 =>
        rw [hr] at h
        cases h
        obtain ⟨i1, i2⟩ := toksF_good k _ _ _ hr
        rw [List.length_drop, List.length_drop] at i1
        refine ⟨by rw [List.length_cons]; omega, fun t' ht' hk => ?_⟩
        rcases List.mem_cons.1 ht' with rfl | ht'
        · exact oneF_name (by simp) ho hk
        · exact i2 t' ht' hk
theorem lex_good {s : Txt} {l : List Tok} (h : lexF s = .ok l) : TokOk l ∧ (∀ t ∈ l, t.kind = 1 → t.text ≠ [] ∧ nameP t.text) ∧ l.length ≤ s.length + 1 := by
  unfold lexF at h
  split at h
  · cases h
  · rename_i h6
    cases hr : toksF (s.length + 1) (s.drop (skipF false s)) (skipF false s) with
    | bad e q => rw [hr] at h; cases h
    | ok l2 =>
      rw [hr] at h
      simp only [Res.map, Res.ok.injEq] at h
      obtain ⟨i1, i2⟩ := toksF_good _ _ _ _ hr
      rw [List.length_drop] at i1
      have hlen : l.length = l2.length + 1 := by rw [← h, List.length_append]; rfl
      refine ⟨⟨by omega, by omega, ?_⟩, fun t ht hk => ?_, by omega⟩
      · rw [hlen, List.getD_eq_getElem?_getD, Nat.add_sub_cancel, ← h, List.getElem?_append_right (Nat.le_refl _), Nat.sub_self]; rfl
      · rw [← h] at ht
        rcases List.mem_append.1 ht with ht | ht
        · exact i2 t ht hk
        · rw [List.mem_singleton.1 ht] at hk; cases hk
end Go.Proofs.Ytjgbofonigpjaaa.Ev
end
section
namespace Go.Proofs.Ytjgbofonigpjaaa.Ev
open Go
set_option linter.unusedSimpArgs false
set_option linter.unusedVariables false
set_option maxRecDepth 10000
set_option maxHeartbeats 4000000
def rep (n : Nat) (s : Txt) : Txt := (List.replicate n s).flatten
theorem rep_succ {n : Nat} {s : Txt} : rep (n + 1) s = rep n s ++ s := by unfold rep; rw [List.replicate_succ', List.flatten_append]; simp
theorem rep_len {n : Nat} {s : Txt} : (rep n s).length = n * s.length := by unfold rep; simp
/-- What a round puts ahead of the text, behind it, and how many there may be. -/
def deepA (k : Nat) : Txt := if k = 0 then [40] else if k = 1 then [45] else if k = 2 then [120, 43] else [120, 91]
def deepZ (k : Nat) : Txt := if k = 0 then [41] else if k = 1 then [] else if k = 2 then [] else [93]
def deepM (k : Nat) : Int := if k = 0 then 200 else 199
theorem bin_cat' {a b : List UInt8} (h : a.length + b.length ≤ 4294967296) : evBin .add (.str a) (.str b) = some (.str (a ++ b)) := by rw [bin_cat, Nat.ble_eq_true_of_le h]; rfl
theorem deep_l0 {x : Int} {k n : Nat} (hk : x.tmod 4 = (k : Int)) (h4 : k < 4) (hn : n < 1000) {fr : Fr} {m0 : Mem} (h0 : fr.get 0 = .int .u8 x) (h5 : fr.get 5 = .int .i64 (n : Int)) (h6 : fr.get 6 = .str []) (h7 : fr.get 7 = .int .i64 200) (h8 : fr.get 8 = .str [120]) (h9 : fr.get 9 = .int .i64 0) (hd : fr.defers = []) :
    ∃ o, exec U (.loop F_l07_ExprDeep_l0) fr m0 = some o ∧ ∃ fr', o = .exit 0 fr' m0 ∧ fr'.get 5 = .int .i64 (n : Int) ∧ fr'.get 6 = .str (rep n (deepA k)) ∧ fr'.get 7 = .int .i64 (if n = 0 then 200 else deepM k) ∧ fr'.get 8 = .str (120 :: rep n (deepZ k)) ∧ fr'.defers = [] := by
  refine loop_w (σ := Nat) (fun j fr m => m = m0 ∧ j ≤ n ∧ fr.get 0 = .int .u8 x ∧ fr.get 5 = .int .i64 (n : Int) ∧ fr.get 6 = .str (rep j (deepA k)) ∧ fr.get 7 = .int .i64 (if j = 0 then 200 else deepM k) ∧ fr.get 8 = .str (120 :: rep j (deepZ k)) ∧ fr.get 9 = .int .i64 (j : Int) ∧ fr.defers = []) (fun j => n - j) _ ?_ 0 fr m0
    ⟨rfl, Nat.zero_le _, h0, h5, h6, h7, h8, h9, hd⟩
  rintro j fr m ⟨rfl, hj, h0, h5, h6, h7, h8, h9, hd⟩
  generalize hX : exec U F_l07_ExprDeep_l0 fr m = X
  by_cases hlt : j < n
  · have hc : (j : Int) < (n : Int) := by omega
    have hw := wrap_succ (i := j) (by omega)
    have z4 : ¬ ((4 : Int) = 0) := by decide
    obtain rfl | rfl | rfl | rfl : k = 0 ∨ k = 1 ∨ k = 2 ∨ k = 3 := by omega
    · have c1 := bin_cat' (a := rep j (deepA 0)) (b := [40]) (by rw [rep_len]; simp [deepA]; omega)
      have c2 := bin_cat' (a := 120 :: rep j (deepZ 0)) (b := [41]) (by rw [List.length_cons, rep_len]; simp [deepZ]; omega)
      simp +contextual -implicitDefEqProofs (maxSteps := 1000000) (maxDischargeDepth := 8) only [F_l07_ExprDeep_l0, h0, h5, h6, h7, h8, h9, hd, hc, hw, z4, hk, c1, c2, if_false, Int.ofNat_zero, Int.cast_ofNat_Int, zz0, zz1, zz2, zz3, zz4, zz5, zz6, zz7, zz8, zz9, argsF, reduceIte, reduceCtorEq, Nat.reduceEqDiff, Nat.reduceBEq, Nat.reduceAdd, Int.reduceLT, Int.reduceLE, Int.reduceEq, Int.reduceToNat, Int.reduceNeg, Nat.reduceLeDiff, Int.reducePow, implies_true, UInt8.reduceToNat, Int.reduceSub, Int.reduceAdd, Nat.reduceLT, Nat.reduceMul, Nat.reduceSub, Nat.reduceBNe] at hX
      subst hX
      refine lw_norm (j + 1) (by omega) ⟨rfl, by omega, by simp only [h0, get_set', selE_t, selE_f, Nat.reduceBEq, set_defers, fr00_get, fr00_defers, put_some, put_none ], by simp only [h5, get_set', selE_t, selE_f, Nat.reduceBEq, set_defers, fr00_get, fr00_defers, put_some, put_none ], ?_, ?_, ?_, by simp only [get_set', selE_t, selE_f, Nat.reduceBEq, set_defers, fr00_get, fr00_defers, put_some, put_none ], by simp only [hd, get_set', selE_t, selE_f, Nat.reduceBEq, set_defers, fr00_get, fr00_defers, put_some, put_none ]⟩
      · rw [rep_succ]; simp only [get_set', selE_t, selE_f, Nat.reduceBEq, set_defers, fr00_get, fr00_defers, put_some, put_none ]; rfl
      · simp only [h7, get_set', selE_t, selE_f, Nat.reduceBEq, set_defers, fr00_get, fr00_defers, put_some, put_none ]; split <;> rfl
      · rw [rep_succ]; simp only [h8, List.cons_append, get_set', selE_t, selE_f, Nat.reduceBEq, set_defers, fr00_get, fr00_defers, put_some, put_none ]; first | rfl | (simp [deepZ])
    · have c1 := bin_cat' (a := rep j (deepA 1)) (b := [45]) (by rw [rep_len]; simp [deepA]; omega)
      simp +contextual -implicitDefEqProofs (maxSteps := 1000000) (maxDischargeDepth := 8) only [F_l07_ExprDeep_l0, h0, h5, h6, h7, h8, h9, hd, hc, hw, z4, hk, c1, if_false, Int.ofNat_zero, Int.cast_ofNat_Int, zz0, zz1, zz2, zz3, zz4, zz5, zz6, zz7, zz8, zz9, argsF, reduceIte, reduceCtorEq, Nat.reduceEqDiff, Nat.reduceBEq, Nat.reduceAdd, Int.reduceLT, Int.reduceLE, Int.reduceEq, Int.reduceToNat, Int.reduceNeg, Nat.reduceLeDiff, Int.reducePow, implies_true, UInt8.reduceToNat, Int.reduceSub, Int.reduceAdd, Nat.reduceLT, Nat.reduceMul, Nat.reduceSub, Nat.reduceBNe] at hX
      subst hX
      refine lw_norm (j + 1) (by omega) ⟨rfl, by omega, by simp only [h0, get_set', selE_t, selE_f, Nat.reduceBEq, set_defers, fr00_get, fr00_defers, put_some, put_none ], by simp only [h5, get_set', selE_t, selE_f, Nat.reduceBEq, set_defers, fr00_get, fr00_defers, put_some, put_none ], ?_, ?_, ?_, by simp only [get_set', selE_t, selE_f, Nat.reduceBEq, set_defers, fr00_get, fr00_defers, put_some, put_none ], by simp only [hd, get_set', selE_t, selE_f, Nat.reduceBEq, set_defers, fr00_get, fr00_defers, put_some, put_none ]⟩
      · rw [rep_succ]; simp only [get_set', selE_t, selE_f, Nat.reduceBEq, set_defers, fr00_get, fr00_defers, put_some, put_none ]; rfl
      · simp only [get_set', selE_t, selE_f, Nat.reduceBEq, set_defers, fr00_get, fr00_defers, put_some, put_none ]; rfl
      · rw [rep_succ]; simp only [h8, List.cons_append, get_set', selE_t, selE_f, Nat.reduceBEq, set_defers, fr00_get, fr00_defers, put_some, put_none ]; first | rfl | (simp [deepZ])
    · have c1 := bin_cat' (a := rep j (deepA 2)) (b := [120, 43]) (by rw [rep_len]; simp [deepA]; omega)
      simp +contextual -implicitDefEqProofs (maxSteps := 1000000) (maxDischargeDepth := 8) only [F_l07_ExprDeep_l0, h0, h5, h6, h7, h8, h9, hd, hc, hw, z4, hk, c1, if_false, Int.ofNat_zero, Int.cast_ofNat_Int, zz0, zz1, zz2, zz3, zz4, zz5, zz6, zz7, zz8, zz9, argsF, reduceIte, reduceCtorEq, Nat.reduceEqDiff, Nat.reduceBEq, Nat.reduceAdd, Int.reduceLT, Int.reduceLE, Int.reduceEq, Int.reduceToNat, Int.reduceNeg, Nat.reduceLeDiff, Int.reducePow, implies_true, UInt8.reduceToNat, Int.reduceSub, Int.reduceAdd, Nat.reduceLT, Nat.reduceMul, Nat.reduceSub, Nat.reduceBNe] at hX
      subst hX
      refine lw_norm (j + 1) (by omega) ⟨rfl, by omega, by simp only [h0, get_set', selE_t, selE_f, Nat.reduceBEq, set_defers, fr00_get, fr00_defers, put_some, put_none ], by simp only [h5, get_set', selE_t, selE_f, Nat.reduceBEq, set_defers, fr00_get, fr00_defers, put_some, put_none ], ?_, ?_, ?_, by simp only [get_set', selE_t, selE_f, Nat.reduceBEq, set_defers, fr00_get, fr00_defers, put_some, put_none ], by simp only [hd, get_set', selE_t, selE_f, Nat.reduceBEq, set_defers, fr00_get, fr00_defers, put_some, put_none ]⟩
      · rw [rep_succ]; simp only [get_set', selE_t, selE_f, Nat.reduceBEq, set_defers, fr00_get, fr00_defers, put_some, put_none ]; rfl
      · simp only [get_set', selE_t, selE_f, Nat.reduceBEq, set_defers, fr00_get, fr00_defers, put_some, put_none ]; rfl
      · rw [rep_succ]; simp only [h8, List.cons_append, get_set', selE_t, selE_f, Nat.reduceBEq, set_defers, fr00_get, fr00_defers, put_some, put_none ]; first | rfl | (simp [deepZ])
    · have c1 := bin_cat' (a := rep j (deepA 3)) (b := [120, 91]) (by rw [rep_len]; simp [deepA]; omega)
      have c2 := bin_cat' (a := 120 :: rep j (deepZ 3)) (b := [93]) (by rw [List.length_cons, rep_len]; simp [deepZ]; omega)
      simp +contextual -implicitDefEqProofs (maxSteps := 1000000) (maxDischargeDepth := 8) only [F_l07_ExprDeep_l0, h0, h5, h6, h7, h8, h9, hd, hc, hw, z4, hk, c1, c2, if_false, Int.ofNat_zero, Int.cast_ofNat_Int, zz0, zz1, zz2, zz3, zz4, zz5, zz6, zz7, zz8, zz9, argsF, reduceIte, reduceCtorEq, Nat.reduceEqDiff, Nat.reduceBEq, Nat.reduceAdd, Int.reduceLT, Int.reduceLE, Int.reduceEq, Int.reduceToNat, Int.reduceNeg, Nat.reduceLeDiff, Int.reducePow, implies_true, UInt8.reduceToNat, Int.reduceSub, Int.reduceAdd, Nat.reduceLT, Nat.reduceMul, Nat.reduceSub, Nat.reduceBNe] at hX
      subst hX
      refine lw_norm (j + 1) (by omega) ⟨rfl, by omega, by simp only [h0, get_set', selE_t, selE_f, Nat.reduceBEq, set_defers, fr00_get, fr00_defers, put_some, put_none ], by simp only [h5, get_set', selE_t, selE_f, Nat.reduceBEq, set_defers, fr00_get, fr00_defers, put_some, put_none ], ?_, ?_, ?_, by simp only [get_set', selE_t, selE_f, Nat.reduceBEq, set_defers, fr00_get, fr00_defers, put_some, put_none ], by simp only [hd, get_set', selE_t, selE_f, Nat.reduceBEq, set_defers, fr00_get, fr00_defers, put_some, put_none ]⟩
      · rw [rep_succ]; simp only [get_set', selE_t, selE_f, Nat.reduceBEq, set_defers, fr00_get, fr00_defers, put_some, put_none ]; rfl
      · simp only [get_set', selE_t, selE_f, Nat.reduceBEq, set_defers, fr00_get, fr00_defers, put_some, put_none ]; rfl
      · rw [rep_succ]; simp only [h8, List.cons_append, get_set', selE_t, selE_f, Nat.reduceBEq, set_defers, fr00_get, fr00_defers, put_some, put_none ]; first | rfl | (simp [deepZ])
  · have hc : ¬ (j : Int) < (n : Int) := by omega
    obtain rfl : j = n := by omega
    simp +contextual -implicitDefEqProofs (maxSteps := 1000000) (maxDischargeDepth := 8) only [F_l07_ExprDeep_l0, h5, h9, hd, hc, zz0, zz1, zz2, zz3, zz4, zz5, zz6, zz7, zz8, zz9, argsF, reduceIte, reduceCtorEq, Nat.reduceEqDiff, Nat.reduceBEq, Nat.reduceAdd, Int.reduceLT, Int.reduceLE, Int.reduceEq, Int.reduceToNat, Int.reduceNeg, Nat.reduceLeDiff, Int.reducePow, implies_true, UInt8.reduceToNat, Int.reduceSub, Int.reduceAdd, Nat.reduceLT, Nat.reduceMul, Nat.reduceSub, Nat.reduceBNe] at hX
    subst hX
    exact lw_exit ⟨_, rfl, by simp only [h5, get_set', selE_t, selE_f, Nat.reduceBEq, set_defers, fr00_get, fr00_defers, put_some, put_none ], by simp only [h6, get_set', selE_t, selE_f, Nat.reduceBEq, set_defers, fr00_get, fr00_defers, put_some, put_none ], by simp only [h7, get_set', selE_t, selE_f, Nat.reduceBEq, set_defers, fr00_get, fr00_defers, put_some, put_none ], by simp only [h8, get_set', selE_t, selE_f, Nat.reduceBEq, set_defers, fr00_get, fr00_defers, put_some, put_none ], by simp only [hd, get_set', selE_t, selE_f, Nat.reduceBEq, set_defers, fr00_get, fr00_defers, put_some, put_none ]⟩
def deepText (k n : Nat) : Txt := rep n (deepA k) ++ 120 :: rep n (deepZ k)
/-- What is wrong with the text, or 0. -/
def deepFe (k n : Nat) : Int := match lexF (deepText k n) with
  | .ok l => (parseF l).fe
  | .bad _ _ => 99
end Go.Proofs.Ytjgbofonigpjaaa.Ev
end
section
namespace Go.Proofs.Ytjgbofonigpjaaa.Ev
set_option maxRecDepth 1000000
theorem deep_0_198 : deepFe 0 198 = 0 := by decide +kernel
theorem deep_0_199 : deepFe 0 199 = 0 := by decide +kernel
theorem deep_0_200 : deepFe 0 200 = 0 := by decide +kernel
theorem deep_0_201 : deepFe 0 201 = 4 := by decide +kernel
theorem deep_0_202 : deepFe 0 202 = 4 := by decide +kernel
end Go.Proofs.Ytjgbofonigpjaaa.Ev
end
section
namespace Go.Proofs.Ytjgbofonigpjaaa.Ev
set_option maxRecDepth 1000000
theorem deep_1_198 : deepFe 1 198 = 0 := by decide +kernel
theorem deep_1_199 : deepFe 1 199 = 0 := by decide +kernel
theorem deep_1_200 : deepFe 1 200 = 4 := by decide +kernel
theorem deep_1_201 : deepFe 1 201 = 4 := by decide +kernel
theorem deep_1_202 : deepFe 1 202 = 4 := by decide +kernel
end Go.Proofs.Ytjgbofonigpjaaa.Ev
end
section
namespace Go.Proofs.Ytjgbofonigpjaaa.Ev
set_option maxRecDepth 1000000
theorem deep_2_198 : deepFe 2 198 = 0 := by decide +kernel
theorem deep_2_199 : deepFe 2 199 = 0 := by decide +kernel
theorem deep_2_200 : deepFe 2 200 = 4 := by decide +kernel
theorem deep_2_201 : deepFe 2 201 = 4 := by decide +kernel
theorem deep_2_202 : deepFe 2 202 = 4 := by decide +kernel
end Go.Proofs.Ytjgbofonigpjaaa.Ev
end
section
namespace Go.Proofs.Ytjgbofonigpjaaa.Ev
set_option maxRecDepth 1000000
theorem deep_3_198 : deepFe 3 198 = 0 := by decide +kernel
theorem deep_3_199 : deepFe 3 199 = 0 := by decide +kernel
theorem deep_3_200 : deepFe 3 200 = 4 := by decide +kernel
theorem deep_3_201 : deepFe 3 201 = 4 := by decide +kernel
theorem deep_3_202 : deepFe 3 202 = 4 := by decide +kernel
end Go.Proofs.Ytjgbofonigpjaaa.Ev
end
section
namespace Go.Proofs.Ytjgbofonigpjaaa.Ev
open Go
set_option linter.unusedSimpArgs false
set_option linter.unusedVariables false
set_option maxRecDepth 10000
set_option maxHeartbeats 4000000
theorem deep_fe {k n : Nat} (hk : k < 4) (h1 : 198 ≤ n) (h2 : n ≤ 202) : deepFe k n = if (n : Int) ≤ deepM k then 0 else 4 := by
  obtain rfl | rfl | rfl | rfl : k = 0 ∨ k = 1 ∨ k = 2 ∨ k = 3 := by omega
  all_goals obtain rfl | rfl | rfl | rfl | rfl : n = 198 ∨ n = 199 ∨ n = 200 ∨ n = 201 ∨ n = 202 := by omega
  · exact deep_0_198
  · exact deep_0_199
  · exact deep_0_200
  · exact deep_0_201
  · exact deep_0_202
  · exact deep_1_198
  · exact deep_1_199
  · exact deep_1_200
  · exact deep_1_201
  · exact deep_1_202
  · exact deep_2_198
  · exact deep_2_199
  · exact deep_2_200
  · exact deep_2_201
  · exact deep_2_202
  · exact deep_3_198
  · exact deep_3_199
  · exact deep_3_200
  · exact deep_3_201
  · exact deep_3_202
theorem deep_law {x y : Int} (hx : 0 ≤ x ∧ x < 256) (hy : 0 ≤ y ∧ y < 256) : pureR B K n_l07_ExprDeep [.int .u8 x, .int .u8 y] = some (.bool true) := by
  obtain ⟨k, hk, h4⟩ : ∃ k : Nat, x.tmod 4 = (k : Int) ∧ k < 4 := ⟨(x.tmod 4).toNat, by rw [Int.tmod_eq_emod_of_nonneg hx.1]; omega, by rw [Int.tmod_eq_emod_of_nonneg hx.1]; omega⟩
  obtain ⟨n, hn, h1, h2⟩ : ∃ n : Nat, 198 + y.tmod 5 = (n : Int) ∧ 198 ≤ n ∧ n ≤ 202 := ⟨(198 + y.tmod 5).toNat, by rw [Int.tmod_eq_emod_of_nonneg hy.1]; omega, by rw [Int.tmod_eq_emod_of_nonneg hy.1]; omega, by rw [Int.tmod_eq_emod_of_nonneg hy.1]; omega⟩
  have hwk : ∀ M, run U 6 [] M = some (.ret (.bool true) M) := fun M => run_works6
  have w1 : IntKind.i64.wrap y = y := wrap_i64 (by omega) (by omega)
  have w2 : IntKind.i64.wrap (n : Int) = (n : Int) := wrap_i64 (by omega) (by omega)
  have z5 : ¬ ((5 : Int) = 0) := by decide
  have hfe := deep_fe h4 h1 h2
  rw [pure_at (by simp [F_l07_ExprDeep])]
  generalize hL0 : exec (UT B K) (ICode.loop F_l07_ExprDeep_l0) = L0
  generalize hX : frR _ = X
  simp +contextual -implicitDefEqProofs (maxSteps := 1000000) (maxDischargeDepth := 8) only [F_l07_ExprDeep, w1, w2, z5, hn, if_false, zz0, zz1, zz2, zz3, zz4, zz5, zz6, zz7, zz8, zz9, argsF, reduceIte, reduceCtorEq, Nat.reduceEqDiff, Nat.reduceBEq, Nat.reduceAdd, Int.reduceLT, Int.reduceLE, Int.reduceEq, Int.reduceToNat, Int.reduceNeg, Nat.reduceLeDiff, Int.reducePow, implies_true, UInt8.reduceToNat, Int.reduceSub, Int.reduceAdd, Nat.reduceLT, Nat.reduceMul, Nat.reduceSub, Nat.reduceBNe] at hX
  subst hL0
  generalize hC : exec _ (.loop F_l07_ExprDeep_l0) _ _ = C at hX
  obtain ⟨o, rfl, fr', rfl, f5, f6, f7, f8, fd⟩ := looped hC (deep_l0 (k := k) (n := n) hk h4 (by omega) (by simp only [get_set', selE_t, selE_f, Nat.reduceBEq, set_defers, fr00_get, fr00_defers, put_some, put_none ]) (by simp only [get_set', selE_t, selE_f, Nat.reduceBEq, set_defers, fr00_get, fr00_defers, put_some, put_none ]) (by simp only [get_set', selE_t, selE_f, Nat.reduceBEq, set_defers, fr00_get, fr00_defers, put_some, put_none ]) (by simp only [get_set', selE_t, selE_f, Nat.reduceBEq, set_defers, fr00_get, fr00_defers, put_some, put_none ]) (by simp only [get_set', selE_t, selE_f, Nat.reduceBEq, set_defers, fr00_get, fr00_defers, put_some, put_none ]) (by simp only [get_set', selE_t, selE_f, Nat.reduceBEq, set_defers, fr00_get, fr00_defers, put_some, put_none ]) (by simp only [get_set', selE_t, selE_f, Nat.reduceBEq, set_defers, fr00_get, fr00_defers, put_some, put_none ]))
  clear hC
  rw [if_neg (by omega)] at f7
  have la : (deepA k).length ≤ 2 := (by decide : ∀ k, k < 4 → (deepA k).length ≤ 2) k h4
  have lz : (deepZ k).length ≤ 1 := (by decide : ∀ k, k < 4 → (deepZ k).length ≤ 1) k h4
  have la2 : n * (deepA k).length ≤ 404 := Nat.le_trans (Nat.mul_le_mul h2 la) (by decide)
  have lz2 : n * (deepZ k).length ≤ 202 := Nat.le_trans (Nat.mul_le_mul h2 lz) (by decide)
  have hcat := bin_cat' (a := rep n (deepA k)) (b := 120 :: rep n (deepZ k)) (by rw [List.length_cons, rep_len, rep_len]; omega)
  have hlen : (deepText k n).length < 1000000 := by unfold deepText; rw [List.length_append, List.length_cons, rep_len, rep_len]; omega
  have htk := tokens_eq hlen
  change evBin .add _ _ = some (.str (deepText k n)) at hcat
  unfold deepFe at hfe
  cases hx : lexF (deepText k n) with
  | bad e p =>
    rw [hx] at hfe
    simp only at hfe
    split at hfe <;> omega
  | ok l =>
    rw [hx] at htk hfe
    simp only [lexV] at htk
    simp only at hfe
    obtain ⟨ht, hg, hll⟩ := lex_good hx
    obtain ⟨pa, pb⟩ := parse_ok ht hg
    have hpe := parse_eq ht (tg := 1) fun q => (pa q).ne
    generalize hP : parseF l = pf at *
    by_cases hc : (n : Int) ≤ deepM k
    · rw [if_pos hc] at hfe
      have hP := pa hfe
      simp only [parseV, hfe, if_true] at hpe
      have hright := right_eq (t := 1) (nl := false) (hP.sm (by unfold deepText at hll; rw [List.length_append, List.length_cons, rep_len, rep_len] at hll; omega))
      rw [bo_pos hP.right] at hright
      have hright : pureR B K n_r06_Right [.fz 1 5 (nds pf.tree)] = some (.bool true) := hright
      simp +contextual -implicitDefEqProofs (maxSteps := 1000000) (maxDischargeDepth := 8) only [f5, f6, f7, f8, fd, hcat, htk, hpe, hc, hright, hwk, zz0, zz1, zz2, zz3, zz4, zz5, zz6, zz7, zz8, zz9, argsF, reduceIte, reduceCtorEq, Nat.reduceEqDiff, Nat.reduceBEq, Nat.reduceAdd, Int.reduceLT, Int.reduceLE, Int.reduceEq, Int.reduceToNat, Int.reduceNeg, Nat.reduceLeDiff, Int.reducePow, implies_true, UInt8.reduceToNat, Int.reduceSub, Int.reduceAdd, Nat.reduceLT, Nat.reduceMul, Nat.reduceSub, Nat.reduceBNe] at hX
      exact hX.symm
    · rw [if_neg hc] at hfe
      have hne : ¬ pf.fe = 0 := by omega
      simp only [parseV, hne, if_false] at hpe
      rw [hfe] at hpe
      simp +contextual -implicitDefEqProofs (maxSteps := 1000000) (maxDischargeDepth := 8) only [f5, f6, f7, f8, fd, hcat, htk, hpe, hc, hwk, zz0, zz1, zz2, zz3, zz4, zz5, zz6, zz7, zz8, zz9, argsF, reduceIte, reduceCtorEq, Nat.reduceEqDiff, Nat.reduceBEq, Nat.reduceAdd, Int.reduceLT, Int.reduceLE, Int.reduceEq, Int.reduceToNat, Int.reduceNeg, Nat.reduceLeDiff, Int.reducePow, implies_true, UInt8.reduceToNat, Int.reduceSub, Int.reduceAdd, Nat.reduceLT, Nat.reduceMul, Nat.reduceSub, Nat.reduceBNe] at hX
      exact hX.symm
end Go.Proofs.Ytjgbofonigpjaaa.Ev
end
section
namespace Go.Proofs.Ytjgbofonigpjaaa.Ev
open Go
/-- What stands in memory stands below its end. -/
def Stands (m : Mem) : Prop := ∀ b cs e t ro, m.get b = .cells cs e t ro → b < m.next
theorem in_live {n0 : Nat} {bs : List InB} : Stands (inMem n0 bs) := by
  intro b cs e t ro h
  refine Classical.byContradiction fun q => ?_
  have : (inMem n0 bs).next = n0 + bs.length := rfl
  rw [inMem_dead (.inr (by omega))] at h
  cases h
theorem reps_ints {m : Mem} {k : IntKind} : ∀ (n : Nat) (ess : List (List EV)) (ds : List Dt), Reps m (List.replicate n (.int k)) ess ds → ∃ zs : List Int, ess.flatten = zs.map (.int k) ∧ zs.length = n ∧ ∀ z ∈ zs, (Lit.int k z).wf = true
  | 0, ess, ds, h => by
    cases h
    exact ⟨[], rfl, rfl, fun z hz => by cases hz⟩
  | n + 1, ess, ds, h => by
    rw [List.replicate_succ] at h
    cases h with
    | cons h hs =>
      obtain ⟨zs, e1, e2, e3⟩ := reps_ints n _ _ hs
      cases h with
      | int hw =>
        rename_i z
        refine ⟨z :: zs, by rw [List.flatten_cons, e1]; rfl, by simp [e2], ?_⟩
        intro y hy
        rcases List.mem_cons.1 hy with rfl | hy
        · exact hw
        · exact e3 y hy
/-- A slice of numbers that came in. -/
theorem in_ints {m : Mem} {t : TypeId} {k : IntKind} {e : EV} {d : Dt} (h : RepV m (.slice t 1 (.int k)) e d) : e = .nilslice ∨ (∃ b o, e = .slice b o 0 (some 0)) ∨ ∃ (b : Nat) (zs : List Int), e = .slice b 0 zs.length none ∧ m.get b = .cells (zs.map (.int k)) 1 0 true ∧ zs.length ≤ maxLen ∧ ∀ z ∈ zs, (Lit.int k z).wf = true := by
  have h : Rep m (.slice t 1 (.int k)) [e] d := h
  cases h with
  | nil => exact .inl rfl
  | empty => exact .inr (.inl ⟨_, _, rfl⟩)
  | slice hl hm hr =>
    obtain ⟨zs, e1, e2, e3⟩ := reps_ints _ _ _ hr
    rw [e1] at hm
    exact .inr (.inr ⟨_, zs, by rw [e2], hm, by omega, e3⟩)
end Go.Proofs.Ytjgbofonigpjaaa.Ev
end
section
namespace Go.Proofs.Ytjgbofonigpjaaa.Ev
open Go
theorem deep_run {m : Mem} {es : List EV} {ds : List Dt} (hm : Stands m) (h : RepVs m [.int .u8, .int .u8] es ds) : ∃ m', run T n_l07_ExprDeep es m = some (.ret (.bool true) m') := by
  obtain ⟨us, hu, hl⟩ := law_pure entB (f := n_l07_ExprDeep) (F := F_l07_ExprDeep) (HasF.has (T := B)) hm h rfl
  obtain ⟨e1, d1, es', ds', rfl, _, h1, hu⟩ := hu.one
  obtain ⟨e2, d2, es'', ds'', rfl, _, h2, hu⟩ := hu.one
  obtain rfl := hu.none
  obtain ⟨x, rfl, hx⟩ := fz_int h1
  obtain ⟨y, rfl, hy⟩ := fz_int h2
  exact hl (deep_law (wf_u8 hx) (wf_u8 hy))
end Go.Proofs.Ytjgbofonigpjaaa.Ev
end
