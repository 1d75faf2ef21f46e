/- WExpr1, WExpr2, WExpr3, WExpr4, WExpr5, WExpr6, WExpr7, WExpr8, WExpr9, WExpr10, WTree4. -/
import Derived.Test.YtjgbofonigpjaaaMf
section
namespace Go.Proofs.Ytjgbofonigpjaaa.Ev
open Go
set_option linter.unusedSimpArgs false
set_option linter.unusedVariables false
set_option maxRecDepth 10000
set_option maxHeartbeats 4000000
theorem toks_get {l : List Tok} {i : Nat} : (toks l)[i]? = (l[i]?).map Tok.cells := by unfold toks; rw [List.getElem?_map]
theorem toks_len' {l : List Tok} : (toks l).length = l.length := by unfold toks; rw [List.length_map]
/-- What a reader's fields hold. -/
abbrev rdCells (tg : Nat) (l : List Tok) (st : RS) (tv hv : EV) : List EV := [.fz tg 4 (toks l), .int .i64 (st.pos : Int), .int .i64 st.deep, tv, hv, .int .i64 st.fe, .int .i64 st.fp]
theorem now_get {l : List Tok} {st : RS} (h : 0 < l.length) : l[min st.pos (l.length - 1)]? = some (st.now l) := by
  have : min st.pos (l.length - 1) < l.length := by omega
  rw [List.getElem?_eq_getElem this]
  unfold RS.now
  rw [List.getD_eq_getElem?_getD, List.getElem?_eq_getElem this]; rfl
theorem token_look {tg : Nat} {l : List Tok} {st : RS} {tv hv : EV} {b : Nat} {m : Mem} (hl : 0 < l.length) (hl2 : l.length < 1000000000) (hp : st.pos < 1000000000) (hg : m.get b = .cells (rdCells tg l st tv hv) 7 t_expr_Reader false) (hb : b < m.next) :
    run U n_expr_Reader_Token [.ptr b 0] m = some (.ret (.agg (st.now l).cells) (bump m 19)) := by
  rw [look_expr_Reader_Token]
  have hc0 : ¬ ((l.length : Int) = 0) := by omega
  have hw : IntKind.i64.wrap ((l.length : Int) - 1) = ((l.length - 1 : Nat) : Int) := by rw [wrap_i64 (by omega) (by omega)]; omega
  have hmn : evMin [.int .i64 (st.pos : Int), .int .i64 ((l.length - 1 : Nat) : Int)] = some (.int .i64 ((min st.pos (l.length - 1) : Nat) : Int)) := by
    simp only [evMin, minFrom, Nat.beq_refl, cond_true]
    congr 2
    split <;> omega
  have hlt : min st.pos (l.length - 1) < l.length := by omega
  have hn := now_get (st := st) hl
  obtain ⟨X, hE⟩ : ∃ X, resR F_expr_Reader_Token.results (exec B0 F_expr_Reader_Token.body (argsF [.ptr b 0] 0 fr00) m) = X := ⟨_, rfl⟩
  have hX := hE
  simp +contextual -implicitDefEqProofs (maxSteps := 1000000) (maxDischargeDepth := 8) only [F_expr_Reader_Token, hg, hb, hc0, hw, hmn, hlt, hn, toks_get, toks_len', idx_cast, Tok.cells, zz0, zz1, zz2, zz3, zz4, zz5, zz6, zz7, zz8, zz9, argsF, reduceIte, reduceCtorEq, Nat.reduceEqDiff, Nat.reduceBEq, Nat.reduceAdd, Int.reduceLT, Int.reduceLE, Int.reduceEq, Int.reduceToNat, Int.reduceNeg, Nat.reduceLeDiff, Int.reducePow, implies_true, UInt8.reduceToNat, Int.reduceSub, Int.reduceAdd, Nat.reduceLT, Nat.reduceMul, Nat.reduceSub, Nat.reduceBNe] at hX
  subst hX
  exact look_at (by simp [F_expr_Reader_Token]) hE rfl rfl (keeps_bump keeps_ext)
theorem fine_look {tg : Nat} {l : List Tok} {st : RS} {tv hv : EV} {b : Nat} {m : Mem} (hg : m.get b = .cells (rdCells tg l st tv hv) 7 t_expr_Reader false) (hb : b < m.next) :
    run U n_expr_Reader_fine [.ptr b 0] m = some (.ret (bo (st.fe = 0)) (bump m 0)) := by
  rw [look_expr_Reader_fine]
  obtain ⟨X, hE⟩ : ∃ X, resR F_expr_Reader_fine.results (exec B1 F_expr_Reader_fine.body (argsF [.ptr b 0] 0 fr00) m) = X := ⟨_, rfl⟩
  have hX := hE
  simp +contextual -implicitDefEqProofs (maxSteps := 1000000) (maxDischargeDepth := 8) only [F_expr_Reader_fine, hg, hb, zz0, zz1, zz2, zz3, zz4, zz5, zz6, zz7, zz8, zz9, argsF, reduceIte, reduceCtorEq, Nat.reduceEqDiff, Nat.reduceBEq, Nat.reduceAdd, Int.reduceLT, Int.reduceLE, Int.reduceEq, Int.reduceToNat, Int.reduceNeg, Nat.reduceLeDiff, Int.reducePow, implies_true, UInt8.reduceToNat, Int.reduceSub, Int.reduceAdd, Nat.reduceLT, Nat.reduceMul, Nat.reduceSub, Nat.reduceBNe] at hX
  subst hX
  exact look_at (by simp [F_expr_Reader_fine]) hE rfl rfl keeps_refl
theorem is_look {tg : Nat} {l : List Tok} {st : RS} {tv hv : EV} {b : Nat} {m : Mem} {s : Txt} (hl : 0 < l.length) (hl2 : l.length < 1000000000) (hp : st.pos < 1000000000) (hg : m.get b = .cells (rdCells tg l st tv hv) 7 t_expr_Reader false) (hb : b < m.next) :
    run U n_expr_Reader_Is [.ptr b 0, .str s] m = some (.ret (bo (st.is l s)) (bump m 20)) := by
  have h1 : ∀ M : Mem, M.get b = .cells (rdCells tg l st tv hv) 7 t_expr_Reader false → b < M.next → lookT B0 F_expr_Reader_Token [.ptr b 0] M = some (.ret (.agg (st.now l).cells) (bump M 19)) := fun M h1 h2 => by
    have := token_look (m := M) hl hl2 hp h1 h2
    rwa [look_expr_Reader_Token] at this
  have h2 : ∀ M : Mem, M.get b = .cells (rdCells tg l st tv hv) 7 t_expr_Reader false → b < M.next → lookT B1 F_expr_Reader_fine [.ptr b 0] M = some (.ret (bo (st.fe = 0)) (bump M 0)) := fun M h1 h2 => by
    have := fine_look (m := M) h1 h2
    rwa [look_expr_Reader_fine] at this
  rw [look_expr_Reader_Is]
  have hk : ((3 : Int) ≤ ((st.now l).kind : Int)) = (3 ≤ (st.now l).kind) := propext (by omega)
  obtain ⟨X, hE⟩ : ∃ X, resR F_expr_Reader_Is.results (exec B2 F_expr_Reader_Is.body (argsF [.ptr b 0, .str s] 0 fr00) m) = X := ⟨_, rfl⟩
  have hX := hE
  simp +contextual -implicitDefEqProofs (maxSteps := 1000000) (maxDischargeDepth := 8) only [F_expr_Reader_Is, look2_expr_Reader_Token, look2_expr_Reader_fine, h1, h2, hk, hg, hb, Tok.cells, zz0, zz1, zz2, zz3, zz4, zz5, zz6, zz7, zz8, zz9, argsF, reduceIte, reduceCtorEq, Nat.reduceEqDiff, Nat.reduceBEq, Nat.reduceAdd, Int.reduceLT, Int.reduceLE, Int.reduceEq, Int.reduceToNat, Int.reduceNeg, Nat.reduceLeDiff, Int.reducePow, implies_true, UInt8.reduceToNat, Int.reduceSub, Int.reduceAdd, Nat.reduceLT, Nat.reduceMul, Nat.reduceSub, Nat.reduceBNe] at hX
  subst hX
  exact look_at (by simp [F_expr_Reader_Is]) (by rw [hE, and_assoc]; rfl) rfl rfl (keeps_bump (keeps_ext' (keeps_bump keeps_refl) le_nb))

/-! ### What changes the reader's own fields alone -/
/-- Facts of a reader that stands at a block. -/
structure RdF (b tg : Nat) (l : List Tok) (st : RS) (tv hv : EV) : Prop where
  l0 : 0 < l.length
  l1 : l.length < 1000000000
  p : st.pos < 1000000000
  d : st.deep < 1000000000 ∧ -1000000000 < st.deep
section
variable {tg : Nat} {l : List Tok} {st : RS} {tv hv : EV} {b : Nat} {m : Mem}
theorem RdF.token (h : RdF b tg l st tv hv) : ∀ M : Mem, M.get b = .cells (rdCells tg l st tv hv) 7 t_expr_Reader false → b < M.next → run U n_expr_Reader_Token [.ptr b 0] M = some (.ret (.agg [.int .i64 ((st.now l).kind : Int), .str (st.now l).text, .int .i64 ((st.now l).n : Int), .int .i64 ((st.now l).pos : Int)]) (bump M 19)) := fun M h1 h2 => token_look h.l0 h.l1 h.p h1 h2
theorem RdF.is (h : RdF b tg l st tv hv) : ∀ (M : Mem) (s : Txt), M.get b = .cells (rdCells tg l st tv hv) 7 t_expr_Reader false → b < M.next → run U n_expr_Reader_Is [.ptr b 0, .str s] M = some (.ret (bo (st.is l s)) (bump M 20)) := fun M s h1 h2 => is_look h.l0 h.l1 h.p h1 h2
/-- One block is written anew. -/
structure Upd (m m' : Mem) (b : Nat) (B : Blk) : Prop where
  n : m.next ≤ m'.next
  g : m'.get b = B
  k : ∀ c, c < m.next → c ≠ b → m'.get c = m.get c
theorem Upd.same {B : Blk} {k : Nat} (h : m.get b = B) : Upd m (bump m k) b B := ⟨by rw [next_bump]; exact le_nb, h, fun _ _ _ => rfl⟩
theorem Upd.set {B : Blk} {m' : Mem} (hn : m.next ≤ m'.next) (hk : ∀ c, c < m.next → c ≠ b → m'.get c = m.get c) : Upd m (m'.set b B) b B := ⟨hn, get_set_eq, fun c hc hne => by rw [get_set_ne hne]; exact hk c hc hne⟩
theorem Upd.trans {m' m'' : Mem} {B B' : Blk} (h : Upd m m' b B) (h' : Upd m' m'' b B') : Upd m m'' b B' := ⟨Nat.le_trans h.n h'.n, h'.g, fun c hc hne => (h'.k c (Nat.lt_of_lt_of_le hc h.n) hne).trans (h.k c hc hne)⟩
theorem fail_run (hg : m.get b = .cells (rdCells tg l st tv hv) 7 t_expr_Reader false) (hb : b < m.next) (e p : Int) : ∃ m', run U n_expr_Reader_Fail [.ptr b 0, .int .i64 e, .int .i64 p] m = some (.ret (.tuple []) m') ∧ Upd m m' b (.cells (rdCells tg l (st.fail e p) tv hv) 7 t_expr_Reader false) := by
  have hf : ∀ M : Mem, M.get b = .cells (rdCells tg l st tv hv) 7 t_expr_Reader false → b < M.next → run U n_expr_Reader_fine [.ptr b 0] M = some (.ret (bo (st.fe = 0)) (bump M 0)) := fun M h1 h2 => fine_look h1 h2
  rw [run_p2 (by simp [F_expr_Reader_Fail])]
  by_cases h0 : st.fe = 0
  · simp +contextual -implicitDefEqProofs (maxSteps := 1000000) (maxDischargeDepth := 8) only [F_expr_Reader_Fail, hf, hg, hb, h0, zz0, zz1, zz2, zz3, zz4, zz5, zz6, zz7, zz8, zz9, argsF, reduceIte, reduceCtorEq, Nat.reduceEqDiff, Nat.reduceBEq, Nat.reduceAdd, Int.reduceLT, Int.reduceLE, Int.reduceEq, Int.reduceToNat, Int.reduceNeg, Nat.reduceLeDiff, Int.reducePow, implies_true, UInt8.reduceToNat, Int.reduceSub, Int.reduceAdd, Nat.reduceLT, Nat.reduceMul, Nat.reduceSub, Nat.reduceBNe]
    refine ⟨_, rfl, by rw [next_bump]; exact le_nb, ?_, fun c hc hne => get_set_ne hne⟩
    rw [get_bump, get_set_eq]; simp only [RS.fail, if_pos h0]
  · simp +contextual -implicitDefEqProofs (maxSteps := 1000000) (maxDischargeDepth := 8) only [F_expr_Reader_Fail, hf, hg, hb, h0, zz0, zz1, zz2, zz3, zz4, zz5, zz6, zz7, zz8, zz9, argsF, reduceIte, reduceCtorEq, Nat.reduceEqDiff, Nat.reduceBEq, Nat.reduceAdd, Int.reduceLT, Int.reduceLE, Int.reduceEq, Int.reduceToNat, Int.reduceNeg, Nat.reduceLeDiff, Int.reducePow, implies_true, UInt8.reduceToNat, Int.reduceSub, Int.reduceAdd, Nat.reduceLT, Nat.reduceMul, Nat.reduceSub, Nat.reduceBNe]
    exact ⟨_, rfl, .same (by rw [hg]; simp only [RS.fail, if_neg h0])⟩
theorem skip_run (h : RdF b tg l st tv hv) (hg : m.get b = .cells (rdCells tg l st tv hv) 7 t_expr_Reader false) (hb : b < m.next) (s : Txt) : ∃ m', run U n_expr_Reader_Skip [.ptr b 0, .str s] m = some (.ret (bo (st.is l s)) m') ∧ Upd m m' b (.cells (rdCells tg l (st.skip l s) tv hv) 7 t_expr_Reader false) := by
  have hi := h.is
  have hw := wrap_succ (i := st.pos) (by have := h.p; omega)
  rw [run_p2 (by simp [F_expr_Reader_Skip])]
  by_cases h0 : st.is l s
  · simp +contextual -implicitDefEqProofs (maxSteps := 1000000) (maxDischargeDepth := 8) only [F_expr_Reader_Skip, hi, hg, hb, h0, hw, bo_tt, zz0, zz1, zz2, zz3, zz4, zz5, zz6, zz7, zz8, zz9, argsF, reduceIte, reduceCtorEq, Nat.reduceEqDiff, Nat.reduceBEq, Nat.reduceAdd, Int.reduceLT, Int.reduceLE, Int.reduceEq, Int.reduceToNat, Int.reduceNeg, Nat.reduceLeDiff, Int.reducePow, implies_true, UInt8.reduceToNat, Int.reduceSub, Int.reduceAdd, Nat.reduceLT, Nat.reduceMul, Nat.reduceSub, Nat.reduceBNe]
    refine ⟨_, rfl, by rw [next_bump]; exact le_nb, ?_, fun c hc hne => get_set_ne hne⟩
    rw [get_bump, get_set_eq]; simp only [RS.skip, RS.next, if_pos h0]
  · simp +contextual -implicitDefEqProofs (maxSteps := 1000000) (maxDischargeDepth := 8) only [F_expr_Reader_Skip, hi, hg, hb, h0, bo_ff, zz0, zz1, zz2, zz3, zz4, zz5, zz6, zz7, zz8, zz9, argsF, reduceIte, reduceCtorEq, Nat.reduceEqDiff, Nat.reduceBEq, Nat.reduceAdd, Int.reduceLT, Int.reduceLE, Int.reduceEq, Int.reduceToNat, Int.reduceNeg, Nat.reduceLeDiff, Int.reducePow, implies_true, UInt8.reduceToNat, Int.reduceSub, Int.reduceAdd, Nat.reduceLT, Nat.reduceMul, Nat.reduceSub, Nat.reduceBNe]
    exact ⟨_, rfl, .same (by rw [hg]; simp only [RS.skip, if_neg h0])⟩
theorem close_run (h : RdF b tg l st tv hv) (hg : m.get b = .cells (rdCells tg l st tv hv) 7 t_expr_Reader false) (hb : b < m.next) : ∃ m', run U n_expr_Reader_Close [.ptr b 0] m = some (.ret (.tuple []) m') ∧ Upd m m' b (.cells (rdCells tg l st.close tv hv) 7 t_expr_Reader false) := by
  have hw : IntKind.i64.wrap (st.deep - 1) = st.deep - 1 := by have := h.d; exact wrap_i64 (by omega) (by omega)
  rw [run_p2 (by simp [F_expr_Reader_Close])]
  simp +contextual -implicitDefEqProofs (maxSteps := 1000000) (maxDischargeDepth := 8) only [F_expr_Reader_Close, hg, hb, hw, zz0, zz1, zz2, zz3, zz4, zz5, zz6, zz7, zz8, zz9, argsF, reduceIte, reduceCtorEq, Nat.reduceEqDiff, Nat.reduceBEq, Nat.reduceAdd, Int.reduceLT, Int.reduceLE, Int.reduceEq, Int.reduceToNat, Int.reduceNeg, Nat.reduceLeDiff, Int.reducePow, implies_true, UInt8.reduceToNat, Int.reduceSub, Int.reduceAdd, Nat.reduceLT, Nat.reduceMul, Nat.reduceSub, Nat.reduceBNe]
  exact ⟨_, rfl, .set (Nat.le_refl _) fun _ _ _ => rfl⟩
theorem RdF.fail (h : RdF b tg l st tv hv) (e p : Int) : RdF b tg l (st.fail e p) tv hv := by
  unfold RS.fail; split
  · exact ⟨h.l0, h.l1, h.p, h.d⟩
  · exact h
theorem want_run (h : RdF b tg l st tv hv) (hg : m.get b = .cells (rdCells tg l st tv hv) 7 t_expr_Reader false) (hb : b < m.next) (s : Txt) : ∃ m', run U n_expr_Reader_Want [.ptr b 0, .str s] m = some (.ret (bo (st.is l s)) m') ∧ Upd m m' b (.cells (rdCells tg l (st.want l s) tv hv) 7 t_expr_Reader false) := by
  obtain ⟨m1, e1, u1⟩ := skip_run h hg hb s
  rw [run_p2 (by simp [F_expr_Reader_Want])]
  by_cases h0 : st.is l s
  · simp +contextual -implicitDefEqProofs (maxSteps := 1000000) (maxDischargeDepth := 8) only [F_expr_Reader_Want, e1, h0, bo_tt, zz0, zz1, zz2, zz3, zz4, zz5, zz6, zz7, zz8, zz9, argsF, reduceIte, reduceCtorEq, Nat.reduceEqDiff, Nat.reduceBEq, Nat.reduceAdd, Int.reduceLT, Int.reduceLE, Int.reduceEq, Int.reduceToNat, Int.reduceNeg, Nat.reduceLeDiff, Int.reducePow, implies_true, UInt8.reduceToNat, Int.reduceSub, Int.reduceAdd, Nat.reduceLT, Nat.reduceMul, Nat.reduceSub, Nat.reduceBNe]
    refine ⟨_, rfl, ?_⟩
    simp only [RS.skip, RS.next, if_pos h0] at u1
    simp only [RS.want, RS.next, if_pos h0]; exact u1
  · have hsk : st.skip l s = st := by unfold RS.skip; rw [if_neg h0]
    rw [hsk] at u1
    have hb1 : b < m1.next := Nat.lt_of_lt_of_le hb u1.n
    have ht := h.token m1 u1.g hb1
    obtain ⟨m2, e2, u2⟩ := fail_run (m := bump m1 19) u1.g (Nat.lt_of_lt_of_le hb1 le_nb) 8 ((st.now l).pos : Int)
    have hn3 : ([EV.int .i64 ((st.now l).kind : Int), .str (st.now l).text, .int .i64 ((st.now l).n : Int), .int .i64 ((st.now l).pos : Int)] : List EV)[3]? = some (.int .i64 ((st.now l).pos : Int)) := rfl
    simp +contextual -implicitDefEqProofs (maxSteps := 1000000) (maxDischargeDepth := 8) only [F_expr_Reader_Want, e1, h0, ht, e2, hn3, bo_ff, zz0, zz1, zz2, zz3, zz4, zz5, zz6, zz7, zz8, zz9, argsF, reduceIte, reduceCtorEq, Nat.reduceEqDiff, Nat.reduceBEq, Nat.reduceAdd, Int.reduceLT, Int.reduceLE, Int.reduceEq, Int.reduceToNat, Int.reduceNeg, Nat.reduceLeDiff, Int.reducePow, implies_true, UInt8.reduceToNat, Int.reduceSub, Int.reduceAdd, Nat.reduceLT, Nat.reduceMul, Nat.reduceSub, Nat.reduceBNe]
    refine ⟨_, rfl, ?_⟩
    simp only [RS.want, if_neg h0]
    exact u1.trans ⟨Nat.le_trans le_nb u2.n, u2.g, fun c hc hne => u2.k c (Nat.lt_of_lt_of_le hc le_nb) hne⟩
theorem open_run (h : RdF b tg l st tv hv) (hg : m.get b = .cells (rdCells tg l st tv hv) 7 t_expr_Reader false) (hb : b < m.next) (p : Int) : ∃ m', run U n_expr_Reader_Open [.ptr b 0, .int .i64 p] m = some (.ret (bo ((st.open p).fe = 0)) m') ∧ Upd m m' b (.cells (rdCells tg l (st.open p) tv hv) 7 t_expr_Reader false) := by
  have hd := h.d
  have hw : IntKind.i64.wrap (st.deep + 1) = st.deep + 1 := wrap_i64 (by omega) (by omega)
  rw [run_p2 (by simp [F_expr_Reader_Open])]
  have hn0 : b < (m.set b (.cells (rdCells tg l { st with deep := st.deep + 1 } tv hv) 7 t_expr_Reader false)).next := hb
  have hg0 : (m.set b (.cells (rdCells tg l { st with deep := st.deep + 1 } tv hv) 7 t_expr_Reader false)).get b = .cells (rdCells tg l { st with deep := st.deep + 1 } tv hv) 7 t_expr_Reader false := get_set_eq
  by_cases h0 : 200 < st.deep + 1
  · obtain ⟨m1, e1, u1⟩ := fail_run (st := { st with deep := st.deep + 1 }) hg0 hn0 4 p
    have ho : st.open p = (({ st with deep := st.deep + 1 } : RS).fail 4 p) := by simp only [RS.open, if_pos h0]
    rw [ho]
    have hfn := fine_look u1.g (Nat.lt_of_lt_of_le hb u1.n)
    generalize hfs : (({ st with deep := st.deep + 1 } : RS).fail 4 p) = fs at *
    simp +contextual -implicitDefEqProofs (maxSteps := 1000000) (maxDischargeDepth := 8) only [F_expr_Reader_Open, hg, hb, hw, h0, e1, hfn, zz0, zz1, zz2, zz3, zz4, zz5, zz6, zz7, zz8, zz9, argsF, reduceIte, reduceCtorEq, Nat.reduceEqDiff, Nat.reduceBEq, Nat.reduceAdd, Int.reduceLT, Int.reduceLE, Int.reduceEq, Int.reduceToNat, Int.reduceNeg, Nat.reduceLeDiff, Int.reducePow, implies_true, UInt8.reduceToNat, Int.reduceSub, Int.reduceAdd, Nat.reduceLT, Nat.reduceMul, Nat.reduceSub, Nat.reduceBNe]
    refine ⟨_, rfl, ?_, u1.g, fun c hc hne => ?_⟩
    · rw [next_bump]; exact Nat.le_trans u1.n le_nb
    · rw [get_bump, u1.k c hc hne, get_set_ne hne]
  · have ho : st.open p = { st with deep := st.deep + 1 } := by simp only [RS.open, if_neg h0]
    rw [ho]
    have hfn := fine_look hg0 hn0
    simp +contextual -implicitDefEqProofs (maxSteps := 1000000) (maxDischargeDepth := 8) only [F_expr_Reader_Open, hg, hb, hw, h0, hfn, zz0, zz1, zz2, zz3, zz4, zz5, zz6, zz7, zz8, zz9, argsF, reduceIte, reduceCtorEq, Nat.reduceEqDiff, Nat.reduceBEq, Nat.reduceAdd, Int.reduceLT, Int.reduceLE, Int.reduceEq, Int.reduceToNat, Int.reduceNeg, Nat.reduceLeDiff, Int.reducePow, implies_true, UInt8.reduceToNat, Int.reduceSub, Int.reduceAdd, Nat.reduceLT, Nat.reduceMul, Nat.reduceSub, Nat.reduceBNe]
    exact ⟨_, rfl, by rw [next_bump]; exact le_nb, get_set_eq, fun c hc hne => get_set_ne hne⟩
end
end Go.Proofs.Ytjgbofonigpjaaa.Ev
end
section
namespace Go.Proofs.Ytjgbofonigpjaaa.Ev
open Go
set_option linter.unusedSimpArgs false
set_option linter.unusedVariables false
set_option maxRecDepth 10000
set_option maxHeartbeats 4000000
def is (l : List Int) : List EV := l.map fun x => .int .i64 x
def nis (l : List Nat) : List EV := l.map fun (x : Nat) => .int .i64 (x : Int)
theorem is_len {l : List Int} : (is l).length = l.length := List.length_map ..
/-- A node with the row of its kids. -/
structure Nv where
  d : Nd
  kv : EV
def ndCells (d : Nd) (kv : EV) : List EV := [.int .i64 d.kind, kv, .int .i64 d.n, .str d.s, .int .i64 d.pos]
def Nv.cells (x : Nv) : List EV := ndCells x.d x.kv
def nvs (xs : List Nv) : List EV := (xs.map Nv.cells).flatten
theorem nvs_snoc {xs : List Nv} {x : Nv} : nvs (xs ++ [x]) = nvs xs ++ x.cells := by simp [nvs]
/-- Not of any of the reader's own rows. -/
structure Fre (b : Nat) (tv hv : EV) (c : Nat) : Prop where
  ne : c ≠ b
  t : Off tv c
  h : Off hv c
structure KidAt (m : Mem) (b : Nat) (tv hv : EV) (d : Nd) (kv : EV) : Prop where
  o : Own m kv (is d.kids) d.kids.length 1 0
  f : ∀ c, ¬ Off kv c → Fre b tv hv c
  nl : d.nl = d.kids.isEmpty
  z : d.kids = [] → kv = .nilslice
structure RdV (m : Mem) (b tg : Nat) (l : List Tok) (st : RS) (P : Nat → Prop) (tv hv : EV) (xs : List Nv) : Prop where
  g : m.get b = .cells (rdCells tg l st tv hv) 7 t_expr_Reader false
  lt : b < m.next
  t : Own m tv (nvs xs) xs.length 5 (b + 1)
  h : Own m hv (nis st.high) st.high.length 1 (b + 1)
  a : ∀ c, ¬ Off tv c → Off hv c
  x : xs.map Nv.d = st.tree
  hl : st.high.length = st.tree.length
  k : ∀ x ∈ xs, KidAt m b tv hv x.d x.kv
  p : ∀ c, P c → c < m.next ∧ Fre b tv hv c
  pk : ∀ c, P c → ∀ x ∈ xs, Off x.kv c
/-- A reader asx it stands, and what of its caller's is apart from it. -/
def Rd (m : Mem) (b tg : Nat) (l : List Tok) (st : RS) (P : Nat → Prop) : Prop := ∃ tv hv xs, RdV m b tg l st P tv hv xs
/-- What is kept. -/
structure Kp (m m' : Mem) (P : Nat → Prop) : Prop where
  n : m.next ≤ m'.next
  k : ∀ c, P c → m'.get c = m.get c
theorem Kp.trans {m m' m'' : Mem} {P : Nat → Prop} (h : Kp m m' P) (h' : Kp m' m'' P) : Kp m m'' P := ⟨Nat.le_trans h.n h'.n, fun c hc => (h'.k c hc).trans (h.k c hc)⟩
theorem Kp.weak {m m' : Mem} {P Q : Nat → Prop} (h : Kp m m' P) (hq : ∀ c, Q c → P c) : Kp m m' Q := ⟨h.n, fun c hc => h.k c (hq c hc)⟩
theorem Own.notOff {m : Mem} {v : EV} {cs : List EV} {n esz lo : Nat} (h : Own m v cs n esz lo) {c : Nat} (hc : ¬ Off v c) : lo ≤ c ∧ c < m.next := by
  rcases h.is with ⟨rfl, _⟩ | ⟨b, cap, t, rfl, h1, h2, _⟩
  · exact absurd Off.nil hc
  · by_cases q : c = b
    · subst q; exact ⟨h1, h2⟩
    · exact absurd (Off.of q) hc
section
variable {m : Mem} {b tg : Nat} {l : List Tok} {st : RS} {P : Nat → Prop} {tv hv : EV} {xs : List Nv}
/-- The reader's own fields alone are written; or nothing of its own. -/
theorem RdV.upd (h : RdV m b tg l st P tv hv xs) {m' : Mem} {st' : RS} (ht : st'.tree = st.tree) (hh : st'.high = st.high) (u : Upd m m' b (.cells (rdCells tg l st' tv hv) 7 t_expr_Reader false)) : RdV m' b tg l st' P tv hv xs where
  g := u.g
  lt := Nat.lt_of_lt_of_le h.lt u.n
  t := h.t.keep' u.n fun c hc hlo _ => u.k c hc (by omega)
  h := by rw [hh]; exact h.h.keep' u.n fun c hc hlo _ => u.k c hc (by omega)
  a := h.a
  x := h.x.trans ht.symm
  hl := by rw [hh, ht]; exact h.hl
  k := fun x hx => ⟨(h.k x hx).o.keep' u.n fun c hc _ ho => u.k c hc ((h.k x hx).f c ho).ne, (h.k x hx).f, (h.k x hx).nl, (h.k x hx).z⟩
  p := fun c hc => ⟨Nat.lt_of_lt_of_le (h.p c hc).1 u.n, (h.p c hc).2⟩
  pk := h.pk
theorem RdV.kp (h : RdV m b tg l st P tv hv xs) {m' : Mem} {B : Blk} (u : Upd m m' b B) : Kp m m' P := ⟨u.n, fun c hc => u.k c (h.p c hc).1 (h.p c hc).2.ne⟩
theorem Upd.bump {B : Blk} {k : Nat} (h : m.get b = B) : Upd m (bump m k) b B := .same h
theorem Upd.ext {B : Blk} {ys : List Blk} (h : m.get b = B) (hb : b < m.next) : Upd m (Ev.ext m ys) b B := ⟨by rw [next_ext]; exact le_nb, by rw [get_ext_old hb]; exact h, fun c hc _ => get_ext_old hc⟩
/-- More is kept apart. -/
theorem RdV.more (h : RdV m b tg l st P tv hv xs) {Q : Nat → Prop} (hq : ∀ c, Q c → P c ∨ (c < m.next ∧ Fre b tv hv c ∧ ∀ x ∈ xs, Off x.kv c)) : RdV m b tg l st Q tv hv xs :=
  ⟨h.g, h.lt, h.t, h.h, h.a, h.x, h.hl, h.k, fun c hc => (hq c hc).elim (h.p c) fun q => ⟨q.1, q.2.1⟩, fun c hc => (hq c hc).elim (h.pk c) fun q => q.2.2⟩
/-- What is new is apart. -/
theorem RdV.fresh (h : RdV m b tg l st P tv hv xs) {c : Nat} (hc : m.next ≤ c) : Fre b tv hv c := ⟨by have := h.lt; omega, h.t.lt (.inl hc), h.h.lt (.inl hc)⟩
theorem RdV.freshK (h : RdV m b tg l st P tv hv xs) {c : Nat} (hc : m.next ≤ c) : ∀ x ∈ xs, Off x.kv c := fun x hx => (h.k x hx).o.lt (.inl hc)
theorem put_loop {v3 : EV} {kids : List Int} {nl : EV} {lo : Nat} {fr : Fr} {m0 : Mem} (h : RdV m0 b tg l st P tv hv xs) (hH : ∀ x ∈ st.high, x ≤ 200) (ho : Own m0 nl (is kids) kids.length 1 lo) (hkl : kids.length < 1000000000) (hhl : st.high.length < 1000000000) (hd0 : fr.get 0 = .ptr b 0) (h5 : fr.get 5 = .int .i64 1) (h9 : fr.get 9 = nl) (h10 : fr.get 10 = .int .i64 (kids.length : Int)) (h11 : fr.get 11 = .int .i64 0) (h3 : fr.get 3 = v3) (hd : fr.defers = []) :
    ∃ o, exec U (.loop F_expr_Reader_Put_l0) fr m0 = some o ∧ ∃ fr', o = .exit 0 fr' m0 ∧ fr'.get 0 = .ptr b 0 ∧ fr'.get 5 = .int .i64 (hiAll st.high kids : Int) ∧ fr'.get 3 = v3 ∧ fr'.defers = [] := by
  have hmax : ∀ (ks : List Int) (a : Nat), a ≤ 201 → ks.foldl (hi1 st.high) a ≤ 201 := by
    intro ks
    induction ks with
    | nil => intro a ha; exact ha
    | cons x ks ih =>
      intro a ha
      rw [List.foldl_cons]
      refine ih _ ?_
      unfold hi1
      split
      · rename_i q
        have hx : x.toNat < st.high.length := by omega
        have := hH _ (List.getElem_mem hx)
        rw [List.getD_eq_getElem?_getD, List.getElem?_eq_getElem hx, Option.getD_some]
        omega
      · exact ha
  refine loop_w (σ := Nat) (fun j fr m => m = m0 ∧ j ≤ kids.length ∧ fr.get 0 = .ptr b 0 ∧ fr.get 5 = .int .i64 (((kids.take j).foldl (hi1 st.high) 1 : Nat) : Int) ∧ fr.get 9 = nl ∧ fr.get 10 = .int .i64 (kids.length : Int) ∧ fr.get 11 = .int .i64 (j : Int) ∧ fr.get 3 = v3 ∧ fr.defers = []) (fun j => kids.length - j) _ ?_ 0 fr m0
    ⟨rfl, Nat.zero_le _, hd0, h5, h9, h10, h11, h3, hd⟩
  rintro j fr m ⟨rfl, hj, hd0, h5, h9, h10, h11, h3, hd⟩
  generalize hX : exec U F_expr_Reader_Put_l0 fr m = X
  by_cases hlt : j < kids.length
  · have hc : (j : Int) < (kids.length : Int) := by omega
    rcases ho.is with ⟨_, q, _⟩ | ⟨kb, cap, t, rfl, h1, h2, h3', h4⟩
    · omega
    have hfl : (kids.take (j + 1)).foldl (hi1 st.high) 1 = hi1 st.high ((kids.take j).foldl (hi1 st.high) 1) kids[j] := by
      rw [List.take_add_one, List.getElem?_eq_getElem hlt, Option.toList_some, List.foldl_append]; rfl
    have hle := hmax (kids.take j) 1 (by omega)
    have hk : (is kids)[j]? = some (.int .i64 kids[j]) := by unfold is; rw [List.getElem?_map, List.getElem?_eq_getElem hlt]; rfl
    generalize hA : (kids.take j).foldl (hi1 st.high) 1 = A at *
    generalize hx : kids[j] = x at *
    have hw : IntKind.i64.wrap ((j : Int) + 1) = ((j + 1 : Nat) : Int) := by rw [wrap_i64 (by omega) (by omega)]; omega
    have hg := h.g
    have hb := h.lt
    by_cases hr : 0 ≤ x ∧ x < (st.high.length : Int)
    · obtain ⟨hr0, hr1⟩ := hr
      obtain ⟨n, rfl⟩ : ∃ n : Nat, x = (n : Int) := ⟨x.toNat, by omega⟩
      have hn : n < st.high.length := by omega
      rcases h.h.is with ⟨_, q, _⟩ | ⟨hb', hcap, ht, rfl, g1, g2, g3, g4⟩
      · omega
      have hxn := hH _ (List.getElem_mem hn)
      have hh : (nis st.high)[n]? = some (.int .i64 (st.high[n] : Int)) := by unfold nis; rw [List.getElem?_map, List.getElem?_eq_getElem hn]; rfl
      generalize hY : st.high[n] = y at *
      have hw2 : IntKind.i64.wrap ((y : Int) + 1) = ((y + 1 : Nat) : Int) := by rw [wrap_i64 (by omega) (by omega)]; omega
      have hmx : evMax [.int .i64 (A : Int), .int .i64 ((y + 1 : Nat) : Int)] = some (.int .i64 ((max A (y + 1) : Nat) : Int)) := by
        simp only [evMax, maxFrom, Nat.beq_refl, cond_true]
        congr 2
        split <;> omega
      simp +contextual -implicitDefEqProofs (maxSteps := 1000000) (maxDischargeDepth := 8) only [F_expr_Reader_Put_l0, hd0, h5, h9, h10, h11, hd, hc, hk, h3', hg, hb, hh, g3, hr0, hr1, hn, hlt, idx_cast, Nat.mul_one, hw, hw2, hmx, zz0, zz1, zz2, zz3, zz4, zz5, zz6, zz7, zz8, zz9, argsF, reduceIte, reduceCtorEq, Nat.reduceEqDiff, Nat.reduceBEq, Nat.reduceAdd, Int.reduceLT, Int.reduceLE, Int.reduceEq, Int.reduceToNat, Int.reduceNeg, Nat.reduceLeDiff, Int.reducePow, implies_true, UInt8.reduceToNat, Int.reduceSub, Int.reduceAdd, Nat.reduceLT, Nat.reduceMul, Nat.reduceSub, Nat.reduceBNe] at hX
      subst hX
      refine lw_norm (j + 1) (by omega) ⟨rfl, by omega, by simp only [hd0, get_set', selE_t, selE_f, Nat.reduceBEq, set_defers, fr00_get, fr00_defers, put_some, put_none ], ?_, by simp only [h9, get_set', selE_t, selE_f, Nat.reduceBEq, set_defers, fr00_get, fr00_defers, put_some, put_none ], by simp only [h10, get_set', selE_t, selE_f, Nat.reduceBEq, set_defers, fr00_get, fr00_defers, put_some, put_none ], by simp only [get_set', selE_t, selE_f, Nat.reduceBEq, set_defers, fr00_get, fr00_defers, put_some, put_none ], by simp only [h3, get_set', selE_t, selE_f, Nat.reduceBEq, set_defers, fr00_get, fr00_defers, put_some, put_none ], by simp only [hd, get_set', selE_t, selE_f, Nat.reduceBEq, set_defers, fr00_get, fr00_defers, put_some, put_none ]⟩
      rw [hfl, hi1, if_pos ⟨hr0, hr1⟩, Int.toNat_natCast, List.getD_eq_getElem?_getD, List.getElem?_eq_getElem hn, Option.getD_some, hY]
      simp only [get_set', selE_t, selE_f, Nat.reduceBEq, set_defers, fr00_get, fr00_defers, put_some, put_none ]
    · have hr' : ¬ (x < (st.high.length : Int)) ∨ ¬ (0 ≤ x) := by omega
      by_cases hr0 : 0 ≤ x
      · have hr1 : ¬ (x < (st.high.length : Int)) := by omega
        rcases h.h.is with ⟨rfl, q, q2⟩ | ⟨hb', hcap, ht, rfl, g1, g2, g3, g4⟩
        · rw [q] at hr1
          have hr1' : ¬ (x < 0) := by omega
          simp +contextual -implicitDefEqProofs (maxSteps := 1000000) (maxDischargeDepth := 8) only [F_expr_Reader_Put_l0, hd0, h5, h9, h10, h11, hd, hc, hk, h3', hg, hb, hr0, hr1', hlt, idx_cast, Nat.mul_one, hw, zz0, zz1, zz2, zz3, zz4, zz5, zz6, zz7, zz8, zz9, argsF, reduceIte, reduceCtorEq, Nat.reduceEqDiff, Nat.reduceBEq, Nat.reduceAdd, Int.reduceLT, Int.reduceLE, Int.reduceEq, Int.reduceToNat, Int.reduceNeg, Nat.reduceLeDiff, Int.reducePow, implies_true, UInt8.reduceToNat, Int.reduceSub, Int.reduceAdd, Nat.reduceLT, Nat.reduceMul, Nat.reduceSub, Nat.reduceBNe] at hX
          subst hX
          refine lw_norm (j + 1) (by omega) ⟨rfl, by omega, by simp only [hd0, get_set', selE_t, selE_f, Nat.reduceBEq, set_defers, fr00_get, fr00_defers, put_some, put_none ], ?_, by simp only [h9, get_set', selE_t, selE_f, Nat.reduceBEq, set_defers, fr00_get, fr00_defers, put_some, put_none ], by simp only [h10, get_set', selE_t, selE_f, Nat.reduceBEq, set_defers, fr00_get, fr00_defers, put_some, put_none ], by simp only [get_set', selE_t, selE_f, Nat.reduceBEq, set_defers, fr00_get, fr00_defers, put_some, put_none ], by simp only [h3, get_set', selE_t, selE_f, Nat.reduceBEq, set_defers, fr00_get, fr00_defers, put_some, put_none ], by simp only [hd, get_set', selE_t, selE_f, Nat.reduceBEq, set_defers, fr00_get, fr00_defers, put_some, put_none ]⟩
          rw [hfl, hi1, if_neg hr]
          simp only [h5, get_set', selE_t, selE_f, Nat.reduceBEq, set_defers, fr00_get, fr00_defers, put_some, put_none ]
        · simp +contextual -implicitDefEqProofs (maxSteps := 1000000) (maxDischargeDepth := 8) only [F_expr_Reader_Put_l0, hd0, h5, h9, h10, h11, hd, hc, hk, h3', hg, hb, hr0, hr1, hlt, idx_cast, Nat.mul_one, hw, zz0, zz1, zz2, zz3, zz4, zz5, zz6, zz7, zz8, zz9, argsF, reduceIte, reduceCtorEq, Nat.reduceEqDiff, Nat.reduceBEq, Nat.reduceAdd, Int.reduceLT, Int.reduceLE, Int.reduceEq, Int.reduceToNat, Int.reduceNeg, Nat.reduceLeDiff, Int.reducePow, implies_true, UInt8.reduceToNat, Int.reduceSub, Int.reduceAdd, Nat.reduceLT, Nat.reduceMul, Nat.reduceSub, Nat.reduceBNe] at hX
          subst hX
          refine lw_norm (j + 1) (by omega) ⟨rfl, by omega, by simp only [hd0, get_set', selE_t, selE_f, Nat.reduceBEq, set_defers, fr00_get, fr00_defers, put_some, put_none ], ?_, by simp only [h9, get_set', selE_t, selE_f, Nat.reduceBEq, set_defers, fr00_get, fr00_defers, put_some, put_none ], by simp only [h10, get_set', selE_t, selE_f, Nat.reduceBEq, set_defers, fr00_get, fr00_defers, put_some, put_none ], by simp only [get_set', selE_t, selE_f, Nat.reduceBEq, set_defers, fr00_get, fr00_defers, put_some, put_none ], by simp only [h3, get_set', selE_t, selE_f, Nat.reduceBEq, set_defers, fr00_get, fr00_defers, put_some, put_none ], by simp only [hd, get_set', selE_t, selE_f, Nat.reduceBEq, set_defers, fr00_get, fr00_defers, put_some, put_none ]⟩
          rw [hfl, hi1, if_neg hr]
          simp only [h5, get_set', selE_t, selE_f, Nat.reduceBEq, set_defers, fr00_get, fr00_defers, put_some, put_none ]
      · simp +contextual -implicitDefEqProofs (maxSteps := 1000000) (maxDischargeDepth := 8) only [F_expr_Reader_Put_l0, hd0, h5, h9, h10, h11, hd, hc, hk, h3', hg, hb, hr0, hlt, idx_cast, Nat.mul_one, hw, zz0, zz1, zz2, zz3, zz4, zz5, zz6, zz7, zz8, zz9, argsF, reduceIte, reduceCtorEq, Nat.reduceEqDiff, Nat.reduceBEq, Nat.reduceAdd, Int.reduceLT, Int.reduceLE, Int.reduceEq, Int.reduceToNat, Int.reduceNeg, Nat.reduceLeDiff, Int.reducePow, implies_true, UInt8.reduceToNat, Int.reduceSub, Int.reduceAdd, Nat.reduceLT, Nat.reduceMul, Nat.reduceSub, Nat.reduceBNe] at hX
        subst hX
        refine lw_norm (j + 1) (by omega) ⟨rfl, by omega, by simp only [hd0, get_set', selE_t, selE_f, Nat.reduceBEq, set_defers, fr00_get, fr00_defers, put_some, put_none ], ?_, by simp only [h9, get_set', selE_t, selE_f, Nat.reduceBEq, set_defers, fr00_get, fr00_defers, put_some, put_none ], by simp only [h10, get_set', selE_t, selE_f, Nat.reduceBEq, set_defers, fr00_get, fr00_defers, put_some, put_none ], by simp only [get_set', selE_t, selE_f, Nat.reduceBEq, set_defers, fr00_get, fr00_defers, put_some, put_none ], by simp only [h3, get_set', selE_t, selE_f, Nat.reduceBEq, set_defers, fr00_get, fr00_defers, put_some, put_none ], by simp only [hd, get_set', selE_t, selE_f, Nat.reduceBEq, set_defers, fr00_get, fr00_defers, put_some, put_none ]⟩
        rw [hfl, hi1, if_neg hr]
        simp only [h5, get_set', selE_t, selE_f, Nat.reduceBEq, set_defers, fr00_get, fr00_defers, put_some, put_none ]
  · have hc : ¬ (j : Int) < (kids.length : Int) := by omega
    obtain rfl : j = kids.length := by omega
    simp +contextual -implicitDefEqProofs (maxSteps := 1000000) (maxDischargeDepth := 8) only [F_expr_Reader_Put_l0, h10, h11, hc, hd, zz0, zz1, zz2, zz3, zz4, zz5, zz6, zz7, zz8, zz9, argsF, reduceIte, reduceCtorEq, Nat.reduceEqDiff, Nat.reduceBEq, Nat.reduceAdd, Int.reduceLT, Int.reduceLE, Int.reduceEq, Int.reduceToNat, Int.reduceNeg, Nat.reduceLeDiff, Int.reducePow, implies_true, UInt8.reduceToNat, Int.reduceSub, Int.reduceAdd, Nat.reduceLT, Nat.reduceMul, Nat.reduceSub, Nat.reduceBNe] at hX
    subst hX
    rw [List.take_length] at h5
    exact lw_exit ⟨_, rfl, by simp only [hd0, get_set', selE_t, selE_f, Nat.reduceBEq, set_defers, fr00_get, fr00_defers, put_some, put_none ], by simp only [h5, hiAll, get_set', selE_t, selE_f, Nat.reduceBEq, set_defers, fr00_get, fr00_defers, put_some, put_none ], by simp only [h3, get_set', selE_t, selE_f, Nat.reduceBEq, set_defers, fr00_get, fr00_defers, put_some, put_none ], by simp only [hd, get_set', selE_t, selE_f, Nat.reduceBEq, set_defers, fr00_get, fr00_defers, put_some, put_none ]⟩
end
end Go.Proofs.Ytjgbofonigpjaaa.Ev
end
section
namespace Go.Proofs.Ytjgbofonigpjaaa.Ev
open Go
set_option linter.unusedSimpArgs false
set_option linter.unusedVariables false
set_option maxRecDepth 10000
set_option maxHeartbeats 4000000
section
variable {m : Mem} {b tg : Nat} {l : List Tok} {st : RS} {P : Nat → Prop} {tv hv : EV} {xs : List Nv}
theorem put_run0 (h : RdV m b tg l st P tv hv xs) (hH : ∀ x ∈ st.high, x ≤ 200) (htl : st.tree.length < 1000000) {d : Nd} {kv : EV} (hk : KidAt m b tv hv d kv) (hpk : ∀ c, P c → Off kv c) (hkl : d.kids.length < 1000000000) : ∃ m', run U n_expr_Reader_Put [.ptr b 0, .agg (ndCells d kv)] m = some (.ret (.int .i64 (st.putR d)) m') ∧ Rd m' b tg l (st.put d) P ∧ Kp m m' P := by
  rw [run_p2 (by simp [F_expr_Reader_Put])]
  generalize hL : exec (UT B K) (ICode.loop F_expr_Reader_Put_l0) = L
  have hg := h.g
  have hb := h.lt
  have hlk : lenE kv (ext m [.cells (ndCells d kv) 5 t_api_Node false]) = some (.val (.int .i64 (d.kids.length : Int)) (ext m [.cells (ndCells d kv) 5 t_api_Node false])) := by
    rcases hk.o.is with ⟨rfl, q, _⟩ | ⟨kb, cap, t, rfl, _⟩
    · rw [q]; rfl
    · rfl
  unfold ndCells at *
  simp +contextual -implicitDefEqProofs (maxSteps := 1000000) (maxDischargeDepth := 8) only [F_expr_Reader_Put, hlk, zz0, zz1, zz2, zz3, zz4, zz5, zz6, zz7, zz8, zz9, argsF, reduceIte, reduceCtorEq, Nat.reduceEqDiff, Nat.reduceBEq, Nat.reduceAdd, Int.reduceLT, Int.reduceLE, Int.reduceEq, Int.reduceToNat, Int.reduceNeg, Nat.reduceLeDiff, Int.reducePow, implies_true, UInt8.reduceToNat, Int.reduceSub, Int.reduceAdd, Nat.reduceLT, Nat.reduceMul, Nat.reduceSub, Nat.reduceBNe]
  subst hL
  generalize hX : exec _ (.loop F_expr_Reader_Put_l0) _ _ = X
  have h1 := h.upd (st' := st) rfl rfl (Upd.ext (ys := [.cells [.int .i64 d.kind, kv, .int .i64 d.n, .str d.s, .int .i64 d.pos] 5 t_api_Node false]) hg hb)
  have hk1 : KidAt (ext m [.cells [.int .i64 d.kind, kv, .int .i64 d.n, .str d.s, .int .i64 d.pos] 5 t_api_Node false]) b tv hv d kv := ⟨hk.o.ext _, hk.f, hk.nl, hk.z⟩
  have hbx : (ext m [.cells [.int .i64 d.kind, kv, .int .i64 d.n, .str d.s, .int .i64 d.pos] 5 t_api_Node false]).get (nb m.next 0) = .cells [.int .i64 d.kind, kv, .int .i64 d.n, .str d.s, .int .i64 d.pos] 5 t_api_Node false := by rw [get_ext_nb rfl (by simp)]; rfl
  obtain ⟨o, rfl, fr', rfl, f0, f5, f3, fd⟩ := looped hX (put_loop (v3 := .ptr (nb m.next 0) 0) h1 hH (hk.o.ext _) hkl (by rw [h.hl]; omega) (by simp only [get_set', selE_t, selE_f, Nat.reduceBEq, set_defers, fr00_get, fr00_defers, put_some, put_none ]) (by simp only [get_set', selE_t, selE_f, Nat.reduceBEq, set_defers, fr00_get, fr00_defers, put_some, put_none ]) (by simp only [get_set', selE_t, selE_f, Nat.reduceBEq, set_defers, fr00_get, fr00_defers, put_some, put_none ]) (by simp only [get_set', selE_t, selE_f, Nat.reduceBEq, set_defers, fr00_get, fr00_defers, put_some, put_none ]) (by simp only [get_set', selE_t, selE_f, Nat.reduceBEq, set_defers, fr00_get, fr00_defers, put_some, put_none ]) (by simp only [get_set', selE_t, selE_f, Nat.reduceBEq, set_defers, fr00_get, fr00_defers, put_some, put_none ]) (by simp only [get_set', selE_t, selE_f, Nat.reduceBEq, set_defers, fr00_get, fr00_defers, put_some, put_none ]))
  clear hX
  have hB1 := hb
  generalize hM1 : ext m [.cells [.int .i64 d.kind, kv, .int .i64 d.n, .str d.s, .int .i64 d.pos] 5 t_api_Node false] = M1 at *
  have hn1 : M1.next = nb m.next 1 := by rw [← hM1, next_ext]; rfl
  have kp1 : Kp m M1 P := ⟨by rw [hn1]; exact le_nb, fun c hc => by rw [← hM1, get_ext_old (h.p c hc).1]⟩
  have hg1 := h1.g
  have hb1 := h1.lt
  have hbx1 : nb m.next 0 < M1.next := by rw [hn1]; unfold nb; simp
  by_cases hi : 200 < hiAll st.high d.kids
  · have hi' : (200 : Int) < (hiAll st.high d.kids : Int) := by omega
    obtain ⟨m2, e2, u2⟩ := fail_run h1.g h1.lt 4 d.pos
    have hfe : ¬ (st.fail 4 d.pos).fe = 0 := by
      unfold RS.fail; split
      · simp
      · assumption
    have hp0 : st.put0 d = st.fail 4 d.pos := if_pos hi
    have hp : st.put d = st.fail 4 d.pos := by rw [RS.put, hp0, if_neg hfe]
    have hr : st.putR d = -1 := by rw [RS.putR, hp0, if_neg hfe]
    have h2 := h1.upd (st' := st.fail 4 d.pos) (by unfold RS.fail; split <;> rfl) (by unfold RS.fail; split <;> rfl) u2
    have hf := fine_look h2.g h2.lt
    have kp2 := kp1.trans (h1.kp u2)
    rw [hp, hr]
    generalize st.fail 4 d.pos = st2 at *
    simp +contextual -implicitDefEqProofs (maxSteps := 1000000) (maxDischargeDepth := 8) only [f0, f5, f3, fd, hi', hbx, hg1, hb1, hbx1, e2, hf, hfe, bo_ff, zz0, zz1, zz2, zz3, zz4, zz5, zz6, zz7, zz8, zz9, argsF, reduceIte, reduceCtorEq, Nat.reduceEqDiff, Nat.reduceBEq, Nat.reduceAdd, Int.reduceLT, Int.reduceLE, Int.reduceEq, Int.reduceToNat, Int.reduceNeg, Nat.reduceLeDiff, Int.reducePow, implies_true, UInt8.reduceToNat, Int.reduceSub, Int.reduceAdd, Nat.reduceLT, Nat.reduceMul, Nat.reduceSub, Nat.reduceBNe]
    exact ⟨_, rfl, ⟨_, _, _, h2.upd rfl rfl (Upd.bump h2.g)⟩, kp2.trans (h2.kp (Upd.bump h2.g))⟩
  · have hi' : ¬ (200 : Int) < (hiAll st.high d.kids : Int) := by omega
    have hp0 : st.put0 d = st := if_neg hi
    have hf := fine_look h1.g h1.lt
    by_cases hfe : st.fe = 0
    · have hp : st.put d = { st with tree := st.tree ++ [d], high := st.high ++ [hiAll st.high d.kids] } := by rw [RS.put, hp0, if_pos hfe]
      have hr : st.putR d = (st.tree.length : Int) := by rw [RS.putR, hp0, if_pos hfe]
      rw [hp, hr]
      rw [bo_pos hfe] at hf
      simp +contextual -implicitDefEqProofs (maxSteps := 1000000) (maxDischargeDepth := 8) only [f0, f5, f3, fd, hi', hbx, hg1, hb1, hbx1, hf, zz0, zz1, zz2, zz3, zz4, zz5, zz6, zz7, zz8, zz9, argsF, reduceIte, reduceCtorEq, Nat.reduceEqDiff, Nat.reduceBEq, Nat.reduceAdd, Int.reduceLT, Int.reduceLE, Int.reduceEq, Int.reduceToNat, Int.reduceNeg, Nat.reduceLeDiff, Int.reducePow, implies_true, UInt8.reduceToNat, Int.reduceSub, Int.reduceAdd, Nat.reduceLT, Nat.reduceMul, Nat.reduceSub, Nat.reduceBNe]
      generalize hA : evAppend _ 41 5 tv _ = A
      generalize hD1 : Mem.mk (nb M1.next 22) _ = D1 at hA ⊢
      have d1n : D1.next = nb M1.next 22 := by rw [← hD1]
      have d1o : ∀ c, c < M1.next → D1.get c = M1.get c := fun c hc => by
        rw [← hD1]
        exact (get_ext_old (m := Mem.mk (nb M1.next 0 + 7) (bump (bump M1 0) 22).tbl) (by show c < nb M1.next 0 + 7; unfold nb; omega)).trans rfl
      have d1g : D1.get (nb (nb M1.next 0 + 7) 0) = .cells [.int .i64 d.kind, kv, .int .i64 d.n, .str d.s, .int .i64 d.pos] 5 41 false := by
        rw [← hD1]
        exact (get_ext_nb (m := Mem.mk (nb M1.next 0 + 7) (bump (bump M1 0) 22).tbl) rfl (by simp)).trans rfl
      clear hD1
      have ho1 : Own D1 tv (nvs xs) xs.length 5 (b + 1) := h1.t.keep' (by rw [d1n]; exact le_nb) fun c hc _ _ => d1o c hc
      have ho2 : Own D1 hv (nis st.high) st.high.length 1 (b + 1) := h1.h.keep' (by rw [d1n]; exact le_nb) fun c hc _ _ => d1o c hc
      have hxl : xs.length = st.tree.length := by rw [← h.x, List.length_map]
      obtain ⟨a1, o1⟩ := append_grow (e := 41) ho1 (by rw [d1n]; unfold nb; omega) (source_at (cap := some 1) d1g rfl) rfl (by decide) (by unfold room; omega)
      rw [a1] at hA
      subst hA
      have g1n : (grow D1 tv 41 5 (nvs xs ++ [.int .i64 d.kind, kv, .int .i64 d.n, .str d.s, .int .i64 d.pos])).next = nb M1.next 23 := by rw [grow_next, d1n, nb_nb]
      have g1o : ∀ c, c < D1.next → Off tv c → (grow D1 tv 41 5 (nvs xs ++ [.int .i64 d.kind, kv, .int .i64 d.n, .str d.s, .int .i64 d.pos])).get c = D1.get c := fun c hc ho => grow_old hc ho
      generalize grow D1 tv 41 5 _ = G1 at *
      have hbt : Off tv b := ho1.lt (.inr (Nat.lt_succ_self _))
      have hbd : b < D1.next := by rw [d1n]; unfold nb; omega
      have hg2 : G1.get b = .cells (rdCells tg l st tv hv) 7 t_expr_Reader false := by rw [g1o b hbd hbt, d1o b hb1, hg1]
      have hg2' : D1.get b = .cells (rdCells tg l st tv hv) 7 t_expr_Reader false := by rw [d1o b hb1, hg1]
      have hst : standE (some hv) hv = true := standE_self (by rcases ho2.is with ⟨rfl, _⟩ | ⟨_, _, _, rfl, _⟩ <;> rfl)
      simp +contextual -implicitDefEqProofs (maxSteps := 1000000) (maxDischargeDepth := 8) only [f0, f5, f3, fd, hg2, hg2', d1n, g1n, nb_nb, hst, zz0, zz1, zz2, zz3, zz4, zz5, zz6, zz7, zz8, zz9, argsF, reduceIte, reduceCtorEq, Nat.reduceEqDiff, Nat.reduceBEq, Nat.reduceAdd, Int.reduceLT, Int.reduceLE, Int.reduceEq, Int.reduceToNat, Int.reduceNeg, Nat.reduceLeDiff, Int.reducePow, implies_true, UInt8.reduceToNat, Int.reduceSub, Int.reduceAdd, Nat.reduceLT, Nat.reduceMul, Nat.reduceSub, Nat.reduceBNe]
      generalize hA : evAppend _ 3 1 hv _ = A
      generalize hD2 : Mem.mk (nb M1.next 23) _ = D2 at hA ⊢
      have d2n : D2.next = nb M1.next 23 := by rw [← hD2]
      have d2o : ∀ c, c ≠ nb M1.next 0 + 14 → D2.get c = G1.get c := fun c hc => by
        rw [← hD2]
        exact ((get_new (m := Mem.mk (nb M1.next 0 + 14) G1.tbl)).trans (if_neg hc)).trans rfl
      have d2g : D2.get (nb (nb M1.next 0 + 14) 0) = .cells [.int .i64 (hiAll st.high d.kids : Int)] 1 3 false := by
        rw [← hD2]
        exact ((get_new (m := Mem.mk (nb M1.next 0 + 14) G1.tbl)).trans (if_pos rfl)).trans rfl
      clear hD2
      have hfr : ∀ c, c < M1.next → c ≠ nb M1.next 0 + 14 ∧ c < D1.next := fun c hc => by rw [d1n]; unfold nb; omega
      have hold : ∀ c, c < M1.next → Off tv c → D2.get c = M1.get c := fun c hc ho => by rw [d2o c (hfr c hc).1, g1o c (hfr c hc).2 ho, d1o c hc]
      have ho3 : Own D2 hv (nis st.high) st.high.length 1 (b + 1) := h1.h.keep' (by rw [d2n]; exact le_nb) fun c hc _ ho => hold c hc (Classical.byContradiction fun q => ho (h1.a c q))
      obtain ⟨a2, o2⟩ := append_grow (e := 3) ho3 (by rw [d2n]; unfold nb; omega) (source_at (cap := some 1) d2g rfl) rfl (by decide) (by unfold room; rw [h.hl]; omega)
      rw [a2] at hA
      subst hA
      have g2n : (grow D2 hv 3 1 (nis st.high ++ [.int .i64 (hiAll st.high d.kids : Int)])).next = nb M1.next 24 := by rw [grow_next, d2n, nb_nb]
      have g2o : ∀ c, c < D2.next → Off hv c → (grow D2 hv 3 1 (nis st.high ++ [.int .i64 (hiAll st.high d.kids : Int)])).get c = D2.get c := fun c hc ho => grow_old hc ho
      generalize grow D2 hv 3 1 _ = G2 at *
      have hbh : Off hv b := h1.h.lt (.inr (Nat.lt_succ_self _))
      have hg3 : G2.get b = .cells (rdCells tg l st tv hv) 7 t_expr_Reader false := by rw [g2o b (by rw [d2n]; unfold nb; omega) hbh, hold b hb1 hbt, hg1]
      have hw : IntKind.i64.wrap (((xs.length + 1 : Nat) : Int) - 1) = (st.tree.length : Int) := by rw [wrap_i64 (by omega) (by omega)]; omega
      have hall : ∀ c, c < M1.next → c ≠ b → Off tv c → Off hv c → ∀ B, (G2.set b B).get c = M1.get c := fun c hc hne h1' h2' B => by
        rw [get_set_ne hne, g2o c (by rw [d2n]; unfold nb; omega) h2', hold c hc h1']
      simp +contextual -implicitDefEqProofs (maxSteps := 1000000) (maxDischargeDepth := 8) only [f0, f5, f3, fd, hg3, g2n, d2n, d1n, nb_nb, hw, zz0, zz1, zz2, zz3, zz4, zz5, zz6, zz7, zz8, zz9, argsF, reduceIte, reduceCtorEq, Nat.reduceEqDiff, Nat.reduceBEq, Nat.reduceAdd, Int.reduceLT, Int.reduceLE, Int.reduceEq, Int.reduceToNat, Int.reduceNeg, Nat.reduceLeDiff, Int.reducePow, implies_true, UInt8.reduceToNat, Int.reduceSub, Int.reduceAdd, Nat.reduceLT, Nat.reduceMul, Nat.reduceSub, Nat.reduceBNe]
      generalize hM3 : Mem.set _ b (.cells [.fz tg 4 (toks l), .int .i64 (st.pos : Int), .int .i64 st.deep, .slice (nb M1.next 22) 0 (xs.length + 1) none, .slice (nb M1.next 23) 0 (st.high.length + 1) none, .int .i64 st.fe, .int .i64 st.fp] 7 t_expr_Reader false) = M3
      have m3n : M3.next = nb M1.next 24 := by rw [← hM3, next_set, next_set, g2n]
      have m3b : M3.get b = .cells [.fz tg 4 (toks l), .int .i64 (st.pos : Int), .int .i64 st.deep, .slice (nb M1.next 22) 0 (xs.length + 1) none, .slice (nb M1.next 23) 0 (st.high.length + 1) none, .int .i64 st.fe, .int .i64 st.fp] 7 t_expr_Reader false := by rw [← hM3, get_set_eq]
      have m3o : ∀ c, c ≠ b → M3.get c = G2.get c := fun c hc => by rw [← hM3, get_set_ne hc, get_set_ne hc]
      clear hM3
      have hall' : ∀ c, c < M1.next → Fre b tv hv c → M3.get c = M1.get c := fun c hc hf => by
        rw [m3o c hf.ne, ← hall c hc hf.ne hf.t hf.h .dead, get_set_ne hf.ne]
      have hfree : ∀ c, c < M1.next → c ≠ b → Fre b (.slice (nb M1.next 22) 0 (xs.length + 1) none) (.slice (nb M1.next 23) 0 (st.high.length + 1) none) c := fun c hc hne => ⟨hne, Off.of (by unfold nb; omega), Off.of (by unfold nb; omega)⟩
      have hoff : ∀ (k n c : Nat), ¬ Off (.slice (nb M1.next k) 0 n none) c → c = nb M1.next k := fun k n c q => Classical.byContradiction fun w => q (Off.of w)
      have hkid : ∀ (d : Nd) (kv : EV), KidAt M1 b tv hv d kv → KidAt M3 b (.slice (nb M1.next 22) 0 (xs.length + 1) none) (.slice (nb M1.next 23) 0 (st.high.length + 1) none) d kv := fun d kv q =>
        ⟨q.o.keep' (by rw [m3n]; exact le_nb) fun c hc _ ho => hall' c hc (q.f c ho), fun c ho => hfree c (q.o.notOff ho).2 (q.f c ho).ne, q.nl, q.z⟩
      refine ⟨M3, rfl, ⟨.slice (nb M1.next 22) 0 (xs.length + 1) none, .slice (nb M1.next 23) 0 (st.high.length + 1) none, xs ++ [⟨d, kv⟩], ?_⟩, kp1.trans ⟨by rw [m3n]; exact le_nb, fun c hc => hall' c (h1.p c hc).1 (h1.p c hc).2⟩⟩
      refine ⟨m3b, by rw [m3n]; unfold nb; omega, ?_, ?_, ?_, ?_, ?_, ?_, ?_, ?_⟩
      · rw [nvs_snoc, List.length_append]
        rw [d1n, nb_nb] at o1
        refine o1.keep' (by rw [g1n, m3n]; unfold nb; omega) fun c hc hlo ho => ?_
        rw [hoff _ _ _ ho, m3o _ (by unfold nb; omega), g2o _ (by rw [d2n]; unfold nb; omega) (h1.h.lt (.inl le_nb)), d2o _ (by unfold nb; omega)]
      · rw [List.length_append]
        rw [d2n, nb_nb] at o2
        have e1 : nis (st.high ++ [hiAll st.high d.kids]) = nis st.high ++ [.int .i64 (hiAll st.high d.kids : Int)] := by simp [nis]
        rw [e1]
        exact o2.keep' (by rw [g2n, m3n]; exact Nat.le_refl _) fun c hc hlo ho => m3o c (by omega)
      · intro c q
        rw [hoff _ _ _ q]
        exact Off.of (by unfold nb; omega)
      · rw [List.map_append, h.x]; rfl
      · rw [List.length_append, List.length_append, h.hl]; rfl
      · intro x hx
        rcases List.mem_append.1 hx with hx | hx
        · exact hkid _ _ (h1.k x hx)
        · rw [List.mem_singleton.1 hx]; exact hkid _ _ hk1
      · exact fun c hc => ⟨by have := (h1.p c hc).1; rw [m3n]; unfold nb; omega, hfree c (h1.p c hc).1 (h1.p c hc).2.ne⟩
      · intro c hc x hx
        rcases List.mem_append.1 hx with hx | hx
        · exact h1.pk c hc x hx
        · rw [List.mem_singleton.1 hx]; exact hpk c hc
    · have hp : st.put d = st := by rw [RS.put, hp0, if_neg hfe]
      have hr : st.putR d = -1 := by rw [RS.putR, hp0, if_neg hfe]
      rw [hp, hr]
      simp +contextual -implicitDefEqProofs (maxSteps := 1000000) (maxDischargeDepth := 8) only [f0, f5, f3, fd, hi', hbx, hg1, hb1, hbx1, hf, hfe, bo_ff, zz0, zz1, zz2, zz3, zz4, zz5, zz6, zz7, zz8, zz9, argsF, reduceIte, reduceCtorEq, Nat.reduceEqDiff, Nat.reduceBEq, Nat.reduceAdd, Int.reduceLT, Int.reduceLE, Int.reduceEq, Int.reduceToNat, Int.reduceNeg, Nat.reduceLeDiff, Int.reducePow, implies_true, UInt8.reduceToNat, Int.reduceSub, Int.reduceAdd, Nat.reduceLT, Nat.reduceMul, Nat.reduceSub, Nat.reduceBNe]
      exact ⟨_, rfl, ⟨_, _, _, h1.upd rfl rfl (Upd.bump h1.g)⟩, kp1.trans (h1.kp (Upd.bump h1.g))⟩
/-- Laying a node, of a reader that stands. -/
theorem put_run {Q : Nat → Prop} (h : Rd m b tg l st Q) (hH : ∀ x ∈ st.high, x ≤ 200) (htl : st.tree.length < 1000000) {d : Nd} {kv : EV} (ho : Own m kv (is d.kids) d.kids.length 1 0) (hp : ∀ c, ¬ Off kv c → Q c) (hq : ∀ c, P c → Q c ∧ Off kv c) (hnl : d.nl = d.kids.isEmpty) (hz : d.kids = [] → kv = .nilslice) (hkl : d.kids.length < 1000000000) : ∃ m', run U n_expr_Reader_Put [.ptr b 0, .agg [.int .i64 d.kind, kv, .int .i64 d.n, .str d.s, .int .i64 d.pos]] m = some (.ret (.int .i64 (st.putR d)) m') ∧ Rd m' b tg l (st.put d) P ∧ Kp m m' P := by
  obtain ⟨tv, hv, xs, h⟩ := h
  exact put_run0 (h.more fun c hc => .inl (hq c hc).1) hH htl ⟨ho, fun c hc => (h.p c (hp c hc)).2, hnl, hz⟩ (fun c hc => (hq c hc).2) hkl
end
end Go.Proofs.Ytjgbofonigpjaaa.Ev
end
section
namespace Go.Proofs.Ytjgbofonigpjaaa.Ev
open Go
set_option linter.unusedSimpArgs false
set_option linter.unusedVariables false
set_option maxRecDepth 10000
set_option maxHeartbeats 4000000
/-- And all blocks from here to there. -/
def Pr (P : Nat → Prop) (n n' : Nat) : Nat → Prop := fun c => P c ∨ (n ≤ c ∧ c < n')
theorem Own.lo0 {m : Mem} {v : EV} {cs : List EV} {n esz lo : Nat} (h : Own m v cs n esz lo) : Own m v cs n esz 0 := by
  refine ⟨?_, h.len⟩
  rcases h.is with h | ⟨b, cap, t, rfl, h1, h2, h3, h4⟩
  · exact .inl h
  · exact .inr ⟨b, cap, t, rfl, Nat.zero_le _, h2, h3, h4⟩
section
variable {m M : Mem} {b tg : Nat} {l : List Tok} {st : RS} {P Q : Nat → Prop}
theorem Rd.lt (h : Rd m b tg l st P) : b < m.next := by obtain ⟨tv, hv, xs, h⟩ := h; exact h.lt
theorem Rd.weak (h : Rd m b tg l st P) (hq : ∀ c, Q c → P c) : Rd m b tg l st Q := by
  obtain ⟨tv, hv, xs, h⟩ := h; exact ⟨tv, hv, xs, h.more fun c hc => .inl (hq c hc)⟩
/-- What is new is apart. -/
theorem Rd.grown (h : Rd m b tg l st P) (hn : m.next ≤ M.next) (hk : ∀ c, c < m.next → M.get c = m.get c) : Rd M b tg l st (Pr P m.next M.next) := by
  obtain ⟨tv, hv, xs, h⟩ := h
  have u : Upd m M b (.cells (rdCells tg l st tv hv) 7 t_expr_Reader false) := ⟨hn, by rw [hk b h.lt]; exact h.g, fun c hc _ => hk c hc⟩
  exact ⟨tv, hv, xs, (h.upd rfl rfl u).more fun c hc => hc.elim .inl fun q => .inr ⟨q.2, h.fresh q.1, h.freshK q.1⟩⟩
theorem Rd.same (h : Rd m b tg l st P) (hn : m.next ≤ M.next) (hk : ∀ c, c < m.next → M.get c = m.get c) : Rd M b tg l st P := (h.grown hn hk).weak fun c hc => .inl hc
theorem rd_ext {ys : List Blk} (h : Rd m b tg l st P) : Rd (ext m ys) b tg l st P := h.same (by rw [next_ext]; exact le_nb) fun c hc => get_ext_old hc
theorem rd_bump {k : Nat} (h : Rd m b tg l st P) : Rd (bump m k) b tg l st P := h.same (by rw [next_bump]; exact le_nb) fun c hc => rfl
theorem Rd.kp (h : Rd m b tg l st P) (hn : m.next ≤ M.next) (hk : ∀ c, c < m.next → M.get c = m.get c) : Kp m M P := by
  obtain ⟨tv, hv, xs, h⟩ := h; exact ⟨hn, fun c hc => hk c (h.p c hc).1⟩
/-- Boxes that are new are kept apart. -/
theorem Rd.box (h : Rd m b tg l st P) (n : Nat) (ys : List Blk) : Rd (ext (bump m n) ys) b tg l st (Pr P m.next (nb m.next (n + ys.length))) := by
  have := h.grown (M := ext (bump m n) ys) (by rw [next_ext, next_bump, nb_nb]; exact le_nb) fun c hc => get_ext_old (m := bump m n) (by rw [next_bump]; exact Nat.lt_of_lt_of_le hc le_nb)
  rw [next_ext, next_bump, nb_nb] at this
  exact this
theorem kp_box (h : Rd m b tg l st P) (n : Nat) (ys : List Blk) : Kp m (ext (bump m n) ys) P := h.kp (by rw [next_ext, next_bump, nb_nb]; exact le_nb) fun c hc => get_ext_old (m := bump m n) (by rw [next_bump]; exact Nat.lt_of_lt_of_le hc le_nb)
theorem Rd.boxe (h : Rd m b tg l st P) (ys : List Blk) : Rd (ext m ys) b tg l st (Pr P m.next (nb m.next ys.length)) := by
  have := h.grown (M := ext m ys) (by rw [next_ext]; exact le_nb) fun c hc => get_ext_old hc
  rw [next_ext] at this
  exact this
theorem kp_boxe (h : Rd m b tg l st P) (ys : List Blk) : Kp m (ext m ys) P := h.kp (by rw [next_ext]; exact le_nb) fun c hc => get_ext_old hc
/-- A row that is new. -/
theorem own_row {m : Mem} {cs : List EV} {n e : Nat} (h : cs.length = n) : Own (ext m [.cells cs 1 e false]) (.slice (nb m.next 0) 0 n (some n)) cs n 1 0 :=
  ⟨.inr ⟨nb m.next 0, some n, e, rfl, Nat.zero_le _, by rw [next_ext]; unfold nb; simp, by rw [get_ext_nb rfl (by simp)]; rfl, .inr rfl⟩, by omega⟩
theorem notOff_slice {bb o n c : Nat} {cap : Option Nat} (h : ¬ Off (.slice bb o n cap) c) : c = bb := Classical.byContradiction fun w => h (Off.of w)
theorem Rd.plt (h : Rd m b tg l st P) {c : Nat} (hc : P c) : c < m.next := by obtain ⟨tv, hv, xs, h⟩ := h; exact (h.p c hc).1
theorem pr_of {n i j : Nat} (h : i < j) : Pr P n (nb n j) (nb n i) := .inr ⟨le_nb, by unfold nb; omega⟩
theorem kp_bump {k : Nat} (h : Rd m b tg l st P) : Kp m (bump m k) P := h.kp (by rw [next_bump]; exact le_nb) fun _ _ => rfl
theorem kp_ext {ys : List Blk} (h : Rd m b tg l st P) : Kp m (ext m ys) P := h.kp (by rw [next_ext]; exact le_nb) fun c hc => get_ext_old hc
theorem StOk.rdf (o : StOk l st) (ht : TokOk l) {tv hv : EV} : RdF b tg l st tv hv := ⟨ht.pos, by have := ht.lt; omega, by have := ht.lt; have := o.p; omega, by have := ht.lt; have := o.p; have := o.d; have := o.d0; omega⟩
section
variable (ht : TokOk l) (o : StOk l st)
include ht o
theorem tokenC : ∀ M : Mem, Rd M b tg l st P → run U n_expr_Reader_Token [.ptr b 0] M = some (.ret (.agg [.int .i64 ((st.now l).kind : Int), .str (st.now l).text, .int .i64 ((st.now l).n : Int), .int .i64 ((st.now l).pos : Int)]) (bump M 19)) := fun M h => by
  obtain ⟨tv, hv, xs, h⟩ := h; exact (o.rdf ht (tv := tv) (hv := hv)).token M h.g h.lt
theorem isC : ∀ (M : Mem) (s : Txt), Rd M b tg l st P → run U n_expr_Reader_Is [.ptr b 0, .str s] M = some (.ret (bo (st.is l s)) (bump M 20)) := fun M s h => by
  obtain ⟨tv, hv, xs, h⟩ := h; exact (o.rdf ht (tv := tv) (hv := hv)).is M s h.g h.lt
end
theorem fineC : ∀ M : Mem, Rd M b tg l st P → run U n_expr_Reader_fine [.ptr b 0] M = some (.ret (bo (st.fe = 0)) (bump M 0)) := fun M h => by
  obtain ⟨tv, hv, xs, h⟩ := h; exact fine_look h.g h.lt
variable {X : Option Fin}
theorem failC (h : Rd m b tg l st P) {e p : Int} (hX : run U n_expr_Reader_Fail [.ptr b 0, .int .i64 e, .int .i64 p] m = X) : ∃ m', X = some (.ret (.tuple []) m') ∧ Rd m' b tg l (st.fail e p) P ∧ Kp m m' P := by
  obtain ⟨tv, hv, xs, h⟩ := h
  obtain ⟨m', e', u⟩ := fail_run h.g h.lt e p
  exact ⟨m', hX.symm.trans e', ⟨_, _, _, h.upd fail_pos.2.2.1 fail_pos.2.2.2 u⟩, h.kp u⟩
theorem skipC (ht : TokOk l) (o : StOk l st) (h : Rd m b tg l st P) {s : Txt} (hX : run U n_expr_Reader_Skip [.ptr b 0, .str s] m = X) : ∃ m', X = some (.ret (bo (st.is l s)) m') ∧ Rd m' b tg l (st.skip l s) P ∧ Kp m m' P := by
  obtain ⟨tv, hv, xs, h⟩ := h
  obtain ⟨m', e', u⟩ := skip_run (o.rdf ht) h.g h.lt s
  exact ⟨m', hX.symm.trans e', ⟨_, _, _, h.upd (by unfold RS.skip; split <;> rfl) (by unfold RS.skip; split <;> rfl) u⟩, h.kp u⟩
theorem wantC (ht : TokOk l) (o : StOk l st) (h : Rd m b tg l st P) {s : Txt} (hX : run U n_expr_Reader_Want [.ptr b 0, .str s] m = X) : ∃ m', X = some (.ret (bo (st.is l s)) m') ∧ Rd m' b tg l (st.want l s) P ∧ Kp m m' P := by
  obtain ⟨tv, hv, xs, h⟩ := h
  obtain ⟨m', e', u⟩ := want_run (o.rdf ht) h.g h.lt s
  have q : (st.want l s).tree = st.tree ∧ (st.want l s).high = st.high := by
    unfold RS.want; split
    · exact ⟨rfl, rfl⟩
    · exact fail_pos.2.2
  exact ⟨m', hX.symm.trans e', ⟨_, _, _, h.upd q.1 q.2 u⟩, h.kp u⟩
theorem openC (ht : TokOk l) (o : StOk l st) (h : Rd m b tg l st P) {p : Int} (hX : run U n_expr_Reader_Open [.ptr b 0, .int .i64 p] m = X) : ∃ m', X = some (.ret (bo ((st.open p).fe = 0)) m') ∧ Rd m' b tg l (st.open p) P ∧ Kp m m' P := by
  obtain ⟨tv, hv, xs, h⟩ := h
  obtain ⟨m', e', u⟩ := open_run (o.rdf ht) h.g h.lt p
  have q : (st.open p).tree = st.tree ∧ (st.open p).high = st.high := by
    unfold RS.open; split
    · exact (fail_pos (st := { st with deep := st.deep + 1 })).2.2
    · exact ⟨rfl, rfl⟩
  exact ⟨m', hX.symm.trans e', ⟨_, _, _, h.upd q.1 q.2 u⟩, h.kp u⟩
theorem closeC (ht : TokOk l) (o : StOk l st) (h : Rd m b tg l st P) (hX : run U n_expr_Reader_Close [.ptr b 0] m = X) : ∃ m', X = some (.ret (.tuple []) m') ∧ Rd m' b tg l st.close P ∧ Kp m m' P := by
  obtain ⟨tv, hv, xs, h⟩ := h
  obtain ⟨m', e', u⟩ := close_run (o.rdf ht) h.g h.lt
  exact ⟨m', hX.symm.trans e', ⟨_, _, _, h.upd rfl rfl u⟩, h.kp u⟩
/-- A node is laid, of kids in a row of one's own. -/
theorem putC (ht : TokOk l) (o : StOk l st) (h : Rd m b tg l st Q) {kind n p : Int} {s : Txt} {kids : List Int} {kv : EV} (hkl : kids.length < 1000000) (ho : Own m kv (is kids) kids.length 1 0) (hp : ∀ c, ¬ Off kv c → Q c) (hq : ∀ c, P c → Q c ∧ Off kv c) (hz : kids = [] → kv = .nilslice) (hX : run U n_expr_Reader_Put [.ptr b 0, .agg [.int .i64 kind, kv, .int .i64 n, .str s, .int .i64 p]] m = X) : ∃ m', X = some (.ret (.int .i64 (st.putR (nd kind kids n s p))) m') ∧ Rd m' b tg l (st.put (nd kind kids n s p)) P ∧ Kp m m' P := by
  obtain ⟨m', e', r, k⟩ := put_run (d := nd kind kids n s p) h o.h (by have := o.t; have := o.p; have := ht.lt; omega) ho hp hq rfl hz (by show kids.length < _; omega)
  exact ⟨m', hX.symm.trans e', r, k⟩
end
def signs16 : List Txt := [[124, 124], [38, 38], [61, 61], [33, 61], [60], [60, 61], [62], [62, 61], [43], [45], [43, 37], [45, 37], [42], [47], [37], [42, 37]]
/-- Signs, told. -/
theorem ops_eq (s : Txt) : pureR B K n_expr_ops [.str s] = some (.agg [.int .i64 (opsF s).1, .int .i64 (opsF s).2]) := by
  have hin : s ∈ signs16 ∨ s ∉ signs16 := Classical.em _
  rcases hin with h | h
  · simp only [signs16, List.mem_cons, List.not_mem_nil, or_false] at h
    rcases h with rfl | rfl | rfl | rfl | rfl | rfl | rfl | rfl | rfl | rfl | rfl | rfl | rfl | rfl | rfl | rfl
    all_goals exact pure_closed 20 fun _ => by kernel_rfl
  · simp only [signs16, List.mem_cons, List.not_mem_nil, or_false, not_or] at h
    obtain ⟨h0, h1, h2, h3, h4, h5, h6, h7, h8, h9, h10, h11, h12, h13, h14, h15⟩ := h
    rw [pure_at (by simp [F_expr_ops])]
    have ho : opsF s = (0, 0) := by simp only [opsF, if_neg h0, if_neg h1, if_neg h2, if_neg h3, if_neg h4, if_neg h5, if_neg h6, if_neg h7, if_neg h8, if_neg h9, if_neg h10, if_neg h11, if_neg h12, if_neg h13, if_neg h14, if_neg h15]
    rw [ho]
    simp -implicitDefEqProofs (maxSteps := 1000000) only [F_expr_ops, h0, h1, h2, h3, h4, h5, h6, h7, h8, h9, h10, h11, h12, h13, h14, h15, bo_ff, zz0, zz1, zz2, zz3, zz4, zz5, zz6, zz7, zz8, zz9, argsF, reduceIte, reduceCtorEq, Nat.reduceEqDiff, Nat.reduceBEq, Nat.reduceAdd, Int.reduceLT, Int.reduceLE, Int.reduceEq, Int.reduceToNat, Int.reduceNeg, Nat.reduceLeDiff, Int.reducePow, implies_true, UInt8.reduceToNat, Int.reduceSub, Int.reduceAdd, Nat.reduceLT, Nat.reduceMul, Nat.reduceSub, Nat.reduceBNe]
end Go.Proofs.Ytjgbofonigpjaaa.Ev
end
section
namespace Go.Proofs.Ytjgbofonigpjaaa.Ev
open Go
set_option linter.unusedSimpArgs false
set_option linter.unusedVariables false
set_option maxRecDepth 10000
set_option maxHeartbeats 4000000
/-- A function that answers a number does asx the command does. -/
def WInt (l : List Tok) (tg f : Nat) (av : List EV) (k : Nat) (c : Cmd) : Prop := ∀ (st : RS) (m : Mem) (b : Nat) (P : Nat → Prop) (s1 : RS) (r : List Int) (X : Option Fin), StOk l st → 8 * (l.length - st.pos) + c.rank < k → goF l k c st = some (s1, r) → Rd m b tg l st P → run U f (.ptr b 0 :: av) m = X → ∃ m', X = some (.ret (.int .i64 (r.headD 0)) m') ∧ Rd m' b tg l s1 P ∧ Kp m m' P
theorem one_of {r : List Int} (h : r.length = 1) : ∃ x, r = [x] := by
  match r, h with
  | [x], _ => exact ⟨x, rfl⟩
section
variable {l : List Tok} {tg : Nat} (ht : TokOk l) {k : Nat}
include ht
theorem expr_walk (ih : WInt l tg n_expr_Reader_climb [.int .i64 1] k (.climb 1)) : WInt l tg n_expr_Reader_Expr [] (k + 1) .expr := by
  intro st m b P s1 r X o hk hgo h hX
  have hk' : 8 * (l.length - st.pos) + (Cmd.climb 1).rank < k := by simp only [Cmd.rank] at *; omega
  obtain ⟨s2, r2, e, g, a, _⟩ := go_ok ht k (.climb 1) st o.p hk' trivial
  obtain ⟨x, rfl⟩ := one_of a
  simp only [goF, e, Option.bind_some, Option.some.injEq, Prod.mk.injEq] at hgo
  obtain ⟨rfl, rfl⟩ := hgo
  rw [run_p2 (by simp [F_expr_Reader_Expr])] at hX
  simp +contextual -implicitDefEqProofs (maxSteps := 1000000) (maxDischargeDepth := 8) only [F_expr_Reader_Expr, zz0, zz1, zz2, zz3, zz4, zz5, zz6, zz7, zz8, zz9, argsF, reduceIte, reduceCtorEq, Nat.reduceEqDiff, Nat.reduceBEq, Nat.reduceAdd, Int.reduceLT, Int.reduceLE, Int.reduceEq, Int.reduceToNat, Int.reduceNeg, Nat.reduceLeDiff, Int.reducePow, implies_true, UInt8.reduceToNat, Int.reduceSub, Int.reduceAdd, Nat.reduceLT, Nat.reduceMul, Nat.reduceSub, Nat.reduceBNe] at hX
  generalize hC : run U n_expr_Reader_climb _ m = C at hX
  obtain ⟨m1, rfl, h1, k1⟩ := ih st m b P _ _ _ o hk' e h hC
  have hf := fineC (b := b) (tg := tg) (l := l) (st := s2) (P := P)
  by_cases hfe : s2.fe = 0
  · simp +contextual -implicitDefEqProofs (maxSteps := 1000000) (maxDischargeDepth := 8) only [hf, h1, hfe, rd_ext, rd_bump, zz0, zz1, zz2, zz3, zz4, zz5, zz6, zz7, zz8, zz9, argsF, reduceIte, reduceCtorEq, Nat.reduceEqDiff, Nat.reduceBEq, Nat.reduceAdd, Int.reduceLT, Int.reduceLE, Int.reduceEq, Int.reduceToNat, Int.reduceNeg, Nat.reduceLeDiff, Int.reducePow, implies_true, UInt8.reduceToNat, Int.reduceSub, Int.reduceAdd, Nat.reduceLT, Nat.reduceMul, Nat.reduceSub, Nat.reduceBNe] at hX
    subst hX
    simp only [hfe, if_true]
    exact ⟨_, rfl, rd_bump h1, k1.trans (kp_bump h1)⟩
  · simp +contextual -implicitDefEqProofs (maxSteps := 1000000) (maxDischargeDepth := 8) only [hf, h1, hfe, bo_ff, rd_ext, rd_bump, zz0, zz1, zz2, zz3, zz4, zz5, zz6, zz7, zz8, zz9, argsF, reduceIte, reduceCtorEq, Nat.reduceEqDiff, Nat.reduceBEq, Nat.reduceAdd, Int.reduceLT, Int.reduceLE, Int.reduceEq, Int.reduceToNat, Int.reduceNeg, Nat.reduceLeDiff, Int.reducePow, implies_true, UInt8.reduceToNat, Int.reduceSub, Int.reduceAdd, Nat.reduceLT, Nat.reduceMul, Nat.reduceSub, Nat.reduceBNe] at hX
    subst hX
    simp only [hfe, if_false]
    exact ⟨_, rfl, rd_bump h1, k1.trans (kp_bump h1)⟩
theorem inner_walk {a z : Txt} (ih : WInt l tg n_expr_Reader_Expr [] k .expr) : WInt l tg n_expr_Reader_Inner [.str a, .str z] (k + 1) (.inner a z) := by
  intro st m b P s1 r X o hk hgo h hX
  rw [run_p2 (by simp [F_expr_Reader_Inner])] at hX
  have hT := tokenC (b := b) (tg := tg) (P := P) ht o
  simp +contextual -implicitDefEqProofs (maxSteps := 1000000) (maxDischargeDepth := 8) only [F_expr_Reader_Inner, hT, h, rd_ext, rd_bump, zz0, zz1, zz2, zz3, zz4, zz5, zz6, zz7, zz8, zz9, argsF, reduceIte, reduceCtorEq, Nat.reduceEqDiff, Nat.reduceBEq, Nat.reduceAdd, Int.reduceLT, Int.reduceLE, Int.reduceEq, Int.reduceToNat, Int.reduceNeg, Nat.reduceLeDiff, Int.reducePow, implies_true, UInt8.reduceToNat, Int.reduceSub, Int.reduceAdd, Nat.reduceLT, Nat.reduceMul, Nat.reduceSub, Nat.reduceBNe] at hX
  generalize hC : run U n_expr_Reader_Want _ _ = C at hX
  obtain ⟨m1, rfl, h1, k1⟩ := wantC ht o (rd_bump h) hC
  clear hC
  have k1 : Kp m m1 P := (kp_bump h).trans k1
  by_cases ha : st.is l a
  · have hn := is_lt ht o.p ha
    have hw : st.want l a = st.next := by unfold RS.want; rw [if_pos ha]
    rw [hw] at h1
    have on : StOk l st.next := (Gr.next hn).ok o
    rw [bo_pos ha] at hX
    simp +contextual -implicitDefEqProofs (maxSteps := 1000000) (maxDischargeDepth := 8) only [zz0, zz1, zz2, zz3, zz4, zz5, zz6, zz7, zz8, zz9, argsF, reduceIte, reduceCtorEq, Nat.reduceEqDiff, Nat.reduceBEq, Nat.reduceAdd, Int.reduceLT, Int.reduceLE, Int.reduceEq, Int.reduceToNat, Int.reduceNeg, Nat.reduceLeDiff, Int.reducePow, implies_true, UInt8.reduceToNat, Int.reduceSub, Int.reduceAdd, Nat.reduceLT, Nat.reduceMul, Nat.reduceSub, Nat.reduceBNe] at hX
    generalize hC : run U n_expr_Reader_Open _ _ = C at hX
    obtain ⟨m2, rfl, h2, k2⟩ := openC ht on h1 hC
    clear hC
    have go := Gr.open hn (p := ((st.now l).pos : Int))
    have oo := go.ok o
    obtain ⟨o1, o2, o3⟩ := open_pos (st := st.next) (p := ((st.now l).pos : Int))
    simp only [goF, if_pos ha] at hgo
    by_cases hf : (st.next.open (st.now l).pos).fe = 0
    · rw [if_pos hf] at hgo
      rw [bo_pos hf] at hX
      have hk' : 8 * (l.length - (st.next.open (st.now l).pos).pos) + Cmd.expr.rank < k := by rw [o1]; simp only [Cmd.rank, RS.next] at *; omega
      obtain ⟨s2, r2, e, g, ar, _⟩ := go_ok ht k .expr _ go.pl hk' trivial
      obtain ⟨x, rfl⟩ := one_of ar
      simp only [e, Option.bind_some, Option.some.injEq, Prod.mk.injEq] at hgo
      obtain ⟨rfl, rfl⟩ := hgo
      simp +contextual -implicitDefEqProofs (maxSteps := 1000000) (maxDischargeDepth := 8) only [zz0, zz1, zz2, zz3, zz4, zz5, zz6, zz7, zz8, zz9, argsF, reduceIte, reduceCtorEq, Nat.reduceEqDiff, Nat.reduceBEq, Nat.reduceAdd, Int.reduceLT, Int.reduceLE, Int.reduceEq, Int.reduceToNat, Int.reduceNeg, Nat.reduceLeDiff, Int.reducePow, implies_true, UInt8.reduceToNat, Int.reduceSub, Int.reduceAdd, Nat.reduceLT, Nat.reduceMul, Nat.reduceSub, Nat.reduceBNe] at hX
      generalize hC : run U n_expr_Reader_Expr _ _ = C at hX
      obtain ⟨m3, rfl, h3, k3⟩ := ih _ _ _ _ _ _ _ oo hk' e h2 hC
      clear hC
      have o2' := g.ok oo
      simp +contextual -implicitDefEqProofs (maxSteps := 1000000) (maxDischargeDepth := 8) only [zz0, zz1, zz2, zz3, zz4, zz5, zz6, zz7, zz8, zz9, argsF, reduceIte, reduceCtorEq, Nat.reduceEqDiff, Nat.reduceBEq, Nat.reduceAdd, Int.reduceLT, Int.reduceLE, Int.reduceEq, Int.reduceToNat, Int.reduceNeg, Nat.reduceLeDiff, Int.reducePow, implies_true, UInt8.reduceToNat, Int.reduceSub, Int.reduceAdd, Nat.reduceLT, Nat.reduceMul, Nat.reduceSub, Nat.reduceBNe] at hX
      generalize hC : run U n_expr_Reader_Want _ _ = C at hX
      obtain ⟨m4, rfl, h4, k4⟩ := wantC ht o2' h3 hC
      clear hC
      have o4 := (Gr.want ht o2'.p (s := z)).ok o2'
      simp +contextual -implicitDefEqProofs (maxSteps := 1000000) (maxDischargeDepth := 8) only [zz0, zz1, zz2, zz3, zz4, zz5, zz6, zz7, zz8, zz9, argsF, reduceIte, reduceCtorEq, Nat.reduceEqDiff, Nat.reduceBEq, Nat.reduceAdd, Int.reduceLT, Int.reduceLE, Int.reduceEq, Int.reduceToNat, Int.reduceNeg, Nat.reduceLeDiff, Int.reducePow, implies_true, UInt8.reduceToNat, Int.reduceSub, Int.reduceAdd, Nat.reduceLT, Nat.reduceMul, Nat.reduceSub, Nat.reduceBNe] at hX
      generalize hC : run U n_expr_Reader_Close _ _ = C at hX
      obtain ⟨m5, rfl, h5, k5⟩ := closeC ht o4 h4 hC
      clear hC
      have hfi := fineC (b := b) (tg := tg) (l := l) (st := (s2.want l z).close) (P := P)
      have hcl : (s2.want l z).close.fe = (s2.want l z).fe := rfl
      have kk := (((k1.trans k2).trans k3).trans k4).trans k5
      have k6 := kp_bump (k := 0) h5
      by_cases hfe : (s2.want l z).fe = 0
      · simp +contextual -implicitDefEqProofs (maxSteps := 1000000) (maxDischargeDepth := 8) only [hfi, h5, hcl, hfe, bo_tt, rd_ext, rd_bump, zz0, zz1, zz2, zz3, zz4, zz5, zz6, zz7, zz8, zz9, argsF, reduceIte, reduceCtorEq, Nat.reduceEqDiff, Nat.reduceBEq, Nat.reduceAdd, Int.reduceLT, Int.reduceLE, Int.reduceEq, Int.reduceToNat, Int.reduceNeg, Nat.reduceLeDiff, Int.reducePow, implies_true, UInt8.reduceToNat, Int.reduceSub, Int.reduceAdd, Nat.reduceLT, Nat.reduceMul, Nat.reduceSub, Nat.reduceBNe] at hX
        subst hX
        simp only [hfe, if_true]
        exact ⟨_, rfl, rd_bump h5, kk.trans k6⟩
      · simp +contextual -implicitDefEqProofs (maxSteps := 1000000) (maxDischargeDepth := 8) only [hfi, h5, hcl, hfe, bo_ff, rd_ext, rd_bump, zz0, zz1, zz2, zz3, zz4, zz5, zz6, zz7, zz8, zz9, argsF, reduceIte, reduceCtorEq, Nat.reduceEqDiff, Nat.reduceBEq, Nat.reduceAdd, Int.reduceLT, Int.reduceLE, Int.reduceEq, Int.reduceToNat, Int.reduceNeg, Nat.reduceLeDiff, Int.reducePow, implies_true, UInt8.reduceToNat, Int.reduceSub, Int.reduceAdd, Nat.reduceLT, Nat.reduceMul, Nat.reduceSub, Nat.reduceBNe] at hX
        subst hX
        simp only [hfe, if_false]
        exact ⟨_, rfl, rd_bump h5, kk.trans k6⟩
    · rw [if_neg hf] at hgo
      rw [bo_neg hf] at hX
      simp only [Option.some.injEq, Prod.mk.injEq] at hgo
      obtain ⟨rfl, rfl⟩ := hgo
      simp +contextual -implicitDefEqProofs (maxSteps := 1000000) (maxDischargeDepth := 8) only [zz0, zz1, zz2, zz3, zz4, zz5, zz6, zz7, zz8, zz9, argsF, reduceIte, reduceCtorEq, Nat.reduceEqDiff, Nat.reduceBEq, Nat.reduceAdd, Int.reduceLT, Int.reduceLE, Int.reduceEq, Int.reduceToNat, Int.reduceNeg, Nat.reduceLeDiff, Int.reducePow, implies_true, UInt8.reduceToNat, Int.reduceSub, Int.reduceAdd, Nat.reduceLT, Nat.reduceMul, Nat.reduceSub, Nat.reduceBNe] at hX
      subst hX
      exact ⟨_, rfl, h2, k1.trans k2⟩
  · have hw : st.want l a = st.fail 8 (st.now l).pos := by unfold RS.want; rw [if_neg ha]
    rw [hw] at h1
    simp only [goF, if_neg ha, Option.some.injEq, Prod.mk.injEq] at hgo
    obtain ⟨rfl, rfl⟩ := hgo
    rw [bo_neg ha] at hX
    simp +contextual -implicitDefEqProofs (maxSteps := 1000000) (maxDischargeDepth := 8) only [zz0, zz1, zz2, zz3, zz4, zz5, zz6, zz7, zz8, zz9, argsF, reduceIte, reduceCtorEq, Nat.reduceEqDiff, Nat.reduceBEq, Nat.reduceAdd, Int.reduceLT, Int.reduceLE, Int.reduceEq, Int.reduceToNat, Int.reduceNeg, Nat.reduceLeDiff, Int.reducePow, implies_true, UInt8.reduceToNat, Int.reduceSub, Int.reduceAdd, Nat.reduceLT, Nat.reduceMul, Nat.reduceSub, Nat.reduceBNe] at hX
    subst hX
    exact ⟨_, rfl, h1, k1⟩
end
end Go.Proofs.Ytjgbofonigpjaaa.Ev
end
section
namespace Go.Proofs.Ytjgbofonigpjaaa.Ev
open Go
set_option linter.unusedSimpArgs false
set_option linter.unusedVariables false
set_option maxRecDepth 10000
set_option maxHeartbeats 4000000
section
variable {l : List Tok} {tg : Nat} (ht : TokOk l) {k : Nat}
include ht
theorem front_walk (ih1 : WInt l tg n_expr_Reader_front [] k .front) (ih2 : WInt l tg n_expr_Reader_atom [] k .atom) (ih3 : ∀ left, WInt l tg n_expr_Reader_cells [.int .i64 left] k (.cellsL left)) : WInt l tg n_expr_Reader_front [] (k + 1) .front := by
  intro st m b P s1 r X o hk hgo h hX
  rw [run_p2 (by simp [F_expr_Reader_front])] at hX
  have hT := tokenC (b := b) (tg := tg) (P := P) ht o
  have hlt := h.lt
  simp +contextual -implicitDefEqProofs (maxSteps := 1000000) (maxDischargeDepth := 8) only [F_expr_Reader_front, hT, h, rd_ext, rd_bump, zz0, zz1, zz2, zz3, zz4, zz5, zz6, zz7, zz8, zz9, argsF, reduceIte, reduceCtorEq, Nat.reduceEqDiff, Nat.reduceBEq, Nat.reduceAdd, Int.reduceLT, Int.reduceLE, Int.reduceEq, Int.reduceToNat, Int.reduceNeg, Nat.reduceLeDiff, Int.reducePow, implies_true, UInt8.reduceToNat, Int.reduceSub, Int.reduceAdd, Nat.reduceLT, Nat.reduceMul, Nat.reduceSub, Nat.reduceBNe] at hX
  have h0 := h.box 19 [.cells [.int .i64 ((st.now l).kind : Int), .str (st.now l).text, .int .i64 ((st.now l).n : Int), .int .i64 ((st.now l).pos : Int)] 4 38 false]
  have k0 := kp_box h 19 [.cells [.int .i64 ((st.now l).kind : Int), .str (st.now l).text, .int .i64 ((st.now l).n : Int), .int .i64 ((st.now l).pos : Int)] 4 38 false]
  have p0 : Pr P m.next (nb m.next (19 + 1)) (nb m.next 19) := pr_of (by decide)
  have b0 : (ext (bump m 19) [.cells [.int .i64 ((st.now l).kind : Int), .str (st.now l).text, .int .i64 ((st.now l).n : Int), .int .i64 ((st.now l).pos : Int)] 4 38 false]).get (nb m.next 19) = .cells [.int .i64 ((st.now l).kind : Int), .str (st.now l).text, .int .i64 ((st.now l).n : Int), .int .i64 ((st.now l).pos : Int)] 4 38 false := by
    rw [← Nat.add_zero 19, ← nb_nb]
    exact (get_ext_nb (m := bump m 19) (i := 0) rfl (by simp)).trans rfl
  generalize hC : run U n_expr_Reader_Skip _ _ = C at hX
  obtain ⟨m1, rfl, h1, k1⟩ := skipC ht o h0 hC
  clear hC
  have b1 := (k1.k _ p0).trans b0
  have n1 : (ext (bump m 19) [Blk.dead]).next ≤ m1.next := by have := k1.n; rw [next_ext] at this ⊢; exact this
  by_cases ha : st.is l [45]
  · skip
    have hn := is_lt ht o.p ha
    have hw : st.skip l [45] = st.next := by unfold RS.skip; rw [if_pos ha]
    rw [hw] at h1
    have on : StOk l st.next := (Gr.next hn).ok o
    rw [bo_pos ha] at hX
    simp +contextual -implicitDefEqProofs (maxSteps := 1000000) (maxDischargeDepth := 8) only [b1, zz0, zz1, zz2, zz3, zz4, zz5, zz6, zz7, zz8, zz9, argsF, reduceIte, reduceCtorEq, Nat.reduceEqDiff, Nat.reduceBEq, Nat.reduceAdd, Int.reduceLT, Int.reduceLE, Int.reduceEq, Int.reduceToNat, Int.reduceNeg, Nat.reduceLeDiff, Int.reducePow, implies_true, UInt8.reduceToNat, Int.reduceSub, Int.reduceAdd, Nat.reduceLT, Nat.reduceMul, Nat.reduceSub, Nat.reduceBNe] at hX
    generalize hC : run U n_expr_Reader_Open _ _ = C at hX
    obtain ⟨m2, rfl, h2, k2⟩ := openC ht on h1 hC
    clear hC
    have b2 := (k2.k _ p0).trans b1
    have go := Gr.open hn (p := ((st.now l).pos : Int))
    have oo := go.ok o
    obtain ⟨o1, o2, o3⟩ := open_pos (st := st.next) (p := ((st.now l).pos : Int))
    simp only [goF, if_pos ha] at hgo
    by_cases hf : (st.next.open (st.now l).pos).fe = 0
    · rw [if_pos hf] at hgo
      rw [bo_pos hf] at hX
      have hk' : 8 * (l.length - (st.next.open (st.now l).pos).pos) + Cmd.front.rank < k := by rw [o1]; simp only [Cmd.rank, RS.next] at *; omega
      obtain ⟨s2, r2, e, g, ar, _⟩ := go_ok ht k .front _ go.pl hk' trivial
      obtain ⟨x, rfl⟩ := one_of ar
      simp only [e, Option.bind_some, Option.some.injEq, Prod.mk.injEq] at hgo
      obtain ⟨rfl, rfl⟩ := hgo
      simp +contextual -implicitDefEqProofs (maxSteps := 1000000) (maxDischargeDepth := 8) only [zz0, zz1, zz2, zz3, zz4, zz5, zz6, zz7, zz8, zz9, argsF, reduceIte, reduceCtorEq, Nat.reduceEqDiff, Nat.reduceBEq, Nat.reduceAdd, Int.reduceLT, Int.reduceLE, Int.reduceEq, Int.reduceToNat, Int.reduceNeg, Nat.reduceLeDiff, Int.reducePow, implies_true, UInt8.reduceToNat, Int.reduceSub, Int.reduceAdd, Nat.reduceLT, Nat.reduceMul, Nat.reduceSub, Nat.reduceBNe] at hX
      generalize hC : run U n_expr_Reader_front _ _ = C at hX
      obtain ⟨m3, rfl, h3, k3⟩ := ih1 _ _ _ _ _ _ _ oo hk' e h2 hC
      clear hC
      have b3 := (k3.k _ p0).trans b2
      have o3' := g.ok oo
      simp +contextual -implicitDefEqProofs (maxSteps := 1000000) (maxDischargeDepth := 8) only [zz0, zz1, zz2, zz3, zz4, zz5, zz6, zz7, zz8, zz9, argsF, reduceIte, reduceCtorEq, Nat.reduceEqDiff, Nat.reduceBEq, Nat.reduceAdd, Int.reduceLT, Int.reduceLE, Int.reduceEq, Int.reduceToNat, Int.reduceNeg, Nat.reduceLeDiff, Int.reducePow, implies_true, UInt8.reduceToNat, Int.reduceSub, Int.reduceAdd, Nat.reduceLT, Nat.reduceMul, Nat.reduceSub, Nat.reduceBNe] at hX
      generalize hC : run U n_expr_Reader_Close _ _ = C at hX
      obtain ⟨m4, rfl, h4, k4⟩ := closeC ht o3' h3 hC
      clear hC
      have b4 := (k4.k _ p0).trans b3
      have o4 : StOk l s2.close := ((go.trans g).close (by have := g.d0; rw [o2] at this; simp only [RS.next] at this; exact this)).ok o
      have l4 : nb m.next 19 < m4.next := Nat.lt_of_lt_of_le (show nb m.next 19 < (ext (bump m 19) [Blk.dead]).next by rw [next_ext, next_bump, nb_nb]; unfold nb; simp) (Nat.le_trans n1 (Nat.le_trans k2.n (Nat.le_trans k3.n k4.n)))
      simp +contextual -implicitDefEqProofs (maxSteps := 1000000) (maxDischargeDepth := 8) only [b4, l4, zz0, zz1, zz2, zz3, zz4, zz5, zz6, zz7, zz8, zz9, argsF, reduceIte, reduceCtorEq, Nat.reduceEqDiff, Nat.reduceBEq, Nat.reduceAdd, Int.reduceLT, Int.reduceLE, Int.reduceEq, Int.reduceToNat, Int.reduceNeg, Nat.reduceLeDiff, Int.reducePow, implies_true, UInt8.reduceToNat, Int.reduceSub, Int.reduceAdd, Nat.reduceLT, Nat.reduceMul, Nat.reduceSub, Nat.reduceBNe] at hX
      generalize hC : run U n_expr_Reader_Put _ _ = C at hX
      obtain ⟨m5, rfl, h5, k5⟩ := putC ht o4 (h4.boxe _) (kids := [x]) (by simp) (own_row (by rfl)) (fun c hc => by rw [notOff_slice hc]; exact pr_of (by simp)) (fun c hc => ⟨.inl hc, Off.of (by have := h4.plt hc; unfold nb; omega)⟩) (by simp) hC
      clear hC
      simp +contextual -implicitDefEqProofs (maxSteps := 1000000) (maxDischargeDepth := 8) only [zz0, zz1, zz2, zz3, zz4, zz5, zz6, zz7, zz8, zz9, argsF, reduceIte, reduceCtorEq, Nat.reduceEqDiff, Nat.reduceBEq, Nat.reduceAdd, Int.reduceLT, Int.reduceLE, Int.reduceEq, Int.reduceToNat, Int.reduceNeg, Nat.reduceLeDiff, Int.reducePow, implies_true, UInt8.reduceToNat, Int.reduceSub, Int.reduceAdd, Nat.reduceLT, Nat.reduceMul, Nat.reduceSub, Nat.reduceBNe] at hX
      subst hX
      refine ⟨_, rfl, (h5.weak fun c hc => .inl hc), ?_⟩
      exact (k0.trans (((((k1.trans k2).trans k3).trans k4).trans (kp_boxe h4 _)).weak fun c hc => .inl hc)).trans (k5.weak fun c hc => .inl hc)
    · rw [if_neg hf] at hgo
      rw [bo_neg hf] at hX
      simp only [Option.some.injEq, Prod.mk.injEq] at hgo
      obtain ⟨rfl, rfl⟩ := hgo
      simp +contextual -implicitDefEqProofs (maxSteps := 1000000) (maxDischargeDepth := 8) only [zz0, zz1, zz2, zz3, zz4, zz5, zz6, zz7, zz8, zz9, argsF, reduceIte, reduceCtorEq, Nat.reduceEqDiff, Nat.reduceBEq, Nat.reduceAdd, Int.reduceLT, Int.reduceLE, Int.reduceEq, Int.reduceToNat, Int.reduceNeg, Nat.reduceLeDiff, Int.reducePow, implies_true, UInt8.reduceToNat, Int.reduceSub, Int.reduceAdd, Nat.reduceLT, Nat.reduceMul, Nat.reduceSub, Nat.reduceBNe] at hX
      subst hX
      exact ⟨_, rfl, h2.weak fun c hc => .inl hc, k0.trans ((k1.trans k2).weak fun c hc => .inl hc)⟩
  · have hw : st.skip l [45] = st := by unfold RS.skip; rw [if_neg ha]
    rw [hw] at h1
    rw [bo_neg ha] at hX
    simp +contextual -implicitDefEqProofs (maxSteps := 1000000) (maxDischargeDepth := 8) only [zz0, zz1, zz2, zz3, zz4, zz5, zz6, zz7, zz8, zz9, argsF, reduceIte, reduceCtorEq, Nat.reduceEqDiff, Nat.reduceBEq, Nat.reduceAdd, Int.reduceLT, Int.reduceLE, Int.reduceEq, Int.reduceToNat, Int.reduceNeg, Nat.reduceLeDiff, Int.reducePow, implies_true, UInt8.reduceToNat, Int.reduceSub, Int.reduceAdd, Nat.reduceLT, Nat.reduceMul, Nat.reduceSub, Nat.reduceBNe] at hX
    have k10 := k1
    have hna := ha
    clear ha
    generalize hC : run U n_expr_Reader_Skip _ _ = C at hX
    obtain ⟨m1', rfl, h1, k1⟩ := skipC ht o h1 hC
    clear hC
    have b1 := (k1.k _ p0).trans b1
    have k1 := k10.trans k1
    have n1 : (ext (bump m 19) [Blk.dead]).next ≤ m1'.next := by have := k1.n; rw [next_ext] at this ⊢; exact this
    by_cases ha : st.is l [33]
    · skip
      have hn := is_lt ht o.p ha
      have hw : st.skip l [33] = st.next := by unfold RS.skip; rw [if_pos ha]
      rw [hw] at h1
      have on : StOk l st.next := (Gr.next hn).ok o
      rw [bo_pos ha] at hX
      simp +contextual -implicitDefEqProofs (maxSteps := 1000000) (maxDischargeDepth := 8) only [b1, zz0, zz1, zz2, zz3, zz4, zz5, zz6, zz7, zz8, zz9, argsF, reduceIte, reduceCtorEq, Nat.reduceEqDiff, Nat.reduceBEq, Nat.reduceAdd, Int.reduceLT, Int.reduceLE, Int.reduceEq, Int.reduceToNat, Int.reduceNeg, Nat.reduceLeDiff, Int.reducePow, implies_true, UInt8.reduceToNat, Int.reduceSub, Int.reduceAdd, Nat.reduceLT, Nat.reduceMul, Nat.reduceSub, Nat.reduceBNe] at hX
      generalize hC : run U n_expr_Reader_Open _ _ = C at hX
      obtain ⟨m2, rfl, h2, k2⟩ := openC ht on h1 hC
      clear hC
      have b2 := (k2.k _ p0).trans b1
      have go := Gr.open hn (p := ((st.now l).pos : Int))
      have oo := go.ok o
      obtain ⟨o1, o2, o3⟩ := open_pos (st := st.next) (p := ((st.now l).pos : Int))
      simp only [goF, if_neg hna, if_pos ha] at hgo
      by_cases hf : (st.next.open (st.now l).pos).fe = 0
      · rw [if_pos hf] at hgo
        rw [bo_pos hf] at hX
        have hk' : 8 * (l.length - (st.next.open (st.now l).pos).pos) + Cmd.front.rank < k := by rw [o1]; simp only [Cmd.rank, RS.next] at *; omega
        obtain ⟨s2, r2, e, g, ar, _⟩ := go_ok ht k .front _ go.pl hk' trivial
        obtain ⟨x, rfl⟩ := one_of ar
        simp only [e, Option.bind_some, Option.some.injEq, Prod.mk.injEq] at hgo
        obtain ⟨rfl, rfl⟩ := hgo
        simp +contextual -implicitDefEqProofs (maxSteps := 1000000) (maxDischargeDepth := 8) only [zz0, zz1, zz2, zz3, zz4, zz5, zz6, zz7, zz8, zz9, argsF, reduceIte, reduceCtorEq, Nat.reduceEqDiff, Nat.reduceBEq, Nat.reduceAdd, Int.reduceLT, Int.reduceLE, Int.reduceEq, Int.reduceToNat, Int.reduceNeg, Nat.reduceLeDiff, Int.reducePow, implies_true, UInt8.reduceToNat, Int.reduceSub, Int.reduceAdd, Nat.reduceLT, Nat.reduceMul, Nat.reduceSub, Nat.reduceBNe] at hX
        generalize hC : run U n_expr_Reader_front _ _ = C at hX
        obtain ⟨m3, rfl, h3, k3⟩ := ih1 _ _ _ _ _ _ _ oo hk' e h2 hC
        clear hC
        have b3 := (k3.k _ p0).trans b2
        have o3' := g.ok oo
        simp +contextual -implicitDefEqProofs (maxSteps := 1000000) (maxDischargeDepth := 8) only [zz0, zz1, zz2, zz3, zz4, zz5, zz6, zz7, zz8, zz9, argsF, reduceIte, reduceCtorEq, Nat.reduceEqDiff, Nat.reduceBEq, Nat.reduceAdd, Int.reduceLT, Int.reduceLE, Int.reduceEq, Int.reduceToNat, Int.reduceNeg, Nat.reduceLeDiff, Int.reducePow, implies_true, UInt8.reduceToNat, Int.reduceSub, Int.reduceAdd, Nat.reduceLT, Nat.reduceMul, Nat.reduceSub, Nat.reduceBNe] at hX
        generalize hC : run U n_expr_Reader_Close _ _ = C at hX
        obtain ⟨m4, rfl, h4, k4⟩ := closeC ht o3' h3 hC
        clear hC
        have b4 := (k4.k _ p0).trans b3
        have o4 : StOk l s2.close := ((go.trans g).close (by have := g.d0; rw [o2] at this; simp only [RS.next] at this; exact this)).ok o
        have l4 : nb m.next 19 < m4.next := Nat.lt_of_lt_of_le (show nb m.next 19 < (ext (bump m 19) [Blk.dead]).next by rw [next_ext, next_bump, nb_nb]; unfold nb; simp) (Nat.le_trans n1 (Nat.le_trans k2.n (Nat.le_trans k3.n k4.n)))
        simp +contextual -implicitDefEqProofs (maxSteps := 1000000) (maxDischargeDepth := 8) only [b4, l4, zz0, zz1, zz2, zz3, zz4, zz5, zz6, zz7, zz8, zz9, argsF, reduceIte, reduceCtorEq, Nat.reduceEqDiff, Nat.reduceBEq, Nat.reduceAdd, Int.reduceLT, Int.reduceLE, Int.reduceEq, Int.reduceToNat, Int.reduceNeg, Nat.reduceLeDiff, Int.reducePow, implies_true, UInt8.reduceToNat, Int.reduceSub, Int.reduceAdd, Nat.reduceLT, Nat.reduceMul, Nat.reduceSub, Nat.reduceBNe] at hX
        generalize hC : run U n_expr_Reader_Put _ _ = C at hX
        obtain ⟨m5, rfl, h5, k5⟩ := putC ht o4 (h4.boxe _) (kids := [x]) (by simp) (own_row (by rfl)) (fun c hc => by rw [notOff_slice hc]; exact pr_of (by simp)) (fun c hc => ⟨.inl hc, Off.of (by have := h4.plt hc; unfold nb; omega)⟩) (by simp) hC
        clear hC
        simp +contextual -implicitDefEqProofs (maxSteps := 1000000) (maxDischargeDepth := 8) only [zz0, zz1, zz2, zz3, zz4, zz5, zz6, zz7, zz8, zz9, argsF, reduceIte, reduceCtorEq, Nat.reduceEqDiff, Nat.reduceBEq, Nat.reduceAdd, Int.reduceLT, Int.reduceLE, Int.reduceEq, Int.reduceToNat, Int.reduceNeg, Nat.reduceLeDiff, Int.reducePow, implies_true, UInt8.reduceToNat, Int.reduceSub, Int.reduceAdd, Nat.reduceLT, Nat.reduceMul, Nat.reduceSub, Nat.reduceBNe] at hX
        subst hX
        refine ⟨_, rfl, (h5.weak fun c hc => .inl hc), ?_⟩
        exact (k0.trans (((((k1.trans k2).trans k3).trans k4).trans (kp_boxe h4 _)).weak fun c hc => .inl hc)).trans (k5.weak fun c hc => .inl hc)
      · rw [if_neg hf] at hgo
        rw [bo_neg hf] at hX
        simp only [Option.some.injEq, Prod.mk.injEq] at hgo
        obtain ⟨rfl, rfl⟩ := hgo
        simp +contextual -implicitDefEqProofs (maxSteps := 1000000) (maxDischargeDepth := 8) only [zz0, zz1, zz2, zz3, zz4, zz5, zz6, zz7, zz8, zz9, argsF, reduceIte, reduceCtorEq, Nat.reduceEqDiff, Nat.reduceBEq, Nat.reduceAdd, Int.reduceLT, Int.reduceLE, Int.reduceEq, Int.reduceToNat, Int.reduceNeg, Nat.reduceLeDiff, Int.reducePow, implies_true, UInt8.reduceToNat, Int.reduceSub, Int.reduceAdd, Nat.reduceLT, Nat.reduceMul, Nat.reduceSub, Nat.reduceBNe] at hX
        subst hX
        exact ⟨_, rfl, h2.weak fun c hc => .inl hc, k0.trans ((k1.trans k2).weak fun c hc => .inl hc)⟩
    · have hw : st.skip l [33] = st := by unfold RS.skip; rw [if_neg ha]
      rw [hw] at h1
      rw [bo_neg ha] at hX
      simp +contextual -implicitDefEqProofs (maxSteps := 1000000) (maxDischargeDepth := 8) only [zz0, zz1, zz2, zz3, zz4, zz5, zz6, zz7, zz8, zz9, argsF, reduceIte, reduceCtorEq, Nat.reduceEqDiff, Nat.reduceBEq, Nat.reduceAdd, Int.reduceLT, Int.reduceLE, Int.reduceEq, Int.reduceToNat, Int.reduceNeg, Nat.reduceLeDiff, Int.reducePow, implies_true, UInt8.reduceToNat, Int.reduceSub, Int.reduceAdd, Nat.reduceLT, Nat.reduceMul, Nat.reduceSub, Nat.reduceBNe] at hX
      simp only [goF, if_neg hna, if_neg ha] at hgo
      have hk' : 8 * (l.length - st.pos) + Cmd.atom.rank < k := by simp only [Cmd.rank] at *; omega
      obtain ⟨s2, r2, e, g, ar, _⟩ := go_ok ht k .atom _ o.p hk' trivial
      obtain ⟨x, rfl⟩ := one_of ar
      simp only [e, Option.bind_some, List.headD_cons] at hgo
      generalize hC : run U n_expr_Reader_atom _ _ = C at hX
      obtain ⟨m2, rfl, h2, k2⟩ := ih2 _ _ _ _ _ _ _ o hk' e h1 hC
      clear hC
      simp +contextual -implicitDefEqProofs (maxSteps := 1000000) (maxDischargeDepth := 8) only [List.headD_cons, zz0, zz1, zz2, zz3, zz4, zz5, zz6, zz7, zz8, zz9, argsF, reduceIte, reduceCtorEq, Nat.reduceEqDiff, Nat.reduceBEq, Nat.reduceAdd, Int.reduceLT, Int.reduceLE, Int.reduceEq, Int.reduceToNat, Int.reduceNeg, Nat.reduceLeDiff, Int.reducePow, implies_true, UInt8.reduceToNat, Int.reduceSub, Int.reduceAdd, Nat.reduceLT, Nat.reduceMul, Nat.reduceSub, Nat.reduceBNe] at hX
      generalize hC : run U n_expr_Reader_cells _ _ = C at hX
      obtain ⟨m3, rfl, h3, k3⟩ := ih3 x _ _ _ _ _ _ _ (g.ok o) (by have := g.p; simp only [Cmd.rank] at *; omega) hgo h2 hC
      clear hC
      simp +contextual -implicitDefEqProofs (maxSteps := 1000000) (maxDischargeDepth := 8) only [zz0, zz1, zz2, zz3, zz4, zz5, zz6, zz7, zz8, zz9, argsF, reduceIte, reduceCtorEq, Nat.reduceEqDiff, Nat.reduceBEq, Nat.reduceAdd, Int.reduceLT, Int.reduceLE, Int.reduceEq, Int.reduceToNat, Int.reduceNeg, Nat.reduceLeDiff, Int.reducePow, implies_true, UInt8.reduceToNat, Int.reduceSub, Int.reduceAdd, Nat.reduceLT, Nat.reduceMul, Nat.reduceSub, Nat.reduceBNe] at hX
      subst hX
      exact ⟨_, rfl, h3.weak fun c hc => .inl hc, k0.trans (((k1.trans k2).trans k3).weak fun c hc => .inl hc)⟩
end
end Go.Proofs.Ytjgbofonigpjaaa.Ev
end
section
namespace Go.Proofs.Ytjgbofonigpjaaa.Ev
open Go
set_option linter.unusedSimpArgs false
set_option linter.unusedVariables false
set_option maxRecDepth 10000
set_option maxHeartbeats 4000000
/-- And a row of the caller's. -/
def Pv (P : Nat → Prop) (v : EV) : Nat → Prop := fun c => P c ∨ ¬ Off v c
theorem Rd.grow {m : Mem} {b tg : Nat} {l : List Tok} {st : RS} {P : Nat → Prop} {v : EV} {e n : Nat} {cs : List EV} (h : Rd m b tg l st (Pv P v)) (hP : ∀ c, P c → Off v c) : Rd (grow m v e 1 cs) b tg l st (Pv P (.slice (nb m.next 0) 0 n none)) := by
  obtain ⟨tv, hv, xs, h⟩ := h
  have hn : m.next ≤ (Ev.grow m v e 1 cs).next := by rw [grow_next]; exact le_nb
  have hold : ∀ c, c < m.next → Off v c → (Ev.grow m v e 1 cs).get c = m.get c := fun c hc ho => grow_old hc ho
  have hv : ∀ c, (¬ Off v c) → Fre b tv hv c ∧ ∀ x ∈ xs, Off x.kv c := fun c hc => ⟨(h.p c (.inr hc)).2, h.pk c (.inr hc)⟩
  have hof : ∀ c, (Fre b tv _ c → (∀ x ∈ xs, Off x.kv c) → False) → Off v c := fun c q => Classical.byContradiction fun w => q (hv c w).1 (hv c w).2
  refine ⟨tv, _, xs, ?_, Nat.lt_of_lt_of_le h.lt hn, ?_, ?_, h.a, h.x, h.hl, ?_, ?_, ?_⟩
  · rw [hold b h.lt (hof b fun f _ => f.ne rfl)]; exact h.g
  · exact h.t.keep' hn fun c hc _ ho => hold c hc (hof c fun f _ => ho f.t)
  · exact h.h.keep' hn fun c hc _ ho => hold c hc (hof c fun f _ => ho f.h)
  · exact fun x hx => ⟨(h.k x hx).o.keep' hn fun c hc _ ho => hold c hc (hof c fun _ f => ho (f x hx)), (h.k x hx).f, (h.k x hx).nl, (h.k x hx).z⟩
  · rintro c (hc | hc)
    · exact ⟨Nat.lt_of_lt_of_le (h.p c (.inl hc)).1 hn, (h.p c (.inl hc)).2⟩
    · rw [notOff_slice hc]
      exact ⟨by rw [grow_next]; unfold nb; simp, h.fresh (Nat.le_refl _)⟩
  · rintro c (hc | hc)
    · exact h.pk c (.inl hc)
    · rw [notOff_slice hc]
      exact h.freshK (Nat.le_refl _)
/-- The loop of cells. -/
def WCells (l : List Tok) (tg k : Nat) : Prop := ∀ (left : Int) (st : RS) (fr : Fr) (m : Mem) (b : Nat) (P : Nat → Prop) (s1 : RS) (r : List Int) (X : Option Out), StOk l st → 8 * (l.length - st.pos) + (Cmd.cellsL left).rank < k → goF l k (.cellsL left) st = some (s1, r) → Rd m b tg l st P → fr.get 0 = .ptr b 0 → fr.get 1 = .int .i64 left → fr.defers = [] → exec U (.loop F_expr_Reader_cells_l0) fr m = X → ∃ fr' m', X = some (.exit 0 fr' m') ∧ fr'.get 1 = .int .i64 (r.headD 0) ∧ fr'.defers = [] ∧ Rd m' b tg l s1 P ∧ Kp m m' P
section
variable {l : List Tok} {tg : Nat} (ht : TokOk l) {k : Nat}
include ht
theorem cells_loop (ih1 : WInt l tg n_expr_Reader_Inner [.str [91], .str [93]] k (.inner [91] [93])) (ih2 : WCells l tg k) : WCells l tg (k + 1) := by
  intro left st fr m b P s1 r X o hk hgo h h0 h1 hd hX
  rw [exec_loop] at hX
  generalize hL : exec U (.loop F_expr_Reader_cells_l0) = L at hX
  have hI := isC (b := b) (tg := tg) (P := P) ht o
  by_cases ha : st.is l [91]
  · have hT := tokenC (b := b) (tg := tg) (P := P) ht o
    simp +contextual -implicitDefEqProofs (maxSteps := 1000000) (maxDischargeDepth := 8) only [F_expr_Reader_cells_l0, h0, h1, hd, hI, hT, h, ha, bo_tt, rd_ext, rd_bump, zz0, zz1, zz2, zz3, zz4, zz5, zz6, zz7, zz8, zz9, argsF, reduceIte, reduceCtorEq, Nat.reduceEqDiff, Nat.reduceBEq, Nat.reduceAdd, Int.reduceLT, Int.reduceLE, Int.reduceEq, Int.reduceToNat, Int.reduceNeg, Nat.reduceLeDiff, Int.reducePow, implies_true, UInt8.reduceToNat, Int.reduceSub, Int.reduceAdd, Nat.reduceLT, Nat.reduceMul, Nat.reduceSub, Nat.reduceBNe] at hX
    simp only [goF, if_pos ha] at hgo
    have hk' : 8 * (l.length - st.pos) + (Cmd.inner [91] [93]).rank < k := by simp only [Cmd.rank] at *; omega
    obtain ⟨s2, r2, e, g, ar, mo⟩ := go_ok ht k (.inner [91] [93]) st o.p hk' trivial
    obtain ⟨m1', m2'⟩ := mo ha
    obtain ⟨x, rfl⟩ := one_of ar
    simp only [e, Option.bind_some] at hgo
    generalize hC : run U n_expr_Reader_Inner _ _ = C at hX
    obtain ⟨m1, rfl, r1, k1⟩ := ih1 _ _ _ _ _ _ _ o hk' e (rd_bump (rd_bump h)) hC
    clear hC
    have k1 := ((kp_bump h).trans (kp_bump (rd_bump h))).trans k1
    have o2 := g.ok o
    have hcp : copies 2 [EV.int .i64 0] = [EV.int .i64 0, EV.int .i64 0] := rfl
    simp +contextual -implicitDefEqProofs (maxSteps := 1000000) (maxDischargeDepth := 8) only [h0, h1, hcp, evOp_bsliceN, bsF_some, List.headD_cons, zz0, zz1, zz2, zz3, zz4, zz5, zz6, zz7, zz8, zz9, argsF, reduceIte, reduceCtorEq, Nat.reduceEqDiff, Nat.reduceBEq, Nat.reduceAdd, Int.reduceLT, Int.reduceLE, Int.reduceEq, Int.reduceToNat, Int.reduceNeg, Nat.reduceLeDiff, Int.reducePow, implies_true, UInt8.reduceToNat, Int.reduceSub, Int.reduceAdd, Nat.reduceLT, Nat.reduceMul, Nat.reduceSub, Nat.reduceBNe] at hX
    generalize hC : run U n_expr_Reader_Put _ _ = C at hX
    obtain ⟨m5, rfl, h5, k5⟩ := putC (P := P) (kids := [left, x]) ht o2 (r1.boxe _) (by simp) (own_row (by rfl)) (fun c hc => by rw [notOff_slice hc]; exact pr_of (by simp)) (fun c hc => ⟨.inl hc, Off.of (by have := r1.plt hc; unfold nb; omega)⟩) (by simp) hC
    clear hC
    simp +contextual -implicitDefEqProofs (maxSteps := 1000000) (maxDischargeDepth := 8) only [zz0, zz1, zz2, zz3, zz4, zz5, zz6, zz7, zz8, zz9, argsF, reduceIte, reduceCtorEq, Nat.reduceEqDiff, Nat.reduceBEq, Nat.reduceAdd, Int.reduceLT, Int.reduceLE, Int.reduceEq, Int.reduceToNat, Int.reduceNeg, Nat.reduceLeDiff, Int.reducePow, implies_true, UInt8.reduceToNat, Int.reduceSub, Int.reduceAdd, Nat.reduceLT, Nat.reduceMul, Nat.reduceSub, Nat.reduceBNe] at hX
    subst hL
    have k5 := (k1.trans (kp_boxe r1 _)).trans k5
    have g1 := g.put (by omega) (d := nd 8 [left, x] 0 [] (st.now l).pos)
    obtain ⟨fr', m', rfl, f1, fd, h6, k6⟩ := ih2 _ _ _ _ _ _ _ _ _ (g1.ok o) (by
      have hq : (s2.put (nd 8 [left, x] 0 [] (st.now l).pos)).pos = s2.pos := (by unfold RS.put RS.put0; split <;> split <;> first | rfl | exact fail_pos.1)
      have := o.p; have := g.pl
      simp only [Cmd.rank] at *; omega) hgo h5 (by simp only [h0, get_set', selE_t, selE_f, Nat.reduceBEq, set_defers, fr00_get, fr00_defers, put_some, put_none ]) (by simp only [get_set', selE_t, selE_f, Nat.reduceBEq, set_defers, fr00_get, fr00_defers, put_some, put_none ]) (by simp only [hd, get_set', selE_t, selE_f, Nat.reduceBEq, set_defers, fr00_get, fr00_defers, put_some, put_none ]) hX
    exact ⟨fr', m', rfl, f1, fd, h6, k5.trans k6⟩
  · simp +contextual -implicitDefEqProofs (maxSteps := 1000000) (maxDischargeDepth := 8) only [F_expr_Reader_cells_l0, h0, h1, hd, hI, h, ha, bo_ff, rd_ext, rd_bump, zz0, zz1, zz2, zz3, zz4, zz5, zz6, zz7, zz8, zz9, argsF, reduceIte, reduceCtorEq, Nat.reduceEqDiff, Nat.reduceBEq, Nat.reduceAdd, Int.reduceLT, Int.reduceLE, Int.reduceEq, Int.reduceToNat, Int.reduceNeg, Nat.reduceLeDiff, Int.reducePow, implies_true, UInt8.reduceToNat, Int.reduceSub, Int.reduceAdd, Nat.reduceLT, Nat.reduceMul, Nat.reduceSub, Nat.reduceBNe] at hX
    simp only [goF, if_neg ha, Option.some.injEq, Prod.mk.injEq] at hgo
    obtain ⟨rfl, rfl⟩ := hgo
    subst hX
    exact ⟨_, _, rfl, by simp only [h1, List.headD_cons, get_set', selE_t, selE_f, Nat.reduceBEq, set_defers, fr00_get, fr00_defers, put_some, put_none ], by simp only [hd, get_set', selE_t, selE_f, Nat.reduceBEq, set_defers, fr00_get, fr00_defers, put_some, put_none ], rd_bump h, kp_bump h⟩
omit ht in
theorem cells_walk (h : WCells l tg k) (left : Int) : WInt l tg n_expr_Reader_cells [.int .i64 left] k (.cellsL left) := by
  intro st m b P s1 r X o hk hgo hr hX
  rw [run_p2 (by simp [F_expr_Reader_cells])] at hX
  generalize hL : exec (UT B K) (ICode.loop F_expr_Reader_cells_l0) = L
  simp +contextual -implicitDefEqProofs (maxSteps := 1000000) (maxDischargeDepth := 8) only [F_expr_Reader_cells, zz0, zz1, zz2, zz3, zz4, zz5, zz6, zz7, zz8, zz9, argsF, reduceIte, reduceCtorEq, Nat.reduceEqDiff, Nat.reduceBEq, Nat.reduceAdd, Int.reduceLT, Int.reduceLE, Int.reduceEq, Int.reduceToNat, Int.reduceNeg, Nat.reduceLeDiff, Int.reducePow, implies_true, UInt8.reduceToNat, Int.reduceSub, Int.reduceAdd, Nat.reduceLT, Nat.reduceMul, Nat.reduceSub, Nat.reduceBNe] at hX
  subst hL
  generalize hC : exec _ (.loop F_expr_Reader_cells_l0) _ _ = C at hX
  obtain ⟨fr', m', rfl, f1, fd, h6, k6⟩ := h _ _ _ _ _ _ _ _ _ o hk hgo hr (by simp only [get_set', selE_t, selE_f, Nat.reduceBEq, set_defers, fr00_get, fr00_defers, put_some, put_none ]) (by simp only [get_set', selE_t, selE_f, Nat.reduceBEq, set_defers, fr00_get, fr00_defers, put_some, put_none ]) (by simp only [get_set', selE_t, selE_f, Nat.reduceBEq, set_defers, fr00_get, fr00_defers, put_some, put_none ]) hC
  simp +contextual -implicitDefEqProofs (maxSteps := 1000000) (maxDischargeDepth := 8) only [f1, fd, zz0, zz1, zz2, zz3, zz4, zz5, zz6, zz7, zz8, zz9, argsF, reduceIte, reduceCtorEq, Nat.reduceEqDiff, Nat.reduceBEq, Nat.reduceAdd, Int.reduceLT, Int.reduceLE, Int.reduceEq, Int.reduceToNat, Int.reduceNeg, Nat.reduceLeDiff, Int.reducePow, implies_true, UInt8.reduceToNat, Int.reduceSub, Int.reduceAdd, Nat.reduceLT, Nat.reduceMul, Nat.reduceSub, Nat.reduceBNe] at hX
  subst hX
  exact ⟨_, rfl, h6, k6⟩
end
end Go.Proofs.Ytjgbofonigpjaaa.Ev
end
section
namespace Go.Proofs.Ytjgbofonigpjaaa.Ev
open Go
set_option linter.unusedSimpArgs false
set_option linter.unusedVariables false
set_option maxRecDepth 10000
set_option maxHeartbeats 4000000
/-- The loop of arguments. -/
def WArgsL (l : List Tok) (tg k : Nat) : Prop := ∀ (out : List Int) (v : EV) (st : RS) (fr : Fr) (m : Mem) (b n0 : Nat) (P : Nat → Prop) (s1 : RS) (r : List Int) (X : Option Out), StOk l st → 8 * (l.length - st.pos) + (Cmd.argsL out).rank < k → out.length ≤ 8 → st.fe = 0 → goF l k (.argsL out) st = some (s1, r) → Rd m b tg l st (Pv P v) → (∀ c, P c → c < n0) → n0 ≤ m.next → Own m v (is out) out.length 1 n0 → fr.get 0 = .ptr b 0 → fr.get 4 = v → fr.get 5 = .bool true → fr.defers = [] → exec U (.loop F_expr_Reader_arguments_l0) fr m = X → ∃ fr' m' v', X = some (.exit 0 fr' m') ∧ fr'.get 0 = .ptr b 0 ∧ fr'.get 4 = v' ∧ fr'.defers = [] ∧ Own m' v' (is r) r.length 1 n0 ∧ Rd m' b tg l s1 (Pv P v') ∧ Kp m m' P ∧ r ≠ []
theorem Own.kp {m m' : Mem} {v : EV} {cs : List EV} {n esz lo : Nat} {P : Nat → Prop} (h : Own m v cs n esz lo) (k : Kp m m' P) (hp : ∀ c, ¬ Off v c → P c) : Own m' v cs n esz lo := h.keep' k.n fun c _ _ ho => k.k c (hp c ho)
theorem is_snoc {r : List Int} {x : Int} : is (r ++ [x]) = is r ++ [.int .i64 x] := by simp [is]
section
variable {l : List Tok} {tg : Nat} (ht : TokOk l) {k : Nat}
include ht
theorem args_loop (ih1 : WInt l tg n_expr_Reader_Expr [] k .expr) (ih2 : WArgsL l tg k) : WArgsL l tg (k + 1) := by
  intro out v st fr m b n0 P s1 r X o hk ho8 hfe hgo h hP hn0 hown h0 h4 h5 hd hX
  rw [exec_loop] at hX
  generalize hL : exec U (.loop F_expr_Reader_arguments_l0) = L at hX
  have hF := fineC (b := b) (tg := tg) (l := l) (st := st) (P := Pv P v)
  have hlen : ∀ M, lenE v M = some (.val (.int .i64 (out.length : Int)) M) := fun M => by
    rcases hown.is with ⟨rfl, q, _⟩ | ⟨kb, cap, t, rfl, _⟩
    · rw [q]; rfl
    · rfl
  have h8 : ((out.length : Int) = 8) = (out.length = 8) := propext (by omega)
  by_cases h8' : out.length = 8
  · have hT := tokenC (b := b) (tg := tg) (P := Pv P v) ht o
    simp +contextual -implicitDefEqProofs (maxSteps := 1000000) (maxDischargeDepth := 8) only [F_expr_Reader_arguments_l0, h0, h4, h5, hd, hF, hT, h, hfe, hlen, h8, h8', bo_tt, rd_ext, rd_bump, zz0, zz1, zz2, zz3, zz4, zz5, zz6, zz7, zz8, zz9, argsF, reduceIte, reduceCtorEq, Nat.reduceEqDiff, Nat.reduceBEq, Nat.reduceAdd, Int.reduceLT, Int.reduceLE, Int.reduceEq, Int.reduceToNat, Int.reduceNeg, Nat.reduceLeDiff, Int.reducePow, implies_true, UInt8.reduceToNat, Int.reduceSub, Int.reduceAdd, Nat.reduceLT, Nat.reduceMul, Nat.reduceSub, Nat.reduceBNe] at hX
    generalize hC : run U n_expr_Reader_Fail _ _ = C at hX
    obtain ⟨m9, rfl, RD, k9⟩ := failC (rd_bump (rd_bump h)) hC
    clear hC
    have KP := ((kp_bump h).trans (kp_bump (rd_bump h))).trans k9
    have oo : StOk l (st.fail 3 (st.now l).pos) := (Gr.fail o.p (by decide)).ok o
    have p0 : (st.fail 3 (st.now l).pos).pos = st.pos := fail_pos.1
    have f0 : (st.fail 3 (st.now l).pos).fe = 0 → out.length < 8 := fun q => absurd q (fail_fe (by decide))
    simp only [goF, if_pos h8'] at hgo
    generalize st.fail 3 (st.now l).pos = S0 at *
    simp +contextual -implicitDefEqProofs (maxSteps := 1000000) (maxDischargeDepth := 8) only [h0, h4, zz0, zz1, zz2, zz3, zz4, zz5, zz6, zz7, zz8, zz9, argsF, reduceIte, reduceCtorEq, Nat.reduceEqDiff, Nat.reduceBEq, Nat.reduceAdd, Int.reduceLT, Int.reduceLE, Int.reduceEq, Int.reduceToNat, Int.reduceNeg, Nat.reduceLeDiff, Int.reducePow, implies_true, UInt8.reduceToNat, Int.reduceSub, Int.reduceAdd, Nat.reduceLT, Nat.reduceMul, Nat.reduceSub, Nat.reduceBNe] at hX
    obtain ⟨s2, r2, e, g, ar, _⟩ := go_ok ht k .expr S0 oo.p (by rw [p0]; simp only [Cmd.rank] at *; omega) trivial
    obtain ⟨x, rfl⟩ := one_of ar
    simp only [e, Option.bind_some] at hgo
    generalize hC : run U n_expr_Reader_Expr _ _ = C at hX
    obtain ⟨m1, rfl, h1, k1⟩ := ih1 _ _ _ _ _ _ _ oo (by rw [p0]; simp only [Cmd.rank] at *; omega) e RD hC
    clear hC
    have k1 := KP.trans k1
    have o2 := g.ok oo
    have hown1 := hown.kp k1 fun c hc => .inr hc
    obtain ⟨ha, hown2⟩ := append_grow (e := 3) (hown1.ext [.cells [.int .i64 x] 1 3 false]) (by rw [next_ext]; have := k1.n; unfold nb; omega) (source_new rfl) rfl (by decide) (by unfold room; omega)
    have hr2 := Rd.grow (e := 3) (n := out.length + 1) (cs := is out ++ [.int .i64 x]) (rd_ext (ys := [.cells [.int .i64 x] 1 3 false]) h1) fun c hc => hown.lt (.inr (hP c hc))
    have hk2 : Kp (ext m1 [.cells [.int .i64 x] 1 3 false]) (grow (ext m1 [.cells [.int .i64 x] 1 3 false]) v 3 1 (is out ++ [.int .i64 x])) P := ⟨by rw [grow_next]; exact le_nb, fun c hc => grow_old ((rd_ext (ys := [.cells [.int .i64 x] 1 3 false]) h1).plt (.inl hc)) (hown.lt (.inr (hP c hc)))⟩
    have k2 := ((k1.trans (kp_ext h1)).weak fun c hc => .inl hc).trans hk2
    generalize hG : grow _ v 3 1 _ = M2 at ha hown2 hr2 hk2 k2
    clear hG hk2
    rw [next_ext, nb_nb] at ha hown2 hr2
    simp +contextual -implicitDefEqProofs (maxSteps := 1000000) (maxDischargeDepth := 8) only [h0, ha, List.headD_cons, zz0, zz1, zz2, zz3, zz4, zz5, zz6, zz7, zz8, zz9, argsF, reduceIte, reduceCtorEq, Nat.reduceEqDiff, Nat.reduceBEq, Nat.reduceAdd, Int.reduceLT, Int.reduceLE, Int.reduceEq, Int.reduceToNat, Int.reduceNeg, Nat.reduceLeDiff, Int.reducePow, implies_true, UInt8.reduceToNat, Int.reduceSub, Int.reduceAdd, Nat.reduceLT, Nat.reduceMul, Nat.reduceSub, Nat.reduceBNe] at hX
    generalize hC : run U n_expr_Reader_Skip _ _ = C at hX
    obtain ⟨m3, rfl, h3, k3⟩ := skipC ht o2 hr2 hC
    clear hC
    have hown3 : Own m3 (.slice (nb m1.next ([Blk.cells [EV.int .i64 x] 1 3 false].length + 0)) 0 (out.length + 1) none) (is (out ++ [x])) (out ++ [x]).length 1 n0 := by rw [is_snoc, List.length_append]; exact hown2.kp k3 fun c hc => .inr hc
    have k3 := k2.trans (k3.weak fun c hc => .inl hc)
    by_cases hc : s2.is l [44]
    · rw [if_pos hc] at hgo
      have hn := is_lt ht o2.p hc
      have hw : s2.skip l [44] = s2.next := by unfold RS.skip; rw [if_pos hc]
      rw [hw] at h3
      rw [bo_pos hc] at hX
      simp +contextual -implicitDefEqProofs (maxSteps := 1000000) (maxDischargeDepth := 8) only [zz0, zz1, zz2, zz3, zz4, zz5, zz6, zz7, zz8, zz9, argsF, reduceIte, reduceCtorEq, Nat.reduceEqDiff, Nat.reduceBEq, Nat.reduceAdd, Int.reduceLT, Int.reduceLE, Int.reduceEq, Int.reduceToNat, Int.reduceNeg, Nat.reduceLeDiff, Int.reducePow, implies_true, UInt8.reduceToNat, Int.reduceSub, Int.reduceAdd, Nat.reduceLT, Nat.reduceMul, Nat.reduceSub, Nat.reduceBNe] at hX
      subst hL
      have hlt8 := f0 (g.f hc.1)
      obtain ⟨fr', m', v', rfl, q0, q4, qd, qo, qr, qk, qz⟩ := ih2 (out ++ [x]) _ _ _ _ _ n0 P _ _ _ ((Gr.next hn).ok o2) (by have := g.p; simp only [Cmd.rank, RS.next] at *; omega) (by rw [List.length_append]; exact hlt8) hc.1 hgo h3 hP (Nat.le_trans hn0 k3.n) hown3 (by simp only [h0, get_set', selE_t, selE_f, Nat.reduceBEq, set_defers, fr00_get, fr00_defers, put_some, put_none ]) (by simp only [get_set', selE_t, selE_f, Nat.reduceBEq, set_defers, fr00_get, fr00_defers, put_some, put_none ]; rfl) (by simp only [get_set', selE_t, selE_f, Nat.reduceBEq, set_defers, fr00_get, fr00_defers, put_some, put_none ]) (by simp only [hd, get_set', selE_t, selE_f, Nat.reduceBEq, set_defers, fr00_get, fr00_defers, put_some, put_none ]) hX
      exact ⟨fr', m', v', rfl, q0, q4, qd, qo, qr, k3.trans qk, qz⟩
    · rw [if_neg hc] at hgo
      simp only [Option.some.injEq, Prod.mk.injEq] at hgo
      obtain ⟨rfl, rfl⟩ := hgo
      have hw : s2.skip l [44] = s2 := by unfold RS.skip; rw [if_neg hc]
      rw [hw] at h3
      rw [bo_neg hc] at hX
      simp +contextual -implicitDefEqProofs (maxSteps := 1000000) (maxDischargeDepth := 8) only [zz0, zz1, zz2, zz3, zz4, zz5, zz6, zz7, zz8, zz9, argsF, reduceIte, reduceCtorEq, Nat.reduceEqDiff, Nat.reduceBEq, Nat.reduceAdd, Int.reduceLT, Int.reduceLE, Int.reduceEq, Int.reduceToNat, Int.reduceNeg, Nat.reduceLeDiff, Int.reducePow, implies_true, UInt8.reduceToNat, Int.reduceSub, Int.reduceAdd, Nat.reduceLT, Nat.reduceMul, Nat.reduceSub, Nat.reduceBNe] at hX
      subst hL
      rw [exec_loop] at hX
      generalize exec U (.loop F_expr_Reader_arguments_l0) = L at hX
      simp +contextual -implicitDefEqProofs (maxSteps := 1000000) (maxDischargeDepth := 8) only [F_expr_Reader_arguments_l0, h0, hd, zz0, zz1, zz2, zz3, zz4, zz5, zz6, zz7, zz8, zz9, argsF, reduceIte, reduceCtorEq, Nat.reduceEqDiff, Nat.reduceBEq, Nat.reduceAdd, Int.reduceLT, Int.reduceLE, Int.reduceEq, Int.reduceToNat, Int.reduceNeg, Nat.reduceLeDiff, Int.reducePow, implies_true, UInt8.reduceToNat, Int.reduceSub, Int.reduceAdd, Nat.reduceLT, Nat.reduceMul, Nat.reduceSub, Nat.reduceBNe] at hX
      subst hX
      exact ⟨_, _, _, rfl, by simp only [h0, get_set', selE_t, selE_f, Nat.reduceBEq, set_defers, fr00_get, fr00_defers, put_some, put_none ], by simp only [get_set', selE_t, selE_f, Nat.reduceBEq, set_defers, fr00_get, fr00_defers, put_some, put_none ]; rfl, by simp only [hd, get_set', selE_t, selE_f, Nat.reduceBEq, set_defers, fr00_get, fr00_defers, put_some, put_none ], hown3, h3, k3, by simp⟩
  · simp +contextual -implicitDefEqProofs (maxSteps := 1000000) (maxDischargeDepth := 8) only [F_expr_Reader_arguments_l0, h0, h4, h5, hd, hF, h, hfe, hlen, h8, h8', bo_tt, bo_ff, rd_ext, rd_bump, zz0, zz1, zz2, zz3, zz4, zz5, zz6, zz7, zz8, zz9, argsF, reduceIte, reduceCtorEq, Nat.reduceEqDiff, Nat.reduceBEq, Nat.reduceAdd, Int.reduceLT, Int.reduceLE, Int.reduceEq, Int.reduceToNat, Int.reduceNeg, Nat.reduceLeDiff, Int.reducePow, implies_true, UInt8.reduceToNat, Int.reduceSub, Int.reduceAdd, Nat.reduceLT, Nat.reduceMul, Nat.reduceSub, Nat.reduceBNe] at hX
    have RD := rd_bump (k := 0) h
    have KP := kp_bump (k := 0) h
    have oo := o
    have p0 : st.pos = st.pos := rfl
    have f0 : st.fe = 0 → out.length < 8 := fun _ => by omega
    simp only [goF, if_neg h8'] at hgo
    obtain ⟨s2, r2, e, g, ar, _⟩ := go_ok ht k .expr st oo.p (by rw [p0]; simp only [Cmd.rank] at *; omega) trivial
    obtain ⟨x, rfl⟩ := one_of ar
    simp only [e, Option.bind_some] at hgo
    generalize hC : run U n_expr_Reader_Expr _ _ = C at hX
    obtain ⟨m1, rfl, h1, k1⟩ := ih1 _ _ _ _ _ _ _ oo (by rw [p0]; simp only [Cmd.rank] at *; omega) e RD hC
    clear hC
    have k1 := KP.trans k1
    have o2 := g.ok oo
    have hown1 := hown.kp k1 fun c hc => .inr hc
    obtain ⟨ha, hown2⟩ := append_grow (e := 3) (hown1.ext [.cells [.int .i64 x] 1 3 false]) (by rw [next_ext]; have := k1.n; unfold nb; omega) (source_new rfl) rfl (by decide) (by unfold room; omega)
    have hr2 := Rd.grow (e := 3) (n := out.length + 1) (cs := is out ++ [.int .i64 x]) (rd_ext (ys := [.cells [.int .i64 x] 1 3 false]) h1) fun c hc => hown.lt (.inr (hP c hc))
    have hk2 : Kp (ext m1 [.cells [.int .i64 x] 1 3 false]) (grow (ext m1 [.cells [.int .i64 x] 1 3 false]) v 3 1 (is out ++ [.int .i64 x])) P := ⟨by rw [grow_next]; exact le_nb, fun c hc => grow_old ((rd_ext (ys := [.cells [.int .i64 x] 1 3 false]) h1).plt (.inl hc)) (hown.lt (.inr (hP c hc)))⟩
    have k2 := ((k1.trans (kp_ext h1)).weak fun c hc => .inl hc).trans hk2
    generalize hG : grow _ v 3 1 _ = M2 at ha hown2 hr2 hk2 k2
    clear hG hk2
    rw [next_ext, nb_nb] at ha hown2 hr2
    simp +contextual -implicitDefEqProofs (maxSteps := 1000000) (maxDischargeDepth := 8) only [h0, ha, List.headD_cons, zz0, zz1, zz2, zz3, zz4, zz5, zz6, zz7, zz8, zz9, argsF, reduceIte, reduceCtorEq, Nat.reduceEqDiff, Nat.reduceBEq, Nat.reduceAdd, Int.reduceLT, Int.reduceLE, Int.reduceEq, Int.reduceToNat, Int.reduceNeg, Nat.reduceLeDiff, Int.reducePow, implies_true, UInt8.reduceToNat, Int.reduceSub, Int.reduceAdd, Nat.reduceLT, Nat.reduceMul, Nat.reduceSub, Nat.reduceBNe] at hX
    generalize hC : run U n_expr_Reader_Skip _ _ = C at hX
    obtain ⟨m3, rfl, h3, k3⟩ := skipC ht o2 hr2 hC
    clear hC
    have hown3 : Own m3 (.slice (nb m1.next ([Blk.cells [EV.int .i64 x] 1 3 false].length + 0)) 0 (out.length + 1) none) (is (out ++ [x])) (out ++ [x]).length 1 n0 := by rw [is_snoc, List.length_append]; exact hown2.kp k3 fun c hc => .inr hc
    have k3 := k2.trans (k3.weak fun c hc => .inl hc)
    by_cases hc : s2.is l [44]
    · rw [if_pos hc] at hgo
      have hn := is_lt ht o2.p hc
      have hw : s2.skip l [44] = s2.next := by unfold RS.skip; rw [if_pos hc]
      rw [hw] at h3
      rw [bo_pos hc] at hX
      simp +contextual -implicitDefEqProofs (maxSteps := 1000000) (maxDischargeDepth := 8) only [zz0, zz1, zz2, zz3, zz4, zz5, zz6, zz7, zz8, zz9, argsF, reduceIte, reduceCtorEq, Nat.reduceEqDiff, Nat.reduceBEq, Nat.reduceAdd, Int.reduceLT, Int.reduceLE, Int.reduceEq, Int.reduceToNat, Int.reduceNeg, Nat.reduceLeDiff, Int.reducePow, implies_true, UInt8.reduceToNat, Int.reduceSub, Int.reduceAdd, Nat.reduceLT, Nat.reduceMul, Nat.reduceSub, Nat.reduceBNe] at hX
      subst hL
      have hlt8 := f0 (g.f hc.1)
      obtain ⟨fr', m', v', rfl, q0, q4, qd, qo, qr, qk, qz⟩ := ih2 (out ++ [x]) _ _ _ _ _ n0 P _ _ _ ((Gr.next hn).ok o2) (by have := g.p; simp only [Cmd.rank, RS.next] at *; omega) (by rw [List.length_append]; exact hlt8) hc.1 hgo h3 hP (Nat.le_trans hn0 k3.n) hown3 (by simp only [h0, get_set', selE_t, selE_f, Nat.reduceBEq, set_defers, fr00_get, fr00_defers, put_some, put_none ]) (by simp only [get_set', selE_t, selE_f, Nat.reduceBEq, set_defers, fr00_get, fr00_defers, put_some, put_none ]; rfl) (by simp only [get_set', selE_t, selE_f, Nat.reduceBEq, set_defers, fr00_get, fr00_defers, put_some, put_none ]) (by simp only [hd, get_set', selE_t, selE_f, Nat.reduceBEq, set_defers, fr00_get, fr00_defers, put_some, put_none ]) hX
      exact ⟨fr', m', v', rfl, q0, q4, qd, qo, qr, k3.trans qk, qz⟩
    · rw [if_neg hc] at hgo
      simp only [Option.some.injEq, Prod.mk.injEq] at hgo
      obtain ⟨rfl, rfl⟩ := hgo
      have hw : s2.skip l [44] = s2 := by unfold RS.skip; rw [if_neg hc]
      rw [hw] at h3
      rw [bo_neg hc] at hX
      simp +contextual -implicitDefEqProofs (maxSteps := 1000000) (maxDischargeDepth := 8) only [zz0, zz1, zz2, zz3, zz4, zz5, zz6, zz7, zz8, zz9, argsF, reduceIte, reduceCtorEq, Nat.reduceEqDiff, Nat.reduceBEq, Nat.reduceAdd, Int.reduceLT, Int.reduceLE, Int.reduceEq, Int.reduceToNat, Int.reduceNeg, Nat.reduceLeDiff, Int.reducePow, implies_true, UInt8.reduceToNat, Int.reduceSub, Int.reduceAdd, Nat.reduceLT, Nat.reduceMul, Nat.reduceSub, Nat.reduceBNe] at hX
      subst hL
      rw [exec_loop] at hX
      generalize exec U (.loop F_expr_Reader_arguments_l0) = L at hX
      simp +contextual -implicitDefEqProofs (maxSteps := 1000000) (maxDischargeDepth := 8) only [F_expr_Reader_arguments_l0, h0, hd, zz0, zz1, zz2, zz3, zz4, zz5, zz6, zz7, zz8, zz9, argsF, reduceIte, reduceCtorEq, Nat.reduceEqDiff, Nat.reduceBEq, Nat.reduceAdd, Int.reduceLT, Int.reduceLE, Int.reduceEq, Int.reduceToNat, Int.reduceNeg, Nat.reduceLeDiff, Int.reducePow, implies_true, UInt8.reduceToNat, Int.reduceSub, Int.reduceAdd, Nat.reduceLT, Nat.reduceMul, Nat.reduceSub, Nat.reduceBNe] at hX
      subst hX
      exact ⟨_, _, _, rfl, by simp only [h0, get_set', selE_t, selE_f, Nat.reduceBEq, set_defers, fr00_get, fr00_defers, put_some, put_none ], by simp only [get_set', selE_t, selE_f, Nat.reduceBEq, set_defers, fr00_get, fr00_defers, put_some, put_none ]; rfl, by simp only [hd, get_set', selE_t, selE_f, Nat.reduceBEq, set_defers, fr00_get, fr00_defers, put_some, put_none ], hown3, h3, k3, by simp⟩
/-- The arguments of a call. -/
def WArgs (l : List Tok) (tg k : Nat) : Prop := ∀ (st : RS) (m : Mem) (b : Nat) (P : Nat → Prop) (s1 : RS) (r : List Int) (X : Option Fin), StOk l st → 8 * (l.length - st.pos) + Cmd.args.rank < k → goF l k .args st = some (s1, r) → Rd m b tg l st P → run U n_expr_Reader_arguments [.ptr b 0] m = X → ∃ m' v, X = some (.ret v m') ∧ Own m' v (is r) r.length 1 m.next ∧ Rd m' b tg l s1 (Pv P v) ∧ Kp m m' P ∧ (r = [] → v = .nilslice)
omit ht in
theorem Rd.pv {m : Mem} {b : Nat} {st : RS} {P : Nat → Prop} (h : Rd m b tg l st P) : Rd m b tg l st (Pv P .nilslice) := h.weak fun c hc => hc.elim id fun q => absurd Off.nil q
theorem args_walk (ih : WArgsL l tg k) : WArgs l tg (k + 1) := by
  intro st m b P s1 r X o hk hgo h hX
  rw [run_p2 (by simp [F_expr_Reader_arguments])] at hX
  generalize hL : exec (UT B K) (ICode.loop F_expr_Reader_arguments_l0) = L at hX
  have hT := tokenC (b := b) (tg := tg) (P := P) ht o
  simp +contextual -implicitDefEqProofs (maxSteps := 1000000) (maxDischargeDepth := 8) only [F_expr_Reader_arguments, hT, h, rd_ext, rd_bump, zz0, zz1, zz2, zz3, zz4, zz5, zz6, zz7, zz8, zz9, argsF, reduceIte, reduceCtorEq, Nat.reduceEqDiff, Nat.reduceBEq, Nat.reduceAdd, Int.reduceLT, Int.reduceLE, Int.reduceEq, Int.reduceToNat, Int.reduceNeg, Nat.reduceLeDiff, Int.reducePow, implies_true, UInt8.reduceToNat, Int.reduceSub, Int.reduceAdd, Nat.reduceLT, Nat.reduceMul, Nat.reduceSub, Nat.reduceBNe] at hX
  generalize hC : run U n_expr_Reader_Want _ _ = C at hX
  obtain ⟨m1, rfl, h1, k1⟩ := wantC ht o (rd_bump h) hC
  clear hC
  have k1 : Kp m m1 P := (kp_bump h).trans k1
  by_cases ha : st.is l [40]
  · have hn := is_lt ht o.p ha
    have hw : st.want l [40] = st.next := by unfold RS.want; rw [if_pos ha]
    rw [hw] at h1
    have on : StOk l st.next := (Gr.next hn).ok o
    rw [bo_pos ha] at hX
    simp +contextual -implicitDefEqProofs (maxSteps := 1000000) (maxDischargeDepth := 8) only [zz0, zz1, zz2, zz3, zz4, zz5, zz6, zz7, zz8, zz9, argsF, reduceIte, reduceCtorEq, Nat.reduceEqDiff, Nat.reduceBEq, Nat.reduceAdd, Int.reduceLT, Int.reduceLE, Int.reduceEq, Int.reduceToNat, Int.reduceNeg, Nat.reduceLeDiff, Int.reducePow, implies_true, UInt8.reduceToNat, Int.reduceSub, Int.reduceAdd, Nat.reduceLT, Nat.reduceMul, Nat.reduceSub, Nat.reduceBNe] at hX
    generalize hC : run U n_expr_Reader_Open _ _ = C at hX
    obtain ⟨m2, rfl, h2, k2⟩ := openC ht on h1 hC
    clear hC
    have k2 := k1.trans k2
    have go := Gr.open hn (p := ((st.now l).pos : Int))
    have oo := go.ok o
    obtain ⟨o1, o2, o3⟩ := open_pos (st := st.next) (p := ((st.now l).pos : Int))
    simp only [goF, if_pos ha] at hgo
    by_cases hf : (st.next.open (st.now l).pos).fe = 0
    · rw [if_pos hf] at hgo
      rw [bo_pos hf] at hX
      have hk' : 8 * (l.length - (st.next.open (st.now l).pos).pos) + (Cmd.argsL []).rank < k := by rw [o1]; simp only [Cmd.rank, RS.next] at *; omega
      generalize st.next.open (st.now l).pos = so at *
      have hI := isC (b := b) (tg := tg) (P := P) ht oo
      by_cases hb : so.is l [41]
      · rw [if_pos hb] at hgo
        simp only [Option.bind_some, Option.some.injEq, Prod.mk.injEq] at hgo
        obtain ⟨rfl, rfl⟩ := hgo
        simp +contextual -implicitDefEqProofs (maxSteps := 1000000) (maxDischargeDepth := 8) only [hI, h2, hb, bo_tt, zz0, zz1, zz2, zz3, zz4, zz5, zz6, zz7, zz8, zz9, argsF, reduceIte, reduceCtorEq, Nat.reduceEqDiff, Nat.reduceBEq, Nat.reduceAdd, Int.reduceLT, Int.reduceLE, Int.reduceEq, Int.reduceToNat, Int.reduceNeg, Nat.reduceLeDiff, Int.reducePow, implies_true, UInt8.reduceToNat, Int.reduceSub, Int.reduceAdd, Nat.reduceLT, Nat.reduceMul, Nat.reduceSub, Nat.reduceBNe] at hX
        subst hL
        generalize hC : exec _ (.loop F_expr_Reader_arguments_l0) _ _ = C at hX
        rw [exec_loop] at hC
        generalize exec U (.loop F_expr_Reader_arguments_l0) = L at hC
        simp +contextual -implicitDefEqProofs (maxSteps := 1000000) (maxDischargeDepth := 8) only [F_expr_Reader_arguments_l0, zz0, zz1, zz2, zz3, zz4, zz5, zz6, zz7, zz8, zz9, argsF, reduceIte, reduceCtorEq, Nat.reduceEqDiff, Nat.reduceBEq, Nat.reduceAdd, Int.reduceLT, Int.reduceLE, Int.reduceEq, Int.reduceToNat, Int.reduceNeg, Nat.reduceLeDiff, Int.reducePow, implies_true, UInt8.reduceToNat, Int.reduceSub, Int.reduceAdd, Nat.reduceLT, Nat.reduceMul, Nat.reduceSub, Nat.reduceBNe] at hC
        subst hC
        simp +contextual -implicitDefEqProofs (maxSteps := 1000000) (maxDischargeDepth := 8) only [zz0, zz1, zz2, zz3, zz4, zz5, zz6, zz7, zz8, zz9, argsF, reduceIte, reduceCtorEq, Nat.reduceEqDiff, Nat.reduceBEq, Nat.reduceAdd, Int.reduceLT, Int.reduceLE, Int.reduceEq, Int.reduceToNat, Int.reduceNeg, Nat.reduceLeDiff, Int.reducePow, implies_true, UInt8.reduceToNat, Int.reduceSub, Int.reduceAdd, Nat.reduceLT, Nat.reduceMul, Nat.reduceSub, Nat.reduceBNe] at hX
        generalize hC : run U n_expr_Reader_Want _ _ = C at hX
        obtain ⟨m4, rfl, h4, k4⟩ := wantC ht oo (rd_bump h2) hC
        clear hC
        have o4 := (Gr.want ht oo.p (s := [41])).ok oo
        have k4 := (k2.trans (kp_bump h2)).trans k4
        simp +contextual -implicitDefEqProofs (maxSteps := 1000000) (maxDischargeDepth := 8) only [zz0, zz1, zz2, zz3, zz4, zz5, zz6, zz7, zz8, zz9, argsF, reduceIte, reduceCtorEq, Nat.reduceEqDiff, Nat.reduceBEq, Nat.reduceAdd, Int.reduceLT, Int.reduceLE, Int.reduceEq, Int.reduceToNat, Int.reduceNeg, Nat.reduceLeDiff, Int.reducePow, implies_true, UInt8.reduceToNat, Int.reduceSub, Int.reduceAdd, Nat.reduceLT, Nat.reduceMul, Nat.reduceSub, Nat.reduceBNe] at hX
        generalize hC : run U n_expr_Reader_Close _ _ = C at hX
        obtain ⟨m5, rfl, h5, k5⟩ := closeC ht o4 h4 hC
        clear hC
        simp +contextual -implicitDefEqProofs (maxSteps := 1000000) (maxDischargeDepth := 8) only [zz0, zz1, zz2, zz3, zz4, zz5, zz6, zz7, zz8, zz9, argsF, reduceIte, reduceCtorEq, Nat.reduceEqDiff, Nat.reduceBEq, Nat.reduceAdd, Int.reduceLT, Int.reduceLE, Int.reduceEq, Int.reduceToNat, Int.reduceNeg, Nat.reduceLeDiff, Int.reducePow, implies_true, UInt8.reduceToNat, Int.reduceSub, Int.reduceAdd, Nat.reduceLT, Nat.reduceMul, Nat.reduceSub, Nat.reduceBNe] at hX
        subst hX
        exact ⟨_, _, rfl, ⟨.inl ⟨rfl, rfl, rfl⟩, rfl⟩, h5.pv, k4.trans k5, fun _ => rfl⟩
      · rw [if_neg hb] at hgo
        obtain ⟨s2, r2, e, g, a, _⟩ := go_ok ht k (.argsL []) so go.pl hk' (Nat.zero_le _)
        simp only [e, Option.bind_some, Option.some.injEq, Prod.mk.injEq] at hgo
        obtain ⟨rfl, rfl⟩ := hgo
        simp +contextual -implicitDefEqProofs (maxSteps := 1000000) (maxDischargeDepth := 8) only [hI, h2, hb, bo_ff, zz0, zz1, zz2, zz3, zz4, zz5, zz6, zz7, zz8, zz9, argsF, reduceIte, reduceCtorEq, Nat.reduceEqDiff, Nat.reduceBEq, Nat.reduceAdd, Int.reduceLT, Int.reduceLE, Int.reduceEq, Int.reduceToNat, Int.reduceNeg, Nat.reduceLeDiff, Int.reducePow, implies_true, UInt8.reduceToNat, Int.reduceSub, Int.reduceAdd, Nat.reduceLT, Nat.reduceMul, Nat.reduceSub, Nat.reduceBNe] at hX
        subst hL
        generalize hC : exec _ (.loop F_expr_Reader_arguments_l0) _ _ = C at hX
        obtain ⟨fr', m3, v, rfl, q0, q4, qd, qo, qr, qk, qz⟩ := ih [] .nilslice so _ _ b m.next P _ _ _ oo hk' (Nat.zero_le _) hf e (rd_bump h2).pv (fun c hc => h.plt hc) (by rw [next_bump]; exact Nat.le_trans k2.n le_nb) ⟨.inl ⟨rfl, rfl, rfl⟩, rfl⟩ (by simp only [get_set', selE_t, selE_f, Nat.reduceBEq, set_defers, fr00_get, fr00_defers, put_some, put_none ]) (by simp only [get_set', selE_t, selE_f, Nat.reduceBEq, set_defers, fr00_get, fr00_defers, put_some, put_none ]) (by simp only [get_set', selE_t, selE_f, Nat.reduceBEq, set_defers, fr00_get, fr00_defers, put_some, put_none ]) (by simp only [get_set', selE_t, selE_f, Nat.reduceBEq, set_defers, fr00_get, fr00_defers, put_some, put_none ]) hC
        clear hC
        have k3 := (k2.trans (kp_bump h2)).trans qk
        have o3' := g.ok oo
        simp +contextual -implicitDefEqProofs (maxSteps := 1000000) (maxDischargeDepth := 8) only [q0, q4, qd, zz0, zz1, zz2, zz3, zz4, zz5, zz6, zz7, zz8, zz9, argsF, reduceIte, reduceCtorEq, Nat.reduceEqDiff, Nat.reduceBEq, Nat.reduceAdd, Int.reduceLT, Int.reduceLE, Int.reduceEq, Int.reduceToNat, Int.reduceNeg, Nat.reduceLeDiff, Int.reducePow, implies_true, UInt8.reduceToNat, Int.reduceSub, Int.reduceAdd, Nat.reduceLT, Nat.reduceMul, Nat.reduceSub, Nat.reduceBNe] at hX
        generalize hC : run U n_expr_Reader_Want _ _ = C at hX
        obtain ⟨m4, rfl, h4, k4⟩ := wantC ht o3' qr hC
        clear hC
        have o4 := (Gr.want ht o3'.p (s := [41])).ok o3'
        have w4 := qo.kp k4 fun c hc => .inr hc
        have k4 := k3.trans (k4.weak fun c hc => .inl hc)
        simp +contextual -implicitDefEqProofs (maxSteps := 1000000) (maxDischargeDepth := 8) only [q0, q4, qd, zz0, zz1, zz2, zz3, zz4, zz5, zz6, zz7, zz8, zz9, argsF, reduceIte, reduceCtorEq, Nat.reduceEqDiff, Nat.reduceBEq, Nat.reduceAdd, Int.reduceLT, Int.reduceLE, Int.reduceEq, Int.reduceToNat, Int.reduceNeg, Nat.reduceLeDiff, Int.reducePow, implies_true, UInt8.reduceToNat, Int.reduceSub, Int.reduceAdd, Nat.reduceLT, Nat.reduceMul, Nat.reduceSub, Nat.reduceBNe] at hX
        generalize hC : run U n_expr_Reader_Close _ _ = C at hX
        obtain ⟨m5, rfl, h5, k5⟩ := closeC ht o4 h4 hC
        clear hC
        have w5 := w4.kp k5 fun c hc => .inr hc
        simp +contextual -implicitDefEqProofs (maxSteps := 1000000) (maxDischargeDepth := 8) only [q0, q4, qd, zz0, zz1, zz2, zz3, zz4, zz5, zz6, zz7, zz8, zz9, argsF, reduceIte, reduceCtorEq, Nat.reduceEqDiff, Nat.reduceBEq, Nat.reduceAdd, Int.reduceLT, Int.reduceLE, Int.reduceEq, Int.reduceToNat, Int.reduceNeg, Nat.reduceLeDiff, Int.reducePow, implies_true, UInt8.reduceToNat, Int.reduceSub, Int.reduceAdd, Nat.reduceLT, Nat.reduceMul, Nat.reduceSub, Nat.reduceBNe] at hX
        subst hX
        exact ⟨_, _, rfl, w5, h5, k4.trans (k5.weak fun c hc => .inl hc), fun q => absurd q qz⟩
    · rw [if_neg hf] at hgo
      rw [bo_neg hf] at hX
      simp only [Option.some.injEq, Prod.mk.injEq] at hgo
      obtain ⟨rfl, rfl⟩ := hgo
      simp +contextual -implicitDefEqProofs (maxSteps := 1000000) (maxDischargeDepth := 8) only [zz0, zz1, zz2, zz3, zz4, zz5, zz6, zz7, zz8, zz9, argsF, reduceIte, reduceCtorEq, Nat.reduceEqDiff, Nat.reduceBEq, Nat.reduceAdd, Int.reduceLT, Int.reduceLE, Int.reduceEq, Int.reduceToNat, Int.reduceNeg, Nat.reduceLeDiff, Int.reducePow, implies_true, UInt8.reduceToNat, Int.reduceSub, Int.reduceAdd, Nat.reduceLT, Nat.reduceMul, Nat.reduceSub, Nat.reduceBNe] at hX
      subst hX
      exact ⟨_, _, rfl, ⟨.inl ⟨rfl, rfl, rfl⟩, rfl⟩, h2.pv, k2, fun _ => rfl⟩
  · have hw : st.want l [40] = st.fail 8 (st.now l).pos := by unfold RS.want; rw [if_neg ha]
    rw [hw] at h1
    simp only [goF, if_neg ha, Option.some.injEq, Prod.mk.injEq] at hgo
    obtain ⟨rfl, rfl⟩ := hgo
    rw [bo_neg ha] at hX
    simp +contextual -implicitDefEqProofs (maxSteps := 1000000) (maxDischargeDepth := 8) only [zz0, zz1, zz2, zz3, zz4, zz5, zz6, zz7, zz8, zz9, argsF, reduceIte, reduceCtorEq, Nat.reduceEqDiff, Nat.reduceBEq, Nat.reduceAdd, Int.reduceLT, Int.reduceLE, Int.reduceEq, Int.reduceToNat, Int.reduceNeg, Nat.reduceLeDiff, Int.reducePow, implies_true, UInt8.reduceToNat, Int.reduceSub, Int.reduceAdd, Nat.reduceLT, Nat.reduceMul, Nat.reduceSub, Nat.reduceBNe] at hX
    subst hX
    exact ⟨_, _, rfl, ⟨.inl ⟨rfl, rfl, rfl⟩, rfl⟩, h1.pv, k1, fun _ => rfl⟩
/-- A call: its arguments, and the node. -/
theorem call_walk (ih : WArgs l tg k) {s : Txt} {p : Int} {st : RS} {m : Mem} {b : Nat} {P : Nat → Prop} {s1 : RS} {r : List Int} {X : Option Fin} (o : StOk l st) (hk : 8 * (l.length - st.pos) + Cmd.args.rank < k) (hgo : goF l k .args st = some (s1, r)) (h : Rd m b tg l st P) (hX : run U n_expr_Reader_Call [.ptr b 0, .str s, .int .i64 p] m = X) : ∃ m', X = some (.ret (.int .i64 (s1.putR (nd 11 r 0 s p))) m') ∧ Rd m' b tg l (s1.put (nd 11 r 0 s p)) P ∧ Kp m m' P := by
  obtain ⟨s2, r2, e, g, a, _⟩ := go_ok ht k .args st o.p hk trivial
  rw [hgo] at e
  obtain ⟨rfl, rfl⟩ := Prod.mk.injEq _ _ _ _ ▸ Option.some.inj e
  rw [run_p2 (by simp [F_expr_Reader_Call])] at hX
  simp +contextual -implicitDefEqProofs (maxSteps := 1000000) (maxDischargeDepth := 8) only [F_expr_Reader_Call, zz0, zz1, zz2, zz3, zz4, zz5, zz6, zz7, zz8, zz9, argsF, reduceIte, reduceCtorEq, Nat.reduceEqDiff, Nat.reduceBEq, Nat.reduceAdd, Int.reduceLT, Int.reduceLE, Int.reduceEq, Int.reduceToNat, Int.reduceNeg, Nat.reduceLeDiff, Int.reducePow, implies_true, UInt8.reduceToNat, Int.reduceSub, Int.reduceAdd, Nat.reduceLT, Nat.reduceMul, Nat.reduceSub, Nat.reduceBNe] at hX
  generalize hC : run U n_expr_Reader_arguments _ _ = C at hX
  obtain ⟨m1, v, rfl, qo, q1, k1, qz⟩ := ih _ _ _ _ _ _ _ o hk hgo h hC
  clear hC
  have hvc : v.cells = some [v] := by rcases qo.is with ⟨rfl, _⟩ | ⟨_, _, _, rfl, _⟩ <;> rfl
  simp +contextual -implicitDefEqProofs (maxSteps := 1000000) (maxDischargeDepth := 8) only [hvc, zz0, zz1, zz2, zz3, zz4, zz5, zz6, zz7, zz8, zz9, argsF, reduceIte, reduceCtorEq, Nat.reduceEqDiff, Nat.reduceBEq, Nat.reduceAdd, Int.reduceLT, Int.reduceLE, Int.reduceEq, Int.reduceToNat, Int.reduceNeg, Nat.reduceLeDiff, Int.reducePow, implies_true, UInt8.reduceToNat, Int.reduceSub, Int.reduceAdd, Nat.reduceLT, Nat.reduceMul, Nat.reduceSub, Nat.reduceBNe] at hX
  generalize hC : run U n_expr_Reader_Put _ _ = C at hX
  obtain ⟨m5, rfl, h5, k5⟩ := putC (P := P) (kids := r) ht (g.ok o) q1 (by have : r.length ≤ 9 := a; omega) qo.lo0 (fun c hc => .inr hc) (fun c hc => ⟨.inl hc, qo.lt (.inr (h.plt hc))⟩) qz hC
  clear hC
  simp +contextual -implicitDefEqProofs (maxSteps := 1000000) (maxDischargeDepth := 8) only [zz0, zz1, zz2, zz3, zz4, zz5, zz6, zz7, zz8, zz9, argsF, reduceIte, reduceCtorEq, Nat.reduceEqDiff, Nat.reduceBEq, Nat.reduceAdd, Int.reduceLT, Int.reduceLE, Int.reduceEq, Int.reduceToNat, Int.reduceNeg, Nat.reduceLeDiff, Int.reducePow, implies_true, UInt8.reduceToNat, Int.reduceSub, Int.reduceAdd, Nat.reduceLT, Nat.reduceMul, Nat.reduceSub, Nat.reduceBNe] at hX
  subst hX
  exact ⟨_, rfl, h5, k1.trans k5⟩
end
end Go.Proofs.Ytjgbofonigpjaaa.Ev
end
section
namespace Go.Proofs.Ytjgbofonigpjaaa.Ev
open Go
set_option linter.unusedSimpArgs false
set_option linter.unusedVariables false
set_option maxRecDepth 10000
set_option maxHeartbeats 4000000
theorem RdV.next {m : Mem} {b tg : Nat} {l : List Tok} {st : RS} {P : Nat → Prop} {tv hv : EV} {xs : List Nv} (h : RdV m b tg l st P tv hv xs) : Rd (m.set b (.cells [.fz tg 4 (toks l), .int .i64 ((st.pos + 1 : Nat) : Int), .int .i64 st.deep, tv, hv, .int .i64 st.fe, .int .i64 st.fp] 7 t_expr_Reader false)) b tg l st.next P ∧ Kp m (m.set b (.cells [.fz tg 4 (toks l), .int .i64 ((st.pos + 1 : Nat) : Int), .int .i64 st.deep, tv, hv, .int .i64 st.fe, .int .i64 st.fp] 7 t_expr_Reader false)) P := by
  have u : Upd m (m.set b (.cells (rdCells tg l st.next tv hv) 7 t_expr_Reader false)) b (.cells (rdCells tg l st.next tv hv) 7 t_expr_Reader false) := .set (Nat.le_refl _) fun _ _ _ => rfl
  exact ⟨⟨tv, hv, xs, h.upd rfl rfl u⟩, h.kp u⟩
/-- A block of the caller's is written. -/
theorem Rd.poke {m : Mem} {b tg : Nat} {l : List Tok} {st : RS} {P : Nat → Prop} (h : Rd m b tg l st P) {c0 : Nat} (hp : P c0) (B : Blk) : Rd (m.set c0 B) b tg l st P := by
  obtain ⟨tv, hv, xs, h⟩ := h
  have f := (h.p c0 hp).2
  have fk := h.pk c0 hp
  have key : ∀ c, c ≠ c0 → (m.set c0 B).get c = m.get c := fun c hc => get_set_ne hc
  exact ⟨tv, hv, xs, (key b (fun q => f.ne q.symm)).trans h.g, h.lt, h.t.keep' (Nat.le_refl _) fun c _ _ ho => key c fun q => ho (q ▸ f.t), h.h.keep' (Nat.le_refl _) fun c _ _ ho => key c fun q => ho (q ▸ f.h), h.a, h.x, h.hl, fun x hx => ⟨(h.k x hx).o.keep' (Nat.le_refl _) fun c _ _ ho => key c fun q => ho (q ▸ fk x hx), (h.k x hx).f, (h.k x hx).nl, (h.k x hx).z⟩, h.p, h.pk⟩
section
variable {l : List Tok} {tg : Nat} (ht : TokOk l) {k : Nat}
include ht
theorem atom_walk (ih1 : WInt l tg n_expr_Reader_Inner [.str [40], .str [41]] k (.inner [40] [41])) (ih2 : WArgs l tg k) : WInt l tg n_expr_Reader_atom [] (k + 1) .atom := by
  intro st m b P s1 r X o hk hgo h hX
  rw [run_p2 (by simp [F_expr_Reader_atom])] at hX
  have hT := tokenC (b := b) (tg := tg) (P := P) ht o
  have hF := fineC (b := b) (tg := tg) (l := l) (st := st) (P := P)
  have hI := isC (b := b) (tg := tg) (P := P) ht o
  have hlt := h.lt
  by_cases hfe : st.fe = 0
  · have b1 := bo_pos hfe
    by_cases hp : st.is l [40]
    · have b2 := bo_pos hp
      simp +contextual -implicitDefEqProofs (maxSteps := 1000000) (maxDischargeDepth := 8) only [F_expr_Reader_atom, hT, hF, hI, h, b1, b2, rd_ext, rd_bump, zz0, zz1, zz2, zz3, zz4, zz5, zz6, zz7, zz8, zz9, argsF, reduceIte, reduceCtorEq, Nat.reduceEqDiff, Nat.reduceBEq, Nat.reduceAdd, Int.reduceLT, Int.reduceLE, Int.reduceEq, Int.reduceToNat, Int.reduceNeg, Nat.reduceLeDiff, Int.reducePow, implies_true, UInt8.reduceToNat, Int.reduceSub, Int.reduceAdd, Nat.reduceLT, Nat.reduceMul, Nat.reduceSub, Nat.reduceBNe] at hX
      simp only [goF, hfe, not_true_eq_false, if_false, if_pos hp] at hgo
      generalize hC : run U n_expr_Reader_Inner _ _ = C at hX
      have kp : Kp m (bump (bump (ext (bump m 19) [.cells [.int .i64 ((st.now l).kind : Int), .str (st.now l).text, .int .i64 ((st.now l).n : Int), .int .i64 ((st.now l).pos : Int)] 4 38 false]) 0) 20) P := h.kp (by simp +contextual -implicitDefEqProofs (maxSteps := 1000000) (maxDischargeDepth := 8) only [le_nb, zz0, zz1, zz2, zz3, zz4, zz5, argsF, reduceIte, reduceCtorEq, Nat.reduceEqDiff, Nat.reduceBEq, Nat.reduceAdd, Int.reduceLT, Int.reduceLE, Int.reduceEq, Int.reduceToNat, Int.reduceNeg, Nat.reduceLeDiff, Int.reducePow, implies_true, UInt8.reduceToNat, Int.reduceSub, Int.reduceAdd, Nat.reduceLT, Nat.reduceMul, Nat.reduceSub]) (fun c hc => by simp +contextual -implicitDefEqProofs (maxSteps := 1000000) (maxDischargeDepth := 8) only [hc, zz0, zz1, zz2, zz3, zz4, zz5, argsF, reduceIte, reduceCtorEq, Nat.reduceEqDiff, Nat.reduceBEq, Nat.reduceAdd, Int.reduceLT, Int.reduceLE, Int.reduceEq, Int.reduceToNat, Int.reduceNeg, Nat.reduceLeDiff, Int.reducePow, implies_true, UInt8.reduceToNat, Int.reduceSub, Int.reduceAdd, Nat.reduceLT, Nat.reduceMul, Nat.reduceSub])
      obtain ⟨m1, rfl, h1, k1⟩ := ih1 _ _ _ P _ _ _ o (by simp only [Cmd.rank] at *; omega) hgo (by simp (maxDischargeDepth := 20) only [rd_ext, rd_bump, h]) hC
      clear hC
      simp +contextual -implicitDefEqProofs (maxSteps := 1000000) (maxDischargeDepth := 8) only [zz0, zz1, zz2, zz3, zz4, zz5, zz6, zz7, zz8, zz9, argsF, reduceIte, reduceCtorEq, Nat.reduceEqDiff, Nat.reduceBEq, Nat.reduceAdd, Int.reduceLT, Int.reduceLE, Int.reduceEq, Int.reduceToNat, Int.reduceNeg, Nat.reduceLeDiff, Int.reducePow, implies_true, UInt8.reduceToNat, Int.reduceSub, Int.reduceAdd, Nat.reduceLT, Nat.reduceMul, Nat.reduceSub, Nat.reduceBNe] at hX
      subst hX
      exact ⟨_, rfl, h1, kp.trans k1⟩
    · have b2 := bo_neg hp
      by_cases q2 : (st.now l).kind = 2
      · have b3 : bo (((st.now l).kind : Int) = 2) = .bool true := bo_pos (by omega)
        have hn := next_lt ht o.p (by omega)
        have on : StOk l st.next := (Gr.next hn).ok o
        simp only [goF, hfe, not_true_eq_false, if_false, if_neg hp, if_pos q2, Option.some.injEq, Prod.mk.injEq] at hgo
        obtain ⟨rfl, rfl⟩ := hgo
        clear q2
        obtain ⟨tv, hv, xs, h⟩ := h
        have hr : Rd m b tg l st P := ⟨tv, hv, xs, h⟩
        have hg := h.g
        have hw := wrap_succ (i := st.pos) (by have := o.p; have := ht.lt; omega)
        obtain ⟨hnx, knx⟩ := h.next
        simp +contextual -implicitDefEqProofs (maxSteps := 1000000) (maxDischargeDepth := 8) only [F_expr_Reader_atom, hT, hF, hI, hr, b1, b2, b3, rd_ext, rd_bump, hg, hlt, hw, zz0, zz1, zz2, zz3, zz4, zz5, zz6, zz7, zz8, zz9, argsF, reduceIte, reduceCtorEq, Nat.reduceEqDiff, Nat.reduceBEq, Nat.reduceAdd, Int.reduceLT, Int.reduceLE, Int.reduceEq, Int.reduceToNat, Int.reduceNeg, Nat.reduceLeDiff, Int.reducePow, implies_true, UInt8.reduceToNat, Int.reduceSub, Int.reduceAdd, Nat.reduceLT, Nat.reduceMul, Nat.reduceSub, Nat.reduceBNe] at hX
        generalize m.set b _ = m' at *
        generalize hC : run U n_expr_Reader_Put _ _ = C at hX
        have RD : Rd (bump (bump (ext (bump m' 19) [.cells [.int .i64 ((st.now l).kind : Int), .str (st.now l).text, .int .i64 ((st.now l).n : Int), .int .i64 ((st.now l).pos : Int)] 4 38 false]) 0) 20) b tg l st.next P := by simp (maxDischargeDepth := 20) only [rd_ext, rd_bump, hnx]
        have kp : Kp m' (bump (bump (ext (bump m' 19) [.cells [.int .i64 ((st.now l).kind : Int), .str (st.now l).text, .int .i64 ((st.now l).n : Int), .int .i64 ((st.now l).pos : Int)] 4 38 false]) 0) 20) P := hnx.kp (by simp +contextual -implicitDefEqProofs (maxSteps := 1000000) (maxDischargeDepth := 8) only [le_nb, zz0, zz1, zz2, zz3, zz4, zz5, argsF, reduceIte, reduceCtorEq, Nat.reduceEqDiff, Nat.reduceBEq, Nat.reduceAdd, Int.reduceLT, Int.reduceLE, Int.reduceEq, Int.reduceToNat, Int.reduceNeg, Nat.reduceLeDiff, Int.reducePow, implies_true, UInt8.reduceToNat, Int.reduceSub, Int.reduceAdd, Nat.reduceLT, Nat.reduceMul, Nat.reduceSub]) (fun c hc => by simp +contextual -implicitDefEqProofs (maxSteps := 1000000) (maxDischargeDepth := 8) only [hc, zz0, zz1, zz2, zz3, zz4, zz5, argsF, reduceIte, reduceCtorEq, Nat.reduceEqDiff, Nat.reduceBEq, Nat.reduceAdd, Int.reduceLT, Int.reduceLE, Int.reduceEq, Int.reduceToNat, Int.reduceNeg, Nat.reduceLeDiff, Int.reducePow, implies_true, UInt8.reduceToNat, Int.reduceSub, Int.reduceAdd, Nat.reduceLT, Nat.reduceMul, Nat.reduceSub])
        obtain ⟨m5, rfl, h5, k5⟩ := putC (P := P) (Q := P) (kids := []) ht on RD (by simp) ⟨.inl ⟨rfl, rfl, rfl⟩, rfl⟩ (fun c hc => absurd Off.nil hc) (fun c hc => ⟨hc, Off.nil⟩) (fun _ => rfl) hC
        clear hC
        simp +contextual -implicitDefEqProofs (maxSteps := 1000000) (maxDischargeDepth := 8) only [zz0, zz1, zz2, zz3, zz4, zz5, zz6, zz7, zz8, zz9, argsF, reduceIte, reduceCtorEq, Nat.reduceEqDiff, Nat.reduceBEq, Nat.reduceAdd, Int.reduceLT, Int.reduceLE, Int.reduceEq, Int.reduceToNat, Int.reduceNeg, Nat.reduceLeDiff, Int.reducePow, implies_true, UInt8.reduceToNat, Int.reduceSub, Int.reduceAdd, Nat.reduceLT, Nat.reduceMul, Nat.reduceSub, Nat.reduceBNe] at hX
        subst hX
        exact ⟨_, rfl, h5, (knx.trans kp).trans k5⟩
      · have b3 : bo (((st.now l).kind : Int) = 2) = .bool false := bo_neg (by omega)
        by_cases q1 : (st.now l).kind = 1
        · have b4 : bo (((st.now l).kind : Int) = 1) = .bool true := bo_pos (by omega)
          have hn := next_lt ht o.p (by omega)
          have on : StOk l st.next := (Gr.next hn).ok o
          simp only [goF, hfe, not_true_eq_false, if_false, if_neg hp, if_neg q2, if_pos q1] at hgo
          clear q2 q1
          obtain ⟨tv, hv, xs, h⟩ := h
          have hr : Rd m b tg l st P := ⟨tv, hv, xs, h⟩
          have hg := h.g
          have hw := wrap_succ (i := st.pos) (by have := o.p; have := ht.lt; omega)
          obtain ⟨hnx, knx⟩ := h.next
          simp +contextual -implicitDefEqProofs (maxSteps := 1000000) (maxDischargeDepth := 8) only [F_expr_Reader_atom, hT, hF, hI, hr, b1, b2, b3, b4, rd_ext, rd_bump, hg, hlt, hw, zz0, zz1, zz2, zz3, zz4, zz5, zz6, zz7, zz8, zz9, argsF, reduceIte, reduceCtorEq, Nat.reduceEqDiff, Nat.reduceBEq, Nat.reduceAdd, Int.reduceLT, Int.reduceLE, Int.reduceEq, Int.reduceToNat, Int.reduceNeg, Nat.reduceLeDiff, Int.reducePow, implies_true, UInt8.reduceToNat, Int.reduceSub, Int.reduceAdd, Nat.reduceLT, Nat.reduceMul, Nat.reduceSub, Nat.reduceBNe] at hX
          have hlt' : b < (m.set b (.cells [.fz tg 4 (toks l), .int .i64 ((st.pos + 1 : Nat) : Int), .int .i64 st.deep, tv, hv, .int .i64 st.fe, .int .i64 st.fp] 7 t_expr_Reader false)).next := hlt
          have hmn : (m.set b (.cells [.fz tg 4 (toks l), .int .i64 ((st.pos + 1 : Nat) : Int), .int .i64 st.deep, tv, hv, .int .i64 st.fe, .int .i64 st.fp] 7 t_expr_Reader false)).next = m.next := rfl
          generalize m.set b _ = m' at *
          have hI' := isC (b := b) (tg := tg) (P := P) ht on
          have RD : Rd (bump (bump (bump (ext (bump m' 19) [.cells [.int .i64 ((st.now l).kind : Int), .str (st.now l).text, .int .i64 ((st.now l).n : Int), .int .i64 ((st.now l).pos : Int)] 4 38 false]) 0) 20) 20) b tg l st.next P := by simp (maxDischargeDepth := 20) only [rd_ext, rd_bump, hnx]
          have kp : Kp m' (bump (bump (bump (ext (bump m' 19) [.cells [.int .i64 ((st.now l).kind : Int), .str (st.now l).text, .int .i64 ((st.now l).n : Int), .int .i64 ((st.now l).pos : Int)] 4 38 false]) 0) 20) 20) P := hnx.kp (by simp +contextual -implicitDefEqProofs (maxSteps := 1000000) (maxDischargeDepth := 8) only [le_nb, zz0, zz1, zz2, zz3, zz4, zz5, argsF, reduceIte, reduceCtorEq, Nat.reduceEqDiff, Nat.reduceBEq, Nat.reduceAdd, Int.reduceLT, Int.reduceLE, Int.reduceEq, Int.reduceToNat, Int.reduceNeg, Nat.reduceLeDiff, Int.reducePow, implies_true, UInt8.reduceToNat, Int.reduceSub, Int.reduceAdd, Nat.reduceLT, Nat.reduceMul, Nat.reduceSub]) (fun c hc => by simp +contextual -implicitDefEqProofs (maxSteps := 1000000) (maxDischargeDepth := 8) only [hc, zz0, zz1, zz2, zz3, zz4, zz5, argsF, reduceIte, reduceCtorEq, Nat.reduceEqDiff, Nat.reduceBEq, Nat.reduceAdd, Int.reduceLT, Int.reduceLE, Int.reduceEq, Int.reduceToNat, Int.reduceNeg, Nat.reduceLeDiff, Int.reducePow, implies_true, UInt8.reduceToNat, Int.reduceSub, Int.reduceAdd, Nat.reduceLT, Nat.reduceMul, Nat.reduceSub])
          by_cases hq : st.next.is l [40]
          · have b5 := bo_pos hq
            rw [if_pos hq] at hgo
            have hk' : 8 * (l.length - st.next.pos) + Cmd.args.rank < k := by simp only [Cmd.rank, RS.next] at *; omega
            obtain ⟨s2, r2, e, g, a, _⟩ := go_ok ht k .args st.next on.p hk' trivial
            simp only [e, Option.bind_some, Option.some.injEq, Prod.mk.injEq] at hgo
            obtain ⟨rfl, rfl⟩ := hgo
            simp +contextual -implicitDefEqProofs (maxSteps := 1000000) (maxDischargeDepth := 8) only [hI', hnx, b5, rd_ext, rd_bump, hmn, zz0, zz1, zz2, zz3, zz4, zz5, zz6, zz7, zz8, zz9, argsF, reduceIte, reduceCtorEq, Nat.reduceEqDiff, Nat.reduceBEq, Nat.reduceAdd, Int.reduceLT, Int.reduceLE, Int.reduceEq, Int.reduceToNat, Int.reduceNeg, Nat.reduceLeDiff, Int.reducePow, implies_true, UInt8.reduceToNat, Int.reduceSub, Int.reduceAdd, Nat.reduceLT, Nat.reduceMul, Nat.reduceSub, Nat.reduceBNe] at hX
            generalize hC : run U n_expr_Reader_Call _ _ = C at hX
            obtain ⟨m5, rfl, h5, k5⟩ := call_walk (P := P) ht ih2 on hk' e RD hC
            clear hC
            simp +contextual -implicitDefEqProofs (maxSteps := 1000000) (maxDischargeDepth := 8) only [zz0, zz1, zz2, zz3, zz4, zz5, zz6, zz7, zz8, zz9, argsF, reduceIte, reduceCtorEq, Nat.reduceEqDiff, Nat.reduceBEq, Nat.reduceAdd, Int.reduceLT, Int.reduceLE, Int.reduceEq, Int.reduceToNat, Int.reduceNeg, Nat.reduceLeDiff, Int.reducePow, implies_true, UInt8.reduceToNat, Int.reduceSub, Int.reduceAdd, Nat.reduceLT, Nat.reduceMul, Nat.reduceSub, Nat.reduceBNe] at hX
            subst hX
            exact ⟨_, rfl, h5, (knx.trans kp).trans k5⟩
          · have b5 := bo_neg hq
            rw [if_neg hq] at hgo
            simp only [Option.some.injEq, Prod.mk.injEq] at hgo
            obtain ⟨rfl, rfl⟩ := hgo
            simp +contextual -implicitDefEqProofs (maxSteps := 1000000) (maxDischargeDepth := 8) only [hI', hnx, b5, rd_ext, rd_bump, hmn, zz0, zz1, zz2, zz3, zz4, zz5, zz6, zz7, zz8, zz9, argsF, reduceIte, reduceCtorEq, Nat.reduceEqDiff, Nat.reduceBEq, Nat.reduceAdd, Int.reduceLT, Int.reduceLE, Int.reduceEq, Int.reduceToNat, Int.reduceNeg, Nat.reduceLeDiff, Int.reducePow, implies_true, UInt8.reduceToNat, Int.reduceSub, Int.reduceAdd, Nat.reduceLT, Nat.reduceMul, Nat.reduceSub, Nat.reduceBNe] at hX
            generalize hC : run U n_expr_Reader_Put _ _ = C at hX
            obtain ⟨m5, rfl, h5, k5⟩ := putC (P := P) (Q := P) (kids := []) ht on RD (by simp) ⟨.inl ⟨rfl, rfl, rfl⟩, rfl⟩ (fun c hc => absurd Off.nil hc) (fun c hc => ⟨hc, Off.nil⟩) (fun _ => rfl) hC
            clear hC
            simp +contextual -implicitDefEqProofs (maxSteps := 1000000) (maxDischargeDepth := 8) only [zz0, zz1, zz2, zz3, zz4, zz5, zz6, zz7, zz8, zz9, argsF, reduceIte, reduceCtorEq, Nat.reduceEqDiff, Nat.reduceBEq, Nat.reduceAdd, Int.reduceLT, Int.reduceLE, Int.reduceEq, Int.reduceToNat, Int.reduceNeg, Nat.reduceLeDiff, Int.reducePow, implies_true, UInt8.reduceToNat, Int.reduceSub, Int.reduceAdd, Nat.reduceLT, Nat.reduceMul, Nat.reduceSub, Nat.reduceBNe] at hX
            subst hX
            exact ⟨_, rfl, h5, (knx.trans kp).trans k5⟩
        · have b4 : bo (((st.now l).kind : Int) = 1) = .bool false := bo_neg (by omega)
          --BEGIN
          have n0 : nb m.next 19 < (bump (bump (ext (bump m 19) [.cells [.int .i64 ((st.now l).kind : Int), .str (st.now l).text, .int .i64 ((st.now l).n : Int), .int .i64 ((st.now l).pos : Int)] 4 38 false]) 0) 20).next := by simp only [next_bump, next_ext, nb_nb]; unfold nb; simp
          have h0 : Rd (bump (bump (ext (bump m 19) [.cells [.int .i64 ((st.now l).kind : Int), .str (st.now l).text, .int .i64 ((st.now l).n : Int), .int .i64 ((st.now l).pos : Int)] 4 38 false]) 0) 20) b tg l st (Pr P m.next (nb m.next (19 + 1))) := by
            exact rd_bump (rd_bump (h.box 19 [.cells [.int .i64 ((st.now l).kind : Int), .str (st.now l).text, .int .i64 ((st.now l).n : Int), .int .i64 ((st.now l).pos : Int)] 4 38 false]))
          have kp : Kp m (bump (bump (ext (bump m 19) [.cells [.int .i64 ((st.now l).kind : Int), .str (st.now l).text, .int .i64 ((st.now l).n : Int), .int .i64 ((st.now l).pos : Int)] 4 38 false]) 0) 20) P := h.kp (by simp +contextual -implicitDefEqProofs (maxSteps := 1000000) (maxDischargeDepth := 8) only [le_nb, zz0, zz1, zz2, zz3, zz4, zz5, argsF, reduceIte, reduceCtorEq, Nat.reduceEqDiff, Nat.reduceBEq, Nat.reduceAdd, Int.reduceLT, Int.reduceLE, Int.reduceEq, Int.reduceToNat, Int.reduceNeg, Nat.reduceLeDiff, Int.reducePow, implies_true, UInt8.reduceToNat, Int.reduceSub, Int.reduceAdd, Nat.reduceLT, Nat.reduceMul, Nat.reduceSub]) (fun c hc => by simp +contextual -implicitDefEqProofs (maxSteps := 1000000) (maxDischargeDepth := 8) only [hc, zz0, zz1, zz2, zz3, zz4, zz5, argsF, reduceIte, reduceCtorEq, Nat.reduceEqDiff, Nat.reduceBEq, Nat.reduceAdd, Int.reduceLT, Int.reduceLE, Int.reduceEq, Int.reduceToNat, Int.reduceNeg, Nat.reduceLeDiff, Int.reducePow, implies_true, UInt8.reduceToNat, Int.reduceSub, Int.reduceAdd, Nat.reduceLT, Nat.reduceMul, Nat.reduceSub])
          have p0 : Pr P m.next (nb m.next (19 + 1)) (nb m.next 19) := pr_of (by decide)
          have b0 : (bump (bump (ext (bump m 19) [.cells [.int .i64 ((st.now l).kind : Int), .str (st.now l).text, .int .i64 ((st.now l).n : Int), .int .i64 ((st.now l).pos : Int)] 4 38 false]) 0) 20).get (nb m.next 19) = .cells [.int .i64 ((st.now l).kind : Int), .str (st.now l).text, .int .i64 ((st.now l).n : Int), .int .i64 ((st.now l).pos : Int)] 4 38 false := by
            rw [get_bump, get_bump, ← Nat.add_zero 19, ← nb_nb]
            exact (get_ext_nb (m := bump m 19) (i := 0) rfl (by simp)).trans rfl
          have k0 : Kp (bump (bump (ext (bump m 19) [.cells [.int .i64 ((st.now l).kind : Int), .str (st.now l).text, .int .i64 ((st.now l).n : Int), .int .i64 ((st.now l).pos : Int)] 4 38 false]) 0) 20) (bump (bump (ext (bump m 19) [.cells [.int .i64 ((st.now l).kind : Int), .str (st.now l).text, .int .i64 ((st.now l).n : Int), .int .i64 ((st.now l).pos : Int)] 4 38 false]) 0) 20) (Pr P m.next (nb m.next (19 + 1))) := ⟨Nat.le_refl _, fun _ _ => rfl⟩
          simp +contextual -implicitDefEqProofs (maxSteps := 1000000) (maxDischargeDepth := 8) only [F_expr_Reader_atom, hT, hF, hI, h, b1, b2, b3, b4, rd_ext, rd_bump, zz0, zz1, zz2, zz3, zz4, zz5, zz6, zz7, zz8, zz9, argsF, reduceIte, reduceCtorEq, Nat.reduceEqDiff, Nat.reduceBEq, Nat.reduceAdd, Int.reduceLT, Int.reduceLE, Int.reduceEq, Int.reduceToNat, Int.reduceNeg, Nat.reduceLeDiff, Int.reducePow, implies_true, UInt8.reduceToNat, Int.reduceSub, Int.reduceAdd, Nat.reduceLT, Nat.reduceMul, Nat.reduceSub, Nat.reduceBNe] at hX
          clear b1 b2 b3 b4
          generalize hC : run U n_expr_Reader_Skip _ _ = C at hX
          obtain ⟨m1, rfl, h1, k1⟩ := skipC ht o h0 hC
          clear hC
          have b1 := (k1.k _ p0).trans b0
          have k1 := k0.trans k1
          have n1 := Nat.lt_of_lt_of_le n0 k1.n
          by_cases w0 : st.is l [116, 114, 117, 101]
          · have hn := is_lt ht o.p w0
            have hw : st.skip l [116, 114, 117, 101] = st.next := by unfold RS.skip; rw [if_pos w0]
            rw [hw] at h1
            have on : StOk l st.next := (Gr.next hn).ok o
            rw [bo_pos w0] at hX
            simp +contextual -implicitDefEqProofs (maxSteps := 1000000) (maxDischargeDepth := 8) only [b1, n1, zz0, zz1, zz2, zz3, zz4, zz5, zz6, zz7, zz8, zz9, argsF, reduceIte, reduceCtorEq, Nat.reduceEqDiff, Nat.reduceBEq, Nat.reduceAdd, Int.reduceLT, Int.reduceLE, Int.reduceEq, Int.reduceToNat, Int.reduceNeg, Nat.reduceLeDiff, Int.reducePow, implies_true, UInt8.reduceToNat, Int.reduceSub, Int.reduceAdd, Nat.reduceLT, Nat.reduceMul, Nat.reduceSub, Nat.reduceBNe] at hX
            simp only [goF, hfe, not_true_eq_false, if_false, if_neg hp, if_neg q2, if_neg q1, if_pos w0, Option.some.injEq, Prod.mk.injEq] at hgo
            obtain ⟨rfl, rfl⟩ := hgo
            generalize hC : run U n_expr_Reader_Put _ _ = C at hX
            obtain ⟨m5, rfl, h5, k5⟩ := putC (P := P) (kids := []) ht on h1 (by simp) ⟨.inl ⟨rfl, rfl, rfl⟩, rfl⟩ (fun c hc => absurd Off.nil hc) (fun c hc => ⟨.inl hc, Off.nil⟩) (fun _ => rfl) hC
            clear hC
            simp +contextual -implicitDefEqProofs (maxSteps := 1000000) (maxDischargeDepth := 8) only [zz0, zz1, zz2, zz3, zz4, zz5, zz6, zz7, zz8, zz9, argsF, reduceIte, reduceCtorEq, Nat.reduceEqDiff, Nat.reduceBEq, Nat.reduceAdd, Int.reduceLT, Int.reduceLE, Int.reduceEq, Int.reduceToNat, Int.reduceNeg, Nat.reduceLeDiff, Int.reducePow, implies_true, UInt8.reduceToNat, Int.reduceSub, Int.reduceAdd, Nat.reduceLT, Nat.reduceMul, Nat.reduceSub, Nat.reduceBNe] at hX
            subst hX
            exact ⟨_, rfl, h5, kp.trans ((k1.weak fun c hc => .inl hc).trans k5)⟩
          · have hw : st.skip l [116, 114, 117, 101] = st := by unfold RS.skip; rw [if_neg w0]
            rw [hw] at h1
            rw [bo_neg w0] at hX
            simp +contextual -implicitDefEqProofs (maxSteps := 1000000) (maxDischargeDepth := 8) only [b1, n1, zz0, zz1, zz2, zz3, zz4, zz5, zz6, zz7, zz8, zz9, argsF, reduceIte, reduceCtorEq, Nat.reduceEqDiff, Nat.reduceBEq, Nat.reduceAdd, Int.reduceLT, Int.reduceLE, Int.reduceEq, Int.reduceToNat, Int.reduceNeg, Nat.reduceLeDiff, Int.reducePow, implies_true, UInt8.reduceToNat, Int.reduceSub, Int.reduceAdd, Nat.reduceLT, Nat.reduceMul, Nat.reduceSub, Nat.reduceBNe] at hX
            clear h0 b0 k0
            have h0 := h1
            have b0 := b1
            have k0 := k1
            clear h1 b1 k1 n1
            generalize hC : run U n_expr_Reader_Skip _ _ = C at hX
            obtain ⟨m2, rfl, h1, k1⟩ := skipC ht o h0 hC
            clear hC
            have b1 := (k1.k _ p0).trans b0
            have k1 := k0.trans k1
            have n1 := Nat.lt_of_lt_of_le n0 k1.n
            by_cases w1 : st.is l [102, 97, 108, 115, 101]
            · have hn := is_lt ht o.p w1
              have hw : st.skip l [102, 97, 108, 115, 101] = st.next := by unfold RS.skip; rw [if_pos w1]
              rw [hw] at h1
              have on : StOk l st.next := (Gr.next hn).ok o
              rw [bo_pos w1] at hX
              simp +contextual -implicitDefEqProofs (maxSteps := 1000000) (maxDischargeDepth := 8) only [b1, n1, zz0, zz1, zz2, zz3, zz4, zz5, zz6, zz7, zz8, zz9, argsF, reduceIte, reduceCtorEq, Nat.reduceEqDiff, Nat.reduceBEq, Nat.reduceAdd, Int.reduceLT, Int.reduceLE, Int.reduceEq, Int.reduceToNat, Int.reduceNeg, Nat.reduceLeDiff, Int.reducePow, implies_true, UInt8.reduceToNat, Int.reduceSub, Int.reduceAdd, Nat.reduceLT, Nat.reduceMul, Nat.reduceSub, Nat.reduceBNe] at hX
              simp only [goF, hfe, not_true_eq_false, if_false, if_neg hp, if_neg q2, if_neg q1, if_neg w0, if_pos w1, Option.some.injEq, Prod.mk.injEq] at hgo
              obtain ⟨rfl, rfl⟩ := hgo
              generalize hC : run U n_expr_Reader_Put _ _ = C at hX
              obtain ⟨m5, rfl, h5, k5⟩ := putC (P := P) (kids := []) ht on h1 (by simp) ⟨.inl ⟨rfl, rfl, rfl⟩, rfl⟩ (fun c hc => absurd Off.nil hc) (fun c hc => ⟨.inl hc, Off.nil⟩) (fun _ => rfl) hC
              clear hC
              simp +contextual -implicitDefEqProofs (maxSteps := 1000000) (maxDischargeDepth := 8) only [zz0, zz1, zz2, zz3, zz4, zz5, zz6, zz7, zz8, zz9, argsF, reduceIte, reduceCtorEq, Nat.reduceEqDiff, Nat.reduceBEq, Nat.reduceAdd, Int.reduceLT, Int.reduceLE, Int.reduceEq, Int.reduceToNat, Int.reduceNeg, Nat.reduceLeDiff, Int.reducePow, implies_true, UInt8.reduceToNat, Int.reduceSub, Int.reduceAdd, Nat.reduceLT, Nat.reduceMul, Nat.reduceSub, Nat.reduceBNe] at hX
              subst hX
              exact ⟨_, rfl, h5, kp.trans ((k1.weak fun c hc => .inl hc).trans k5)⟩
            · have hw : st.skip l [102, 97, 108, 115, 101] = st := by unfold RS.skip; rw [if_neg w1]
              rw [hw] at h1
              rw [bo_neg w1] at hX
              simp +contextual -implicitDefEqProofs (maxSteps := 1000000) (maxDischargeDepth := 8) only [b1, n1, zz0, zz1, zz2, zz3, zz4, zz5, zz6, zz7, zz8, zz9, argsF, reduceIte, reduceCtorEq, Nat.reduceEqDiff, Nat.reduceBEq, Nat.reduceAdd, Int.reduceLT, Int.reduceLE, Int.reduceEq, Int.reduceToNat, Int.reduceNeg, Nat.reduceLeDiff, Int.reducePow, implies_true, UInt8.reduceToNat, Int.reduceSub, Int.reduceAdd, Nat.reduceLT, Nat.reduceMul, Nat.reduceSub, Nat.reduceBNe] at hX
              clear h0 b0 k0
              have h0 := h1
              have b0 := b1
              have k0 := k1
              clear h1 b1 k1 n1
              generalize hC : run U n_expr_Reader_Skip _ _ = C at hX
              obtain ⟨m3, rfl, h1, k1⟩ := skipC ht o h0 hC
              clear hC
              have b1 := (k1.k _ p0).trans b0
              have k1 := k0.trans k1
              have n1 := Nat.lt_of_lt_of_le n0 k1.n
              by_cases w2 : st.is l [110, 105, 108]
              · have hn := is_lt ht o.p w2
                have hw : st.skip l [110, 105, 108] = st.next := by unfold RS.skip; rw [if_pos w2]
                rw [hw] at h1
                have on : StOk l st.next := (Gr.next hn).ok o
                rw [bo_pos w2] at hX
                simp +contextual -implicitDefEqProofs (maxSteps := 1000000) (maxDischargeDepth := 8) only [b1, n1, zz0, zz1, zz2, zz3, zz4, zz5, zz6, zz7, zz8, zz9, argsF, reduceIte, reduceCtorEq, Nat.reduceEqDiff, Nat.reduceBEq, Nat.reduceAdd, Int.reduceLT, Int.reduceLE, Int.reduceEq, Int.reduceToNat, Int.reduceNeg, Nat.reduceLeDiff, Int.reducePow, implies_true, UInt8.reduceToNat, Int.reduceSub, Int.reduceAdd, Nat.reduceLT, Nat.reduceMul, Nat.reduceSub, Nat.reduceBNe] at hX
                simp only [goF, hfe, not_true_eq_false, if_false, if_neg hp, if_neg q2, if_neg q1, if_neg w0, if_neg w1, if_pos w2, Option.some.injEq, Prod.mk.injEq] at hgo
                obtain ⟨rfl, rfl⟩ := hgo
                generalize hC : run U n_expr_Reader_Put _ _ = C at hX
                obtain ⟨m5, rfl, h5, k5⟩ := putC (P := P) (kids := []) ht on h1 (by simp) ⟨.inl ⟨rfl, rfl, rfl⟩, rfl⟩ (fun c hc => absurd Off.nil hc) (fun c hc => ⟨.inl hc, Off.nil⟩) (fun _ => rfl) hC
                clear hC
                simp +contextual -implicitDefEqProofs (maxSteps := 1000000) (maxDischargeDepth := 8) only [zz0, zz1, zz2, zz3, zz4, zz5, zz6, zz7, zz8, zz9, argsF, reduceIte, reduceCtorEq, Nat.reduceEqDiff, Nat.reduceBEq, Nat.reduceAdd, Int.reduceLT, Int.reduceLE, Int.reduceEq, Int.reduceToNat, Int.reduceNeg, Nat.reduceLeDiff, Int.reducePow, implies_true, UInt8.reduceToNat, Int.reduceSub, Int.reduceAdd, Nat.reduceLT, Nat.reduceMul, Nat.reduceSub, Nat.reduceBNe] at hX
                subst hX
                exact ⟨_, rfl, h5, kp.trans ((k1.weak fun c hc => .inl hc).trans k5)⟩
              · have hw : st.skip l [110, 105, 108] = st := by unfold RS.skip; rw [if_neg w2]
                rw [hw] at h1
                rw [bo_neg w2] at hX
                simp +contextual -implicitDefEqProofs (maxSteps := 1000000) (maxDischargeDepth := 8) only [b1, n1, zz0, zz1, zz2, zz3, zz4, zz5, zz6, zz7, zz8, zz9, argsF, reduceIte, reduceCtorEq, Nat.reduceEqDiff, Nat.reduceBEq, Nat.reduceAdd, Int.reduceLT, Int.reduceLE, Int.reduceEq, Int.reduceToNat, Int.reduceNeg, Nat.reduceLeDiff, Int.reducePow, implies_true, UInt8.reduceToNat, Int.reduceSub, Int.reduceAdd, Nat.reduceLT, Nat.reduceMul, Nat.reduceSub, Nat.reduceBNe] at hX
                clear h0 b0 k0
                have h0 := h1
                have b0 := b1
                have k0 := k1
                clear h1 b1 k1 n1
                generalize hC : run U n_expr_Reader_Skip _ _ = C at hX
                obtain ⟨m4, rfl, h1, k1⟩ := skipC ht o h0 hC
                clear hC
                have b1 := (k1.k _ p0).trans b0
                have k1 := k0.trans k1
                have n1 := Nat.lt_of_lt_of_le n0 k1.n
                by_cases w3 : st.is l [108, 101, 110]
                · have hn := is_lt ht o.p w3
                  have hw : st.skip l [108, 101, 110] = st.next := by unfold RS.skip; rw [if_pos w3]
                  rw [hw] at h1
                  have on : StOk l st.next := (Gr.next hn).ok o
                  rw [bo_pos w3] at hX
                  simp +contextual -implicitDefEqProofs (maxSteps := 1000000) (maxDischargeDepth := 8) only [b1, n1, zz0, zz1, zz2, zz3, zz4, zz5, zz6, zz7, zz8, zz9, argsF, reduceIte, reduceCtorEq, Nat.reduceEqDiff, Nat.reduceBEq, Nat.reduceAdd, Int.reduceLT, Int.reduceLE, Int.reduceEq, Int.reduceToNat, Int.reduceNeg, Nat.reduceLeDiff, Int.reducePow, implies_true, UInt8.reduceToNat, Int.reduceSub, Int.reduceAdd, Nat.reduceLT, Nat.reduceMul, Nat.reduceSub, Nat.reduceBNe] at hX
                  simp only [goF, hfe, not_true_eq_false, if_false, if_neg hp, if_neg q2, if_neg q1, if_neg w0, if_neg w1, if_neg w2, if_pos w3] at hgo
                  have hb := h1.grown (M := bump m4 9) (by rw [next_bump]; exact le_nb) (fun _ _ => rfl)
                  have hk' : 8 * (l.length - st.next.pos) + (Cmd.inner [40] [41]).rank < k := by simp only [Cmd.rank, RS.next] at *; omega
                  obtain ⟨s2, r2, e, g, ar, _⟩ := go_ok ht k (.inner [40] [41]) st.next on.p hk' trivial
                  obtain ⟨x, rfl⟩ := one_of ar
                  simp only [e, Option.bind_some, Option.some.injEq, Prod.mk.injEq] at hgo
                  obtain ⟨rfl, rfl⟩ := hgo
                  generalize hC : run U n_expr_Reader_Inner _ _ = C at hX
                  obtain ⟨m7, rfl, h7, k7⟩ := ih1 _ _ _ _ _ _ _ on hk' e hb hC
                  clear hC
                  have b7 := (k7.k _ (.inl p0)).trans b1
                  have hM : ∀ B, Mem.mk m7.next (ext (Mem.mk (m4.next + 3) m7.tbl) [B]).tbl = m7.set (m4.next + 3) B := fun _ => rfl
                  have hne : nb m.next 19 ≠ m4.next + 3 := by omega
                  have k7n : m4.next + 9 ≤ m7.next := k7.n
                  have hn3 : m4.next + 3 < m7.next := by omega
                  have pc : Pr (Pr P m.next (nb m.next (19 + 1))) m4.next (bump m4 9).next (m4.next + 3) := .inr ⟨by omega, by rw [next_bump]; unfold nb; omega⟩
                  have h8 := h7.poke pc (.cells [.int .i64 x] 1 3 false)
                  simp +contextual -implicitDefEqProofs (maxSteps := 1000000) (maxDischargeDepth := 8) only [b7, hM, hne, hn3, List.headD_cons, zz0, zz1, zz2, zz3, zz4, zz5, zz6, zz7, zz8, zz9, argsF, reduceIte, reduceCtorEq, Nat.reduceEqDiff, Nat.reduceBEq, Nat.reduceAdd, Int.reduceLT, Int.reduceLE, Int.reduceEq, Int.reduceToNat, Int.reduceNeg, Nat.reduceLeDiff, Int.reducePow, implies_true, UInt8.reduceToNat, Int.reduceSub, Int.reduceAdd, Nat.reduceLT, Nat.reduceMul, Nat.reduceSub, Nat.reduceBNe] at hX
                  generalize hC : run U n_expr_Reader_Put _ _ = C at hX
                  obtain ⟨m8, rfl, h9, k9⟩ := putC (P := Pr P m.next (nb m.next (19 + 1))) (kids := [x]) ht (g.ok on) h8 (by simp) ⟨.inr ⟨_, _, _, rfl, Nat.zero_le _, hn3, get_set_eq, .inr rfl⟩, rfl⟩ (fun c hc => by rw [notOff_slice hc]; exact pc) (fun c hc => ⟨.inl hc, Off.of (by have := h1.plt hc; omega)⟩) (by simp) hC
                  clear hC
                  have kq : Kp m7 (m7.set (m4.next + 3) (.cells [.int .i64 x] 1 3 false)) (Pr P m.next (nb m.next (19 + 1))) := ⟨Nat.le_refl _, fun c hc => get_set_ne (by have := h1.plt hc; omega)⟩
                  simp +contextual -implicitDefEqProofs (maxSteps := 1000000) (maxDischargeDepth := 8) only [zz0, zz1, zz2, zz3, zz4, zz5, zz6, zz7, zz8, zz9, argsF, reduceIte, reduceCtorEq, Nat.reduceEqDiff, Nat.reduceBEq, Nat.reduceAdd, Int.reduceLT, Int.reduceLE, Int.reduceEq, Int.reduceToNat, Int.reduceNeg, Nat.reduceLeDiff, Int.reducePow, implies_true, UInt8.reduceToNat, Int.reduceSub, Int.reduceAdd, Nat.reduceLT, Nat.reduceMul, Nat.reduceSub, Nat.reduceBNe] at hX
                  subst hX
                  exact ⟨_, rfl, h9.weak fun c hc => .inl hc, kp.trans ((((k1.trans (kp_bump h1)).trans (k7.weak fun c hc => .inl hc)).trans (kq.trans k9)).weak fun c hc => .inl hc)⟩
                · have hw : st.skip l [108, 101, 110] = st := by unfold RS.skip; rw [if_neg w3]
                  rw [hw] at h1
                  rw [bo_neg w3] at hX
                  simp +contextual -implicitDefEqProofs (maxSteps := 1000000) (maxDischargeDepth := 8) only [b1, n1, zz0, zz1, zz2, zz3, zz4, zz5, zz6, zz7, zz8, zz9, argsF, reduceIte, reduceCtorEq, Nat.reduceEqDiff, Nat.reduceBEq, Nat.reduceAdd, Int.reduceLT, Int.reduceLE, Int.reduceEq, Int.reduceToNat, Int.reduceNeg, Nat.reduceLeDiff, Int.reducePow, implies_true, UInt8.reduceToNat, Int.reduceSub, Int.reduceAdd, Nat.reduceLT, Nat.reduceMul, Nat.reduceSub, Nat.reduceBNe] at hX
                  clear h0 b0 k0
                  have h0 := h1
                  have b0 := b1
                  have k0 := k1
                  clear h1 b1 k1 n1
                  generalize hC : run U n_expr_Reader_Skip _ _ = C at hX
                  obtain ⟨m5, rfl, h1, k1⟩ := skipC ht o h0 hC
                  clear hC
                  have b1 := (k1.k _ p0).trans b0
                  have k1 := k0.trans k1
                  have n1 := Nat.lt_of_lt_of_le n0 k1.n
                  by_cases w4 : st.is l [110, 101, 119]
                  · have hn := is_lt ht o.p w4
                    have hw : st.skip l [110, 101, 119] = st.next := by unfold RS.skip; rw [if_pos w4]
                    rw [hw] at h1
                    have on : StOk l st.next := (Gr.next hn).ok o
                    rw [bo_pos w4] at hX
                    simp +contextual -implicitDefEqProofs (maxSteps := 1000000) (maxDischargeDepth := 8) only [b1, n1, zz0, zz1, zz2, zz3, zz4, zz5, zz6, zz7, zz8, zz9, argsF, reduceIte, reduceCtorEq, Nat.reduceEqDiff, Nat.reduceBEq, Nat.reduceAdd, Int.reduceLT, Int.reduceLE, Int.reduceEq, Int.reduceToNat, Int.reduceNeg, Nat.reduceLeDiff, Int.reducePow, implies_true, UInt8.reduceToNat, Int.reduceSub, Int.reduceAdd, Nat.reduceLT, Nat.reduceMul, Nat.reduceSub, Nat.reduceBNe] at hX
                    simp only [goF, hfe, not_true_eq_false, if_false, if_neg hp, if_neg q2, if_neg q1, if_neg w0, if_neg w1, if_neg w2, if_neg w3, if_pos w4] at hgo
                    have hb := h1.grown (M := bump m5 9) (by rw [next_bump]; exact le_nb) (fun _ _ => rfl)
                    have hk' : 8 * (l.length - st.next.pos) + (Cmd.inner [40] [41]).rank < k := by simp only [Cmd.rank, RS.next] at *; omega
                    obtain ⟨s2, r2, e, g, ar, _⟩ := go_ok ht k (.inner [40] [41]) st.next on.p hk' trivial
                    obtain ⟨x, rfl⟩ := one_of ar
                    simp only [e, Option.bind_some, Option.some.injEq, Prod.mk.injEq] at hgo
                    obtain ⟨rfl, rfl⟩ := hgo
                    generalize hC : run U n_expr_Reader_Inner _ _ = C at hX
                    obtain ⟨m7, rfl, h7, k7⟩ := ih1 _ _ _ _ _ _ _ on hk' e hb hC
                    clear hC
                    have b7 := (k7.k _ (.inl p0)).trans b1
                    have hM : ∀ B, Mem.mk m7.next (ext (Mem.mk (m5.next + 3) m7.tbl) [B]).tbl = m7.set (m5.next + 3) B := fun _ => rfl
                    have hne : nb m.next 19 ≠ m5.next + 3 := by omega
                    have k7n : m5.next + 9 ≤ m7.next := k7.n
                    have hn3 : m5.next + 3 < m7.next := by omega
                    have pc : Pr (Pr P m.next (nb m.next (19 + 1))) m5.next (bump m5 9).next (m5.next + 3) := .inr ⟨by omega, by rw [next_bump]; unfold nb; omega⟩
                    have h8 := h7.poke pc (.cells [.int .i64 x] 1 3 false)
                    simp +contextual -implicitDefEqProofs (maxSteps := 1000000) (maxDischargeDepth := 8) only [b7, hM, hne, hn3, List.headD_cons, zz0, zz1, zz2, zz3, zz4, zz5, zz6, zz7, zz8, zz9, argsF, reduceIte, reduceCtorEq, Nat.reduceEqDiff, Nat.reduceBEq, Nat.reduceAdd, Int.reduceLT, Int.reduceLE, Int.reduceEq, Int.reduceToNat, Int.reduceNeg, Nat.reduceLeDiff, Int.reducePow, implies_true, UInt8.reduceToNat, Int.reduceSub, Int.reduceAdd, Nat.reduceLT, Nat.reduceMul, Nat.reduceSub, Nat.reduceBNe] at hX
                    generalize hC : run U n_expr_Reader_Put _ _ = C at hX
                    obtain ⟨m8, rfl, h9, k9⟩ := putC (P := Pr P m.next (nb m.next (19 + 1))) (kids := [x]) ht (g.ok on) h8 (by simp) ⟨.inr ⟨_, _, _, rfl, Nat.zero_le _, hn3, get_set_eq, .inr rfl⟩, rfl⟩ (fun c hc => by rw [notOff_slice hc]; exact pc) (fun c hc => ⟨.inl hc, Off.of (by have := h1.plt hc; omega)⟩) (by simp) hC
                    clear hC
                    have kq : Kp m7 (m7.set (m5.next + 3) (.cells [.int .i64 x] 1 3 false)) (Pr P m.next (nb m.next (19 + 1))) := ⟨Nat.le_refl _, fun c hc => get_set_ne (by have := h1.plt hc; omega)⟩
                    simp +contextual -implicitDefEqProofs (maxSteps := 1000000) (maxDischargeDepth := 8) only [zz0, zz1, zz2, zz3, zz4, zz5, zz6, zz7, zz8, zz9, argsF, reduceIte, reduceCtorEq, Nat.reduceEqDiff, Nat.reduceBEq, Nat.reduceAdd, Int.reduceLT, Int.reduceLE, Int.reduceEq, Int.reduceToNat, Int.reduceNeg, Nat.reduceLeDiff, Int.reducePow, implies_true, UInt8.reduceToNat, Int.reduceSub, Int.reduceAdd, Nat.reduceLT, Nat.reduceMul, Nat.reduceSub, Nat.reduceBNe] at hX
                    subst hX
                    exact ⟨_, rfl, h9.weak fun c hc => .inl hc, kp.trans ((((k1.trans (kp_bump h1)).trans (k7.weak fun c hc => .inl hc)).trans (kq.trans k9)).weak fun c hc => .inl hc)⟩
                  · have hw : st.skip l [110, 101, 119] = st := by unfold RS.skip; rw [if_neg w4]
                    rw [hw] at h1
                    rw [bo_neg w4] at hX
                    simp +contextual -implicitDefEqProofs (maxSteps := 1000000) (maxDischargeDepth := 8) only [b1, n1, zz0, zz1, zz2, zz3, zz4, zz5, zz6, zz7, zz8, zz9, argsF, reduceIte, reduceCtorEq, Nat.reduceEqDiff, Nat.reduceBEq, Nat.reduceAdd, Int.reduceLT, Int.reduceLE, Int.reduceEq, Int.reduceToNat, Int.reduceNeg, Nat.reduceLeDiff, Int.reducePow, implies_true, UInt8.reduceToNat, Int.reduceSub, Int.reduceAdd, Nat.reduceLT, Nat.reduceMul, Nat.reduceSub, Nat.reduceBNe] at hX
                    clear h0 b0 k0
                    have h0 := h1
                    have b0 := b1
                    have k0 := k1
                    clear h1 b1 k1 n1
                    simp only [goF, hfe, not_true_eq_false, if_false, if_neg hp, if_neg q2, if_neg q1, if_neg w0, if_neg w1, if_neg w2, if_neg w3, if_neg w4, Option.some.injEq, Prod.mk.injEq] at hgo
                    obtain ⟨rfl, rfl⟩ := hgo
                    generalize hC : run U n_expr_Reader_Fail _ _ = C at hX
                    obtain ⟨m5, rfl, h5, k5⟩ := failC h0 hC
                    clear hC
                    simp +contextual -implicitDefEqProofs (maxSteps := 1000000) (maxDischargeDepth := 8) only [zz0, zz1, zz2, zz3, zz4, zz5, zz6, zz7, zz8, zz9, argsF, reduceIte, reduceCtorEq, Nat.reduceEqDiff, Nat.reduceBEq, Nat.reduceAdd, Int.reduceLT, Int.reduceLE, Int.reduceEq, Int.reduceToNat, Int.reduceNeg, Nat.reduceLeDiff, Int.reducePow, implies_true, UInt8.reduceToNat, Int.reduceSub, Int.reduceAdd, Nat.reduceLT, Nat.reduceMul, Nat.reduceSub, Nat.reduceBNe] at hX
                    subst hX
                    exact ⟨_, rfl, h5.weak fun c hc => .inl hc, kp.trans ((k0.trans k5).weak fun c hc => .inl hc)⟩
          --END
  · have b1 := bo_neg hfe
    have kp : Kp m (bump (ext (bump m 19) [.cells [.int .i64 ((st.now l).kind : Int), .str (st.now l).text, .int .i64 ((st.now l).n : Int), .int .i64 ((st.now l).pos : Int)] 4 38 false]) 0) P := h.kp (by simp +contextual -implicitDefEqProofs (maxSteps := 1000000) (maxDischargeDepth := 8) only [le_nb, zz0, zz1, zz2, zz3, zz4, zz5, argsF, reduceIte, reduceCtorEq, Nat.reduceEqDiff, Nat.reduceBEq, Nat.reduceAdd, Int.reduceLT, Int.reduceLE, Int.reduceEq, Int.reduceToNat, Int.reduceNeg, Nat.reduceLeDiff, Int.reducePow, implies_true, UInt8.reduceToNat, Int.reduceSub, Int.reduceAdd, Nat.reduceLT, Nat.reduceMul, Nat.reduceSub]) (fun c hc => by simp +contextual -implicitDefEqProofs (maxSteps := 1000000) (maxDischargeDepth := 8) only [hc, zz0, zz1, zz2, zz3, zz4, zz5, argsF, reduceIte, reduceCtorEq, Nat.reduceEqDiff, Nat.reduceBEq, Nat.reduceAdd, Int.reduceLT, Int.reduceLE, Int.reduceEq, Int.reduceToNat, Int.reduceNeg, Nat.reduceLeDiff, Int.reducePow, implies_true, UInt8.reduceToNat, Int.reduceSub, Int.reduceAdd, Nat.reduceLT, Nat.reduceMul, Nat.reduceSub])
    simp +contextual -implicitDefEqProofs (maxSteps := 1000000) (maxDischargeDepth := 8) only [F_expr_Reader_atom, hT, hF, hI, h, b1, rd_ext, rd_bump, zz0, zz1, zz2, zz3, zz4, zz5, zz6, zz7, zz8, zz9, argsF, reduceIte, reduceCtorEq, Nat.reduceEqDiff, Nat.reduceBEq, Nat.reduceAdd, Int.reduceLT, Int.reduceLE, Int.reduceEq, Int.reduceToNat, Int.reduceNeg, Nat.reduceLeDiff, Int.reducePow, implies_true, UInt8.reduceToNat, Int.reduceSub, Int.reduceAdd, Nat.reduceLT, Nat.reduceMul, Nat.reduceSub, Nat.reduceBNe] at hX
    subst hX
    simp only [goF, hfe, not_false_eq_true, if_true, Option.some.injEq, Prod.mk.injEq] at hgo
    obtain ⟨rfl, rfl⟩ := hgo
    exact ⟨_, rfl, by simp (maxDischargeDepth := 20) only [rd_ext, rd_bump, h], kp⟩
end
end Go.Proofs.Ytjgbofonigpjaaa.Ev
end
section
namespace Go.Proofs.Ytjgbofonigpjaaa.Ev
open Go
set_option linter.unusedSimpArgs false
set_option linter.unusedVariables false
set_option maxRecDepth 10000
set_option maxHeartbeats 4000000
/-- The loop of climb. -/
def WClimbL (l : List Tok) (tg k : Nat) : Prop := ∀ (least most left : Int) (st : RS) (fr : Fr) (m : Mem) (b : Nat) (P : Nat → Prop) (s1 : RS) (r : List Int) (X : Option Out), StOk l st → 8 * (l.length - st.pos) + (Cmd.climbL least most left).rank < k → goF l k (.climbL least most left) st = some (s1, r) → Rd m b tg l st P → fr.get 0 = .ptr b 0 → fr.get 1 = .int .i64 least → fr.get 5 = .int .i64 left → fr.get 6 = .int .i64 most → fr.defers = [] → exec U (.loop F_expr_Reader_climb_l0) fr m = X → ∃ fr' m', X = some (.exit 0 fr' m') ∧ fr'.get 5 = .int .i64 (r.headD 0) ∧ fr'.defers = [] ∧ Rd m' b tg l s1 P ∧ Kp m m' P
section
variable {l : List Tok} {tg : Nat} (ht : TokOk l) {k : Nat}
include ht
theorem climb_loop (ih1 : ∀ n : Int, WInt l tg n_expr_Reader_climb [.int .i64 n] k (.climb n)) (ih2 : WClimbL l tg k) : WClimbL l tg (k + 1) := by
  intro least most left st fr m b P s1 r X o hk hgo h h0 h1 h5 h6 hd hX
  rw [exec_loop] at hX
  generalize hL : exec U (.loop F_expr_Reader_climb_l0) = L at hX
  have hT := tokenC (b := b) (tg := tg) (P := P) ht o
  have hF := fineC (b := b) (tg := tg) (l := l) (st := st) (P := P)
  have hlt := h.lt
  by_cases hfe : st.fe = 0
  · have b1 := bo_pos hfe
    have hop := ops_eq (st.now l).text
    have hk4 : (((st.now l).kind : Int) = 4) = ((st.now l).kind = 4) := propext (by omega)
    have hle := opsF_le (st.now l).text
    simp only [goF, hfe, true_and] at hgo
    generalize hO : opsF (st.now l).text = O at *
    obtain ⟨o1, o2⟩ := O
    simp only at hgo hle hop
    have w1 : IntKind.i64.wrap (o1 + 1) = o1 + 1 := wrap_i64 (by omega) (by omega)
    have w2 : IntKind.i64.wrap (o1 - 1) = o1 - 1 := wrap_i64 (by omega) (by omega)
    obtain ⟨tv, hv, xs, h⟩ := h
    have hr : Rd m b tg l st P := ⟨tv, hv, xs, h⟩
    have hg := h.g
    have hw := wrap_succ (i := st.pos) (by have := o.p; have := ht.lt; omega)
    obtain ⟨hnx, knx⟩ := h.next
    have hcp : copies 2 [EV.int .i64 0] = [EV.int .i64 0, EV.int .i64 0] := rfl
    simp +contextual -implicitDefEqProofs (maxSteps := 1000000) (maxDischargeDepth := 8) only [F_expr_Reader_climb_l0, h0, h1, h5, h6, hd, hT, hF, hr, b1, hop, hk4, w1, w2, hlt, hg, hw, hcp, evOp_bsliceN, bsF_some, rd_ext, rd_bump, zz0, zz1, zz2, zz3, zz4, zz5, zz6, zz7, zz8, zz9, argsF, reduceIte, reduceCtorEq, Nat.reduceEqDiff, Nat.reduceBEq, Nat.reduceAdd, Int.reduceLT, Int.reduceLE, Int.reduceEq, Int.reduceToNat, Int.reduceNeg, Nat.reduceLeDiff, Int.reducePow, implies_true, UInt8.reduceToNat, Int.reduceSub, Int.reduceAdd, Nat.reduceLT, Nat.reduceMul, Nat.reduceSub, Nat.reduceBNe] at hX
    by_cases hc : ((((st.now l).kind ≠ 4 ∨ o2 = 0) ∨ o1 < least) ∨ most < o1)
    · simp only [hc, not_true_eq_false, if_false, Option.some.injEq, Prod.mk.injEq] at hgo
      obtain ⟨rfl, rfl⟩ := hgo
      rw [iF_pos hc] at hX
      subst hX
      have kp : Kp m (ext (bump (bump m 0) 19) [.cells [.int .i64 ((st.now l).kind : Int), .str (st.now l).text, .int .i64 ((st.now l).n : Int), .int .i64 ((st.now l).pos : Int)] 4 38 false, .cells [.int .i64 o1, .int .i64 o2] 2 73 false]) P := hr.kp (by simp +contextual -implicitDefEqProofs (maxSteps := 1000000) (maxDischargeDepth := 8) only [le_nb, zz0, zz1, zz2, zz3, zz4, zz5, argsF, reduceIte, reduceCtorEq, Nat.reduceEqDiff, Nat.reduceBEq, Nat.reduceAdd, Int.reduceLT, Int.reduceLE, Int.reduceEq, Int.reduceToNat, Int.reduceNeg, Nat.reduceLeDiff, Int.reducePow, implies_true, UInt8.reduceToNat, Int.reduceSub, Int.reduceAdd, Nat.reduceLT, Nat.reduceMul, Nat.reduceSub]) (fun c hc => by simp +contextual -implicitDefEqProofs (maxSteps := 1000000) (maxDischargeDepth := 8) only [hc, zz0, zz1, zz2, zz3, zz4, zz5, argsF, reduceIte, reduceCtorEq, Nat.reduceEqDiff, Nat.reduceBEq, Nat.reduceAdd, Int.reduceLT, Int.reduceLE, Int.reduceEq, Int.reduceToNat, Int.reduceNeg, Nat.reduceLeDiff, Int.reducePow, implies_true, UInt8.reduceToNat, Int.reduceSub, Int.reduceAdd, Nat.reduceLT, Nat.reduceMul, Nat.reduceSub])
      exact ⟨_, _, rfl, by simp only [h5, List.headD_cons, get_set', selE_t, selE_f, Nat.reduceBEq, set_defers, fr00_get, fr00_defers, put_some, put_none ], by simp only [hd, get_set', selE_t, selE_f, Nat.reduceBEq, set_defers, fr00_get, fr00_defers, put_some, put_none ], by simp (maxDischargeDepth := 20) only [rd_ext, rd_bump, hr], kp⟩
    · simp only [hc, not_false_eq_true, if_true] at hgo
      rw [iF_neg hc] at hX
      have hn := next_lt ht o.p (by omega)
      have on : StOk l st.next := (Gr.next hn).ok o
      have hmn : (m.set b (.cells [.fz tg 4 (toks l), .int .i64 ((st.pos + 1 : Nat) : Int), .int .i64 st.deep, tv, hv, .int .i64 st.fe, .int .i64 st.fp] 7 t_expr_Reader false)).next = m.next := rfl
      generalize m.set b _ = m' at *
      have hk' : 8 * (l.length - st.next.pos) + (Cmd.climb (o1 + 1)).rank < k := by simp only [Cmd.rank, RS.next] at *; omega
      obtain ⟨s2, r2, e, g, ar, _⟩ := go_ok ht k (.climb (o1 + 1)) st.next on.p hk' trivial
      obtain ⟨x, rfl⟩ := one_of ar
      simp only [e, Option.bind_some, List.headD_cons] at hgo
      have r0 : Rd (ext (bump (bump m' 0) 19) [.cells [.int .i64 ((st.now l).kind : Int), .str (st.now l).text, .int .i64 ((st.now l).n : Int), .int .i64 ((st.now l).pos : Int)] 4 38 false, .cells [.int .i64 o1, .int .i64 o2] 2 73 false]) b tg l st.next (Pr P m.next (nb m.next 21)) := by
        have := (rd_bump (k := 0) hnx).box 19 [.cells [.int .i64 ((st.now l).kind : Int), .str (st.now l).text, .int .i64 ((st.now l).n : Int), .int .i64 ((st.now l).pos : Int)] 4 38 false, .cells [.int .i64 o1, .int .i64 o2] 2 73 false]
        rw [← hmn]; exact this
      have kp : Kp m' (ext (bump (bump m' 0) 19) [.cells [.int .i64 ((st.now l).kind : Int), .str (st.now l).text, .int .i64 ((st.now l).n : Int), .int .i64 ((st.now l).pos : Int)] 4 38 false, .cells [.int .i64 o1, .int .i64 o2] 2 73 false]) P := hnx.kp (by simp +contextual -implicitDefEqProofs (maxSteps := 1000000) (maxDischargeDepth := 8) only [le_nb, zz0, zz1, zz2, zz3, zz4, zz5, argsF, reduceIte, reduceCtorEq, Nat.reduceEqDiff, Nat.reduceBEq, Nat.reduceAdd, Int.reduceLT, Int.reduceLE, Int.reduceEq, Int.reduceToNat, Int.reduceNeg, Nat.reduceLeDiff, Int.reducePow, implies_true, UInt8.reduceToNat, Int.reduceSub, Int.reduceAdd, Nat.reduceLT, Nat.reduceMul, Nat.reduceSub]) (fun c hc => by simp +contextual -implicitDefEqProofs (maxSteps := 1000000) (maxDischargeDepth := 8) only [hc, zz0, zz1, zz2, zz3, zz4, zz5, argsF, reduceIte, reduceCtorEq, Nat.reduceEqDiff, Nat.reduceBEq, Nat.reduceAdd, Int.reduceLT, Int.reduceLE, Int.reduceEq, Int.reduceToNat, Int.reduceNeg, Nat.reduceLeDiff, Int.reducePow, implies_true, UInt8.reduceToNat, Int.reduceSub, Int.reduceAdd, Nat.reduceLT, Nat.reduceMul, Nat.reduceSub])
      have p19 : Pr P m.next (nb m.next 21) (nb m.next 19) := pr_of (by decide)
      have p20 : Pr P m.next (nb m.next 21) (nb m.next 20) := pr_of (by decide)
      have g19 : (ext (bump (bump m' 0) 19) [.cells [.int .i64 ((st.now l).kind : Int), .str (st.now l).text, .int .i64 ((st.now l).n : Int), .int .i64 ((st.now l).pos : Int)] 4 38 false, .cells [.int .i64 o1, .int .i64 o2] 2 73 false]).get (nb m.next 19) = .cells [.int .i64 ((st.now l).kind : Int), .str (st.now l).text, .int .i64 ((st.now l).n : Int), .int .i64 ((st.now l).pos : Int)] 4 38 false := by
        rw [← hmn]; exact (get_ext_nb (m := bump (bump m' 0) 19) (i := 0) rfl (by simp)).trans rfl
      have g20 : (ext (bump (bump m' 0) 19) [.cells [.int .i64 ((st.now l).kind : Int), .str (st.now l).text, .int .i64 ((st.now l).n : Int), .int .i64 ((st.now l).pos : Int)] 4 38 false, .cells [.int .i64 o1, .int .i64 o2] 2 73 false]).get (nb m.next 20) = .cells [.int .i64 o1, .int .i64 o2] 2 73 false := by
        rw [← hmn]; exact (get_ext_nb (m := bump (bump m' 0) 19) (i := 1) rfl (by simp)).trans rfl
      have n0 : (ext (bump (bump m' 0) 19) [.cells [.int .i64 ((st.now l).kind : Int), .str (st.now l).text, .int .i64 ((st.now l).n : Int), .int .i64 ((st.now l).pos : Int)] 4 38 false, .cells [.int .i64 o1, .int .i64 o2] 2 73 false]).next = nb m.next 21 := by rw [← hmn, next_ext]; rfl
      generalize hC : run U n_expr_Reader_climb _ _ = C at hX
      obtain ⟨m1, rfl, r1, k1⟩ := ih1 (o1 + 1) _ _ _ _ _ _ _ on hk' e r0 hC
      clear hC
      have g19 := (k1.k _ p19).trans g19
      have g20 := (k1.k _ p20).trans g20
      have n1 : nb m.next 21 ≤ m1.next := by rw [← n0]; exact k1.n
      have n19 : nb m.next 19 < m1.next := Nat.lt_of_lt_of_le (by unfold nb; omega) n1
      have n20 : nb m.next 20 < m1.next := Nat.lt_of_lt_of_le (by unfold nb; omega) n1
      have o2' := g.ok on
      simp +contextual -implicitDefEqProofs (maxSteps := 1000000) (maxDischargeDepth := 8) only [h0, h1, h5, h6, hd, g19, g20, n19, n20, hcp, evOp_bsliceN, bsF_some, List.headD_cons, zz0, zz1, zz2, zz3, zz4, zz5, zz6, zz7, zz8, zz9, argsF, reduceIte, reduceCtorEq, Nat.reduceEqDiff, Nat.reduceBEq, Nat.reduceAdd, Int.reduceLT, Int.reduceLE, Int.reduceEq, Int.reduceToNat, Int.reduceNeg, Nat.reduceLeDiff, Int.reducePow, implies_true, UInt8.reduceToNat, Int.reduceSub, Int.reduceAdd, Nat.reduceLT, Nat.reduceMul, Nat.reduceSub, Nat.reduceBNe] at hX
      generalize hC : run U n_expr_Reader_Put _ _ = C at hX
      obtain ⟨m5, rfl, r5, k5⟩ := putC (P := Pr P m.next (nb m.next 21)) (kids := [left, x]) ht o2' (r1.boxe _) (by simp) (own_row (by rfl)) (fun c hc => by rw [notOff_slice hc]; exact pr_of (by simp)) (fun c hc => ⟨.inl hc, Off.of (by have := r1.plt hc; unfold nb; omega)⟩) (by simp) hC
      clear hC
      have k5' := (k1.trans (kp_boxe r1 _)).trans k5
      have g20 := ((kp_boxe r1 _).trans k5).k _ p20 |>.trans g20
      have kk := (knx.trans kp).trans (k5'.weak fun c hc => .inl hc)
      have g1 := ((Gr.next hn).trans g).put (by have := g.t; simp only [RS.next] at this; omega) (d := nd 5 [left, x] o2 [] (st.now l).pos)
      have hq : (s2.put (nd 5 [left, x] o2 [] (st.now l).pos)).pos = s2.pos := by unfold RS.put RS.put0; split <;> split <;> first | rfl | exact fail_pos.1
      have hk2 : ∀ a b' c, 8 * (l.length - (s2.put (nd 5 [left, x] o2 [] (st.now l).pos)).pos) + (Cmd.climbL a b' c).rank < k := fun _ _ _ => by have := g.p; have := g.pl; simp only [Cmd.rank, RS.next] at *; omega
      have o5 := g1.ok o
      have r5 := r5.weak (Q := P) fun c hc => .inl hc
      clear r0 r1 k1 kp knx k5 k5' hnx
      simp +contextual -implicitDefEqProofs (maxSteps := 1000000) (maxDischargeDepth := 8) only [h0, h1, h5, h6, hd, g20, w2, zz0, zz1, zz2, zz3, zz4, zz5, zz6, zz7, zz8, zz9, argsF, reduceIte, reduceCtorEq, Nat.reduceEqDiff, Nat.reduceBEq, Nat.reduceAdd, Int.reduceLT, Int.reduceLE, Int.reduceEq, Int.reduceToNat, Int.reduceNeg, Nat.reduceLeDiff, Int.reducePow, implies_true, UInt8.reduceToNat, Int.reduceSub, Int.reduceAdd, Nat.reduceLT, Nat.reduceMul, Nat.reduceSub, Nat.reduceBNe] at hX
      have w3 : IntKind.i64.wrap 2 = 2 := wrap_i64 (by omega) (by omega)
      by_cases h3 : o1 = 3
      · rw [if_pos h3] at hgo
        rw [iF_pos h3] at hX
        subst hL
        obtain ⟨fr', m9, rfl, q5, qd, q6, q7⟩ := ih2 _ _ _ _ _ _ _ P _ _ _ o5 (hk2 _ _ _) hgo r5 (by simp only [h0, get_set', selE_t, selE_f, Nat.reduceBEq, set_defers, fr00_get, fr00_defers, put_some, put_none ]) (by simp only [h1, get_set', selE_t, selE_f, Nat.reduceBEq, set_defers, fr00_get, fr00_defers, put_some, put_none ]) (by simp only [get_set', selE_t, selE_f, Nat.reduceBEq, set_defers, fr00_get, fr00_defers, put_some, put_none ]) (by first | (simp only [get_set', selE_t, selE_f, Nat.reduceBEq, set_defers, fr00_get, fr00_defers, put_some, put_none ]; done) | simp only [h3, w3, Int.reduceSub, get_set', selE_t, selE_f, Nat.reduceBEq, set_defers, fr00_get, fr00_defers, put_some, put_none ]) (by simp only [hd, get_set', selE_t, selE_f, Nat.reduceBEq, set_defers, fr00_get, fr00_defers, put_some, put_none ]) hX
        exact ⟨fr', m9, rfl, q5, qd, q6, kk.trans q7⟩
      · rw [if_neg h3] at hgo
        rw [iF_neg h3] at hX
        subst hL
        obtain ⟨fr', m9, rfl, q5, qd, q6, q7⟩ := ih2 _ _ _ _ _ _ _ P _ _ _ o5 (hk2 _ _ _) hgo r5 (by simp only [h0, get_set', selE_t, selE_f, Nat.reduceBEq, set_defers, fr00_get, fr00_defers, put_some, put_none ]) (by simp only [h1, get_set', selE_t, selE_f, Nat.reduceBEq, set_defers, fr00_get, fr00_defers, put_some, put_none ]) (by simp only [get_set', selE_t, selE_f, Nat.reduceBEq, set_defers, fr00_get, fr00_defers, put_some, put_none ]) (by first | (simp only [get_set', selE_t, selE_f, Nat.reduceBEq, set_defers, fr00_get, fr00_defers, put_some, put_none ]; done) | simp only [h3, w3, Int.reduceSub, get_set', selE_t, selE_f, Nat.reduceBEq, set_defers, fr00_get, fr00_defers, put_some, put_none ]) (by simp only [hd, get_set', selE_t, selE_f, Nat.reduceBEq, set_defers, fr00_get, fr00_defers, put_some, put_none ]) hX
        exact ⟨fr', m9, rfl, q5, qd, q6, kk.trans q7⟩
  · have b1 := bo_neg hfe
    simp only [goF, hfe, false_and, if_false, Option.some.injEq, Prod.mk.injEq] at hgo
    obtain ⟨rfl, rfl⟩ := hgo
    simp +contextual -implicitDefEqProofs (maxSteps := 1000000) (maxDischargeDepth := 8) only [F_expr_Reader_climb_l0, h0, h1, h5, h6, hd, hF, h, b1, rd_ext, rd_bump, zz0, zz1, zz2, zz3, zz4, zz5, zz6, zz7, zz8, zz9, argsF, reduceIte, reduceCtorEq, Nat.reduceEqDiff, Nat.reduceBEq, Nat.reduceAdd, Int.reduceLT, Int.reduceLE, Int.reduceEq, Int.reduceToNat, Int.reduceNeg, Nat.reduceLeDiff, Int.reducePow, implies_true, UInt8.reduceToNat, Int.reduceSub, Int.reduceAdd, Nat.reduceLT, Nat.reduceMul, Nat.reduceSub, Nat.reduceBNe] at hX
    subst hX
    exact ⟨_, _, rfl, by simp only [h5, List.headD_cons, get_set', selE_t, selE_f, Nat.reduceBEq, set_defers, fr00_get, fr00_defers, put_some, put_none ], by simp only [hd, get_set', selE_t, selE_f, Nat.reduceBEq, set_defers, fr00_get, fr00_defers, put_some, put_none ], rd_bump h, kp_bump h⟩
omit ht in
theorem climb_walk (ht : TokOk l) (ih1 : WInt l tg n_expr_Reader_front [] k .front) (ih2 : WClimbL l tg k) (least : Int) : WInt l tg n_expr_Reader_climb [.int .i64 least] (k + 1) (.climb least) := by
  intro st m b P s1 r X o hk hgo h hX
  rw [run_p2 (by simp [F_expr_Reader_climb])] at hX
  generalize hL : exec (UT B K) (ICode.loop F_expr_Reader_climb_l0) = L at hX
  have hk' : 8 * (l.length - st.pos) + Cmd.front.rank < k := by simp only [Cmd.rank] at *; omega
  obtain ⟨s2, r2, e, g, ar, _⟩ := go_ok ht k .front st o.p hk' trivial
  obtain ⟨x, rfl⟩ := one_of ar
  simp only [goF, e, Option.bind_some, List.headD_cons] at hgo
  simp +contextual -implicitDefEqProofs (maxSteps := 1000000) (maxDischargeDepth := 8) only [F_expr_Reader_climb, zz0, zz1, zz2, zz3, zz4, zz5, zz6, zz7, zz8, zz9, argsF, reduceIte, reduceCtorEq, Nat.reduceEqDiff, Nat.reduceBEq, Nat.reduceAdd, Int.reduceLT, Int.reduceLE, Int.reduceEq, Int.reduceToNat, Int.reduceNeg, Nat.reduceLeDiff, Int.reducePow, implies_true, UInt8.reduceToNat, Int.reduceSub, Int.reduceAdd, Nat.reduceLT, Nat.reduceMul, Nat.reduceSub, Nat.reduceBNe] at hX
  generalize hC : run U n_expr_Reader_front _ _ = C at hX
  obtain ⟨m1, rfl, r1, k1⟩ := ih1 _ _ _ _ _ _ _ o hk' e h hC
  clear hC
  simp +contextual -implicitDefEqProofs (maxSteps := 1000000) (maxDischargeDepth := 8) only [List.headD_cons, zz0, zz1, zz2, zz3, zz4, zz5, zz6, zz7, zz8, zz9, argsF, reduceIte, reduceCtorEq, Nat.reduceEqDiff, Nat.reduceBEq, Nat.reduceAdd, Int.reduceLT, Int.reduceLE, Int.reduceEq, Int.reduceToNat, Int.reduceNeg, Nat.reduceLeDiff, Int.reducePow, implies_true, UInt8.reduceToNat, Int.reduceSub, Int.reduceAdd, Nat.reduceLT, Nat.reduceMul, Nat.reduceSub, Nat.reduceBNe] at hX
  subst hL
  generalize hC : exec _ (.loop F_expr_Reader_climb_l0) _ _ = C at hX
  obtain ⟨fr', m9, rfl, q5, qd, q6, q7⟩ := ih2 _ _ _ _ _ _ _ P _ _ _ (g.ok o) (by have := g.p; simp only [Cmd.rank] at *; omega) hgo r1 (by simp only [get_set', selE_t, selE_f, Nat.reduceBEq, set_defers, fr00_get, fr00_defers, put_some, put_none ]) (by simp only [get_set', selE_t, selE_f, Nat.reduceBEq, set_defers, fr00_get, fr00_defers, put_some, put_none ]) (by simp only [get_set', selE_t, selE_f, Nat.reduceBEq, set_defers, fr00_get, fr00_defers, put_some, put_none ]) (by simp only [get_set', selE_t, selE_f, Nat.reduceBEq, set_defers, fr00_get, fr00_defers, put_some, put_none ]) (by simp only [get_set', selE_t, selE_f, Nat.reduceBEq, set_defers, fr00_get, fr00_defers, put_some, put_none ]) hC
  clear hC
  simp +contextual -implicitDefEqProofs (maxSteps := 1000000) (maxDischargeDepth := 8) only [q5, qd, zz0, zz1, zz2, zz3, zz4, zz5, zz6, zz7, zz8, zz9, argsF, reduceIte, reduceCtorEq, Nat.reduceEqDiff, Nat.reduceBEq, Nat.reduceAdd, Int.reduceLT, Int.reduceLE, Int.reduceEq, Int.reduceToNat, Int.reduceNeg, Nat.reduceLeDiff, Int.reducePow, implies_true, UInt8.reduceToNat, Int.reduceSub, Int.reduceAdd, Nat.reduceLT, Nat.reduceMul, Nat.reduceSub, Nat.reduceBNe] at hX
  subst hX
  exact ⟨_, rfl, q6, k1.trans q7⟩
/-- All of the reader's walk. -/
structure WAll (l : List Tok) (tg k : Nat) : Prop where
  expr : WInt l tg n_expr_Reader_Expr [] k .expr
  climb : ∀ n : Int, WInt l tg n_expr_Reader_climb [.int .i64 n] k (.climb n)
  climbL : WClimbL l tg k
  front : WInt l tg n_expr_Reader_front [] k .front
  atom : WInt l tg n_expr_Reader_atom [] k .atom
  cells : WCells l tg k
  inner : ∀ a z : Txt, WInt l tg n_expr_Reader_Inner [.str a, .str z] k (.inner a z)
  args : WArgs l tg k
  argsL : WArgsL l tg k
omit ht in
theorem walk_all (ht : TokOk l) : ∀ k, WAll l tg k := by
  intro k
  induction k with
  | zero =>
    exact ⟨fun _ _ _ _ _ _ _ _ q => absurd q (by omega), fun _ _ _ _ _ _ _ _ _ q => absurd q (by omega), fun _ _ _ _ _ _ _ _ _ _ _ _ q => absurd q (by omega), fun _ _ _ _ _ _ _ _ q => absurd q (by omega), fun _ _ _ _ _ _ _ _ q => absurd q (by omega), fun _ _ _ _ _ _ _ _ _ _ q => absurd q (by omega), fun _ _ _ _ _ _ _ _ _ _ q => absurd q (by omega), fun _ _ _ _ _ _ _ _ q => absurd q (by omega), fun _ _ _ _ _ _ _ _ _ _ _ _ q => absurd q (by omega)⟩
  | succ k ih =>
    exact ⟨expr_walk ht (ih.climb 1), climb_walk ht ih.front ih.climbL, climb_loop ht ih.climb ih.climbL, front_walk ht ih.front ih.atom (cells_walk ih.cells), atom_walk ht (ih.inner _ _) ih.args, cells_loop ht (ih.inner _ _) ih.cells, fun a z => inner_walk ht ih.expr, args_walk ht ih.argsL, args_loop ht ih.expr ih.argsL⟩
end
end Go.Proofs.Ytjgbofonigpjaaa.Ev
end
section
namespace Go.Proofs.Ytjgbofonigpjaaa.Ev
open Go
set_option linter.unusedSimpArgs false
set_option maxRecDepth 10000
set_option maxHeartbeats 4000000
/-- So many nodes are right. -/
def rightTo (l : List Nd) (i : Nat) : Prop := (∀ (j : Nat) (d : Nd), j < i → l[j]? = some d → (∀ x ∈ d.kids, 0 ≤ x ∧ x < (j : Int)) ∧ ownP d ∧ kidsP l d) ∧ (usedL (l.take i)).Nodup
structure Small (l : List Nd) : Prop where
  len : l.length < 100000
  kids : ∀ d ∈ l, d.kids.length < 1000
  s : ∀ d ∈ l, d.s.length < 1000000
end Go.Proofs.Ytjgbofonigpjaaa.Ev
end
