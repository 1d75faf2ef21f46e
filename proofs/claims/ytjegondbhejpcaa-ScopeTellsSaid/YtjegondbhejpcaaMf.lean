/- WSc7, WSc8, WSc9, WTl1, WTl2, WTl3, WTl4, WTl5, EvLive, LawTells. -/
import Derived.Test.YtjegondbhejpcaaMe
section
namespace Go.Proofs.Ytjegondbhejpcaa.Ev
open Go
set_option linter.unusedSimpArgs false
set_option linter.unusedVariables false
set_option maxRecDepth 10000
set_option maxHeartbeats 4000000
def vc (v : Pv) : List EV := [.str v.name, .int .i64 v.block, .int .i64 v.slot, .int .i64 v.kind]
def vcs (l : List Pv) : List (List EV) := l.map vc
def kcs (l : List Int) : List (List EV) := l.map fun k => [.int .i64 k]
theorem vcs_len {l : List Pv} : (vcs l).length = l.length := List.length_map ..
theorem kcs_len {l : List Int} : (kcs l).length = l.length := List.length_map ..
theorem vcs_get {l : List Pv} {i : Nat} : (vcs l)[i]? = (l[i]?).map vc := by unfold vcs; rw [List.getElem?_map]
theorem vcs_els (l : List Pv) : ∀ el ∈ vcs l, el.length = 4 := by intro el h; obtain ⟨t, _, rfl⟩ := List.mem_map.1 h; rfl
theorem vcs_plain (l : List Pv) : ∀ el ∈ vcs l, plains el = true := by intro el h; obtain ⟨t, _, rfl⟩ := List.mem_map.1 h; rfl
theorem kcs_els (l : List Int) : ∀ el ∈ kcs l, el.length = 1 := by intro el h; obtain ⟨t, _, rfl⟩ := List.mem_map.1 h; rfl
theorem kcs_plain (l : List Int) : ∀ el ∈ kcs l, plains el = true := by intro el h; obtain ⟨t, _, rfl⟩ := List.mem_map.1 h; rfl
theorem kcs_flat (l : List Int) : (kcs l).flatten = ints l := by
  induction l with
  | nil => rfl
  | cons a l ih => unfold kcs ints at ih ⊢; rw [List.map_cons, List.flatten_cons, ih]; rfl
/-- The document's scopes, asx they are handed on. -/
def moV (x : Mo) (a b : Bool) : EV := .agg [row a 0 4 (vcs x.V), row b 0 1 (kcs x.K), .int .i64 x.D]
section
variable {o : Nat → Part} {m m' : Mem} {sb mb : Nat} {x : Mo} {L : List (Txt × EV)} {P : Txt → EV} {ov kv : EV}
/-- Scopes made anew. -/
theorem new_ok (m : Mem) : ∃ m1 o sb mb L P ov kv, run U 7 [] m = some (.ret (.ptr sb 0) m1) ∧ Sc o m1 sb mb Mo.new L P ov kv ∧ m.next ≤ m1.next ∧ (∀ c, c < m.next → m1.get c = m.get c ∧ o c = .other) := by
  generalize hX : run U 7 [] m = X
  rw [run_p2 (by simp [F_scope_New])] at hX
  simp +contextual -implicitDefEqProofs (maxSteps := 1000000) (maxDischargeDepth := 8) only [F_scope_New, zz0, zz1, zz2, zz3, zz4, zz5, zz6, zz7, zz8, zz9, argsF, reduceIte, reduceCtorEq, Nat.reduceEqDiff, Nat.reduceBEq, Nat.reduceAdd, Int.reduceLT, Int.reduceLE, Int.reduceEq, Int.reduceToNat, Int.reduceNeg, Nat.reduceLeDiff, Int.reducePow, implies_true, UInt8.reduceToNat, Int.reduceSub, Int.reduceAdd, Nat.reduceLT, Nat.reduceMul, Nat.reduceSub, Nat.reduceBNe] at hX
  have hn : (ext m [.map [], .cells [.map (nb m.next 0), .nilslice, .nilslice, .int .i64 1] 4 37 false]).next = m.next + 2 := by rw [next_ext]; rfl
  have g0 : (ext m [.map [], .cells [.map (nb m.next 0), .nilslice, .nilslice, .int .i64 1] 4 37 false]).get (nb m.next 0) = .map [] := by rw [get_ext_nb rfl (by simp)]; rfl
  have g1 : (ext m [.map [], .cells [.map (nb m.next 0), .nilslice, .nilslice, .int .i64 1] 4 37 false]).get (nb m.next 1) = .cells [.map (nb m.next 0), .nilslice, .nilslice, .int .i64 1] 4 37 false := by rw [get_ext_nb rfl (by simp)]; rfl
  have e0 : nb m.next 0 = m.next := rfl
  have e1 : nb m.next 1 = m.next + 1 := rfl
  refine ⟨_, fun c => if c = m.next then .map else if c = m.next + 1 then .box else .other, nb m.next 1, nb m.next 0, [], fun _ => .nilslice, .nilslice, .nilslice, hX.symm, ⟨g1, g0, ⟨by rw [hn, e1]; omega, by rw [e1]; simp⟩, ⟨by rw [hn, e0]; omega, by rw [e0]; simp⟩, .nil, .nil, .nil, fun s => rfl, fun s hs => absurd rfl hs, fun c hc => ?_⟩, by rw [hn]; omega, fun c hc => ⟨get_ext_old hc, ?_⟩⟩
  · rw [hn] at hc
    rw [if_neg (by omega), if_neg (by omega)]
  · simp only
    rw [if_neg (by omega), if_neg (by omega)]
end
theorem wrap_succ {i : Nat} (h : i < 1000000000) : IntKind.i64.wrap ((i : Int) + 1) = ((i + 1 : Nat) : Int) := by rw [wrap_i64 (by omega) (by omega)]; omega
theorem refNew_run {m : Mem} : ∃ m1, run U 16 [] m = some (.ret (.agg [.nilslice, .nilslice, .int .i64 1]) m1) ∧ m.next ≤ m1.next ∧ Keeps m m1 := by
  generalize hX : run U 16 [] m = X
  rw [run_p2 (by simp [F_r10_New])] at hX
  simp +contextual -implicitDefEqProofs (maxSteps := 1000000) (maxDischargeDepth := 8) only [F_r10_New, zz0, zz1, zz2, zz3, zz4, zz5, zz6, zz7, zz8, zz9, argsF, reduceIte, reduceCtorEq, Nat.reduceEqDiff, Nat.reduceBEq, Nat.reduceAdd, Int.reduceLT, Int.reduceLE, Int.reduceEq, Int.reduceToNat, Int.reduceNeg, Nat.reduceLeDiff, Int.reducePow, implies_true, UInt8.reduceToNat, Int.reduceSub, Int.reduceAdd, Nat.reduceLT, Nat.reduceMul, Nat.reduceSub, Nat.reduceBNe] at hX
  exact ⟨_, hX.symm, by rw [next_ext]; exact le_nb, keeps_ext⟩
theorem find_loop {x : Mo} {a b : Bool} {s : Txt} (hl : x.V.length < 1000000) {bx : Nat} {m0 : Mem} (hg : m0.get bx = .cells [row a 0 4 (vcs x.V), row b 0 1 (kcs x.K), .int .i64 x.D] 3 43 false) {fr : Fr} (h1 : fr.get 1 = .str s) (h2 : fr.get 2 = .ptr bx 0) (h5 : fr.get 5 = .int .i64 (-1)) (h6 : fr.get 6 = .int .i64 0) (hd : fr.defers = []) :
    ∃ o, exec U (.loop F_r10_Find_l0) fr m0 = some o ∧ ∃ fr', o = .exit 0 fr' m0 ∧ fr'.get 5 = .int .i64 (findI s x.V 0 (-1)) ∧ fr'.defers = [] := by
  refine loop_w (σ := Nat) (fun i fr m => m = m0 ∧ i ≤ x.V.length ∧ fr.get 1 = .str s ∧ fr.get 2 = .ptr bx 0 ∧ (∃ c, fr.get 5 = .int .i64 c ∧ findI s (x.V.drop i) i c = findI s x.V 0 (-1)) ∧ fr.get 6 = .int .i64 (i : Int) ∧ fr.defers = []) (fun i => x.V.length - i) _ ?_ 0 fr m0
    ⟨rfl, Nat.zero_le _, h1, h2, ⟨-1, h5, by rw [List.drop_zero]⟩, h6, hd⟩
  rintro i fr m ⟨rfl, hi, h1, h2, ⟨c, h5, hc⟩, h6, hd⟩
  generalize hX : exec U F_r10_Find_l0 fr m = X
  by_cases hlt : i < x.V.length
  · have hic : (i : Int) < (x.V.length : Int) := by omega
    have hti : x.V[i]? = some x.V[i] := List.getElem?_eq_getElem hlt
    have hw := wrap_succ (i := i) (by omega)
    rw [List.drop_eq_getElem_cons hlt] at hc
    generalize x.V[i] = v at *
    simp only [findI] at hc
    by_cases hn : v.name = s
    · rw [if_pos hn] at hc
      simp +contextual -implicitDefEqProofs (maxSteps := 1000000) (maxDischargeDepth := 8) only [F_r10_Find_l0, h1, h2, h5, h6, hd, hg, hic, hti, hlt, hw, hn, vcs_len, vcs_get, vc, idx_cast, zz0, zz1, zz2, zz3, zz4, zz5, zz6, zz7, zz8, zz9, argsF, reduceIte, reduceCtorEq, Nat.reduceEqDiff, Nat.reduceBEq, Nat.reduceAdd, Int.reduceLT, Int.reduceLE, Int.reduceEq, Int.reduceToNat, Int.reduceNeg, Nat.reduceLeDiff, Int.reducePow, implies_true, UInt8.reduceToNat, Int.reduceSub, Int.reduceAdd, Nat.reduceLT, Nat.reduceMul, Nat.reduceSub, Nat.reduceBNe] at hX
      subst hX
      exact lw_norm (i + 1) (by omega) ⟨rfl, by omega, by simp only [h1, get_set', selE_t, selE_f, Nat.reduceBEq, set_defers, fr00_get, fr00_defers, put_some, put_none ], by simp only [h2, get_set', selE_t, selE_f, Nat.reduceBEq, set_defers, fr00_get, fr00_defers, put_some, put_none ], ⟨_, by simp only [get_set', selE_t, selE_f, Nat.reduceBEq, set_defers, fr00_get, fr00_defers, put_some, put_none ], hc⟩, by simp only [get_set', selE_t, selE_f, Nat.reduceBEq, set_defers, fr00_get, fr00_defers, put_some, put_none ], by simp only [hd, get_set', selE_t, selE_f, Nat.reduceBEq, set_defers, fr00_get, fr00_defers, put_some, put_none ]⟩
    · rw [if_neg hn] at hc
      simp +contextual -implicitDefEqProofs (maxSteps := 1000000) (maxDischargeDepth := 8) only [F_r10_Find_l0, h1, h2, h5, h6, hd, hg, hic, hti, hlt, hw, hn, vcs_len, vcs_get, vc, idx_cast, zz0, zz1, zz2, zz3, zz4, zz5, zz6, zz7, zz8, zz9, argsF, reduceIte, reduceCtorEq, Nat.reduceEqDiff, Nat.reduceBEq, Nat.reduceAdd, Int.reduceLT, Int.reduceLE, Int.reduceEq, Int.reduceToNat, Int.reduceNeg, Nat.reduceLeDiff, Int.reducePow, implies_true, UInt8.reduceToNat, Int.reduceSub, Int.reduceAdd, Nat.reduceLT, Nat.reduceMul, Nat.reduceSub, Nat.reduceBNe] at hX
      subst hX
      exact lw_norm (i + 1) (by omega) ⟨rfl, by omega, by simp only [h1, get_set', selE_t, selE_f, Nat.reduceBEq, set_defers, fr00_get, fr00_defers, put_some, put_none ], by simp only [h2, get_set', selE_t, selE_f, Nat.reduceBEq, set_defers, fr00_get, fr00_defers, put_some, put_none ], ⟨c, by simp only [h5, get_set', selE_t, selE_f, Nat.reduceBEq, set_defers, fr00_get, fr00_defers, put_some, put_none ], hc⟩, by simp only [get_set', selE_t, selE_f, Nat.reduceBEq, set_defers, fr00_get, fr00_defers, put_some, put_none ], by simp only [hd, get_set', selE_t, selE_f, Nat.reduceBEq, set_defers, fr00_get, fr00_defers, put_some, put_none ]⟩
  · have hic : ¬ (i : Int) < (x.V.length : Int) := by omega
    obtain rfl : i = x.V.length := by omega
    simp +contextual -implicitDefEqProofs (maxSteps := 1000000) (maxDischargeDepth := 8) only [F_r10_Find_l0, h2, h6, hd, hg, hic, vcs_len, zz0, zz1, zz2, zz3, zz4, zz5, zz6, zz7, zz8, zz9, argsF, reduceIte, reduceCtorEq, Nat.reduceEqDiff, Nat.reduceBEq, Nat.reduceAdd, Int.reduceLT, Int.reduceLE, Int.reduceEq, Int.reduceToNat, Int.reduceNeg, Nat.reduceLeDiff, Int.reducePow, implies_true, UInt8.reduceToNat, Int.reduceSub, Int.reduceAdd, Nat.reduceLT, Nat.reduceMul, Nat.reduceSub, Nat.reduceBNe] at hX
    subst hX
    rw [List.drop_length] at hc
    exact lw_exit ⟨_, rfl, by simp only [h5, get_set', selE_t, selE_f, Nat.reduceBEq, set_defers, fr00_get, fr00_defers, put_some, put_none ]; rw [← hc]; rfl, by simp only [hd, get_set', selE_t, selE_f, Nat.reduceBEq, set_defers, fr00_get, fr00_defers, put_some, put_none ]⟩
theorem refFind_eq {x : Mo} {a b : Bool} {s : Txt} (hl : x.V.length < 1000000) : pureR B Ev.K n_r10_Find [moV x a b, .str s] = some (.int .i64 (findI s x.V 0 (-1))) := by
  rw [pure_at (by simp [F_r10_Find])]
  generalize hX : frR _ = X
  generalize hL : exec (UT B Ev.K) (ICode.loop F_r10_Find_l0) = L0 at hX
  simp +contextual -implicitDefEqProofs (maxSteps := 1000000) (maxDischargeDepth := 8) only [F_r10_Find, moV, zz0, zz1, zz2, zz3, zz4, zz5, zz6, zz7, zz8, zz9, argsF, reduceIte, reduceCtorEq, Nat.reduceEqDiff, Nat.reduceBEq, Nat.reduceAdd, Int.reduceLT, Int.reduceLE, Int.reduceEq, Int.reduceToNat, Int.reduceNeg, Nat.reduceLeDiff, Int.reducePow, implies_true, UInt8.reduceToNat, Int.reduceSub, Int.reduceAdd, Nat.reduceLT, Nat.reduceMul, Nat.reduceSub, Nat.reduceBNe] at hX
  subst hL
  generalize hC : exec _ (.loop F_r10_Find_l0) _ _ = C at hX
  obtain ⟨oo, rfl, fr', rfl, f5, fd⟩ := looped hC (find_loop (x := x) (a := a) (b := b) (s := s) hl (bx := nb mem00.next 0) (by rw [get_ext_nb rfl (by simp)]; rfl) (by simp only [get_set', selE_t, selE_f, Nat.reduceBEq, set_defers, fr00_get, fr00_defers, put_some, put_none ]) (by simp only [get_set', selE_t, selE_f, Nat.reduceBEq, set_defers, fr00_get, fr00_defers, put_some, put_none ]) (by simp only [get_set', selE_t, selE_f, Nat.reduceBEq, set_defers, fr00_get, fr00_defers, put_some, put_none ]) (by simp only [get_set', selE_t, selE_f, Nat.reduceBEq, set_defers, fr00_get, fr00_defers, put_some, put_none ]) (by simp only [get_set', selE_t, selE_f, Nat.reduceBEq, set_defers, fr00_get, fr00_defers, put_some, put_none ]))
  simp +contextual -implicitDefEqProofs (maxSteps := 1000000) (maxDischargeDepth := 8) only [f5, fd, zz0, zz1, zz2, zz3, zz4, zz5, zz6, zz7, zz8, zz9, argsF, reduceIte, reduceCtorEq, Nat.reduceEqDiff, Nat.reduceBEq, Nat.reduceAdd, Int.reduceLT, Int.reduceLE, Int.reduceEq, Int.reduceToNat, Int.reduceNeg, Nat.reduceLeDiff, Int.reducePow, implies_true, UInt8.reduceToNat, Int.reduceSub, Int.reduceAdd, Nat.reduceLT, Nat.reduceMul, Nat.reduceSub, Nat.reduceBNe] at hX
  exact hX.symm
end Go.Proofs.Ytjegondbhejpcaa.Ev
end
section
namespace Go.Proofs.Ytjegondbhejpcaa.Ev
open Go
set_option linter.unusedSimpArgs false
set_option linter.unusedVariables false
set_option maxRecDepth 10000
set_option maxHeartbeats 4000000
theorem vcs_snoc (l : List Pv) (v : Pv) : vcs (l ++ [v]) = vcs l ++ [vc v] := by simp [vcs]
theorem kcs_snoc (l : List Int) (k : Int) : kcs (l ++ [k]) = kcs l ++ [[.int .i64 k]] := by simp [kcs]
theorem filter_step {V : List Pv} {D : Int} {i : Nat} {v : Pv} (h : V[i]? = some v) : (V.take (i + 1)).filter (fun u => decide (u.block < D)) = (V.take i).filter (fun u => decide (u.block < D)) ++ if v.block < D then [v] else [] := by
  rw [List.take_add_one, h, List.filter_append]
  congr 1
  by_cases q : v.block < D <;> simp [q]
/-- A row of these, that stays. -/
abbrev SegV (m : Mem) (v : EV) (V : List Pv) (lo : Nat) : Prop := Own m v (vcs V).flatten V.length 4 lo
abbrev SegK (m : Mem) (v : EV) (K : List Int) (lo : Nat) : Prop := Own m v (kcs K).flatten K.length 1 lo
theorem Own.stay {m m' : Mem} {v : EV} {cs : List EV} {n esz lo : Nat} (h : Own m v cs n esz lo) (hn : m.next ≤ m'.next) (hk : ∀ c, c < m.next → ¬ Off v c → m'.get c = m.get c) : Own m' v cs n esz lo := by
  refine ⟨?_, h.len⟩
  rcases h.is with h | ⟨b, cap, t, rfl, h1, h2, h3, h4⟩
  · exact .inl h
  · exact .inr ⟨b, cap, t, rfl, h1, by omega, by rw [hk b h2 (fun ho => ho b 0 n cap rfl rfl)]; exact h3, h4⟩
theorem Own.below {m : Mem} {v : EV} {cs : List EV} {n esz lo c : Nat} (h : Own m v cs n esz lo) (hc : ¬ Off v c) : lo ≤ c ∧ c < m.next := by
  rcases h.is with ⟨rfl, _⟩ | ⟨b, cap, t, rfl, h1, h2, _⟩
  · exact absurd Off.nil hc
  · by_cases q : c = b
    · subst q; exact ⟨h1, h2⟩
    · exact absurd (Off.of q) hc
theorem vc_cell {V : List Pv} {i : Nat} {u : Pv} (h : V[i]? = some u) : (vcs V).flatten[i * 4]? = some (.str u.name) ∧ (vcs V).flatten[i * 4 + 1]? = some (.int .i64 u.block) ∧ (vcs V).flatten[i * 4 + 2]? = some (.int .i64 u.slot) ∧ (vcs V).flatten[i * 4 + 3]? = some (.int .i64 u.kind) ∧ partOf (some 4) (vcs V).flatten (i * 4) = some (.agg (vc u)) := by
  have hg : (vcs V)[i]? = some (vc u) := by rw [vcs_get, h]; rfl
  have g := fun p hp => flat_get (css := vcs V) (vcs_els V) i p hp
  have e0 := g 0 (by decide)
  have e1 := g 1 (by decide)
  have e2 := g 2 (by decide)
  have e3 := g 3 (by decide)
  rw [hg] at e0 e1 e2 e3
  have hlt : i < V.length := (List.getElem?_eq_some_iff.1 h).1
  have hfl : (vcs V).flatten.length = V.length * 4 := by rw [flat_len (vcs_els V), vcs_len]
  refine ⟨e0, e1, e2, e3, ?_⟩
  have hd : ((vcs V).flatten.drop (i * 4)).take 4 = vc u := by
    refine List.ext_getElem? fun p => ?_
    rw [List.getElem?_take]
    by_cases hp : p < 4
    · rw [if_pos hp, List.getElem?_drop, g p hp, hg]; rfl
    · rw [if_neg hp, List.getElem?_eq_none (by show 4 ≤ p; omega)]
  simp only [partOf]
  rw [Nat.ble_eq_true_of_le (by rw [hfl]; omega), cond_true, hd]
theorem close_loop {x : Mo} {v0 : EV} (hl : x.V.length < 1000000) {bx bo : Nat} {m0 : Mem} (hne : bx ≠ bo) (hown : SegV m0 v0 x.V 0) (hoff : Off v0 bo) {kv : EV} (hg : m0.get bx = .cells [v0, kv, .int .i64 x.D] 3 43 false) (hbx : bx < m0.next) (hbo : bo < m0.next) (hgo : m0.get bo = .cells [.nilslice, kv, .int .i64 (x.D - 1)] 3 43 false)
    {fr : Fr} (h1 : fr.get 1 = .ptr bx 0) (h3 : fr.get 3 = .ptr bo 0) (h4 : fr.get 4 = .int .i64 0) (hd : fr.defers = []) :
    ∃ o, exec U (.loop F_r10_Close_l0) fr m0 = some o ∧ ∃ fr' m' v, o = .exit 0 fr' m' ∧ m0.next ≤ m'.next ∧ SegV m' v (x.V.filter fun u => decide (u.block < x.D)) m0.next ∧ m'.get bo = .cells [v, kv, .int .i64 (x.D - 1)] 3 43 false ∧ (∀ c, c < m0.next → c ≠ bo → m'.get c = m0.get c) ∧ fr'.get 3 = .ptr bo 0 ∧ fr'.get 2 = fr.get 2 ∧ fr'.defers = [] := by
  refine loop_w (σ := Nat) (fun i f m => i ≤ x.V.length ∧ m0.next ≤ m.next ∧ (∃ v, m.get bo = .cells [v, kv, .int .i64 (x.D - 1)] 3 43 false ∧ SegV m v ((x.V.take i).filter fun u => decide (u.block < x.D)) m0.next) ∧ (∀ c, c < m0.next → c ≠ bo → m.get c = m0.get c) ∧ f.get 1 = .ptr bx 0 ∧ f.get 3 = .ptr bo 0 ∧ f.get 4 = .int .i64 (i : Int) ∧ f.get 2 = fr.get 2 ∧ f.defers = []) (fun i => x.V.length - i) _ ?_ 0 fr m0
    ⟨Nat.zero_le _, Nat.le_refl _, ⟨.nilslice, hgo, ⟨.inl ⟨rfl, rfl, rfl⟩, rfl⟩⟩, fun _ _ _ => rfl, h1, h3, h4, rfl, hd⟩
  rintro i f m ⟨hi, hn, ⟨v, hgv, own⟩, hk, h1, h3, h4, h2, hd⟩
  have hgx := (hk bx hbx hne).trans hg
  have hlv0 : ∀ M : Mem, lenE v0 M = some (.val (.int .i64 (x.V.length : Int)) M) := fun M => by
    rcases hown.is with ⟨rfl, q, _⟩ | ⟨b', cap, t, rfl, _⟩
    · rw [q]; rfl
    · rfl
  generalize hX : exec U F_r10_Close_l0 f m = X
  by_cases hlt : i < x.V.length
  · have hic : (i : Int) < (x.V.length : Int) := by omega
    have hti : x.V[i]? = some x.V[i] := List.getElem?_eq_getElem hlt
    have hw := wrap_succ (i := i) (by omega)
    have hst := filter_step (D := x.D) hti
    have hfl : ((x.V.take i).filter fun u => decide (u.block < x.D)).length < 1000000 := Nat.lt_of_le_of_lt (List.length_filter_le ..) (by rw [List.length_take]; omega)
    obtain ⟨-, vc1, -, -, vca⟩ := vc_cell hti
    rcases hown.is with ⟨_, q, _⟩ | ⟨b', cap, t, ev, _, hbn, hgb, _⟩
    · omega
    have hnb : b' ≠ bo := fun q => hoff b' 0 _ cap ev q.symm
    have hgb' := (hk b' hbn hnb).trans hgb
    generalize x.V[i] = u at *
    have hvc : vc u = [.str u.name, .int .i64 u.block, .int .i64 u.slot, .int .i64 u.kind] := rfl
    rw [hvc] at vca
    have ev' := ev
    rw [ev] at hgx
    have hbm : b' < m.next := by omega
    by_cases hb : u.block < x.D
    · rw [if_pos hb] at hst
      simp +contextual -implicitDefEqProofs (maxSteps := 1000000) (maxDischargeDepth := 8) only [F_r10_Close_l0, h1, h3, h4, hd, hgx, hgv, hic, hlt, hw, hb, hgb', vc1, vca, hbm, Nat.zero_add, idx_cast, zz0, zz1, zz2, zz3, zz4, zz5, zz6, zz7, zz8, zz9, argsF, reduceIte, reduceCtorEq, Nat.reduceEqDiff, Nat.reduceBEq, Nat.reduceAdd, Int.reduceLT, Int.reduceLE, Int.reduceEq, Int.reduceToNat, Int.reduceNeg, Nat.reduceLeDiff, Int.reducePow, implies_true, UInt8.reduceToNat, Int.reduceSub, Int.reduceAdd, Nat.reduceLT, Nat.reduceMul, Nat.reduceSub, Nat.reduceBNe] at hX
      generalize hM1 : Mem.mk (nb m.next 20) _ = M1 at hX
      have g1n : M1.next = m.next + 20 := by rw [← hM1]; rfl
      have g1k : ∀ c, c < m.next → M1.get c = m.get c := by
        intro c hc
        rw [← hM1]
        show (ext (Mem.mk _ _) _).get c = _
        rw [get_ext_old (show c < nb m.next 9 + 7 by unfold nb; omega)]
        rfl
      have g1x : M1.get (nb (nb m.next 9 + 7) 0) = .cells (vc u) 4 52 false := by
        rw [← hM1]
        show (ext (Mem.mk _ _) _).get _ = _
        rw [get_ext_nb rfl (by simp)]; rfl
      have hsrc : M1.source 4 (.slice (nb (nb m.next 9 + 7) 0) 0 1 (some 1)) = some (1, vc u) := source_at g1x rfl
      clear hM1
      have own1 := own.mono (m' := M1) (by omega) g1k
      obtain ⟨v', m2, ha, own2, hk2, hn2, _, _⟩ := append_own (e := 52) own1 (by omega) hsrc rfl (by decide) (by unfold room; omega)
      have hoff' : ∀ c, c < m0.next → Off v c := fun c hc => by
        rcases own.is with ⟨rfl, _⟩ | ⟨b', cap, t, rfl, q1, _⟩
        · exact Off.nil
        · exact Off.of (by omega)
      have hg2 : m2.get bo = .cells [v, kv, .int .i64 (x.D - 1)] 3 43 false := by rw [hk2 bo (by omega) (hoff' bo hbo), g1k bo (by omega)]; exact hgv
      have hc' : v'.cells = some [v'] := by
        rcases own2.is with ⟨rfl, _⟩ | ⟨b', cap, t, rfl, _⟩ <;> rfl
      simp +contextual -implicitDefEqProofs (maxSteps := 1000000) (maxDischargeDepth := 8) only [ha, hg2, hc', hw, h4, zz0, zz1, zz2, zz3, zz4, zz5, zz6, zz7, zz8, zz9, argsF, reduceIte, reduceCtorEq, Nat.reduceEqDiff, Nat.reduceBEq, Nat.reduceAdd, Int.reduceLT, Int.reduceLE, Int.reduceEq, Int.reduceToNat, Int.reduceNeg, Nat.reduceLeDiff, Int.reducePow, implies_true, UInt8.reduceToNat, Int.reduceSub, Int.reduceAdd, Nat.reduceLT, Nat.reduceMul, Nat.reduceSub, Nat.reduceBNe] at hX
      subst hX
      refine lw_norm (i + 1) (by omega) ⟨by omega, by rw [next_set]; omega, ⟨v', get_set_eq, ?_⟩, fun c hc hne => by rw [get_set_ne hne, hk2 c (by omega) (hoff' c hc), g1k c (by omega)]; exact hk c hc hne, by simp only [h1, get_set', selE_t, selE_f, Nat.reduceBEq, set_defers, fr00_get, fr00_defers, put_some, put_none ], by simp only [h3, get_set', selE_t, selE_f, Nat.reduceBEq, set_defers, fr00_get, fr00_defers, put_some, put_none ], by simp only [get_set', selE_t, selE_f, Nat.reduceBEq, set_defers, fr00_get, fr00_defers, put_some, put_none ], by simp only [h2, get_set', selE_t, selE_f, Nat.reduceBEq, set_defers, fr00_get, fr00_defers, put_some, put_none ], by simp only [hd, get_set', selE_t, selE_f, Nat.reduceBEq, set_defers, fr00_get, fr00_defers, put_some, put_none ]⟩
      unfold SegV
      rw [hst, vcs_snoc, List.flatten_append, List.length_append]
      have own3 : Own (m2.set bo (.cells [v', kv, .int .i64 (x.D - 1)] 3 43 false)) v' ((vcs (List.filter (fun u => decide (u.block < x.D)) (List.take i x.V))).flatten ++ vc u) ((List.filter (fun u => decide (u.block < x.D)) (List.take i x.V)).length + 1) 4 m0.next :=
        own2.stay (Nat.le_refl _) fun c _ ho => get_set_ne fun e => by have := (own2.below ho).1; omega
      simpa using own3
    · rw [if_neg hb, List.append_nil] at hst
      simp +contextual -implicitDefEqProofs (maxSteps := 1000000) (maxDischargeDepth := 8) only [F_r10_Close_l0, h1, h3, h4, hd, hgx, hgv, hic, hlt, hw, hb, hgb', vc1, vca, hbm, Nat.zero_add, idx_cast, zz0, zz1, zz2, zz3, zz4, zz5, zz6, zz7, zz8, zz9, argsF, reduceIte, reduceCtorEq, Nat.reduceEqDiff, Nat.reduceBEq, Nat.reduceAdd, Int.reduceLT, Int.reduceLE, Int.reduceEq, Int.reduceToNat, Int.reduceNeg, Nat.reduceLeDiff, Int.reducePow, implies_true, UInt8.reduceToNat, Int.reduceSub, Int.reduceAdd, Nat.reduceLT, Nat.reduceMul, Nat.reduceSub, Nat.reduceBNe] at hX
      subst hX
      have hb1 : (bump m 9).next = m.next + 9 := rfl
      refine lw_norm (i + 1) (by omega) ⟨by omega, by omega, ⟨v, hgv, ?_⟩, hk, by simp only [h1, get_set', selE_t, selE_f, Nat.reduceBEq, set_defers, fr00_get, fr00_defers, put_some, put_none ], by simp only [h3, get_set', selE_t, selE_f, Nat.reduceBEq, set_defers, fr00_get, fr00_defers, put_some, put_none ], by simp only [get_set', selE_t, selE_f, Nat.reduceBEq, set_defers, fr00_get, fr00_defers, put_some, put_none ], by simp only [h2, get_set', selE_t, selE_f, Nat.reduceBEq, set_defers, fr00_get, fr00_defers, put_some, put_none ], by simp only [hd, get_set', selE_t, selE_f, Nat.reduceBEq, set_defers, fr00_get, fr00_defers, put_some, put_none ]⟩
      rw [hst]
      exact own.mono (by omega) fun _ _ => rfl
  · have hic : ¬ (i : Int) < (x.V.length : Int) := by omega
    obtain rfl : i = x.V.length := by omega
    simp +contextual -implicitDefEqProofs (maxSteps := 1000000) (maxDischargeDepth := 8) only [F_r10_Close_l0, h1, h4, hd, hgx, hlv0, hic, zz0, zz1, zz2, zz3, zz4, zz5, zz6, zz7, zz8, zz9, argsF, reduceIte, reduceCtorEq, Nat.reduceEqDiff, Nat.reduceBEq, Nat.reduceAdd, Int.reduceLT, Int.reduceLE, Int.reduceEq, Int.reduceToNat, Int.reduceNeg, Nat.reduceLeDiff, Int.reducePow, implies_true, UInt8.reduceToNat, Int.reduceSub, Int.reduceAdd, Nat.reduceLT, Nat.reduceMul, Nat.reduceSub, Nat.reduceBNe] at hX
    subst hX
    rw [List.take_length] at own
    exact lw_exit ⟨_, _, v, rfl, hn, own, hgv, hk, by simp only [h3, get_set', selE_t, selE_f, Nat.reduceBEq, set_defers, fr00_get, fr00_defers, put_some, put_none ], by simp only [h2, get_set', selE_t, selE_f, Nat.reduceBEq, set_defers, fr00_get, fr00_defers, put_some, put_none ], by simp only [hd, get_set', selE_t, selE_f, Nat.reduceBEq, set_defers, fr00_get, fr00_defers, put_some, put_none ]⟩
theorem cells_of_own {m : Mem} {v : EV} {cs : List EV} {n esz lo : Nat} (h : Own m v cs n esz lo) : v.cells = some [v] := by
  rcases h.is with ⟨rfl, _⟩ | ⟨b', cap, t, rfl, _⟩ <;> rfl
theorem refClose_run {m : Mem} {x : Mo} {v w : EV} (hl : x.V.length < 1000000) (hd : -1000000 < x.D ∧ x.D < 1000000) (hv : SegV m v x.V 0) (hw0 : SegK m w x.K 0) : ∃ v' m', run U 17 [.agg [v, w, .int .i64 x.D]] m = some (.ret (.agg [v', w, .int .i64 (x.D - 1)]) m') ∧ SegV m' v' x.close.V m.next ∧ m.next ≤ m'.next ∧ Keeps m m' := by
  generalize hX : run U 17 [.agg [v, w, .int .i64 x.D]] m = X
  rw [run_p2 (by simp [F_r10_Close])] at hX
  generalize hL : exec (UT B Ev.K) (ICode.loop F_r10_Close_l0) = L0 at hX
  have hw : IntKind.i64.wrap (x.D - 1) = x.D - 1 := wrap_i64 (by omega) (by omega)
  have hcv := cells_of_own hv
  have hcw := cells_of_own hw0
  simp +contextual -implicitDefEqProofs (maxSteps := 1000000) (maxDischargeDepth := 8) only [F_r10_Close, hw, hcv, hcw, zz0, zz1, zz2, zz3, zz4, zz5, zz6, zz7, zz8, zz9, argsF, reduceIte, reduceCtorEq, Nat.reduceEqDiff, Nat.reduceBEq, Nat.reduceAdd, Int.reduceLT, Int.reduceLE, Int.reduceEq, Int.reduceToNat, Int.reduceNeg, Nat.reduceLeDiff, Int.reducePow, implies_true, UInt8.reduceToNat, Int.reduceSub, Int.reduceAdd, Nat.reduceLT, Nat.reduceMul, Nat.reduceSub, Nat.reduceBNe] at hX
  subst hL
  generalize hC : exec _ (.loop F_r10_Close_l0) _ _ = C at hX
  have e0 : nb m.next 0 = m.next := rfl
  have e1 : nb m.next 1 = m.next + 1 := rfl
  have e2 : nb m.next 2 = m.next + 2 := rfl
  have en : (ext m [Blk.cells [v, w, EV.int IntKind.i64 x.D] 3 43 false, Blk.cells [EV.nilslice, EV.nilslice, EV.int IntKind.i64 0] 3 43 false, Blk.cells [EV.nilslice, w, EV.int IntKind.i64 (x.D - 1)] 3 43 false]).next = m.next + 3 := by rw [next_ext]; rfl
  have g1 : (ext m [Blk.cells [v, w, EV.int IntKind.i64 x.D] 3 43 false, Blk.cells [EV.nilslice, EV.nilslice, EV.int IntKind.i64 0] 3 43 false, Blk.cells [EV.nilslice, w, EV.int IntKind.i64 (x.D - 1)] 3 43 false]).get (nb m.next 1) = .cells [.nilslice, .nilslice, .int .i64 0] 3 43 false := by rw [get_ext_nb rfl (by simp)]; rfl
  obtain ⟨oo, rfl, fr', m', v', rfl, hn, own, hgo, hk, f3, f2, fd⟩ := looped hC (close_loop (x := x) (v0 := v) hl (bx := nb m.next 0) (bo := nb m.next 2) (kv := w) (by rw [e0, e2]; omega) (hv.ext _) (Classical.byContradiction fun q => by have := (hv.below q).2; omega) (by rw [get_ext_nb rfl (by simp)]; rfl) (by rw [en, e0]; omega) (by rw [en, e2]; omega) (by rw [get_ext_nb rfl (by simp)]; rfl) (by simp only [get_set', selE_t, selE_f, Nat.reduceBEq, set_defers, fr00_get, fr00_defers, put_some, put_none ]) (by simp only [get_set', selE_t, selE_f, Nat.reduceBEq, set_defers, fr00_get, fr00_defers, put_some, put_none ]) (by simp only [get_set', selE_t, selE_f, Nat.reduceBEq, set_defers, fr00_get, fr00_defers, put_some, put_none ]) (by simp only [get_set', selE_t, selE_f, Nat.reduceBEq, set_defers, fr00_get, fr00_defers, put_some, put_none ]))
  rw [en] at hn own hk
  have g1' := (hk (nb m.next 1) (by rw [e1]; omega) (by rw [e1, e2]; omega)).trans g1
  simp only [get_set', selE_t, selE_f, Nat.reduceBEq, set_defers, fr00_get, fr00_defers, put_some, put_none ] at f2
  have hc' := cells_of_own own
  simp +contextual -implicitDefEqProofs (maxSteps := 1000000) (maxDischargeDepth := 8) only [f3, f2, fd, hgo, g1', hc', hcw, zz0, zz1, zz2, zz3, zz4, zz5, zz6, zz7, zz8, zz9, argsF, reduceIte, reduceCtorEq, Nat.reduceEqDiff, Nat.reduceBEq, Nat.reduceAdd, Int.reduceLT, Int.reduceLE, Int.reduceEq, Int.reduceToNat, Int.reduceNeg, Nat.reduceLeDiff, Int.reducePow, implies_true, UInt8.reduceToNat, Int.reduceSub, Int.reduceAdd, Nat.reduceLT, Nat.reduceMul, Nat.reduceSub, Nat.reduceBNe] at hX
  refine ⟨v', _, hX.symm, ?_, by rw [next_set]; omega, fun c hc => by rw [get_set_ne (by rw [e1]; omega), hk c (by omega) (by rw [e2]; omega), get_ext_old hc]⟩
  have own2 : SegV (m'.set (nb m.next 1) (.cells [v', w, .int .i64 (x.D - 1)] 3 43 false)) v' (x.V.filter fun u => decide (u.block < x.D)) (m.next + 3) := own.stay (Nat.le_refl _) fun c _ ho => get_set_ne fun e => by have := (own.below ho).1; rw [e1] at e; omega
  refine ⟨?_, own2.len⟩
  rcases own2.is with q | ⟨b', cap, t, q, q1, q2⟩
  · exact .inl q
  · exact .inr ⟨b', cap, t, q, by omega, q2⟩
end Go.Proofs.Ytjegondbhejpcaa.Ev
end
section
namespace Go.Proofs.Ytjegondbhejpcaa.Ev
open Go
set_option linter.unusedSimpArgs false
set_option linter.unusedVariables false
set_option maxRecDepth 10000
set_option maxHeartbeats 4000000
/-- A row put behind nothing. -/
theorem app0 {m : Mem} {b0 e esz lo n : Nat} {x : EV} {xs : List EV} {t : Nat} (hb : m.get b0 = .cells [] esz t false) (hlt : b0 < m.next) (hlo : lo ≤ b0) (hx : m.source esz x = some (n, xs)) (hl : xs.length = n * esz) (hr : n < 1000000) :
    ∃ v' m', evAppend m e esz (.slice b0 0 0 (some 0)) x = some (v', m') ∧ Own m' v' xs n esz lo ∧ (∀ c, c < m.next → c ≠ b0 → m'.get c = m.get c) ∧ m.next ≤ m'.next ∧ v' ≠ .nilslice := by
  have own : Own m (.slice b0 0 0 (some 0)) [] 0 esz lo := ⟨.inr ⟨b0, some 0, t, rfl, hlo, hlt, hb, .inr rfl⟩, by simp⟩
  by_cases h0 : n = 0
  · subst h0
    refine ⟨.slice b0 0 0 (some 0), m, by unfold evAppend; rw [hx]; rfl, ?_, fun _ _ _ => rfl, Nat.le_refl _, by simp⟩
    have hxs : xs = [] := List.eq_nil_of_length_eq_zero (by rw [hl]; simp)
    subst hxs; exact own
  · obtain ⟨v', m', ha, own2, hk, hn, _, rfl⟩ := append_own (e := e) own (by omega) hx hl h0 (by unfold room; omega)
    exact ⟨_, m', ha, by simpa using own2, fun c hc hne => hk c hc (Off.of hne), by omega, by simp⟩
theorem Own.raise {m : Mem} {v : EV} {cs : List EV} {n esz lo lo' : Nat} (h : Own m v cs n esz lo) (hl : lo' ≤ lo) : Own m v cs n esz lo' := by
  refine ⟨?_, h.len⟩
  rcases h.is with h | ⟨b, cap, t, e, q1, q⟩
  · exact .inl h
  · exact .inr ⟨b, cap, t, e, by omega, q⟩
theorem refDeclare_no {m : Mem} {x : Mo} {v w : EV} {s : Txt} {k : Int} (hl : x.V.length < 1000000) (hv : SegV m v x.V 0) (hw0 : SegK m w x.K 0) (hbad : x.bad s k) : ∃ m', run U 18 [.agg [v, w, .int .i64 x.D], .str s, .int .i64 k] m = some (.ret (.tuple [.agg [v, w, .int .i64 x.D], .bool false]) m') ∧ m.next ≤ m'.next ∧ Keeps m m' := by
  obtain ⟨a, hz1⟩ := (hv.ext [.cells [v, w, .int .i64 x.D] 3 43 false, .cells [.nilslice, .nilslice, .int .i64 0] 3 43 false]).frz vcs_len (vcs_els _) (vcs_plain _)
  obtain ⟨b, hz2⟩ := (hw0.ext [.cells [v, w, .int .i64 x.D] 3 43 false, .cells [.nilslice, .nilslice, .int .i64 0] 3 43 false]).frz kcs_len (kcs_els _) (kcs_plain _)
  have hfi := refFind_eq (x := x) (a := a) (b := b) (s := s) hl
  unfold moV at hfi
  have hcv := cells_of_own hv
  have hcw := cells_of_own hw0
  generalize hX : run U 18 [.agg [v, w, .int .i64 x.D], .str s, .int .i64 k] m = X
  rw [run_p2 (by simp [F_r10_Declare])] at hX
  have fin : ∀ m', X = some (.ret (.tuple [.agg [v, w, .int .i64 x.D], .bool false]) m') → m.next ≤ m'.next → Keeps m m' → ∃ m', X = some (.ret (.tuple [.agg [v, w, .int .i64 x.D], .bool false]) m') ∧ m.next ≤ m'.next ∧ Keeps m m' := fun m' h1 h2 h3 => ⟨m', h1, h2, h3⟩
  by_cases k1 : k < 1
  · simp +contextual -implicitDefEqProofs (maxSteps := 1000000) (maxDischargeDepth := 8) only [F_r10_Declare, hfi, hz1, hz2, hcv, hcw, k1, zz0, zz1, zz2, zz3, zz4, zz5, zz6, zz7, zz8, zz9, argsF, reduceIte, reduceCtorEq, Nat.reduceEqDiff, Nat.reduceBEq, Nat.reduceAdd, Int.reduceLT, Int.reduceLE, Int.reduceEq, Int.reduceToNat, Int.reduceNeg, Nat.reduceLeDiff, Int.reducePow, implies_true, UInt8.reduceToNat, Int.reduceSub, Int.reduceAdd, Nat.reduceLT, Nat.reduceMul, Nat.reduceSub, Nat.reduceBNe] at hX
    exact fin _ hX.symm (by simp only [next_bump, next_ext, nb_nb]; exact le_nb) (keeps_bump keeps_ext)
  by_cases k2 : 3 < k
  · simp +contextual -implicitDefEqProofs (maxSteps := 1000000) (maxDischargeDepth := 8) only [F_r10_Declare, hfi, hz1, hz2, hcv, hcw, k1, k2, zz0, zz1, zz2, zz3, zz4, zz5, zz6, zz7, zz8, zz9, argsF, reduceIte, reduceCtorEq, Nat.reduceEqDiff, Nat.reduceBEq, Nat.reduceAdd, Int.reduceLT, Int.reduceLE, Int.reduceEq, Int.reduceToNat, Int.reduceNeg, Nat.reduceLeDiff, Int.reducePow, implies_true, UInt8.reduceToNat, Int.reduceSub, Int.reduceAdd, Nat.reduceLT, Nat.reduceMul, Nat.reduceSub, Nat.reduceBNe] at hX
    exact fin _ hX.symm (by simp only [next_bump, next_ext, nb_nb]; exact le_nb) (keeps_bump keeps_ext)
  rcases hbad with q | ⟨u, hu, hub⟩
  · omega
  rcases find_last (s := s) x.V with ⟨h1, _⟩ | ⟨l, v', j, h1, h2, h3⟩
  · rw [h1] at hu; cases hu
  · rw [h1] at hu
    simp at hu
    subst hu
    have hj : (0 : Int) ≤ (j : Int) := by omega
    have hjl : j < x.V.length := (List.getElem?_eq_some_iff.1 h3).1
    rw [h2] at hfi
    obtain ⟨-, vc1, -, -, -⟩ := vc_cell h3
    rcases hv.is with ⟨_, q, _⟩ | ⟨b', cap, t, ev, _, hbn, hgb, _⟩
    · omega
    rw [ev] at hz1 hcv
    rw [ev] at hz2
    rw [ev] at hX fin ⊢
    simp +contextual -implicitDefEqProofs (maxSteps := 1000000) (maxDischargeDepth := 8) only [F_r10_Declare, hfi, hz1, hz2, hcv, hcw, k1, k2, hj, hjl, hub, vc1, hgb, hbn, Nat.zero_add, idx_cast, zz0, zz1, zz2, zz3, zz4, zz5, zz6, zz7, zz8, zz9, argsF, reduceIte, reduceCtorEq, Nat.reduceEqDiff, Nat.reduceBEq, Nat.reduceAdd, Int.reduceLT, Int.reduceLE, Int.reduceEq, Int.reduceToNat, Int.reduceNeg, Nat.reduceLeDiff, Int.reducePow, implies_true, UInt8.reduceToNat, Int.reduceSub, Int.reduceAdd, Nat.reduceLT, Nat.reduceMul, Nat.reduceSub, Nat.reduceBNe] at hX
    exact fin _ hX.symm (by simp only [next_bump, next_ext, nb_nb]; exact le_nb) (keeps_bump keeps_ext)
theorem refDeclare_yes {m : Mem} {x : Mo} {v w : EV} {s : Txt} {k : Int} (hl : x.V.length < 1000000) (hkl : x.K.length < 1000000) (hv : SegV m v x.V 0) (hw0 : SegK m w x.K 0) (hbad : ¬ x.bad s k) : ∃ v' w' m', run U 18 [.agg [v, w, .int .i64 x.D], .str s, .int .i64 k] m = some (.ret (.tuple [.agg [v', w', .int .i64 x.D], .bool true]) m') ∧ SegV m' v' (x.add s k).V m.next ∧ SegK m' w' (x.add s k).K m.next ∧ m.next ≤ m'.next ∧ Keeps m m' := by
  obtain ⟨a, hz1⟩ := (hv.ext [.cells [v, w, .int .i64 x.D] 3 43 false, .cells [.nilslice, .nilslice, .int .i64 0] 3 43 false]).frz vcs_len (vcs_els _) (vcs_plain _)
  obtain ⟨b, hz2⟩ := (hw0.ext [.cells [v, w, .int .i64 x.D] 3 43 false, .cells [.nilslice, .nilslice, .int .i64 0] 3 43 false]).frz kcs_len (kcs_els _) (kcs_plain _)
  have hfi := refFind_eq (x := x) (a := a) (b := b) (s := s) hl
  unfold moV at hfi
  have hcv := cells_of_own hv
  have hcw := cells_of_own hw0
  have k1 : ¬ k < 1 := fun q => hbad (.inl (.inl q))
  have k2 : ¬ 3 < k := fun q => hbad (.inl (.inr q))
  generalize hX : run U 18 [.agg [v, w, .int .i64 x.D], .str s, .int .i64 k] m = X
  rw [run_p2 (by simp [F_r10_Declare])] at hX
  rcases find_last (s := s) x.V with ⟨h1, h2⟩ | ⟨l, v', j, h1, h2, h3⟩
  · rw [h2] at hfi
    have hj : ¬ (0 : Int) ≤ -1 := by decide
    simp +contextual -implicitDefEqProofs (maxSteps := 1000000) (maxDischargeDepth := 8) only [F_r10_Declare, hfi, hz1, hz2, hcv, hcw, k1, k2, hj, zz0, zz1, zz2, zz3, zz4, zz5, zz6, zz7, zz8, zz9, argsF, reduceIte, reduceCtorEq, Nat.reduceEqDiff, Nat.reduceBEq, Nat.reduceAdd, Int.reduceLT, Int.reduceLE, Int.reduceEq, Int.reduceToNat, Int.reduceNeg, Nat.reduceLeDiff, Int.reducePow, implies_true, UInt8.reduceToNat, Int.reduceSub, Int.reduceAdd, Nat.reduceLT, Nat.reduceMul, Nat.reduceSub, Nat.reduceBNe] at hX
    generalize hM1 : ext (bump (ext m _) 21) _ = M1 at hX
    have n1 : M1.next = m.next + 24 := by rw [← hM1]; rfl
    have e0 : nb m.next 0 = m.next := rfl
    have e1 : nb m.next 1 = m.next + 1 := rfl
    have e23 : nb m.next 23 = m.next + 23 := rfl
    have gb : M1.get (nb m.next 0) = .cells [v, w, .int .i64 x.D] 3 43 false := by
      rw [← hM1, get_ext_old (show m.next < m.next + 23 by omega), get_bump, get_ext_nb rfl (by simp)]; rfl
    have gt : M1.get (nb m.next 1) = .cells [.nilslice, .nilslice, .int .i64 0] 3 43 false := by
      rw [← hM1, get_ext_old (show m.next + 1 < m.next + 23 by omega), get_bump, get_ext_nb rfl (by simp)]; rfl
    have gd : M1.get (nb m.next 23) = .cells [] 4 52 false := by
      rw [← hM1]; exact (get_ext_nb (n := m.next + 23) (i := 0) rfl (by simp)).trans rfl
    have gk : Keeps m M1 := fun c hc => by
      rw [← hM1, get_ext_old (show c < m.next + 23 by omega), get_bump, get_ext_old hc]
    clear hM1
    have hsV := (hv.mono (m' := M1) (by omega) gk).source
    obtain ⟨v1, M2, a1, own1, hk1, hn1, hnn1⟩ := app0 (e := 52) (lo := m.next + 23) gd (by rw [n1, e23]; omega) (by rw [e23]; exact Nat.le_refl _) hsV (by rw [flat_len (vcs_els _), vcs_len]) hl
    have gb2 := (hk1 (nb m.next 0) (by rw [n1, e0]; omega) (by rw [e0, e23]; omega)).trans gb
    have gt2 := (hk1 (nb m.next 1) (by rw [n1, e1]; omega) (by rw [e1, e23]; omega)).trans gt
    have gk2 : Keeps m M2 := fun c hc => (hk1 c (by omega) (by rw [e23]; omega)).trans (gk c hc)
    have hsK := ((hw0.mono (m' := M2) (by omega) gk2).ext [.cells [] 1 3 false]).source
    have gd2 : (ext M2 [Blk.cells [] 1 3 false]).get (nb M2.next 0) = .cells [] 1 3 false := by rw [get_ext_nb rfl (by simp)]; rfl
    have hl2 : M2.next < (ext M2 [Blk.cells [] 1 3 false]).next := by rw [next_ext]; show M2.next < M2.next + 1; omega
    obtain ⟨v2, M3, a2, own2, hk2, hn2, hnn2⟩ := app0 (e := 3) (lo := M2.next) gd2 hl2 (Nat.le_refl _) hsK (by rw [flat_len (kcs_els _), kcs_len]) hkl
    have hk2' : ∀ c, c < M2.next → M3.get c = M2.get c := fun c hc => by rw [hk2 c (by omega) (fun q => by have : nb M2.next 0 = M2.next := rfl; omega), get_ext_old hc]
    have gb3 := (hk2' (nb m.next 0) (by rw [e0]; omega)).trans gb2
    have gt3 := (hk2' (nb m.next 1) (by rw [e1]; omega)).trans gt2
    have gk3 : Keeps m M3 := fun c hc => (hk2' c (by omega)).trans (gk2 c hc)
    have own13 : Own M3 v1 (vcs x.V).flatten x.V.length 4 (m.next + 23) := own1.mono (by omega) hk2'
    have hlv2 : ∀ M : Mem, lenE v2 M = some (.val (.int .i64 (x.K.length : Int)) M) := fun M => by
      rcases own2.is with ⟨q, _⟩ | ⟨b', cap, t, rfl, _⟩
      · exact absurd q hnn2
      · rfl
    have l0 : nb m.next 0 < M2.next := by rw [e0]; omega
    have l3 : nb m.next 0 < M3.next := by rw [e0]; omega
    have l4 : nb m.next 1 < M3.next := by rw [e1]; omega
    simp +contextual -implicitDefEqProofs (maxSteps := 1000000) (maxDischargeDepth := 8) only [a1, gb2, l0, a2, gb3, hlv2, l3, l4, zz0, zz1, zz2, zz3, zz4, zz5, zz6, zz7, zz8, zz9, argsF, reduceIte, reduceCtorEq, Nat.reduceEqDiff, Nat.reduceBEq, Nat.reduceAdd, Int.reduceLT, Int.reduceLE, Int.reduceEq, Int.reduceToNat, Int.reduceNeg, Nat.reduceLeDiff, Int.reducePow, implies_true, UInt8.reduceToNat, Int.reduceSub, Int.reduceAdd, Nat.reduceLT, Nat.reduceMul, Nat.reduceSub, Nat.reduceBNe] at hX
    generalize hM4 : Mem.mk (nb M3.next 19) _ = M4 at hX
    have n4 : M4.next = M3.next + 19 := by rw [← hM4]; rfl
    have k4 : ∀ c, c < M3.next → M4.get c = M3.get c := by
      intro c hc
      rw [← hM4]
      show (ext (Mem.mk _ _) _).get c = _
      rw [get_ext_old (show c < M3.next + 8 by omega)]
      rfl
    have x4 : M4.get (nb (M3.next + 8) 0) = .cells (vc ⟨s, x.D, x.K.length, k⟩) 4 52 false := by
      rw [← hM4]
      show (ext (Mem.mk _ _) _).get _ = _
      rw [get_ext_nb rfl (by simp)]; rfl
    clear hM4
    have gb4 := (k4 _ l3).trans gb3
    have own14 := own13.mono (m' := M4) (by omega) k4
    have own24 := own2.mono (m' := M4) (by omega) k4
    obtain ⟨v3, M5, a3, own3, k5, n5, _, hv3⟩ := append_own (e := 52) (x := .slice (nb (M3.next + 8) 0) 0 1 (some 1)) own14 (by omega) (source_at x4 rfl) rfl (by decide) (by unfold room; omega)
    have off1 : ∀ c, (M2.next ≤ c ∨ c < m.next + 23) → Off v1 c := fun c hc => Classical.byContradiction fun q => by have := own1.below q; omega
    have gb5 := (k5 (nb m.next 0) (by omega) (off1 _ (by rw [e0]; omega))).trans gb4
    have gt5 := (k5 (nb m.next 1) (by omega) (off1 _ (by rw [e1]; omega))).trans ((k4 _ l4).trans gt3)
    have own25 : Own M5 v2 (kcs x.K).flatten x.K.length 1 M2.next := own24.stay (by omega) fun c hc ho => k5 c hc (off1 _ (.inl (own24.below ho).1))
    simp +contextual -implicitDefEqProofs (maxSteps := 1000000) (maxDischargeDepth := 8) only [a3, zz0, zz1, zz2, zz3, zz4, zz5, zz6, zz7, zz8, zz9, argsF, reduceIte, reduceCtorEq, Nat.reduceEqDiff, Nat.reduceBEq, Nat.reduceAdd, Int.reduceLT, Int.reduceLE, Int.reduceEq, Int.reduceToNat, Int.reduceNeg, Nat.reduceLeDiff, Int.reducePow, implies_true, UInt8.reduceToNat, Int.reduceSub, Int.reduceAdd, Nat.reduceLT, Nat.reduceMul, Nat.reduceSub, Nat.reduceBNe] at hX
    generalize hM6 : Mem.mk M5.next _ = M6 at hX
    have n6 : M6.next = M5.next := by rw [← hM6]
    have k6 : ∀ c, c ≠ M3.next + 12 → M6.get c = M5.get c := by
      intro c hc
      rw [← hM6]
      show (Mem.new (Mem.mk (M3.next + 12) M5.tbl) _).get c = _
      rw [get_new, if_neg hc]; rfl
    have x6 : M6.get (nb (M3.next + 12) 0) = .cells [.int .i64 k] 1 3 false := by
      rw [← hM6]
      show (ext (Mem.mk _ _) _).get _ = _
      rw [get_ext_nb rfl (by simp)]; rfl
    clear hM6
    have gb6 := (k6 (nb m.next 0) (by rw [e0]; omega)).trans gb5
    have gt6 := (k6 (nb m.next 1) (by rw [e1]; omega)).trans gt5
    have hb2 : ∀ c, ¬ Off v2 c → c < M3.next := fun c hq => (own2.below hq).2
    have own26 : Own M6 v2 (kcs x.K).flatten x.K.length 1 M2.next := own25.stay (by omega) fun c _ ho => k6 c (by have := hb2 c ho; omega)
    obtain ⟨v4, M7, a4, own4, k7, n7, _, hv4⟩ := append_own (e := 3) (x := .slice (nb (M3.next + 12) 0) 0 1 (some 1)) own26 (by omega) (source_at x6 rfl) rfl (by decide) (by unfold room; omega)
    have off2 : ∀ c, (M3.next ≤ c ∨ c < M2.next) → Off v2 c := fun c hc => Classical.byContradiction fun q => by have := own2.below q; omega
    have gb7 := (k7 (nb m.next 0) (by rw [e0]; omega) (off2 _ (by rw [e0]; omega))).trans gb6
    have gt7 := (k7 (nb m.next 1) (by rw [e1]; omega) (off2 _ (by rw [e1]; omega))).trans gt6
    have own37 : Own (M7.set (nb m.next 1) (.cells [v3, v4, .int .i64 x.D] 3 43 false)) v3 (vcs (x.V ++ [Pv.mk s x.D x.K.length k])).flatten (x.V ++ [Pv.mk s x.D x.K.length k]).length 4 (m.next + 23) := by
      rw [vcs_snoc, List.flatten_append, List.length_append, show ([vc (Pv.mk s x.D x.K.length k)] : List (List EV)).flatten = vc (Pv.mk s x.D x.K.length k) by simp]
      refine Own.stay own3 (by rw [next_set]; omega) fun c hc ho => ?_
      have hb' : c = M4.next := Classical.byContradiction fun q => by rw [hv3] at ho; exact ho (Off.of q)
      rw [get_set_ne (by rw [e1]; omega), k7 c (by omega) (off2 _ (by omega)), k6 c (by omega)]
    have own47 : Own (M7.set (nb m.next 1) (.cells [v3, v4, .int .i64 x.D] 3 43 false)) v4 (kcs (x.K ++ [k])).flatten (x.K ++ [k]).length 1 M2.next := by
      rw [kcs_snoc, List.flatten_append, List.length_append, show ([[EV.int .i64 k]] : List (List EV)).flatten = [.int .i64 k] by simp]
      exact Own.stay own4 (by rw [next_set]; omega) fun c hc ho => get_set_ne (by have := (own4.below ho).1; rw [e1]; omega)
    subst hv3 hv4
    have l7 : nb m.next 1 < M7.next := by rw [e1]; omega
    simp +contextual -implicitDefEqProofs (maxSteps := 1000000) (maxDischargeDepth := 8) only [a4, gb4, gb6, gb7, gt7, l7, zz0, zz1, zz2, zz3, zz4, zz5, zz6, zz7, zz8, zz9, argsF, reduceIte, reduceCtorEq, Nat.reduceEqDiff, Nat.reduceBEq, Nat.reduceAdd, Int.reduceLT, Int.reduceLE, Int.reduceEq, Int.reduceToNat, Int.reduceNeg, Nat.reduceLeDiff, Int.reducePow, implies_true, UInt8.reduceToNat, Int.reduceSub, Int.reduceAdd, Nat.reduceLT, Nat.reduceMul, Nat.reduceSub, Nat.reduceBNe] at hX
    refine ⟨_, _, _, hX.symm, own37.raise (by omega), own47.raise (by omega), by rw [next_set]; omega, fun c hc => ?_⟩
    rw [get_set_ne (by rw [e1]; omega), k7 c (by omega) (off2 _ (by omega)), k6 c (by omega), k5 c (by omega) (off1 _ (by omega)), k4 c (by omega)]
    exact gk3 c hc
  · rw [h2] at hfi
    have hj : (0 : Int) ≤ (j : Int) := by omega
    have hjl : j < x.V.length := (List.getElem?_eq_some_iff.1 h3).1
    have hvb : ¬ v'.block = x.D := fun q => hbad (.inr ⟨v', by rw [h1]; simp, q⟩)
    obtain ⟨-, vc1, -, -, -⟩ := vc_cell h3
    obtain ⟨b', cap, t, ev, hbn, hgb⟩ : ∃ b' cap t, v = .slice b' 0 x.V.length cap ∧ b' < m.next ∧ m.get b' = .cells (vcs x.V).flatten 4 t false := by
      rcases hv.is with ⟨_, q, _⟩ | ⟨b', cap, t, ev, _, hbn, hgb, _⟩
      · omega
      · exact ⟨b', cap, t, ev, hbn, hgb⟩
    subst ev
    simp +contextual -implicitDefEqProofs (maxSteps := 1000000) (maxDischargeDepth := 8) only [F_r10_Declare, hfi, hz1, hz2, hcv, hcw, k1, k2, hj, hjl, hvb, vc1, hgb, hbn, Nat.zero_add, idx_cast, zz0, zz1, zz2, zz3, zz4, zz5, zz6, zz7, zz8, zz9, argsF, reduceIte, reduceCtorEq, Nat.reduceEqDiff, Nat.reduceBEq, Nat.reduceAdd, Int.reduceLT, Int.reduceLE, Int.reduceEq, Int.reduceToNat, Int.reduceNeg, Nat.reduceLeDiff, Int.reducePow, implies_true, UInt8.reduceToNat, Int.reduceSub, Int.reduceAdd, Nat.reduceLT, Nat.reduceMul, Nat.reduceSub, Nat.reduceBNe] at hX
    generalize hM1 : ext (bump (ext m _) 21) _ = M1 at hX
    have n1 : M1.next = m.next + 24 := by rw [← hM1]; rfl
    have e0 : nb m.next 0 = m.next := rfl
    have e1 : nb m.next 1 = m.next + 1 := rfl
    have e23 : nb m.next 23 = m.next + 23 := rfl
    have gb : M1.get (nb m.next 0) = .cells [.slice b' 0 x.V.length cap, w, .int .i64 x.D] 3 43 false := by
      rw [← hM1, get_ext_old (show m.next < m.next + 23 by omega), get_bump, get_ext_nb rfl (by simp)]; rfl
    have gt : M1.get (nb m.next 1) = .cells [.nilslice, .nilslice, .int .i64 0] 3 43 false := by
      rw [← hM1, get_ext_old (show m.next + 1 < m.next + 23 by omega), get_bump, get_ext_nb rfl (by simp)]; rfl
    have gd : M1.get (nb m.next 23) = .cells [] 4 52 false := by
      rw [← hM1]; exact (get_ext_nb (n := m.next + 23) (i := 0) rfl (by simp)).trans rfl
    have gk : Keeps m M1 := fun c hc => by
      rw [← hM1, get_ext_old (show c < m.next + 23 by omega), get_bump, get_ext_old hc]
    clear hM1
    have hsV := (hv.mono (m' := M1) (by omega) gk).source
    obtain ⟨v1, M2, a1, own1, hk1, hn1, hnn1⟩ := app0 (e := 52) (lo := m.next + 23) gd (by rw [n1, e23]; omega) (by rw [e23]; exact Nat.le_refl _) hsV (by rw [flat_len (vcs_els _), vcs_len]) hl
    have gb2 := (hk1 (nb m.next 0) (by rw [n1, e0]; omega) (by rw [e0, e23]; omega)).trans gb
    have gt2 := (hk1 (nb m.next 1) (by rw [n1, e1]; omega) (by rw [e1, e23]; omega)).trans gt
    have gk2 : Keeps m M2 := fun c hc => (hk1 c (by omega) (by rw [e23]; omega)).trans (gk c hc)
    have hsK := ((hw0.mono (m' := M2) (by omega) gk2).ext [.cells [] 1 3 false]).source
    have gd2 : (ext M2 [Blk.cells [] 1 3 false]).get (nb M2.next 0) = .cells [] 1 3 false := by rw [get_ext_nb rfl (by simp)]; rfl
    have hl2 : M2.next < (ext M2 [Blk.cells [] 1 3 false]).next := by rw [next_ext]; show M2.next < M2.next + 1; omega
    obtain ⟨v2, M3, a2, own2, hk2, hn2, hnn2⟩ := app0 (e := 3) (lo := M2.next) gd2 hl2 (Nat.le_refl _) hsK (by rw [flat_len (kcs_els _), kcs_len]) hkl
    have hk2' : ∀ c, c < M2.next → M3.get c = M2.get c := fun c hc => by rw [hk2 c (by omega) (fun q => by have : nb M2.next 0 = M2.next := rfl; omega), get_ext_old hc]
    have gb3 := (hk2' (nb m.next 0) (by rw [e0]; omega)).trans gb2
    have gt3 := (hk2' (nb m.next 1) (by rw [e1]; omega)).trans gt2
    have gk3 : Keeps m M3 := fun c hc => (hk2' c (by omega)).trans (gk2 c hc)
    have own13 : Own M3 v1 (vcs x.V).flatten x.V.length 4 (m.next + 23) := own1.mono (by omega) hk2'
    have hlv2 : ∀ M : Mem, lenE v2 M = some (.val (.int .i64 (x.K.length : Int)) M) := fun M => by
      rcases own2.is with ⟨q, _⟩ | ⟨b', cap, t, rfl, _⟩
      · exact absurd q hnn2
      · rfl
    have l0 : nb m.next 0 < M2.next := by rw [e0]; omega
    have l3 : nb m.next 0 < M3.next := by rw [e0]; omega
    have l4 : nb m.next 1 < M3.next := by rw [e1]; omega
    simp +contextual -implicitDefEqProofs (maxSteps := 1000000) (maxDischargeDepth := 8) only [a1, gb2, l0, a2, gb3, hlv2, l3, l4, zz0, zz1, zz2, zz3, zz4, zz5, zz6, zz7, zz8, zz9, argsF, reduceIte, reduceCtorEq, Nat.reduceEqDiff, Nat.reduceBEq, Nat.reduceAdd, Int.reduceLT, Int.reduceLE, Int.reduceEq, Int.reduceToNat, Int.reduceNeg, Nat.reduceLeDiff, Int.reducePow, implies_true, UInt8.reduceToNat, Int.reduceSub, Int.reduceAdd, Nat.reduceLT, Nat.reduceMul, Nat.reduceSub, Nat.reduceBNe] at hX
    generalize hM4 : Mem.mk (nb M3.next 19) _ = M4 at hX
    have n4 : M4.next = M3.next + 19 := by rw [← hM4]; rfl
    have k4 : ∀ c, c < M3.next → M4.get c = M3.get c := by
      intro c hc
      rw [← hM4]
      show (ext (Mem.mk _ _) _).get c = _
      rw [get_ext_old (show c < M3.next + 8 by omega)]
      rfl
    have x4 : M4.get (nb (M3.next + 8) 0) = .cells (vc ⟨s, x.D, x.K.length, k⟩) 4 52 false := by
      rw [← hM4]
      show (ext (Mem.mk _ _) _).get _ = _
      rw [get_ext_nb rfl (by simp)]; rfl
    clear hM4
    have gb4 := (k4 _ l3).trans gb3
    have own14 := own13.mono (m' := M4) (by omega) k4
    have own24 := own2.mono (m' := M4) (by omega) k4
    obtain ⟨v3, M5, a3, own3, k5, n5, _, hv3⟩ := append_own (e := 52) (x := .slice (nb (M3.next + 8) 0) 0 1 (some 1)) own14 (by omega) (source_at x4 rfl) rfl (by decide) (by unfold room; omega)
    have off1 : ∀ c, (M2.next ≤ c ∨ c < m.next + 23) → Off v1 c := fun c hc => Classical.byContradiction fun q => by have := own1.below q; omega
    have gb5 := (k5 (nb m.next 0) (by omega) (off1 _ (by rw [e0]; omega))).trans gb4
    have gt5 := (k5 (nb m.next 1) (by omega) (off1 _ (by rw [e1]; omega))).trans ((k4 _ l4).trans gt3)
    have own25 : Own M5 v2 (kcs x.K).flatten x.K.length 1 M2.next := own24.stay (by omega) fun c hc ho => k5 c hc (off1 _ (.inl (own24.below ho).1))
    simp +contextual -implicitDefEqProofs (maxSteps := 1000000) (maxDischargeDepth := 8) only [a3, zz0, zz1, zz2, zz3, zz4, zz5, zz6, zz7, zz8, zz9, argsF, reduceIte, reduceCtorEq, Nat.reduceEqDiff, Nat.reduceBEq, Nat.reduceAdd, Int.reduceLT, Int.reduceLE, Int.reduceEq, Int.reduceToNat, Int.reduceNeg, Nat.reduceLeDiff, Int.reducePow, implies_true, UInt8.reduceToNat, Int.reduceSub, Int.reduceAdd, Nat.reduceLT, Nat.reduceMul, Nat.reduceSub, Nat.reduceBNe] at hX
    generalize hM6 : Mem.mk M5.next _ = M6 at hX
    have n6 : M6.next = M5.next := by rw [← hM6]
    have k6 : ∀ c, c ≠ M3.next + 12 → M6.get c = M5.get c := by
      intro c hc
      rw [← hM6]
      show (Mem.new (Mem.mk (M3.next + 12) M5.tbl) _).get c = _
      rw [get_new, if_neg hc]; rfl
    have x6 : M6.get (nb (M3.next + 12) 0) = .cells [.int .i64 k] 1 3 false := by
      rw [← hM6]
      show (ext (Mem.mk _ _) _).get _ = _
      rw [get_ext_nb rfl (by simp)]; rfl
    clear hM6
    have gb6 := (k6 (nb m.next 0) (by rw [e0]; omega)).trans gb5
    have gt6 := (k6 (nb m.next 1) (by rw [e1]; omega)).trans gt5
    have hb2 : ∀ c, ¬ Off v2 c → c < M3.next := fun c hq => (own2.below hq).2
    have own26 : Own M6 v2 (kcs x.K).flatten x.K.length 1 M2.next := own25.stay (by omega) fun c _ ho => k6 c (by have := hb2 c ho; omega)
    obtain ⟨v4, M7, a4, own4, k7, n7, _, hv4⟩ := append_own (e := 3) (x := .slice (nb (M3.next + 12) 0) 0 1 (some 1)) own26 (by omega) (source_at x6 rfl) rfl (by decide) (by unfold room; omega)
    have off2 : ∀ c, (M3.next ≤ c ∨ c < M2.next) → Off v2 c := fun c hc => Classical.byContradiction fun q => by have := own2.below q; omega
    have gb7 := (k7 (nb m.next 0) (by rw [e0]; omega) (off2 _ (by rw [e0]; omega))).trans gb6
    have gt7 := (k7 (nb m.next 1) (by rw [e1]; omega) (off2 _ (by rw [e1]; omega))).trans gt6
    have own37 : Own (M7.set (nb m.next 1) (.cells [v3, v4, .int .i64 x.D] 3 43 false)) v3 (vcs (x.V ++ [Pv.mk s x.D x.K.length k])).flatten (x.V ++ [Pv.mk s x.D x.K.length k]).length 4 (m.next + 23) := by
      rw [vcs_snoc, List.flatten_append, List.length_append, show ([vc (Pv.mk s x.D x.K.length k)] : List (List EV)).flatten = vc (Pv.mk s x.D x.K.length k) by simp]
      refine Own.stay own3 (by rw [next_set]; omega) fun c hc ho => ?_
      have hb' : c = M4.next := Classical.byContradiction fun q => by rw [hv3] at ho; exact ho (Off.of q)
      rw [get_set_ne (by rw [e1]; omega), k7 c (by omega) (off2 _ (by omega)), k6 c (by omega)]
    have own47 : Own (M7.set (nb m.next 1) (.cells [v3, v4, .int .i64 x.D] 3 43 false)) v4 (kcs (x.K ++ [k])).flatten (x.K ++ [k]).length 1 M2.next := by
      rw [kcs_snoc, List.flatten_append, List.length_append, show ([[EV.int .i64 k]] : List (List EV)).flatten = [.int .i64 k] by simp]
      exact Own.stay own4 (by rw [next_set]; omega) fun c hc ho => get_set_ne (by have := (own4.below ho).1; rw [e1]; omega)
    subst hv3 hv4
    have l7 : nb m.next 1 < M7.next := by rw [e1]; omega
    simp +contextual -implicitDefEqProofs (maxSteps := 1000000) (maxDischargeDepth := 8) only [a4, gb4, gb6, gb7, gt7, l7, zz0, zz1, zz2, zz3, zz4, zz5, zz6, zz7, zz8, zz9, argsF, reduceIte, reduceCtorEq, Nat.reduceEqDiff, Nat.reduceBEq, Nat.reduceAdd, Int.reduceLT, Int.reduceLE, Int.reduceEq, Int.reduceToNat, Int.reduceNeg, Nat.reduceLeDiff, Int.reducePow, implies_true, UInt8.reduceToNat, Int.reduceSub, Int.reduceAdd, Nat.reduceLT, Nat.reduceMul, Nat.reduceSub, Nat.reduceBNe] at hX
    refine ⟨_, _, _, hX.symm, own37.raise (by omega), own47.raise (by omega), by rw [next_set]; omega, fun c hc => ?_⟩
    rw [get_set_ne (by rw [e1]; omega), k7 c (by omega) (off2 _ (by omega)), k6 c (by omega), k5 c (by omega) (off1 _ (by omega)), k4 c (by omega)]
    exact gk3 c hc
end Go.Proofs.Ytjegondbhejpcaa.Ev
end
section
namespace Go.Proofs.Ytjegondbhejpcaa.Ev
open Go
set_option linter.unusedSimpArgs false
set_option linter.unusedVariables false
set_option maxRecDepth 10000
set_option maxHeartbeats 4000000
theorem kcs_get {l : List Int} {i : Nat} : (kcs l)[i]? = (l[i]?).map fun n => [.int .i64 n] := by unfold kcs; rw [List.getElem?_map]
theorem sameInts_loop {A : List Int} {t t' : Nat} {nl nl' : Bool} (hl : A.length < 1000000000) {m0 : Mem} {fr : Fr} (h0 : fr.get 0 = row nl t 1 (kcs A)) (h1 : fr.get 1 = row nl' t' 1 (kcs A)) (h5 : fr.get 5 = .int .i64 0) (hd : fr.defers = []) :
    ∃ o, exec U (.loop F_base_SameInts_l0) fr m0 = some o ∧ ∃ fr' m', o = .exit 0 fr' m' ∧ fr'.defers = [] := by
  refine loop_w (σ := Nat) (fun i fr m => i ≤ A.length ∧ fr.get 0 = row nl t 1 (kcs A) ∧ fr.get 1 = row nl' t' 1 (kcs A) ∧ fr.get 5 = .int .i64 (i : Int) ∧ fr.defers = []) (fun i => A.length - i) _ ?_ 0 fr m0 ⟨Nat.zero_le _, h0, h1, h5, hd⟩
  rintro i fr m ⟨hi, h0, h1, h5, hd⟩
  generalize hX : exec U F_base_SameInts_l0 fr m = X
  by_cases hlt : i < A.length
  · have hc : (i : Int) < (A.length : Int) := by omega
    have hg : A[i]? = some A[i] := List.getElem?_eq_getElem hlt
    have hw1 := wrap_succ (i := i) (by omega)
    simp +contextual -implicitDefEqProofs (maxSteps := 1000000) (maxDischargeDepth := 8) only [F_base_SameInts_l0, h0, h1, h5, hd, hc, hg, hlt, hw1, idx_cast, kcs_get, kcs_len, zz0, zz1, zz2, zz3, zz4, zz5, zz6, zz7, zz8, zz9, argsF, reduceIte, reduceCtorEq, Nat.reduceEqDiff, Nat.reduceBEq, Nat.reduceAdd, Int.reduceLT, Int.reduceLE, Int.reduceEq, Int.reduceToNat, Int.reduceNeg, Nat.reduceLeDiff, Int.reducePow, implies_true, UInt8.reduceToNat, Int.reduceSub, Int.reduceAdd, Nat.reduceLT, Nat.reduceMul, Nat.reduceSub, Nat.reduceBNe] at hX
    subst hX
    exact lw_norm (i + 1) (by omega) ⟨hlt, by simp only [h0, get_set', selE_t, selE_f, Nat.reduceBEq, set_defers, fr00_get, fr00_defers, put_some, put_none ], by simp only [h1, get_set', selE_t, selE_f, Nat.reduceBEq, set_defers, fr00_get, fr00_defers, put_some, put_none ], by simp only [get_set', selE_t, selE_f, Nat.reduceBEq, set_defers, fr00_get, fr00_defers, put_some, put_none ], by simp only [hd, get_set', selE_t, selE_f, Nat.reduceBEq, set_defers, fr00_get, fr00_defers, put_some, put_none ]⟩
  · have hc : ¬ ((i : Int) < (A.length : Int)) := by omega
    simp +contextual -implicitDefEqProofs (maxSteps := 1000000) (maxDischargeDepth := 8) only [F_base_SameInts_l0, h0, h1, h5, hd, hc, kcs_len, zz0, zz1, zz2, zz3, zz4, zz5, zz6, zz7, zz8, zz9, argsF, reduceIte, reduceCtorEq, Nat.reduceEqDiff, Nat.reduceBEq, Nat.reduceAdd, Int.reduceLT, Int.reduceLE, Int.reduceEq, Int.reduceToNat, Int.reduceNeg, Nat.reduceLeDiff, Int.reducePow, implies_true, UInt8.reduceToNat, Int.reduceSub, Int.reduceAdd, Nat.reduceLT, Nat.reduceMul, Nat.reduceSub, Nat.reduceBNe] at hX
    subst hX
    exact lw_exit ⟨_, _, rfl, by simp only [hd, get_set', selE_t, selE_f, Nat.reduceBEq, set_defers, fr00_get, fr00_defers, put_some, put_none ]⟩
theorem sameInts_eq {A : List Int} {t t' : Nat} {nl nl' : Bool} (hl : A.length < 1000000000) : pureR B Ev.K n_base_SameInts [row nl t 1 (kcs A), row nl' t' 1 (kcs A)] = some (.bool true) := by
  rw [pure_at (by simp [F_base_SameInts])]
  generalize hL : exec (UT B Ev.K) (ICode.loop F_base_SameInts_l0) = L
  simp +contextual -implicitDefEqProofs (maxSteps := 1000000) (maxDischargeDepth := 8) only [F_base_SameInts, kcs_len, zz0, zz1, zz2, zz3, zz4, zz5, zz6, zz7, zz8, zz9, argsF, reduceIte, reduceCtorEq, Nat.reduceEqDiff, Nat.reduceBEq, Nat.reduceAdd, Int.reduceLT, Int.reduceLE, Int.reduceEq, Int.reduceToNat, Int.reduceNeg, Nat.reduceLeDiff, Int.reducePow, implies_true, UInt8.reduceToNat, Int.reduceSub, Int.reduceAdd, Nat.reduceLT, Nat.reduceMul, Nat.reduceSub, Nat.reduceBNe]
  subst hL
  generalize hX : exec _ (.loop F_base_SameInts_l0) _ _ = X
  obtain ⟨o, rfl, fr', m', rfl, hd⟩ := looped hX (sameInts_loop (A := A) (nl := nl) (t := t) (nl' := nl') (t' := t') hl (by simp only [get_set', selE_t, selE_f, Nat.reduceBEq, set_defers, fr00_get, fr00_defers, put_some, put_none ]) (by simp only [get_set', selE_t, selE_f, Nat.reduceBEq, set_defers, fr00_get, fr00_defers, put_some, put_none ]) (by simp only [get_set', selE_t, selE_f, Nat.reduceBEq, set_defers, fr00_get, fr00_defers, put_some, put_none ]) (by simp only [get_set', selE_t, selE_f, Nat.reduceBEq, set_defers, fr00_get, fr00_defers, put_some, put_none ]))
  simp +contextual -implicitDefEqProofs (maxSteps := 1000000) (maxDischargeDepth := 8) only [hd, zz0, zz1, zz2, zz3, zz4, zz5, zz6, zz7, zz8, zz9, argsF, reduceIte, reduceCtorEq, Nat.reduceEqDiff, Nat.reduceBEq, Nat.reduceAdd, Int.reduceLT, Int.reduceLE, Int.reduceEq, Int.reduceToNat, Int.reduceNeg, Nat.reduceLeDiff, Int.reducePow, implies_true, UInt8.reduceToNat, Int.reduceSub, Int.reduceAdd, Nat.reduceLT, Nat.reduceMul, Nat.reduceSub, Nat.reduceBNe]
/-! ### The law's loop, part by part -/
def tl (n : Nat) : ICode := match F_l10_ScopeTells_l0 with
  | .seq a (.seq (.block 1 (.seq b (.seq c (.seq s t)))) i) => if n = 0 then a else if n = 1 then b else if n = 2 then c else if n = 3 then s else if n = 4 then t else i
  | _ => .skip
theorem l0_eq : F_l10_ScopeTells_l0 = .seq (tl 0) (.seq (.block 1 (.seq (tl 1) (.seq (tl 2) (.seq (tl 3) (tl 4))))) (tl 5)) := rfl
theorem tl4_eq : tl 4 = (match F_l10_ScopeTells_l0 with
  | .seq a (.seq (.block 1 (.seq b (.seq c (.seq s t)))) i) => t
  | _ => .skip) := rfl
section
variable {o : Nat → Part} {m m' : Mem} {sb mb : Nat} {x : Mo} {L : List (Txt × EV)} {P : Txt → EV} {ov kv : EV}
theorem depth_all : ∀ M : Mem, M.get sb = .cells [.map mb, ov, kv, .int .i64 x.D] 4 t_scope_Scopes false → sb < M.next → run U 12 [.ptr sb 0] M = some (.ret (.int .i64 x.D) (bump M 0)) := fun M h1 h2 => by
  rw [look_scope_Scopes_Depth]; exact depth_at h1 h2
/-- What is asked: all is answered alike. -/
theorem tail_ok (h : Sc o m sb mb x L P ov kv) (hx : x.Ok) (hV : x.V.length < 1000) (hK : x.K.length < 1000) (hD : x.D < 1000) {v w : EV} {xb ab : Nat} {d k : Int} {s : Txt} (hxb : xb < m.next) (hgx : m.get xb = .cells [v, w, .int .i64 x.D] 3 43 false) (hv : SegV m v x.V 0) (hw : SegK m w x.K 0) (hab : ab < m.next) (hga : m.get ab = .cells [.int .i64 d, .str s, .int .i64 k] 3 46 false)
    {fr : Fr} (h3 : fr.get 3 = .ptr sb 0) (h4 : fr.get 4 = .ptr xb 0) (h6 : fr.get 6 = .ptr ab 0) (hd : fr.defers = []) :
    ∃ fr' m', exec U (tl 4) fr m = some (.norm fr' m') ∧ m.next ≤ m'.next ∧ Keeps m m' ∧ fr'.get 0 = fr.get 0 ∧ fr'.get 3 = fr.get 3 ∧ fr'.get 4 = fr.get 4 ∧ fr'.get 5 = fr.get 5 ∧ fr'.defers = [] := by
  obtain ⟨a, hz1⟩ := hv.frz vcs_len (vcs_els _) (vcs_plain _)
  obtain ⟨b, hz2⟩ := hw.frz kcs_len (kcs_els _) (kcs_plain _)
  have hfi := refFind_eq (x := x) (a := a) (b := b) (s := s) (by omega)
  unfold moV at hfi
  have hdp := depth_all (sb := sb) (mb := mb) (x := x) (ov := ov) (kv := kv)
  have hg := h.get
  have hb := h.sb.1
  have hsw : standE (some w) w = true := by
    rcases hw.is with ⟨rfl, _⟩ | ⟨b', cap, t, rfl, _⟩
    · rfl
    · exact standE_self rfl
  rcases find_last (s := s) x.V with ⟨h1, h2⟩ | ⟨l, u, j, h1, h2, h5⟩
  · rw [h2] at hfi
    obtain ⟨q, hf⟩ := find_no h hx.d h1
    have hj : ¬ (0 : Int) ≤ -1 := by decide
    have w00 : IntKind.i64.wrap 0 = 0 := by decide
    generalize hX : exec U (tl 4) fr m = X
    rw [tl4_eq] at hX
    simp +contextual -implicitDefEqProofs (maxSteps := 1000000) (maxDischargeDepth := 8) only [F_l10_ScopeTells_l0, h3, h4, h6, hd, hgx, hga, hxb, hab, hz1, hz2, hfi, hf, hdp, hg, hb, hj, w00, zz0, zz1, zz2, zz3, zz4, zz5, zz6, zz7, zz8, zz9, argsF, reduceIte, reduceCtorEq, Nat.reduceEqDiff, Nat.reduceBEq, Nat.reduceAdd, Int.reduceLT, Int.reduceLE, Int.reduceEq, Int.reduceToNat, Int.reduceNeg, Nat.reduceLeDiff, Int.reducePow, implies_true, UInt8.reduceToNat, Int.reduceSub, Int.reduceAdd, Nat.reduceLT, Nat.reduceMul, Nat.reduceSub, Nat.reduceBNe] at hX
    obtain ⟨z, m1, hkn, own, hn1, hk1⟩ := kinds_ok (h.keep (m' := bump (bump (bump m q) 52) 0) (by simp only [next_bump, nb_nb]; exact le_nb) (fun _ _ => rfl)).1 hx.d (by omega)
    have hn2 : m.next ≤ m1.next := Nat.le_trans (by simp only [next_bump, nb_nb]; exact le_nb) hn1
    have hk2 : Keeps m m1 := fun c hc => hk1 c (Nat.lt_of_lt_of_le hc (by simp only [next_bump, nb_nb]; exact le_nb))
    rw [← kcs_flat] at own
    obtain ⟨nl, hz⟩ := own.frz kcs_len (kcs_els _) (kcs_plain _)
    obtain ⟨nl', hz'⟩ := (hw.mono hn2 hk2).frz kcs_len (kcs_els _) (kcs_plain _)
    have hgx1 := (hk2 xb hxb).trans hgx
    have hsi := sameInts_eq (A := x.K) (t := 1) (t' := 2) (nl := nl) (nl' := nl') (by omega)
    simp +contextual -implicitDefEqProofs (maxSteps := 1000000) (maxDischargeDepth := 8) only [hkn, hgx1, hz, hz', hsi, hsw, zz0, zz1, zz2, zz3, zz4, zz5, zz6, zz7, zz8, zz9, argsF, reduceIte, reduceCtorEq, Nat.reduceEqDiff, Nat.reduceBEq, Nat.reduceAdd, Int.reduceLT, Int.reduceLE, Int.reduceEq, Int.reduceToNat, Int.reduceNeg, Nat.reduceLeDiff, Int.reducePow, implies_true, UInt8.reduceToNat, Int.reduceSub, Int.reduceAdd, Nat.reduceLT, Nat.reduceMul, Nat.reduceSub, Nat.reduceBNe] at hX
    subst hX
    exact ⟨_, _, rfl, hn2, hk2, by simp only [get_set', selE_t, selE_f, Nat.reduceBEq, set_defers, fr00_get, fr00_defers, put_some, put_none ], by simp only [get_set', selE_t, selE_f, Nat.reduceBEq, set_defers, fr00_get, fr00_defers, put_some, put_none ], by simp only [get_set', selE_t, selE_f, Nat.reduceBEq, set_defers, fr00_get, fr00_defers, put_some, put_none ], by simp only [get_set', selE_t, selE_f, Nat.reduceBEq, set_defers, fr00_get, fr00_defers, put_some, put_none ], by simp only [hd, get_set', selE_t, selE_f, Nat.reduceBEq, set_defers, fr00_get, fr00_defers, put_some, put_none ]⟩
  · rw [h2] at hfi
    have hlv : l.length < 1000 := by
      have := congrArg List.length h1
      rw [List.length_append, List.length_singleton] at this
      have h7 : (ofN s x.V).length ≤ x.V.length := List.length_filter_le ..
      omega
    obtain ⟨q, hf⟩ := find_yes h hx.d h1 (by omega)
    have hj : (0 : Int) ≤ (j : Int) := by omega
    have hjl : j < x.V.length := (List.getElem?_eq_some_iff.1 h5).1
    obtain ⟨-, -, vc2, vc3, -⟩ := vc_cell h5
    obtain ⟨b', cap, t, ev, hbn, hgb⟩ : ∃ b' cap t, v = .slice b' 0 x.V.length cap ∧ b' < m.next ∧ m.get b' = .cells (vcs x.V).flatten 4 t false := by
      rcases hv.is with ⟨_, q, _⟩ | ⟨b', cap, t, ev, _, hbn, hgb, _⟩
      · omega
      · exact ⟨b', cap, t, ev, hbn, hgb⟩
    subst ev
    generalize hX : exec U (tl 4) fr m = X
    rw [tl4_eq] at hX
    simp +contextual -implicitDefEqProofs (maxSteps := 1000000) (maxDischargeDepth := 8) only [F_l10_ScopeTells_l0, h3, h4, h6, hd, hgx, hga, hxb, hab, hz1, hz2, hfi, hf, hdp, hg, hb, hj, hjl, vc2, vc3, hgb, hbn, Nat.zero_add, idx_cast, zz0, zz1, zz2, zz3, zz4, zz5, zz6, zz7, zz8, zz9, argsF, reduceIte, reduceCtorEq, Nat.reduceEqDiff, Nat.reduceBEq, Nat.reduceAdd, Int.reduceLT, Int.reduceLE, Int.reduceEq, Int.reduceToNat, Int.reduceNeg, Nat.reduceLeDiff, Int.reducePow, implies_true, UInt8.reduceToNat, Int.reduceSub, Int.reduceAdd, Nat.reduceLT, Nat.reduceMul, Nat.reduceSub, Nat.reduceBNe] at hX
    obtain ⟨z, m1, hkn, own, hn1, hk1⟩ := kinds_ok (h.keep (m' := bump (bump (bump m q) 52) 0) (by simp only [next_bump, nb_nb]; exact le_nb) (fun _ _ => rfl)).1 hx.d (by omega)
    have hn2 : m.next ≤ m1.next := Nat.le_trans (by simp only [next_bump, nb_nb]; exact le_nb) hn1
    have hk2 : Keeps m m1 := fun c hc => hk1 c (Nat.lt_of_lt_of_le hc (by simp only [next_bump, nb_nb]; exact le_nb))
    rw [← kcs_flat] at own
    obtain ⟨nl, hz⟩ := own.frz kcs_len (kcs_els _) (kcs_plain _)
    obtain ⟨nl', hz'⟩ := (hw.mono hn2 hk2).frz kcs_len (kcs_els _) (kcs_plain _)
    have hgx1 := (hk2 xb hxb).trans hgx
    have hsi := sameInts_eq (A := x.K) (t := 1) (t' := 2) (nl := nl) (nl' := nl') (by omega)
    simp +contextual -implicitDefEqProofs (maxSteps := 1000000) (maxDischargeDepth := 8) only [hkn, hgx1, hz, hz', hsi, hsw, zz0, zz1, zz2, zz3, zz4, zz5, zz6, zz7, zz8, zz9, argsF, reduceIte, reduceCtorEq, Nat.reduceEqDiff, Nat.reduceBEq, Nat.reduceAdd, Int.reduceLT, Int.reduceLE, Int.reduceEq, Int.reduceToNat, Int.reduceNeg, Nat.reduceLeDiff, Int.reducePow, implies_true, UInt8.reduceToNat, Int.reduceSub, Int.reduceAdd, Nat.reduceLT, Nat.reduceMul, Nat.reduceSub, Nat.reduceBNe] at hX
    subst hX
    exact ⟨_, _, rfl, hn2, hk2, by simp only [get_set', selE_t, selE_f, Nat.reduceBEq, set_defers, fr00_get, fr00_defers, put_some, put_none ], by simp only [get_set', selE_t, selE_f, Nat.reduceBEq, set_defers, fr00_get, fr00_defers, put_some, put_none ], by simp only [get_set', selE_t, selE_f, Nat.reduceBEq, set_defers, fr00_get, fr00_defers, put_some, put_none ], by simp only [get_set', selE_t, selE_f, Nat.reduceBEq, set_defers, fr00_get, fr00_defers, put_some, put_none ], by simp only [hd, get_set', selE_t, selE_f, Nat.reduceBEq, set_defers, fr00_get, fr00_defers, put_some, put_none ]⟩
end
end Go.Proofs.Ytjegondbhejpcaa.Ev
end
section
namespace Go.Proofs.Ytjegondbhejpcaa.Ev
open Go
set_option linter.unusedSimpArgs false
set_option linter.unusedVariables false
set_option maxRecDepth 10000
set_option maxHeartbeats 4000000
open Classical in
/-- What an act does. -/
noncomputable def Mo.act (x : Mo) (d : Int) (s : Txt) (k : Int) : Mo := if d = 0 then x.open_ else if d = 1 then (if 1 < x.D then x.close else x) else if d = 2 then (if x.bad s k then x else x.add s k) else x
theorem Mo.Ok.act {x : Mo} (h : x.Ok) (d : Int) (s : Txt) (k : Int) : (x.act d s k).Ok := by
  unfold Mo.act
  split
  · exact h.open_
  split
  · split
    · exact h.close (by assumption)
    · exact h
  split
  · split
    · exact h
    · exact h.add s k
  · exact h
theorem Mo.act_le {x : Mo} {d : Int} {s : Txt} {k : Int} : (x.act d s k).V.length ≤ x.V.length + 1 ∧ (x.act d s k).K.length ≤ x.K.length + 1 ∧ (x.act d s k).D ≤ x.D + 1 := by
  unfold Mo.act
  split
  · exact ⟨by simp [Mo.open_], by simp [Mo.open_], by simp [Mo.open_]⟩
  split
  · split
    · refine ⟨?_, by simp [Mo.close], by simp [Mo.close]; omega⟩
      have : (x.V.filter fun v => decide (v.block < x.D)).length ≤ x.V.length := List.length_filter_le ..
      simp only [Mo.close]; omega
    · omega
  split
  · split
    · omega
    · exact ⟨by simp [Mo.add], by simp [Mo.add], by simp [Mo.add]; omega⟩
  · omega
/-- The document's scopes, in a cell. -/
structure Xr (o : Nat → Part) (m : Mem) (xb : Nat) (x : Mo) (v w : EV) : Prop where
  get : m.get xb = .cells [v, w, .int .i64 x.D] 3 43 false
  lt : xb < m.next
  ob : o xb = .other
  sv : SegV m v x.V 0
  sk : SegK m w x.K 0
  ov : ∀ c, ¬ Off v c → o c = .other ∧ c ≠ xb
  ok : ∀ c, ¬ Off w c → o c = .other ∧ c ≠ xb
def St (o : Nat → Part) (m : Mem) (sb mb xb : Nat) (x : Mo) : Prop := ∃ L P ov kv v w, Sc o m sb mb x L P ov kv ∧ Xr o m xb x v w
section
variable {o o' : Nat → Part} {m m' : Mem} {sb mb xb : Nat} {x : Mo} {L : List (Txt × EV)} {P : Txt → EV} {ov kv v w : EV}
theorem Xr.stp (h : Xr o m xb x v w) (s : Stp o m o' m') : Xr o' m' xb x v w :=
  ⟨(s.k xb h.lt h.ob).trans h.get, Nat.lt_of_lt_of_le h.lt s.n, (s.ow xb h.lt).trans h.ob, h.sv.stay s.n fun c hc ho => s.k c hc (h.ov c ho).1, h.sk.stay s.n fun c hc ho => s.k c hc (h.ok c ho).1, fun c hc => ⟨(s.ow c (h.sv.below hc).2).trans (h.ov c hc).1, (h.ov c hc).2⟩, fun c hc => ⟨(s.ow c (h.sk.below hc).2).trans (h.ok c hc).1, (h.ok c hc).2⟩⟩
theorem Sc3.other {D : Int} {N : List Txt} {F : Txt → List Pv} {K : List Int} (h : Sc3 o m sb mb D N F K L P ov kv) (hn : m.next ≤ m'.next) (hk : ∀ c, c < m.next → o c ≠ .other → m'.get c = m.get c) : Sc3 o m' sb mb D N F K L P ov kv := by
  have key : ∀ (p : Part), p ≠ .other → ∀ c, c < m.next → o c = p → m'.get c = m.get c := fun p hp c hc e => hk c hc (e ▸ hp)
  exact ⟨(key .box (by decide) sb h.sb.1 h.sb.2).trans h.get, (key .map (by decide) mb h.mb.1 h.mb.2).trans h.gm, ⟨by have := h.sb.1; omega, h.sb.2⟩, ⟨by have := h.mb.1; omega, h.mb.2⟩, h.ord.keep hn (key _ (by decide)) fun _ _ => rfl, h.knd.keep hn (key _ (by decide)) fun _ _ => rfl, h.nd, h.ent, fun s hs => (h.row s hs).keep hn (key _ (by simp)) fun _ _ => rfl, fun c hc => h.new c (Nat.le_trans hn hc)⟩
/-- The document's scopes put anew. -/
theorem put_x (h : Sc o m sb mb x L P ov kv) (hxl : xb < m.next) (hxo : o xb = .other) {y : Mo} {v' w' : EV} (hv : SegV m v' y.V 0) (hw : SegK m w' y.K 0) (h1 : ∀ c, ¬ Off v' c → o c = .other ∧ c ≠ xb) (h2 : ∀ c, ¬ Off w' c → o c = .other ∧ c ≠ xb) :
    Sc o (m.set xb (.cells [v', w', .int .i64 y.D] 3 43 false)) sb mb x L P ov kv ∧ Xr o (m.set xb (.cells [v', w', .int .i64 y.D] 3 43 false)) xb y v' w' :=
  ⟨h.other (Nat.le_refl _) fun c _ hc => get_set_ne fun e : c = xb => hc (by rw [e]; exact hxo),
    ⟨get_set_eq, hxl, hxo, hv.stay (Nat.le_refl _) fun c _ hc => get_set_ne (h1 c hc).2, hw.stay (Nat.le_refl _) fun c _ hc => get_set_ne (h2 c hc).2, h1, h2⟩⟩
/-- How one act leaves all. -/
def Done (o : Nat → Part) (m : Mem) (sb mb xb : Nat) (y : Mo) (fr : Fr) (X : Option Out) : Prop := ∃ fr' m' o', X = some (.norm fr' m') ∧ St o' m' sb mb xb y ∧ m.next ≤ m'.next ∧ (∀ c, c < m.next → o' c = o c) ∧ (∀ c, c < m.next → o c = .other → c ≠ xb → m'.get c = m.get c) ∧
  fr'.get 0 = fr.get 0 ∧ fr'.get 3 = fr.get 3 ∧ fr'.get 4 = fr.get 4 ∧ fr'.get 5 = fr.get 5 ∧ fr'.get 6 = fr.get 6 ∧ fr'.defers = []
theorem tl3_eq : tl 3 = (match F_l10_ScopeTells_l0 with
  | .seq a (.seq (.block 1 (.seq b (.seq c (.seq s t)))) i) => s
  | _ => .skip) := rfl
theorem sw_0 (h : Sc o m sb mb x L P ov kv) (hX : Xr o m xb x v w) (hx : x.Ok) (hV : x.V.length < 1000) (hK : x.K.length < 1000) (hD : x.D < 1000) {ab : Nat} {k : Int} {s : Txt} (hab : ab < m.next) (hao : o ab = .other) (hne : ab ≠ xb) (hga : m.get ab = .cells [.int .i64 0, .str s, .int .i64 k] 3 46 false)
    {fr : Fr} (h3 : fr.get 3 = .ptr sb 0) (h4 : fr.get 4 = .ptr xb 0) (h6 : fr.get 6 = .ptr ab 0) (hd : fr.defers = []) : Done o m sb mb xb x.open_ fr (exec U (tl 3) fr m) := by
  obtain ⟨m1, e1, t1, p1⟩ := open_ok h ⟨hx.d, by omega⟩
  have x1 := hX.stp p1
  have hgx := x1.get
  have hxl := x1.lt
  have hw : IntKind.i64.wrap (x.D + 1) = x.D + 1 := wrap_i64 (by have := hx.d; omega) (by omega)
  generalize hY : exec U (tl 3) fr m = X
  rw [tl3_eq] at hY
  simp +contextual -implicitDefEqProofs (maxSteps := 1000000) (maxDischargeDepth := 8) only [F_l10_ScopeTells_l0, h3, h4, h6, hd, hga, hab, e1, hgx, hxl, hw, zz0, zz1, zz2, zz3, zz4, zz5, zz6, zz7, zz8, zz9, argsF, reduceIte, reduceCtorEq, Nat.reduceEqDiff, Nat.reduceBEq, Nat.reduceAdd, Int.reduceLT, Int.reduceLE, Int.reduceEq, Int.reduceToNat, Int.reduceNeg, Nat.reduceLeDiff, Int.reducePow, implies_true, UInt8.reduceToNat, Int.reduceSub, Int.reduceAdd, Nat.reduceLT, Nat.reduceMul, Nat.reduceSub, Nat.reduceBNe] at hY
  subst hY
  obtain ⟨t2, x2⟩ := put_x (y := x.open_) (v' := v) (w' := w) t1 hxl x1.ob x1.sv x1.sk x1.ov x1.ok
  exact ⟨_, _, o, rfl, ⟨L, P, ov, kv, v, w, t2, x2⟩, p1.n, fun _ _ => rfl, fun c hc hp hcx => by first | (rw [get_set_ne hcx]; exact p1.k c hc hp) | (rw [get_bump, get_set_ne hcx]; exact p1.k c hc hp), by simp only [get_set', selE_t, selE_f, Nat.reduceBEq, set_defers, fr00_get, fr00_defers, put_some, put_none ], by simp only [get_set', selE_t, selE_f, Nat.reduceBEq, set_defers, fr00_get, fr00_defers, put_some, put_none ], by simp only [get_set', selE_t, selE_f, Nat.reduceBEq, set_defers, fr00_get, fr00_defers, put_some, put_none ], by simp only [get_set', selE_t, selE_f, Nat.reduceBEq, set_defers, fr00_get, fr00_defers, put_some, put_none ], by simp only [get_set', selE_t, selE_f, Nat.reduceBEq, set_defers, fr00_get, fr00_defers, put_some, put_none ], by simp only [hd, get_set', selE_t, selE_f, Nat.reduceBEq, set_defers, fr00_get, fr00_defers, put_some, put_none ]⟩
theorem sw_1 (h : Sc o m sb mb x L P ov kv) (hX : Xr o m xb x v w) (hx : x.Ok) (hV : x.V.length < 1000) (hK : x.K.length < 1000) (hD : x.D < 1000) {ab : Nat} {k : Int} {s : Txt} (hab : ab < m.next) (hao : o ab = .other) (hne : ab ≠ xb) (hga : m.get ab = .cells [.int .i64 1, .str s, .int .i64 k] 3 46 false)
    {fr : Fr} (h3 : fr.get 3 = .ptr sb 0) (h4 : fr.get 4 = .ptr xb 0) (h6 : fr.get 6 = .ptr ab 0) (hd : fr.defers = []) : Done o m sb mb xb (if 1 < x.D then x.close else x) fr (exec U (tl 3) fr m) := by
  have n10 : ¬ ((1 : Int) = 0) := by decide
  have hgx := hX.get
  have hxl := hX.lt
  generalize hY : exec U (tl 3) fr m = X
  rw [tl3_eq] at hY
  by_cases hc : 1 < x.D
  · rw [if_pos hc]
    obtain ⟨v', m1, e1, sv, hn, hk⟩ := refClose_run (m := m) (x := x) (v := v) (w := w) (by omega) ⟨by omega, by omega⟩ hX.sv hX.sk
    obtain ⟨t1, p1⟩ := h.keep hn hk
    have x1 := hX.stp p1
    have hgx1 := x1.get
    have hcv := cells_of_own sv
    have hcw := cells_of_own x1.sk
    obtain ⟨t2, x2⟩ := put_x (xb := xb) (y := x.close) (v' := v') (w' := w) t1 x1.lt x1.ob (sv.raise (Nat.zero_le _)) x1.sk (fun c hc => by have := sv.below hc; exact ⟨h.new c this.1, by omega⟩) x1.ok
    obtain ⟨m3, L', P', ov', kv', e3, t3, p3⟩ := close_yes t2 hx (by omega) (by omega) (by omega)
    have x3 := x2.stp p3
    simp only [Mo.close] at e3
    simp +contextual -implicitDefEqProofs (maxSteps := 1000000) (maxDischargeDepth := 8) only [F_l10_ScopeTells_l0, h3, h4, h6, hd, hga, hab, n10, hgx, hxl, hc, e1, hgx1, hcv, hcw, e3, zz0, zz1, zz2, zz3, zz4, zz5, zz6, zz7, zz8, zz9, argsF, reduceIte, reduceCtorEq, Nat.reduceEqDiff, Nat.reduceBEq, Nat.reduceAdd, Int.reduceLT, Int.reduceLE, Int.reduceEq, Int.reduceToNat, Int.reduceNeg, Nat.reduceLeDiff, Int.reducePow, implies_true, UInt8.reduceToNat, Int.reduceSub, Int.reduceAdd, Nat.reduceLT, Nat.reduceMul, Nat.reduceSub, Nat.reduceBNe] at hY
    subst hY
    exact ⟨_, _, o, rfl, ⟨L', P', ov', kv', v', w, t3, x3⟩, Nat.le_trans hn p3.n, fun _ _ => rfl, fun c hc hp hcx => by rw [p3.k c (by rw [next_set]; omega) hp, get_set_ne hcx]; exact hk c hc, by simp only [get_set', selE_t, selE_f, Nat.reduceBEq, set_defers, fr00_get, fr00_defers, put_some, put_none ], by simp only [get_set', selE_t, selE_f, Nat.reduceBEq, set_defers, fr00_get, fr00_defers, put_some, put_none ], by simp only [get_set', selE_t, selE_f, Nat.reduceBEq, set_defers, fr00_get, fr00_defers, put_some, put_none ], by simp only [get_set', selE_t, selE_f, Nat.reduceBEq, set_defers, fr00_get, fr00_defers, put_some, put_none ], by simp only [get_set', selE_t, selE_f, Nat.reduceBEq, set_defers, fr00_get, fr00_defers, put_some, put_none ], by simp only [hd, get_set', selE_t, selE_f, Nat.reduceBEq, set_defers, fr00_get, fr00_defers, put_some, put_none ]⟩
  · rw [if_neg hc]
    obtain ⟨m3, e3, t3, p3⟩ := close_no h (by omega)
    have x3 := hX.stp p3
    simp +contextual -implicitDefEqProofs (maxSteps := 1000000) (maxDischargeDepth := 8) only [F_l10_ScopeTells_l0, h3, h4, h6, hd, hga, hab, n10, hgx, hxl, hc, e3, zz0, zz1, zz2, zz3, zz4, zz5, zz6, zz7, zz8, zz9, argsF, reduceIte, reduceCtorEq, Nat.reduceEqDiff, Nat.reduceBEq, Nat.reduceAdd, Int.reduceLT, Int.reduceLE, Int.reduceEq, Int.reduceToNat, Int.reduceNeg, Nat.reduceLeDiff, Int.reducePow, implies_true, UInt8.reduceToNat, Int.reduceSub, Int.reduceAdd, Nat.reduceLT, Nat.reduceMul, Nat.reduceSub, Nat.reduceBNe] at hY
    subst hY
    exact ⟨_, _, o, rfl, ⟨L, P, ov, kv, v, w, t3, x3⟩, p3.n, fun _ _ => rfl, fun c hc hp _ => p3.k c hc hp, by simp only [get_set', selE_t, selE_f, Nat.reduceBEq, set_defers, fr00_get, fr00_defers, put_some, put_none ], by simp only [get_set', selE_t, selE_f, Nat.reduceBEq, set_defers, fr00_get, fr00_defers, put_some, put_none ], by simp only [get_set', selE_t, selE_f, Nat.reduceBEq, set_defers, fr00_get, fr00_defers, put_some, put_none ], by simp only [get_set', selE_t, selE_f, Nat.reduceBEq, set_defers, fr00_get, fr00_defers, put_some, put_none ], by simp only [get_set', selE_t, selE_f, Nat.reduceBEq, set_defers, fr00_get, fr00_defers, put_some, put_none ], by simp only [hd, get_set', selE_t, selE_f, Nat.reduceBEq, set_defers, fr00_get, fr00_defers, put_some, put_none ]⟩
end
end Go.Proofs.Ytjegondbhejpcaa.Ev
end
section
namespace Go.Proofs.Ytjegondbhejpcaa.Ev
open Go
set_option linter.unusedSimpArgs false
set_option linter.unusedVariables false
set_option maxRecDepth 10000
set_option maxHeartbeats 4000000
section
variable {o o' : Nat → Part} {m m' : Mem} {sb mb xb : Nat} {x : Mo} {L : List (Txt × EV)} {P : Txt → EV} {ov kv v w : EV}
theorem w_len (hX : Xr o m xb x v w) : ∀ M : Mem, lenE w M = some (.val (.int .i64 (x.K.length : Int)) M) := fun M => by
  rcases hX.sk.is with ⟨rfl, q, _⟩ | ⟨b', cap, t, rfl, _⟩
  · rw [q]; rfl
  · rfl
open Classical in
theorem sw_2 (h : Sc o m sb mb x L P ov kv) (hX : Xr o m xb x v w) (hx : x.Ok) (hV : x.V.length < 1000) (hK : x.K.length < 1000) (hD : x.D < 1000) {ab : Nat} {k : Int} {s : Txt} (hab : ab < m.next) (hao : o ab = .other) (hne : ab ≠ xb) (hga : m.get ab = .cells [.int .i64 2, .str s, .int .i64 k] 3 46 false)
    {fr : Fr} (h3 : fr.get 3 = .ptr sb 0) (h4 : fr.get 4 = .ptr xb 0) (h6 : fr.get 6 = .ptr ab 0) (hd : fr.defers = []) : Done o m sb mb xb (if x.bad s k then x else x.add s k) fr (exec U (tl 3) fr m) := by
  have n10 : ¬ ((2 : Int) = 0) := by decide
  have n11 : ¬ ((2 : Int) = 1) := by decide
  have hgx := hX.get
  have hxl := hX.lt
  generalize hY : exec U (tl 3) fr m = X
  rw [tl3_eq] at hY
  by_cases hbad : x.bad s k
  · rw [if_pos hbad]
    obtain ⟨m1, e1, hn, hk⟩ := refDeclare_no (m := m) (x := x) (v := v) (w := w) (s := s) (k := k) (by omega) hX.sv hX.sk hbad
    have s2 : m.next ≤ (ext m1 [.cells [v, w, .int .i64 x.D] 3 43 false]).next := by rw [next_ext]; exact Nat.le_trans hn le_nb
    have k2 : Keeps m (ext m1 [.cells [v, w, .int .i64 x.D] 3 43 false]) := keeps_ext' hk hn
    obtain ⟨t1, p1⟩ := h.keep s2 k2
    obtain ⟨m3, e3, t3, p3⟩ := declare_no t1 hx.d (by omega) (s := s) (k := k) hbad
    have x3 := (hX.stp p1).stp p3
    have hga1 := (hk ab hab).trans hga
    have habl1 : ab < m1.next := by omega
    have hga3 : m3.get ab = _ := (p3.k ab (by omega) hao).trans ((p1.k ab hab hao).trans hga)
    have hgx3 := x3.get
    have hcv := cells_of_own hX.sv
    have hcw := cells_of_own hX.sk
    have hb8 : m3.get (nb m1.next 0) = .cells [v, w, .int .i64 x.D] 3 43 false := (p3.k (nb m1.next 0) (by rw [next_ext]; show m1.next < m1.next + 1; omega) (h.new _ (by show m.next ≤ m1.next; exact hn))).trans (by rw [get_ext_nb rfl (by simp)]; rfl)
    obtain ⟨t4, x4⟩ := put_x (xb := xb) (y := x) (v' := v) (w' := w) t3 x3.lt x3.ob x3.sv x3.sk x3.ov x3.ok
    simp +contextual -implicitDefEqProofs (maxSteps := 1000000) (maxDischargeDepth := 8) only [F_l10_ScopeTells_l0, h3, h4, h6, hd, hga, hab, n10, n11, hgx, hxl, e1, hga1, habl1, hcv, hcw, e3, hb8, hgx3, zz0, zz1, zz2, zz3, zz4, zz5, zz6, zz7, zz8, zz9, argsF, reduceIte, reduceCtorEq, Nat.reduceEqDiff, Nat.reduceBEq, Nat.reduceAdd, Int.reduceLT, Int.reduceLE, Int.reduceEq, Int.reduceToNat, Int.reduceNeg, Nat.reduceLeDiff, Int.reducePow, implies_true, UInt8.reduceToNat, Int.reduceSub, Int.reduceAdd, Nat.reduceLT, Nat.reduceMul, Nat.reduceSub, Nat.reduceBNe] at hY
    subst hY
    exact ⟨_, _, o, rfl, ⟨L, P, ov, kv, v, w, t4, x4⟩, by rw [next_set]; exact Nat.le_trans s2 p3.n, fun _ _ => rfl, fun c hc hp hcx => by rw [get_set_ne hcx, p3.k c (by omega) hp]; exact k2 c hc, by simp only [get_set', selE_t, selE_f, Nat.reduceBEq, set_defers, fr00_get, fr00_defers, put_some, put_none ], by simp only [get_set', selE_t, selE_f, Nat.reduceBEq, set_defers, fr00_get, fr00_defers, put_some, put_none ], by simp only [get_set', selE_t, selE_f, Nat.reduceBEq, set_defers, fr00_get, fr00_defers, put_some, put_none ], by simp only [get_set', selE_t, selE_f, Nat.reduceBEq, set_defers, fr00_get, fr00_defers, put_some, put_none ], by simp only [get_set', selE_t, selE_f, Nat.reduceBEq, set_defers, fr00_get, fr00_defers, put_some, put_none ], by simp only [hd, get_set', selE_t, selE_f, Nat.reduceBEq, set_defers, fr00_get, fr00_defers, put_some, put_none ]⟩
  · rw [if_neg hbad]
    obtain ⟨v', w', m1, e1, sv, sk, hn, hk⟩ := refDeclare_yes (m := m) (x := x) (v := v) (w := w) (s := s) (k := k) (by omega) (by omega) hX.sv hX.sk hbad
    have s2 : m.next ≤ (ext m1 [.cells [v', w', .int .i64 x.D] 3 43 false]).next := by rw [next_ext]; exact Nat.le_trans hn le_nb
    have k2 : Keeps m (ext m1 [.cells [v', w', .int .i64 x.D] 3 43 false]) := keeps_ext' hk hn
    obtain ⟨t1, p1⟩ := h.keep s2 k2
    obtain ⟨m3, o3, L', P', ov', kv', e3, t3, p3⟩ := declare_yes t1 hx.d (by omega) (by omega) (s := s) (k := k) hbad
    have x3 := (hX.stp p1).stp p3
    have hga1 := (hk ab hab).trans hga
    have habl1 : ab < m1.next := by omega
    have hga3 : m3.get ab = _ := (p3.k ab (by omega) hao).trans ((p1.k ab hab hao).trans hga)
    have hgx3 := x3.get
    have hcv := cells_of_own sv
    have hcw := cells_of_own sk
    have hlw := w_len hX
    have hb8 : m3.get (nb m1.next 0) = .cells [v', w', .int .i64 x.D] 3 43 false := (p3.k (nb m1.next 0) (by rw [next_ext]; show m1.next < m1.next + 1; omega) (h.new _ (by show m.next ≤ m1.next; exact hn))).trans (by rw [get_ext_nb rfl (by simp)]; rfl)
    have sv3 : SegV m3 v' (x.add s k).V 0 := ((sv.ext [.cells [v', w', .int .i64 x.D] 3 43 false]).stay p3.n fun c hc ho => p3.k c hc (h.new c (sv.below ho).1)).raise (Nat.zero_le _)
    have sk3 : SegK m3 w' (x.add s k).K 0 := ((sk.ext [.cells [v', w', .int .i64 x.D] 3 43 false]).stay p3.n fun c hc ho => p3.k c hc (h.new c (sk.below ho).1)).raise (Nat.zero_le _)
    have hle : m1.next ≤ (ext m1 [Blk.cells [v', w', .int .i64 x.D] 3 43 false]).next := by rw [next_ext]; exact le_nb
    obtain ⟨t4, x4⟩ := put_x (xb := xb) (y := x.add s k) (v' := v') (w' := w') t3 x3.lt x3.ob sv3 sk3 (fun c hc => by have := sv.below hc; exact ⟨(p3.ow c (by omega)).trans (h.new c this.1), by omega⟩) (fun c hc => by have := sk.below hc; exact ⟨(p3.ow c (by omega)).trans (h.new c this.1), by omega⟩)
    have hpos : ¬ ((x.K.length : Int) = (x.K.length : Int)) = False := by simp
    simp +contextual -implicitDefEqProofs (maxSteps := 1000000) (maxDischargeDepth := 8) only [F_l10_ScopeTells_l0, h3, h4, h6, hd, hga, hab, n10, n11, hgx, hxl, e1, hga1, habl1, hcv, hcw, e3, hb8, hgx3, hlw, zz0, zz1, zz2, zz3, zz4, zz5, zz6, zz7, zz8, zz9, argsF, reduceIte, reduceCtorEq, Nat.reduceEqDiff, Nat.reduceBEq, Nat.reduceAdd, Int.reduceLT, Int.reduceLE, Int.reduceEq, Int.reduceToNat, Int.reduceNeg, Nat.reduceLeDiff, Int.reducePow, implies_true, UInt8.reduceToNat, Int.reduceSub, Int.reduceAdd, Nat.reduceLT, Nat.reduceMul, Nat.reduceSub, Nat.reduceBNe] at hY
    subst hY
    exact ⟨_, _, o3, rfl, ⟨L', P', ov', kv', v', w', t4, x4⟩, by rw [next_set]; exact Nat.le_trans s2 p3.n, fun c hc => p3.ow c (by omega), fun c hc hp hcx => by rw [get_set_ne hcx, p3.k c (by omega) hp]; exact k2 c hc, by simp only [get_set', selE_t, selE_f, Nat.reduceBEq, set_defers, fr00_get, fr00_defers, put_some, put_none ], by simp only [get_set', selE_t, selE_f, Nat.reduceBEq, set_defers, fr00_get, fr00_defers, put_some, put_none ], by simp only [get_set', selE_t, selE_f, Nat.reduceBEq, set_defers, fr00_get, fr00_defers, put_some, put_none ], by simp only [get_set', selE_t, selE_f, Nat.reduceBEq, set_defers, fr00_get, fr00_defers, put_some, put_none ], by simp only [get_set', selE_t, selE_f, Nat.reduceBEq, set_defers, fr00_get, fr00_defers, put_some, put_none ], by simp only [hd, get_set', selE_t, selE_f, Nat.reduceBEq, set_defers, fr00_get, fr00_defers, put_some, put_none ]⟩
theorem sw_3 (h : Sc o m sb mb x L P ov kv) (hX : Xr o m xb x v w) {ab : Nat} {d k : Int} {s : Txt} (hdd : d ≠ 0 ∧ d ≠ 1 ∧ d ≠ 2) (hab : ab < m.next) (hga : m.get ab = .cells [.int .i64 d, .str s, .int .i64 k] 3 46 false)
    {fr : Fr} (h6 : fr.get 6 = .ptr ab 0) (hd : fr.defers = []) : Done o m sb mb xb x fr (exec U (tl 3) fr m) := by
  obtain ⟨n0, n1, n2⟩ := hdd
  generalize hY : exec U (tl 3) fr m = X
  rw [tl3_eq] at hY
  simp +contextual -implicitDefEqProofs (maxSteps := 1000000) (maxDischargeDepth := 8) only [F_l10_ScopeTells_l0, h6, hd, hga, hab, n0, n1, n2, zz0, zz1, zz2, zz3, zz4, zz5, zz6, zz7, zz8, zz9, argsF, reduceIte, reduceCtorEq, Nat.reduceEqDiff, Nat.reduceBEq, Nat.reduceAdd, Int.reduceLT, Int.reduceLE, Int.reduceEq, Int.reduceToNat, Int.reduceNeg, Nat.reduceLeDiff, Int.reducePow, implies_true, UInt8.reduceToNat, Int.reduceSub, Int.reduceAdd, Nat.reduceLT, Nat.reduceMul, Nat.reduceSub, Nat.reduceBNe] at hY
  subst hY
  exact ⟨_, _, o, rfl, ⟨L, P, ov, kv, v, w, h, hX⟩, Nat.le_refl _, fun _ _ => rfl, fun _ _ _ _ => rfl, by simp only [get_set', selE_t, selE_f, Nat.reduceBEq, set_defers, fr00_get, fr00_defers, put_some, put_none ], by simp only [get_set', selE_t, selE_f, Nat.reduceBEq, set_defers, fr00_get, fr00_defers, put_some, put_none ], by simp only [get_set', selE_t, selE_f, Nat.reduceBEq, set_defers, fr00_get, fr00_defers, put_some, put_none ], by simp only [get_set', selE_t, selE_f, Nat.reduceBEq, set_defers, fr00_get, fr00_defers, put_some, put_none ], by simp only [get_set', selE_t, selE_f, Nat.reduceBEq, set_defers, fr00_get, fr00_defers, put_some, put_none ], by simp only [hd, get_set', selE_t, selE_f, Nat.reduceBEq, set_defers, fr00_get, fr00_defers, put_some, put_none ]⟩
theorem sw_ok (h : Sc o m sb mb x L P ov kv) (hX : Xr o m xb x v w) (hx : x.Ok) (hV : x.V.length < 1000) (hK : x.K.length < 1000) (hD : x.D < 1000) {ab : Nat} {d k : Int} {s : Txt} (hab : ab < m.next) (hao : o ab = .other) (hne : ab ≠ xb) (hga : m.get ab = .cells [.int .i64 d, .str s, .int .i64 k] 3 46 false)
    {fr : Fr} (h3 : fr.get 3 = .ptr sb 0) (h4 : fr.get 4 = .ptr xb 0) (h6 : fr.get 6 = .ptr ab 0) (hd : fr.defers = []) : Done o m sb mb xb (x.act d s k) fr (exec U (tl 3) fr m) := by
  unfold Mo.act
  by_cases d0 : d = 0
  · subst d0; rw [if_pos rfl]; exact sw_0 h hX hx hV hK hD hab hao hne hga h3 h4 h6 hd
  rw [if_neg d0]
  by_cases d1 : d = 1
  · subst d1; rw [if_pos rfl]; exact sw_1 h hX hx hV hK hD hab hao hne hga h3 h4 h6 hd
  rw [if_neg d1]
  by_cases d2 : d = 2
  · subst d2; rw [if_pos rfl]; exact sw_2 h hX hx hV hK hD hab hao hne hga h3 h4 h6 hd
  rw [if_neg d2]
  exact sw_3 h hX ⟨d0, d1, d2⟩ hab hga h6 hd
end
end Go.Proofs.Ytjegondbhejpcaa.Ev
end
section
namespace Go.Proofs.Ytjegondbhejpcaa.Ev
open Go
set_option linter.unusedSimpArgs false
set_option linter.unusedVariables false
set_option maxRecDepth 10000
set_option maxHeartbeats 4000000
/-- Acts that came in. -/
structure Ac where
  d : Int
  s : Txt
  k : Int
def acs (l : List Ac) : List (List EV) := l.map fun a => [.int .i64 a.d, .str a.s, .int .i64 a.k]
theorem acs_len {l : List Ac} : (acs l).length = l.length := List.length_map ..
theorem acs_get {l : List Ac} {i : Nat} : (acs l)[i]? = (l[i]?).map fun a => [.int .i64 a.d, .str a.s, .int .i64 a.k] := by unfold acs; rw [List.getElem?_map]
theorem fz_acs : ∀ (n : Nat) (els : List (List EV)) (ds : List Dt), Fzs (List.replicate n (.struct [.int .i64, .str, .int .i64])) els ds → ∃ l : List Ac, els = acs l ∧ ∀ a ∈ l, a.s.length ≤ maxLen
  | 0, els, ds, h => by cases h; exact ⟨[], rfl, fun a ha => by cases ha⟩
  | n + 1, els, ds, h => by
    rw [List.replicate_succ] at h
    cases h with
    | cons h hs =>
    obtain ⟨l, e, hl⟩ := fz_acs n _ _ hs
    cases h with
    | struct h =>
    cases h with
    | cons a1 h =>
    cases h with
    | cons a2 h =>
    cases h with
    | cons a3 h =>
    cases h
    cases a1 with
    | @int _ d _ =>
    cases a2 with
    | @str s hsl =>
    cases a3 with
    | @int _ k _ =>
    refine ⟨⟨d, s, k⟩ :: l, by rw [e]; rfl, fun a ha => ?_⟩
    rcases List.mem_cons.1 ha with rfl | ha
    · exact hsl
    · exact hl a ha
theorem tl0_eq : tl 0 = (match F_l10_ScopeTells_l0 with
  | .seq a (.seq (.block 1 (.seq b (.seq c (.seq s t)))) i) => a
  | _ => .skip) := rfl
theorem tl1_eq : tl 1 = (match F_l10_ScopeTells_l0 with
  | .seq a (.seq (.block 1 (.seq b (.seq c (.seq s t)))) i) => b
  | _ => .skip) := rfl
theorem tl2_eq : tl 2 = (match F_l10_ScopeTells_l0 with
  | .seq a (.seq (.block 1 (.seq b (.seq c (.seq s t)))) i) => c
  | _ => .skip) := rfl
theorem tl5_eq : tl 5 = (match F_l10_ScopeTells_l0 with
  | .seq a (.seq (.block 1 (.seq b (.seq c (.seq s t)))) i) => i
  | _ => .skip) := rfl
theorem tells_loop {l : List Ac} (hl : l.length ≤ 60) {nl : Bool} {sb mb xb : Nat} {fr : Fr} {m : Mem} (h0 : fr.get 0 = row nl 1 3 (acs l)) (h3 : fr.get 3 = .ptr sb 0) (h4 : fr.get 4 = .ptr xb 0) (h5 : fr.get 5 = .int .i64 0) (hd : fr.defers = []) (hS : ∃ o x, St o m sb mb xb x ∧ x.Ok ∧ x.V.length = 0 ∧ x.K.length = 0 ∧ x.D ≤ 1) :
    ∃ o, exec U (.loop F_l10_ScopeTells_l0) fr m = some o ∧ ((∃ fr' m', o = .ret fr' m' ∧ fr'.get 2 = .bool true ∧ fr'.defers = []) ∨ ∃ fr' m', o = .exit 0 fr' m' ∧ fr'.defers = []) := by
  have hwk : ∀ M, run U 6 [] M = some (.ret (.bool true) M) := fun M => run_works6
  obtain ⟨o0, x0, hS0, hx0, q1, q2, q3⟩ := hS
  refine loop_w (σ := Nat) (fun i f m => i ≤ l.length ∧ f.get 0 = row nl 1 3 (acs l) ∧ f.get 3 = .ptr sb 0 ∧ f.get 4 = .ptr xb 0 ∧ f.get 5 = .int .i64 (i : Int) ∧ f.defers = [] ∧ ∃ o x, St o m sb mb xb x ∧ x.Ok ∧ x.V.length ≤ i ∧ x.K.length ≤ i ∧ x.D ≤ (i : Int) + 1) (fun i => l.length - i) _ ?_ 0 fr m
    ⟨Nat.zero_le _, h0, h3, h4, h5, hd, o0, x0, hS0, hx0, by omega, by omega, by omega⟩
  rintro i f m ⟨hi, h0, h3, h4, h5, hd, o, x, ⟨L, P, ov, kv, v, w, hSc, hXr⟩, hx, hV, hK, hD⟩
  generalize hX : exec U F_l10_ScopeTells_l0 f m = X
  by_cases hlt : i < l.length
  · have hic : (i : Int) < (l.length : Int) := by omega
    have hti : l[i]? = some l[i] := List.getElem?_eq_getElem hlt
    have hw := wrap_succ (i := i) (by omega)
    generalize l[i] = a at *
    rw [l0_eq] at hX
    by_cases h40 : 40 < a.s.length
    · have hc : (40 : Int) < (a.s.length : Int) := by omega
      simp +contextual -implicitDefEqProofs (maxSteps := 1000000) (maxDischargeDepth := 8) only [tl0_eq, tl1_eq, tl2_eq, F_l10_ScopeTells_l0, h0, h3, h4, h5, hd, hic, hti, hlt, hc, hwk, acs_len, acs_get, idx_cast, zz0, zz1, zz2, zz3, zz4, zz5, zz6, zz7, zz8, zz9, argsF, reduceIte, reduceCtorEq, Nat.reduceEqDiff, Nat.reduceBEq, Nat.reduceAdd, Int.reduceLT, Int.reduceLE, Int.reduceEq, Int.reduceToNat, Int.reduceNeg, Nat.reduceLeDiff, Int.reducePow, implies_true, UInt8.reduceToNat, Int.reduceSub, Int.reduceAdd, Nat.reduceLT, Nat.reduceMul, Nat.reduceSub, Nat.reduceBNe] at hX
      subst hX
      exact lw_ret (.inl ⟨_, _, rfl, by simp only [get_set', selE_t, selE_f, Nat.reduceBEq, set_defers, fr00_get, fr00_defers, put_some, put_none ], by simp only [hd, get_set', selE_t, selE_f, Nat.reduceBEq, set_defers, fr00_get, fr00_defers, put_some, put_none ]⟩)
    · have hc : ¬ (40 : Int) < (a.s.length : Int) := by omega
      simp +contextual -implicitDefEqProofs (maxSteps := 1000000) (maxDischargeDepth := 8) only [tl0_eq, tl1_eq, tl2_eq, F_l10_ScopeTells_l0, h0, h3, h4, h5, hd, hic, hti, hlt, hc, hwk, acs_len, acs_get, idx_cast, zz0, zz1, zz2, zz3, zz4, zz5, zz6, zz7, zz8, zz9, argsF, reduceIte, reduceCtorEq, Nat.reduceEqDiff, Nat.reduceBEq, Nat.reduceAdd, Int.reduceLT, Int.reduceLE, Int.reduceEq, Int.reduceToNat, Int.reduceNeg, Nat.reduceLeDiff, Int.reducePow, implies_true, UInt8.reduceToNat, Int.reduceSub, Int.reduceAdd, Nat.reduceLT, Nat.reduceMul, Nat.reduceSub, Nat.reduceBNe] at hX
      generalize hfA : Fr.set _ 35 _ = frA at hX
      generalize hA : exec U (tl 3) _ _ = A at hX
      have s1 : m.next < (ext m [Blk.cells [.int .i64 a.d, .str a.s, .int .i64 a.k] 3 46 false]).next := by rw [next_ext]; show m.next < m.next + 1; omega
      obtain ⟨t1, p1⟩ := hSc.keep (Nat.le_of_lt s1) (fun c hc => get_ext_old hc)
      have x1 := hXr.stp p1
      have hxl := hXr.lt
      have en : nb m.next 0 = m.next := rfl
      have hga : (ext m [Blk.cells [.int .i64 a.d, .str a.s, .int .i64 a.k] 3 46 false]).get (nb m.next 0) = .cells [.int .i64 a.d, .str a.s, .int .i64 a.k] 3 46 false := by rw [get_ext_nb rfl (by simp)]; rfl
      have habo : o (nb m.next 0) = .other := hSc.new _ (Nat.le_refl _)
      obtain ⟨fr2, m2, o2, eA, ⟨L2, P2, ov2, kv2, v2, w2, t2, x2⟩, n2, ow2, k2, r0, r3, r4, r5, r6, rd⟩ := sw_ok t1 x1 hx (by omega) (by omega) (by omega) (ab := nb m.next 0) (d := a.d) (k := a.k) (s := a.s) (by rw [en]; exact s1) habo (by rw [en]; omega) hga (fr := frA) (by subst hfA; simp only [h3, get_set', selE_t, selE_f, Nat.reduceBEq, set_defers, fr00_get, fr00_defers, put_some, put_none ]) (by subst hfA; simp only [h4, get_set', selE_t, selE_f, Nat.reduceBEq, set_defers, fr00_get, fr00_defers, put_some, put_none ]) (by subst hfA; simp only [get_set', selE_t, selE_f, Nat.reduceBEq, set_defers, fr00_get, fr00_defers, put_some, put_none ]) (by subst hfA; simp only [hd, get_set', selE_t, selE_f, Nat.reduceBEq, set_defers, fr00_get, fr00_defers, put_some, put_none ])
      have hA' := hA.symm.trans eA
      subst hA'
      have hx2 := hx.act a.d a.s a.k
      have hle := Mo.act_le (x := x) (d := a.d) (s := a.s) (k := a.k)
      have hga2 := (k2 (nb m.next 0) (by rw [en]; exact s1) habo (by rw [en]; omega)).trans hga
      simp +contextual -implicitDefEqProofs (maxSteps := 1000000) (maxDischargeDepth := 8) only [zz0, zz1, zz2, zz3, zz4, zz5, zz6, zz7, zz8, zz9, argsF, reduceIte, reduceCtorEq, Nat.reduceEqDiff, Nat.reduceBEq, Nat.reduceAdd, Int.reduceLT, Int.reduceLE, Int.reduceEq, Int.reduceToNat, Int.reduceNeg, Nat.reduceLeDiff, Int.reducePow, implies_true, UInt8.reduceToNat, Int.reduceSub, Int.reduceAdd, Nat.reduceLT, Nat.reduceMul, Nat.reduceSub, Nat.reduceBNe] at hX
      generalize hT : exec U (tl 4) _ _ = T4 at hX
      obtain ⟨fr3, m3, eT, n3, k3, z0, z3, z4, z5, zd⟩ := tail_ok t2 hx2 (by omega) (by omega) (by omega) (xb := xb) (ab := nb m.next 0) (fr := fr2) x2.lt x2.get x2.sv x2.sk (by rw [en]; omega) hga2 (by rw [r3]; subst hfA; simp only [h3, get_set', selE_t, selE_f, Nat.reduceBEq, set_defers, fr00_get, fr00_defers, put_some, put_none ]) (by rw [r4]; subst hfA; simp only [h4, get_set', selE_t, selE_f, Nat.reduceBEq, set_defers, fr00_get, fr00_defers, put_some, put_none ]) (by rw [r6]; subst hfA; simp only [get_set', selE_t, selE_f, Nat.reduceBEq, set_defers, fr00_get, fr00_defers, put_some, put_none ]) rd
      have hT' := hT.symm.trans eT
      subst hT'
      have y5 : fr3.get 5 = .int .i64 (i : Int) := by rw [z5, r5]; subst hfA; simp only [h5, get_set', selE_t, selE_f, Nat.reduceBEq, set_defers, fr00_get, fr00_defers, put_some, put_none ]
      simp +contextual -implicitDefEqProofs (maxSteps := 1000000) (maxDischargeDepth := 8) only [tl5_eq, F_l10_ScopeTells_l0, y5, hw, zd, zz0, zz1, zz2, zz3, zz4, zz5, zz6, zz7, zz8, zz9, argsF, reduceIte, reduceCtorEq, Nat.reduceEqDiff, Nat.reduceBEq, Nat.reduceAdd, Int.reduceLT, Int.reduceLE, Int.reduceEq, Int.reduceToNat, Int.reduceNeg, Nat.reduceLeDiff, Int.reducePow, implies_true, UInt8.reduceToNat, Int.reduceSub, Int.reduceAdd, Nat.reduceLT, Nat.reduceMul, Nat.reduceSub, Nat.reduceBNe] at hX
      subst hX
      obtain ⟨t3, p3⟩ := t2.keep n3 k3
      exact lw_norm (i + 1) (by omega) ⟨hlt, by simp only [get_set', selE_t, selE_f, Nat.reduceBEq, set_defers, fr00_get, fr00_defers, put_some, put_none ]; rw [z0, r0]; subst hfA; simp only [h0, get_set', selE_t, selE_f, Nat.reduceBEq, set_defers, fr00_get, fr00_defers, put_some, put_none ], by simp only [get_set', selE_t, selE_f, Nat.reduceBEq, set_defers, fr00_get, fr00_defers, put_some, put_none ]; rw [z3, r3]; subst hfA; simp only [h3, get_set', selE_t, selE_f, Nat.reduceBEq, set_defers, fr00_get, fr00_defers, put_some, put_none ], by simp only [get_set', selE_t, selE_f, Nat.reduceBEq, set_defers, fr00_get, fr00_defers, put_some, put_none ]; rw [z4, r4]; subst hfA; simp only [h4, get_set', selE_t, selE_f, Nat.reduceBEq, set_defers, fr00_get, fr00_defers, put_some, put_none ], by simp only [get_set', selE_t, selE_f, Nat.reduceBEq, set_defers, fr00_get, fr00_defers, put_some, put_none ], by simp only [zd, get_set', selE_t, selE_f, Nat.reduceBEq, set_defers, fr00_get, fr00_defers, put_some, put_none ], o2, _, ⟨L2, P2, ov2, kv2, v2, w2, t3, x2.stp p3⟩, hx2, by omega, by omega, by omega⟩
  · have hic : ¬ (i : Int) < (l.length : Int) := by omega
    rw [l0_eq] at hX
    simp +contextual -implicitDefEqProofs (maxSteps := 1000000) (maxDischargeDepth := 8) only [tl0_eq, F_l10_ScopeTells_l0, h0, h5, hd, hic, acs_len, zz0, zz1, zz2, zz3, zz4, zz5, zz6, zz7, zz8, zz9, argsF, reduceIte, reduceCtorEq, Nat.reduceEqDiff, Nat.reduceBEq, Nat.reduceAdd, Int.reduceLT, Int.reduceLE, Int.reduceEq, Int.reduceToNat, Int.reduceNeg, Nat.reduceLeDiff, Int.reducePow, implies_true, UInt8.reduceToNat, Int.reduceSub, Int.reduceAdd, Nat.reduceLT, Nat.reduceMul, Nat.reduceSub, Nat.reduceBNe] at hX
    subst hX
    exact lw_exit (.inr ⟨_, _, rfl, by simp only [hd, get_set', selE_t, selE_f, Nat.reduceBEq, set_defers, fr00_get, fr00_defers, put_some, put_none ]⟩)
end Go.Proofs.Ytjegondbhejpcaa.Ev
end
section
namespace Go.Proofs.Ytjegondbhejpcaa.Ev
open Go
set_option linter.unusedSimpArgs false
set_option linter.unusedVariables false
set_option maxRecDepth 10000
set_option maxHeartbeats 4000000
theorem tells_law {l : List Ac} {nl : Bool} : pureR B Ev.K n_l10_ScopeTells [row nl 1 3 (acs l)] = some (.bool true) := by
  have hwk : ∀ M, run U 6 [] M = some (.ret (.bool true) M) := fun M => run_works6
  rw [pure_at (by simp [F_l10_ScopeTells])]
  generalize hX : frR _ = X
  generalize hL : exec (UT B Ev.K) (ICode.loop F_l10_ScopeTells_l0) = L0 at hX
  by_cases h60 : 60 < l.length
  · have hc : (60 : Int) < (l.length : Int) := by omega
    simp +contextual -implicitDefEqProofs (maxSteps := 1000000) (maxDischargeDepth := 8) only [F_l10_ScopeTells, hc, hwk, acs_len, zz0, zz1, zz2, zz3, zz4, zz5, zz6, zz7, zz8, zz9, argsF, reduceIte, reduceCtorEq, Nat.reduceEqDiff, Nat.reduceBEq, Nat.reduceAdd, Int.reduceLT, Int.reduceLE, Int.reduceEq, Int.reduceToNat, Int.reduceNeg, Nat.reduceLeDiff, Int.reducePow, implies_true, UInt8.reduceToNat, Int.reduceSub, Int.reduceAdd, Nat.reduceLT, Nat.reduceMul, Nat.reduceSub, Nat.reduceBNe] at hX
    exact hX.symm
  · have hc : ¬ (60 : Int) < (l.length : Int) := by omega
    obtain ⟨m1, o, sb, mb, L, P, ov, kv, e1, t1, n1, k1⟩ := new_ok mem00
    obtain ⟨m2, e2, n2, k2⟩ := refNew_run (m := m1)
    simp +contextual -implicitDefEqProofs (maxSteps := 1000000) (maxDischargeDepth := 8) only [F_l10_ScopeTells, hc, hwk, acs_len, e1, e2, zz0, zz1, zz2, zz3, zz4, zz5, zz6, zz7, zz8, zz9, argsF, reduceIte, reduceCtorEq, Nat.reduceEqDiff, Nat.reduceBEq, Nat.reduceAdd, Int.reduceLT, Int.reduceLE, Int.reduceEq, Int.reduceToNat, Int.reduceNeg, Nat.reduceLeDiff, Int.reducePow, implies_true, UInt8.reduceToNat, Int.reduceSub, Int.reduceAdd, Nat.reduceLT, Nat.reduceMul, Nat.reduceSub, Nat.reduceBNe] at hX
    subst hL
    generalize hC : exec _ (.loop F_l10_ScopeTells_l0) _ _ = C at hX
    have s3 : m2.next < (ext m2 [Blk.cells [.nilslice, .nilslice, .int .i64 1] 3 43 false]).next := by rw [next_ext]; show m2.next < m2.next + 1; omega
    obtain ⟨t3, p3⟩ := t1.keep (m' := ext m2 [.cells [.nilslice, .nilslice, .int .i64 1] 3 43 false]) (by omega) (keeps_ext' k2 n2)
    have hx3 : Xr o (ext m2 [.cells [.nilslice, .nilslice, .int .i64 1] 3 43 false]) (nb m2.next 0) Mo.new .nilslice .nilslice :=
      ⟨by rw [get_ext_nb rfl (by simp)]; rfl, s3, t1.new _ n2, ⟨.inl ⟨rfl, rfl, rfl⟩, rfl⟩, ⟨.inl ⟨rfl, rfl, rfl⟩, rfl⟩, fun c hc => absurd Off.nil hc, fun c hc => absurd Off.nil hc⟩
    obtain ⟨oo, rfl, h⟩ := looped hC (tells_loop (l := l) (by omega) (nl := nl) (sb := sb) (mb := mb) (xb := nb m2.next 0) (by simp only [get_set', selE_t, selE_f, Nat.reduceBEq, set_defers, fr00_get, fr00_defers, put_some, put_none ]) (by simp only [get_set', selE_t, selE_f, Nat.reduceBEq, set_defers, fr00_get, fr00_defers, put_some, put_none ]) (by simp only [get_set', selE_t, selE_f, Nat.reduceBEq, set_defers, fr00_get, fr00_defers, put_some, put_none ]) (by simp only [get_set', selE_t, selE_f, Nat.reduceBEq, set_defers, fr00_get, fr00_defers, put_some, put_none ]) (by simp only [get_set', selE_t, selE_f, Nat.reduceBEq, set_defers, fr00_get, fr00_defers, put_some, put_none ]) ⟨o, Mo.new, ⟨L, P, ov, kv, _, _, t3, hx3⟩, .new, rfl, rfl, Int.le_refl _⟩)
    rcases h with ⟨fr', m', rfl, f2, fd⟩ | ⟨fr', m', rfl, fd⟩
    · simp +contextual -implicitDefEqProofs (maxSteps := 1000000) (maxDischargeDepth := 8) only [f2, fd, zz0, zz1, zz2, zz3, zz4, zz5, zz6, zz7, zz8, zz9, argsF, reduceIte, reduceCtorEq, Nat.reduceEqDiff, Nat.reduceBEq, Nat.reduceAdd, Int.reduceLT, Int.reduceLE, Int.reduceEq, Int.reduceToNat, Int.reduceNeg, Nat.reduceLeDiff, Int.reducePow, implies_true, UInt8.reduceToNat, Int.reduceSub, Int.reduceAdd, Nat.reduceLT, Nat.reduceMul, Nat.reduceSub, Nat.reduceBNe] at hX
      exact hX.symm
    · simp +contextual -implicitDefEqProofs (maxSteps := 1000000) (maxDischargeDepth := 8) only [fd, hwk, zz0, zz1, zz2, zz3, zz4, zz5, zz6, zz7, zz8, zz9, argsF, reduceIte, reduceCtorEq, Nat.reduceEqDiff, Nat.reduceBEq, Nat.reduceAdd, Int.reduceLT, Int.reduceLE, Int.reduceEq, Int.reduceToNat, Int.reduceNeg, Nat.reduceLeDiff, Int.reducePow, implies_true, UInt8.reduceToNat, Int.reduceSub, Int.reduceAdd, Nat.reduceLT, Nat.reduceMul, Nat.reduceSub, Nat.reduceBNe] at hX
      exact hX.symm
end Go.Proofs.Ytjegondbhejpcaa.Ev
end
section
namespace Go.Proofs.Ytjegondbhejpcaa.Ev
open Go
/-- What stands in memory stands below its end. -/
def Stands (m : Mem) : Prop := ∀ b cs e t ro, m.get b = .cells cs e t ro → b < m.next
theorem in_live {n0 : Nat} {bs : List InB} : Stands (inMem n0 bs) := by
  intro b cs e t ro h
  refine Classical.byContradiction fun q => ?_
  have : (inMem n0 bs).next = n0 + bs.length := rfl
  rw [inMem_dead (.inr (by omega))] at h
  cases h
end Go.Proofs.Ytjegondbhejpcaa.Ev
end
section
namespace Go.Proofs.Ytjegondbhejpcaa.Ev
open Go
theorem tells_run {m : Mem} {es : List EV} {ds : List Dt} (hm : Stands m) (h : RepVs m [.slice 46 3 (.struct [.int .i64, .str, .int .i64])] es ds) : ∃ m', run T n_l10_ScopeTells es m = some (.ret (.bool true) m') := by
  obtain ⟨us, hu, hl⟩ := law_pure entB (f := n_l10_ScopeTells) (F := F_l10_ScopeTells) (HasF.has (T := B)) hm h rfl
  obtain ⟨e1, d1, es', ds', rfl, _, h1, hu⟩ := hu.one
  obtain rfl := hu.none
  have h1 : Fz (.slice 46 3 (.struct [.int .i64, .str, .int .i64])) [e1] d1 := h1
  cases h1 with
  | nil => exact hl (tells_law (l := []) (nl := true))
  | slice _ hr =>
    obtain ⟨l, rfl, _⟩ := fz_acs _ _ _ hr
    exact hl (tells_law (l := l) (nl := false))
end Go.Proofs.Ytjegondbhejpcaa.Ev
end
