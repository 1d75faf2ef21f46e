/- WSc8, WSc9, WTl1, WTl2, WTl3, WTl4, WBk1, WBk2, WBk3, EvLive, LawBack. -/
import Derived.Test.YtjegondbhejpcaaMe
section
namespace Go.Proofs.Ytjegondbhejpcaa.Ev
open Go
set_option linter.unusedSimpArgs false
set_option linter.unusedVariables false
set_option maxRecDepth 10000
set_option maxHeartbeats 4000000
/-- A row of these, that stays. -/
abbrev SegV (m : Mem) (v : EV) (V : List Pv) (lo : Nat) : Prop := Own m v (vcs V).flatten V.length 4 lo
abbrev SegK (m : Mem) (v : EV) (K : List Int) (lo : Nat) : Prop := Own m v (kcs K).flatten K.length 1 lo
theorem Own.stay {m m' : Mem} {v : EV} {cs : List EV} {n esz lo : Nat} (h : Own m v cs n esz lo) (hn : m.next ≤ m'.next) (hk : ∀ c, c < m.next → ¬ Off v c → m'.get c = m.get c) : Own m' v cs n esz lo := by
  refine ⟨?_, h.len⟩
  rcases h.is with h | ⟨b, cap, t, rfl, h1, h2, h3, h4⟩
  · exact .inl h
  · exact .inr ⟨b, cap, t, rfl, h1, by omega, by rw [hk b h2 (fun ho => ho b 0 n cap rfl rfl)]; exact h3, h4⟩
theorem Own.below {m : Mem} {v : EV} {cs : List EV} {n esz lo c : Nat} (h : Own m v cs n esz lo) (hc : ¬ Off v c) : lo ≤ c ∧ c < m.next := by
  rcases h.is with ⟨rfl, _⟩ | ⟨b, cap, t, rfl, h1, h2, _⟩
  · exact absurd Off.nil hc
  · by_cases q : c = b
    · subst q; exact ⟨h1, h2⟩
    · exact absurd (Off.of q) hc
end Go.Proofs.Ytjegondbhejpcaa.Ev
end
section
namespace Go.Proofs.Ytjegondbhejpcaa.Ev
open Go
set_option linter.unusedSimpArgs false
set_option linter.unusedVariables false
set_option maxRecDepth 10000
set_option maxHeartbeats 4000000
theorem Own.raise {m : Mem} {v : EV} {cs : List EV} {n esz lo lo' : Nat} (h : Own m v cs n esz lo) (hl : lo' ≤ lo) : Own m v cs n esz lo' := by
  refine ⟨?_, h.len⟩
  rcases h.is with h | ⟨b, cap, t, e, q1, q⟩
  · exact .inl h
  · exact .inr ⟨b, cap, t, e, by omega, q⟩
end Go.Proofs.Ytjegondbhejpcaa.Ev
end
section
namespace Go.Proofs.Ytjegondbhejpcaa.Ev
open Go
set_option linter.unusedSimpArgs false
set_option linter.unusedVariables false
set_option maxRecDepth 10000
set_option maxHeartbeats 4000000
theorem kcs_get {l : List Int} {i : Nat} : (kcs l)[i]? = (l[i]?).map fun n => [.int .i64 n] := by unfold kcs; rw [List.getElem?_map]
theorem sameInts_loop {A : List Int} {t t' : Nat} {nl nl' : Bool} (hl : A.length < 1000000000) {m0 : Mem} {fr : Fr} (h0 : fr.get 0 = row nl t 1 (kcs A)) (h1 : fr.get 1 = row nl' t' 1 (kcs A)) (h5 : fr.get 5 = .int .i64 0) (hd : fr.defers = []) :
    ∃ o, exec U (.loop F_base_SameInts_l0) fr m0 = some o ∧ ∃ fr' m', o = .exit 0 fr' m' ∧ fr'.defers = [] := by
  refine loop_w (σ := Nat) (fun i fr m => i ≤ A.length ∧ fr.get 0 = row nl t 1 (kcs A) ∧ fr.get 1 = row nl' t' 1 (kcs A) ∧ fr.get 5 = .int .i64 (i : Int) ∧ fr.defers = []) (fun i => A.length - i) _ ?_ 0 fr m0 ⟨Nat.zero_le _, h0, h1, h5, hd⟩
  rintro i fr m ⟨hi, h0, h1, h5, hd⟩
  generalize hX : exec U F_base_SameInts_l0 fr m = X
  by_cases hlt : i < A.length
  · have hc : (i : Int) < (A.length : Int) := by omega
    have hg : A[i]? = some A[i] := List.getElem?_eq_getElem hlt
    have hw1 := wrap_succ (i := i) (by omega)
    simp +contextual -implicitDefEqProofs (maxSteps := 1000000) (maxDischargeDepth := 8) only [F_base_SameInts_l0, h0, h1, h5, hd, hc, hg, hlt, hw1, idx_cast, kcs_get, kcs_len, zz0, zz1, zz2, zz3, zz4, zz5, zz6, zz7, zz8, zz9, argsF, reduceIte, reduceCtorEq, Nat.reduceEqDiff, Nat.reduceBEq, Nat.reduceAdd, Int.reduceLT, Int.reduceLE, Int.reduceEq, Int.reduceToNat, Int.reduceNeg, Nat.reduceLeDiff, Int.reducePow, implies_true, UInt8.reduceToNat, Int.reduceSub, Int.reduceAdd, Nat.reduceLT, Nat.reduceMul, Nat.reduceSub, Nat.reduceBNe] at hX
    subst hX
    exact lw_norm (i + 1) (by omega) ⟨hlt, by simp only [h0, get_set', selE_t, selE_f, Nat.reduceBEq, set_defers, fr00_get, fr00_defers, put_some, put_none ], by simp only [h1, get_set', selE_t, selE_f, Nat.reduceBEq, set_defers, fr00_get, fr00_defers, put_some, put_none ], by simp only [get_set', selE_t, selE_f, Nat.reduceBEq, set_defers, fr00_get, fr00_defers, put_some, put_none ], by simp only [hd, get_set', selE_t, selE_f, Nat.reduceBEq, set_defers, fr00_get, fr00_defers, put_some, put_none ]⟩
  · have hc : ¬ ((i : Int) < (A.length : Int)) := by omega
    simp +contextual -implicitDefEqProofs (maxSteps := 1000000) (maxDischargeDepth := 8) only [F_base_SameInts_l0, h0, h1, h5, hd, hc, kcs_len, zz0, zz1, zz2, zz3, zz4, zz5, zz6, zz7, zz8, zz9, argsF, reduceIte, reduceCtorEq, Nat.reduceEqDiff, Nat.reduceBEq, Nat.reduceAdd, Int.reduceLT, Int.reduceLE, Int.reduceEq, Int.reduceToNat, Int.reduceNeg, Nat.reduceLeDiff, Int.reducePow, implies_true, UInt8.reduceToNat, Int.reduceSub, Int.reduceAdd, Nat.reduceLT, Nat.reduceMul, Nat.reduceSub, Nat.reduceBNe] at hX
    subst hX
    exact lw_exit ⟨_, _, rfl, by simp only [hd, get_set', selE_t, selE_f, Nat.reduceBEq, set_defers, fr00_get, fr00_defers, put_some, put_none ]⟩
theorem sameInts_eq {A : List Int} {t t' : Nat} {nl nl' : Bool} (hl : A.length < 1000000000) : pureR B Ev.K n_base_SameInts [row nl t 1 (kcs A), row nl' t' 1 (kcs A)] = some (.bool true) := by
  rw [pure_at (by simp [F_base_SameInts])]
  generalize hL : exec (UT B Ev.K) (ICode.loop F_base_SameInts_l0) = L
  simp +contextual -implicitDefEqProofs (maxSteps := 1000000) (maxDischargeDepth := 8) only [F_base_SameInts, kcs_len, zz0, zz1, zz2, zz3, zz4, zz5, zz6, zz7, zz8, zz9, argsF, reduceIte, reduceCtorEq, Nat.reduceEqDiff, Nat.reduceBEq, Nat.reduceAdd, Int.reduceLT, Int.reduceLE, Int.reduceEq, Int.reduceToNat, Int.reduceNeg, Nat.reduceLeDiff, Int.reducePow, implies_true, UInt8.reduceToNat, Int.reduceSub, Int.reduceAdd, Nat.reduceLT, Nat.reduceMul, Nat.reduceSub, Nat.reduceBNe]
  subst hL
  generalize hX : exec _ (.loop F_base_SameInts_l0) _ _ = X
  obtain ⟨o, rfl, fr', m', rfl, hd⟩ := looped hX (sameInts_loop (A := A) (nl := nl) (t := t) (nl' := nl') (t' := t') hl (by simp only [get_set', selE_t, selE_f, Nat.reduceBEq, set_defers, fr00_get, fr00_defers, put_some, put_none ]) (by simp only [get_set', selE_t, selE_f, Nat.reduceBEq, set_defers, fr00_get, fr00_defers, put_some, put_none ]) (by simp only [get_set', selE_t, selE_f, Nat.reduceBEq, set_defers, fr00_get, fr00_defers, put_some, put_none ]) (by simp only [get_set', selE_t, selE_f, Nat.reduceBEq, set_defers, fr00_get, fr00_defers, put_some, put_none ]))
  simp +contextual -implicitDefEqProofs (maxSteps := 1000000) (maxDischargeDepth := 8) only [hd, zz0, zz1, zz2, zz3, zz4, zz5, zz6, zz7, zz8, zz9, argsF, reduceIte, reduceCtorEq, Nat.reduceEqDiff, Nat.reduceBEq, Nat.reduceAdd, Int.reduceLT, Int.reduceLE, Int.reduceEq, Int.reduceToNat, Int.reduceNeg, Nat.reduceLeDiff, Int.reducePow, implies_true, UInt8.reduceToNat, Int.reduceSub, Int.reduceAdd, Nat.reduceLT, Nat.reduceMul, Nat.reduceSub, Nat.reduceBNe]
/-! ### The law's loop, part by part -/
def tl (n : Nat) : ICode := match F_l10_ScopeTells_l0 with
  | .seq a (.seq (.block 1 (.seq b (.seq c (.seq s t)))) i) => if n = 0 then a else if n = 1 then b else if n = 2 then c else if n = 3 then s else if n = 4 then t else i
  | _ => .skip
section
variable {o : Nat → Part} {m m' : Mem} {sb mb : Nat} {x : Mo} {L : List (Txt × EV)} {P : Txt → EV} {ov kv : EV}
theorem depth_all : ∀ M : Mem, M.get sb = .cells [.map mb, ov, kv, .int .i64 x.D] 4 t_scope_Scopes false → sb < M.next → run U 12 [.ptr sb 0] M = some (.ret (.int .i64 x.D) (bump M 0)) := fun M h1 h2 => by
  rw [look_scope_Scopes_Depth]; exact depth_at h1 h2
end
end Go.Proofs.Ytjegondbhejpcaa.Ev
end
section
namespace Go.Proofs.Ytjegondbhejpcaa.Ev
open Go
set_option linter.unusedSimpArgs false
set_option linter.unusedVariables false
set_option maxRecDepth 10000
set_option maxHeartbeats 4000000
open Classical in
/-- What an act does. -/
noncomputable def Mo.act (x : Mo) (d : Int) (s : Txt) (k : Int) : Mo := if d = 0 then x.open_ else if d = 1 then (if 1 < x.D then x.close else x) else if d = 2 then (if x.bad s k then x else x.add s k) else x
theorem Mo.Ok.act {x : Mo} (h : x.Ok) (d : Int) (s : Txt) (k : Int) : (x.act d s k).Ok := by
  unfold Mo.act
  split
  · exact h.open_
  split
  · split
    · exact h.close (by assumption)
    · exact h
  split
  · split
    · exact h
    · exact h.add s k
  · exact h
/-- The document's scopes, in a cell. -/
structure Xr (o : Nat → Part) (m : Mem) (xb : Nat) (x : Mo) (v w : EV) : Prop where
  get : m.get xb = .cells [v, w, .int .i64 x.D] 3 43 false
  lt : xb < m.next
  ob : o xb = .other
  sv : SegV m v x.V 0
  sk : SegK m w x.K 0
  ov : ∀ c, ¬ Off v c → o c = .other ∧ c ≠ xb
  ok : ∀ c, ¬ Off w c → o c = .other ∧ c ≠ xb
def St (o : Nat → Part) (m : Mem) (sb mb xb : Nat) (x : Mo) : Prop := ∃ L P ov kv v w, Sc o m sb mb x L P ov kv ∧ Xr o m xb x v w
section
variable {o o' : Nat → Part} {m m' : Mem} {sb mb xb : Nat} {x : Mo} {L : List (Txt × EV)} {P : Txt → EV} {ov kv v w : EV}
theorem Sc3.other {D : Int} {N : List Txt} {F : Txt → List Pv} {K : List Int} (h : Sc3 o m sb mb D N F K L P ov kv) (hn : m.next ≤ m'.next) (hk : ∀ c, c < m.next → o c ≠ .other → m'.get c = m.get c) : Sc3 o m' sb mb D N F K L P ov kv := by
  have key : ∀ (p : Part), p ≠ .other → ∀ c, c < m.next → o c = p → m'.get c = m.get c := fun p hp c hc e => hk c hc (e ▸ hp)
  exact ⟨(key .box (by decide) sb h.sb.1 h.sb.2).trans h.get, (key .map (by decide) mb h.mb.1 h.mb.2).trans h.gm, ⟨by have := h.sb.1; omega, h.sb.2⟩, ⟨by have := h.mb.1; omega, h.mb.2⟩, h.ord.keep hn (key _ (by decide)) fun _ _ => rfl, h.knd.keep hn (key _ (by decide)) fun _ _ => rfl, h.nd, h.ent, fun s hs => (h.row s hs).keep hn (key _ (by simp)) fun _ _ => rfl, fun c hc => h.new c (Nat.le_trans hn hc)⟩
/-- How one act leaves all. -/
def Done (o : Nat → Part) (m : Mem) (sb mb xb : Nat) (y : Mo) (fr : Fr) (X : Option Out) : Prop := ∃ fr' m' o', X = some (.norm fr' m') ∧ St o' m' sb mb xb y ∧ m.next ≤ m'.next ∧ (∀ c, c < m.next → o' c = o c) ∧ (∀ c, c < m.next → o c = .other → c ≠ xb → m'.get c = m.get c) ∧
  fr'.get 0 = fr.get 0 ∧ fr'.get 3 = fr.get 3 ∧ fr'.get 4 = fr.get 4 ∧ fr'.get 5 = fr.get 5 ∧ fr'.get 6 = fr.get 6 ∧ fr'.defers = []
end
end Go.Proofs.Ytjegondbhejpcaa.Ev
end
section
namespace Go.Proofs.Ytjegondbhejpcaa.Ev
open Go
set_option linter.unusedSimpArgs false
set_option linter.unusedVariables false
set_option maxRecDepth 10000
set_option maxHeartbeats 4000000
section
variable {o o' : Nat → Part} {m m' : Mem} {sb mb xb : Nat} {x : Mo} {L : List (Txt × EV)} {P : Txt → EV} {ov kv v w : EV}
open Classical in
end
end Go.Proofs.Ytjegondbhejpcaa.Ev
end
section
namespace Go.Proofs.Ytjegondbhejpcaa.Ev
open Go
set_option linter.unusedSimpArgs false
set_option linter.unusedVariables false
set_option maxRecDepth 10000
set_option maxHeartbeats 4000000
/-- Acts that came in. -/
structure Ac where
  d : Int
  s : Txt
  k : Int
def acs (l : List Ac) : List (List EV) := l.map fun a => [.int .i64 a.d, .str a.s, .int .i64 a.k]
theorem acs_len {l : List Ac} : (acs l).length = l.length := List.length_map ..
theorem acs_get {l : List Ac} {i : Nat} : (acs l)[i]? = (l[i]?).map fun a => [.int .i64 a.d, .str a.s, .int .i64 a.k] := by unfold acs; rw [List.getElem?_map]
theorem fz_acs : ∀ (n : Nat) (els : List (List EV)) (ds : List Dt), Fzs (List.replicate n (.struct [.int .i64, .str, .int .i64])) els ds → ∃ l : List Ac, els = acs l ∧ ∀ a ∈ l, a.s.length ≤ maxLen
  | 0, els, ds, h => by cases h; exact ⟨[], rfl, fun a ha => by cases ha⟩
  | n + 1, els, ds, h => by
    rw [List.replicate_succ] at h
    cases h with
    | cons h hs =>
    obtain ⟨l, e, hl⟩ := fz_acs n _ _ hs
    cases h with
    | struct h =>
    cases h with
    | cons a1 h =>
    cases h with
    | cons a2 h =>
    cases h with
    | cons a3 h =>
    cases h
    cases a1 with
    | @int _ d _ =>
    cases a2 with
    | @str s hsl =>
    cases a3 with
    | @int _ k _ =>
    refine ⟨⟨d, s, k⟩ :: l, by rw [e]; rfl, fun a ha => ?_⟩
    rcases List.mem_cons.1 ha with rfl | ha
    · exact hsl
    · exact hl a ha
end Go.Proofs.Ytjegondbhejpcaa.Ev
end
section
namespace Go.Proofs.Ytjegondbhejpcaa.Ev
open Go
set_option linter.unusedSimpArgs false
set_option linter.unusedVariables false
set_option maxRecDepth 10000
set_option maxHeartbeats 4000000
open Classical in
/-- What an act does, but for what would end a block further out. -/
noncomputable def Mo.actL (least : Int) (x : Mo) (a : Ac) : Mo := if a.d = 0 then x.open_ else if a.d = 1 then (if least < x.D then x.close else x) else if a.d = 2 then (if x.bad a.s a.k then x else x.add a.s a.k) else x
noncomputable def Mo.pl (x : Mo) (l : List Ac) (least : Int) : Mo := l.foldl (Mo.actL least) x
theorem Mo.Ok.actL {x : Mo} {least : Int} (h : x.Ok) (hl : 1 ≤ least) (a : Ac) : (x.actL least a).Ok := by
  unfold Mo.actL
  split
  · exact h.open_
  split
  · split
    · exact h.close (by omega)
    · exact h
  split
  · split
    · exact h
    · exact h.add _ _
  · exact h
theorem Mo.actL_le {x : Mo} {least : Int} {a : Ac} : (x.actL least a).V.length ≤ x.V.length + 1 ∧ (x.actL least a).K.length ≤ x.K.length + 1 ∧ (x.actL least a).D ≤ x.D + 1 := by
  unfold Mo.actL
  split
  · exact ⟨by simp [Mo.open_], by simp [Mo.open_], by simp [Mo.open_]⟩
  split
  · split
    · refine ⟨?_, by simp [Mo.close], by simp [Mo.close]; omega⟩
      have : (x.V.filter fun v => decide (v.block < x.D)).length ≤ x.V.length := List.length_filter_le ..
      simp only [Mo.close]; omega
    · omega
  split
  · split
    · omega
    · exact ⟨by simp [Mo.add], by simp [Mo.add], by simp [Mo.add]; omega⟩
  · omega
theorem pl_snoc {x : Mo} {l : List Ac} {a : Ac} {least : Int} : x.pl (l ++ [a]) least = (x.pl l least).actL least a := by unfold Mo.pl; rw [List.foldl_append]; rfl
theorem take_snoc {l : List Ac} {i : Nat} {a : Ac} (h : l[i]? = some a) : l.take (i + 1) = l.take i ++ [a] := by rw [List.take_add_one, h]; rfl
/-- Scopes, and how far they came. -/
def ScAt (o : Nat → Part) (m : Mem) (sb mb : Nat) (x : Mo) : Prop := ∃ L P ov kv, Sc o m sb mb x L P ov kv
theorem play_loop {l : List Ac} (hl : l.length ≤ 30) {nl : Bool} {t sb mb : Nat} {least : Int} (h1l : 1 ≤ least) {o0 : Nat → Part} {m0 : Mem} {x0 : Mo} (h0 : ScAt o0 m0 sb mb x0) (hx0 : x0.Ok) (hV0 : x0.V.length ≤ 100) (hK0 : x0.K.length ≤ 100) (hD0 : x0.D ≤ 100)
    {fr : Fr} (f0 : fr.get 0 = .ptr sb 0) (f1 : fr.get 1 = row nl t 3 (acs l)) (f2 : fr.get 2 = .int .i64 least) (f7 : fr.get 7 = .int .i64 0) (fd : fr.defers = []) :
    ∃ oo, exec U (.loop F_l10_play_l0) fr m0 = some oo ∧ ∃ fr' m' o', oo = .exit 0 fr' m' ∧ ScAt o' m' sb mb (x0.pl l least) ∧ (x0.pl l least).Ok ∧ (x0.pl l least).V.length ≤ x0.V.length + 30 ∧ (x0.pl l least).K.length ≤ x0.K.length + 30 ∧ (x0.pl l least).D ≤ x0.D + 30 ∧ Stp o0 m0 o' m' ∧ fr'.get 0 = .ptr sb 0 ∧ fr'.defers = [] := by
  refine loop_w (σ := Nat) (fun i f m => i ≤ l.length ∧ f.get 0 = .ptr sb 0 ∧ f.get 1 = row nl t 3 (acs l) ∧ f.get 2 = .int .i64 least ∧ f.get 7 = .int .i64 (i : Int) ∧ f.defers = [] ∧ ∃ o, ScAt o m sb mb (x0.pl (l.take i) least) ∧ (x0.pl (l.take i) least).Ok ∧ (x0.pl (l.take i) least).V.length ≤ x0.V.length + i ∧ (x0.pl (l.take i) least).K.length ≤ x0.K.length + i ∧ (x0.pl (l.take i) least).D ≤ x0.D + i ∧ Stp o0 m0 o m) (fun i => l.length - i) _ ?_ 0 fr m0
    ⟨Nat.zero_le _, f0, f1, f2, f7, fd, o0, h0, hx0, Nat.le_refl _, Nat.le_refl _, by show x0.D ≤ x0.D + ((0 : Nat) : Int); omega, .refl⟩
  rintro i f m ⟨hi, f0, f1, f2, f7, fd, o, ⟨L, P, ov, kv, hSc⟩, hx, hV, hK, hD, hst⟩
  generalize hX : exec U F_l10_play_l0 f m = X
  by_cases hlt : i < l.length
  · have hic : (i : Int) < (l.length : Int) := by omega
    have hti : l[i]? = some l[i] := List.getElem?_eq_getElem hlt
    have hw := wrap_succ (i := i) (by omega)
    have hts := take_snoc hti
    generalize l[i] = a at *
    generalize hxx : x0.pl (l.take i) least = x at *
    have hps : x0.pl (l.take (i + 1)) least = x.actL least a := by rw [hts, pl_snoc, hxx]
    have hle := Mo.actL_le (x := x) (least := least) (a := a)
    have hok := hx.actL h1l a
    have fin : ∀ (m1 : Mem) (o1 : Nat → Part) (f1' : Fr), ScAt o1 m1 sb mb (x.actL least a) → Stp o m o1 m1 → f1'.get 0 = .ptr sb 0 → f1'.get 1 = row nl t 3 (acs l) → f1'.get 2 = .int .i64 least → f1'.get 7 = .int .i64 ((i + 1 : Nat) : Int) → f1'.defers = [] →
        LoopW (fun i f m => i ≤ l.length ∧ f.get 0 = .ptr sb 0 ∧ f.get 1 = row nl t 3 (acs l) ∧ f.get 2 = .int .i64 least ∧ f.get 7 = .int .i64 (i : Int) ∧ f.defers = [] ∧ ∃ o, ScAt o m sb mb (x0.pl (l.take i) least) ∧ (x0.pl (l.take i) least).Ok ∧ (x0.pl (l.take i) least).V.length ≤ x0.V.length + i ∧ (x0.pl (l.take i) least).K.length ≤ x0.K.length + i ∧ (x0.pl (l.take i) least).D ≤ x0.D + i ∧ Stp o0 m0 o m) (fun s' => l.length - s' < l.length - i) (fun oo => ∃ fr' m' o', oo = .exit 0 fr' m' ∧ ScAt o' m' sb mb (x0.pl l least) ∧ (x0.pl l least).Ok ∧ (x0.pl l least).V.length ≤ x0.V.length + 30 ∧ (x0.pl l least).K.length ≤ x0.K.length + 30 ∧ (x0.pl l least).D ≤ x0.D + 30 ∧ Stp o0 m0 o' m' ∧ fr'.get 0 = .ptr sb 0 ∧ fr'.defers = []) (some (.norm f1' m1)) := fun m1 o1 f1' ha hs g0 g1 g2 g7 gd =>
      lw_norm (i + 1) (by omega) ⟨hlt, g0, g1, g2, g7, gd, o1, by rw [hps]; exact ha, by rw [hps]; exact hok, by rw [hps]; omega, by rw [hps]; omega, by rw [hps]; omega, hst.trans hs⟩
    by_cases d0 : a.d = 0
    · obtain ⟨m1, e1, t1, p1⟩ := open_ok hSc ⟨hx.d, by omega⟩
      simp +contextual -implicitDefEqProofs (maxSteps := 1000000) (maxDischargeDepth := 8) only [F_l10_play_l0, f0, f1, f2, f7, fd, hic, hti, hlt, hw, d0, e1, acs_len, acs_get, idx_cast, zz0, zz1, zz2, zz3, zz4, zz5, zz6, zz7, zz8, zz9, argsF, reduceIte, reduceCtorEq, Nat.reduceEqDiff, Nat.reduceBEq, Nat.reduceAdd, Int.reduceLT, Int.reduceLE, Int.reduceEq, Int.reduceToNat, Int.reduceNeg, Nat.reduceLeDiff, Int.reducePow, implies_true, UInt8.reduceToNat, Int.reduceSub, Int.reduceAdd, Nat.reduceLT, Nat.reduceMul, Nat.reduceSub, Nat.reduceBNe] at hX
      subst hX
      exact fin _ o _ ⟨L, P, ov, kv, by unfold Mo.actL; rw [if_pos d0]; exact t1⟩ p1 (by simp only [f0, get_set', selE_t, selE_f, Nat.reduceBEq, set_defers, fr00_get, fr00_defers, put_some, put_none ]) (by simp only [f1, get_set', selE_t, selE_f, Nat.reduceBEq, set_defers, fr00_get, fr00_defers, put_some, put_none ]) (by simp only [f2, get_set', selE_t, selE_f, Nat.reduceBEq, set_defers, fr00_get, fr00_defers, put_some, put_none ]) (by simp only [get_set', selE_t, selE_f, Nat.reduceBEq, set_defers, fr00_get, fr00_defers, put_some, put_none ]) (by simp only [fd, get_set', selE_t, selE_f, Nat.reduceBEq, set_defers, fr00_get, fr00_defers, put_some, put_none ])
    by_cases d1 : a.d = 1
    · have n10 : ¬ ((1 : Int) = 0) := by decide
      have hdp := depth_all (sb := sb) (mb := mb) (x := x) (ov := ov) (kv := kv)
      have hg := hSc.get
      have hb := hSc.sb.1
      by_cases hc : least < x.D
      · obtain ⟨m1, L', P', ov', kv', e1, t1, p1⟩ := close_yes (hSc.keep (m' := bump m 0) le_nb (fun _ _ => rfl)).1 hx (by omega) (by omega) (by omega)
        simp +contextual -implicitDefEqProofs (maxSteps := 1000000) (maxDischargeDepth := 8) only [F_l10_play_l0, f0, f1, f2, f7, fd, hic, hti, hlt, hw, d1, n10, hdp, hg, hb, hc, e1, acs_len, acs_get, idx_cast, zz0, zz1, zz2, zz3, zz4, zz5, zz6, zz7, zz8, zz9, argsF, reduceIte, reduceCtorEq, Nat.reduceEqDiff, Nat.reduceBEq, Nat.reduceAdd, Int.reduceLT, Int.reduceLE, Int.reduceEq, Int.reduceToNat, Int.reduceNeg, Nat.reduceLeDiff, Int.reducePow, implies_true, UInt8.reduceToNat, Int.reduceSub, Int.reduceAdd, Nat.reduceLT, Nat.reduceMul, Nat.reduceSub, Nat.reduceBNe] at hX
        subst hX
        exact fin _ o _ ⟨L', P', ov', kv', by unfold Mo.actL; rw [if_neg d0, if_pos d1, if_pos hc]; exact t1⟩ ((hSc.keep (m' := bump m 0) le_nb (fun _ _ => rfl)).2.trans p1) (by simp only [f0, get_set', selE_t, selE_f, Nat.reduceBEq, set_defers, fr00_get, fr00_defers, put_some, put_none ]) (by simp only [f1, get_set', selE_t, selE_f, Nat.reduceBEq, set_defers, fr00_get, fr00_defers, put_some, put_none ]) (by simp only [f2, get_set', selE_t, selE_f, Nat.reduceBEq, set_defers, fr00_get, fr00_defers, put_some, put_none ]) (by simp only [get_set', selE_t, selE_f, Nat.reduceBEq, set_defers, fr00_get, fr00_defers, put_some, put_none ]) (by simp only [fd, get_set', selE_t, selE_f, Nat.reduceBEq, set_defers, fr00_get, fr00_defers, put_some, put_none ])
      · simp +contextual -implicitDefEqProofs (maxSteps := 1000000) (maxDischargeDepth := 8) only [F_l10_play_l0, f0, f1, f2, f7, fd, hic, hti, hlt, hw, d1, n10, hdp, hg, hb, hc, acs_len, acs_get, idx_cast, zz0, zz1, zz2, zz3, zz4, zz5, zz6, zz7, zz8, zz9, argsF, reduceIte, reduceCtorEq, Nat.reduceEqDiff, Nat.reduceBEq, Nat.reduceAdd, Int.reduceLT, Int.reduceLE, Int.reduceEq, Int.reduceToNat, Int.reduceNeg, Nat.reduceLeDiff, Int.reducePow, implies_true, UInt8.reduceToNat, Int.reduceSub, Int.reduceAdd, Nat.reduceLT, Nat.reduceMul, Nat.reduceSub, Nat.reduceBNe] at hX
        subst hX
        obtain ⟨t1, p1⟩ := hSc.keep (m' := bump m 0) le_nb (fun _ _ => rfl)
        exact fin _ o _ ⟨L, P, ov, kv, by unfold Mo.actL; rw [if_neg d0, if_pos d1, if_neg hc]; exact t1⟩ p1 (by simp only [f0, get_set', selE_t, selE_f, Nat.reduceBEq, set_defers, fr00_get, fr00_defers, put_some, put_none ]) (by simp only [f1, get_set', selE_t, selE_f, Nat.reduceBEq, set_defers, fr00_get, fr00_defers, put_some, put_none ]) (by simp only [f2, get_set', selE_t, selE_f, Nat.reduceBEq, set_defers, fr00_get, fr00_defers, put_some, put_none ]) (by simp only [get_set', selE_t, selE_f, Nat.reduceBEq, set_defers, fr00_get, fr00_defers, put_some, put_none ]) (by simp only [fd, get_set', selE_t, selE_f, Nat.reduceBEq, set_defers, fr00_get, fr00_defers, put_some, put_none ])
    by_cases d2 : a.d = 2
    · have n20 : ¬ ((2 : Int) = 0) := by decide
      have n21 : ¬ ((2 : Int) = 1) := by decide
      obtain ⟨t0, p0⟩ := hSc.keep (m' := bump m 12) le_nb (fun _ _ => rfl)
      by_cases hbad : x.bad a.s a.k
      · obtain ⟨m1, e1, t1, p1⟩ := declare_no t0 hx.d (by omega) hbad
        simp +contextual -implicitDefEqProofs (maxSteps := 1000000) (maxDischargeDepth := 8) only [F_l10_play_l0, f0, f1, f2, f7, fd, hic, hti, hlt, hw, d2, n20, n21, e1, acs_len, acs_get, idx_cast, zz0, zz1, zz2, zz3, zz4, zz5, zz6, zz7, zz8, zz9, argsF, reduceIte, reduceCtorEq, Nat.reduceEqDiff, Nat.reduceBEq, Nat.reduceAdd, Int.reduceLT, Int.reduceLE, Int.reduceEq, Int.reduceToNat, Int.reduceNeg, Nat.reduceLeDiff, Int.reducePow, implies_true, UInt8.reduceToNat, Int.reduceSub, Int.reduceAdd, Nat.reduceLT, Nat.reduceMul, Nat.reduceSub, Nat.reduceBNe] at hX
        subst hX
        exact fin _ o _ ⟨L, P, ov, kv, by unfold Mo.actL; rw [if_neg d0, if_neg d1, if_pos d2, if_pos hbad]; exact t1⟩ (p0.trans p1) (by simp only [f0, get_set', selE_t, selE_f, Nat.reduceBEq, set_defers, fr00_get, fr00_defers, put_some, put_none ]) (by simp only [f1, get_set', selE_t, selE_f, Nat.reduceBEq, set_defers, fr00_get, fr00_defers, put_some, put_none ]) (by simp only [f2, get_set', selE_t, selE_f, Nat.reduceBEq, set_defers, fr00_get, fr00_defers, put_some, put_none ]) (by simp only [get_set', selE_t, selE_f, Nat.reduceBEq, set_defers, fr00_get, fr00_defers, put_some, put_none ]) (by simp only [fd, get_set', selE_t, selE_f, Nat.reduceBEq, set_defers, fr00_get, fr00_defers, put_some, put_none ])
      · obtain ⟨m1, o1, L', P', ov', kv', e1, t1, p1⟩ := declare_yes t0 hx.d (by omega) (by omega) hbad
        simp +contextual -implicitDefEqProofs (maxSteps := 1000000) (maxDischargeDepth := 8) only [F_l10_play_l0, f0, f1, f2, f7, fd, hic, hti, hlt, hw, d2, n20, n21, e1, acs_len, acs_get, idx_cast, zz0, zz1, zz2, zz3, zz4, zz5, zz6, zz7, zz8, zz9, argsF, reduceIte, reduceCtorEq, Nat.reduceEqDiff, Nat.reduceBEq, Nat.reduceAdd, Int.reduceLT, Int.reduceLE, Int.reduceEq, Int.reduceToNat, Int.reduceNeg, Nat.reduceLeDiff, Int.reducePow, implies_true, UInt8.reduceToNat, Int.reduceSub, Int.reduceAdd, Nat.reduceLT, Nat.reduceMul, Nat.reduceSub, Nat.reduceBNe] at hX
        subst hX
        exact fin _ o1 _ ⟨L', P', ov', kv', by unfold Mo.actL; rw [if_neg d0, if_neg d1, if_pos d2, if_neg hbad]; exact t1⟩ (p0.trans p1) (by simp only [f0, get_set', selE_t, selE_f, Nat.reduceBEq, set_defers, fr00_get, fr00_defers, put_some, put_none ]) (by simp only [f1, get_set', selE_t, selE_f, Nat.reduceBEq, set_defers, fr00_get, fr00_defers, put_some, put_none ]) (by simp only [f2, get_set', selE_t, selE_f, Nat.reduceBEq, set_defers, fr00_get, fr00_defers, put_some, put_none ]) (by simp only [get_set', selE_t, selE_f, Nat.reduceBEq, set_defers, fr00_get, fr00_defers, put_some, put_none ]) (by simp only [fd, get_set', selE_t, selE_f, Nat.reduceBEq, set_defers, fr00_get, fr00_defers, put_some, put_none ])
    · simp +contextual -implicitDefEqProofs (maxSteps := 1000000) (maxDischargeDepth := 8) only [F_l10_play_l0, f0, f1, f2, f7, fd, hic, hti, hlt, hw, d0, d1, d2, acs_len, acs_get, idx_cast, zz0, zz1, zz2, zz3, zz4, zz5, zz6, zz7, zz8, zz9, argsF, reduceIte, reduceCtorEq, Nat.reduceEqDiff, Nat.reduceBEq, Nat.reduceAdd, Int.reduceLT, Int.reduceLE, Int.reduceEq, Int.reduceToNat, Int.reduceNeg, Nat.reduceLeDiff, Int.reducePow, implies_true, UInt8.reduceToNat, Int.reduceSub, Int.reduceAdd, Nat.reduceLT, Nat.reduceMul, Nat.reduceSub, Nat.reduceBNe] at hX
      subst hX
      exact fin _ o _ ⟨L, P, ov, kv, by unfold Mo.actL; rw [if_neg d0, if_neg d1, if_neg d2]; exact hSc⟩ .refl (by simp only [f0, get_set', selE_t, selE_f, Nat.reduceBEq, set_defers, fr00_get, fr00_defers, put_some, put_none ]) (by simp only [f1, get_set', selE_t, selE_f, Nat.reduceBEq, set_defers, fr00_get, fr00_defers, put_some, put_none ]) (by simp only [f2, get_set', selE_t, selE_f, Nat.reduceBEq, set_defers, fr00_get, fr00_defers, put_some, put_none ]) (by simp only [get_set', selE_t, selE_f, Nat.reduceBEq, set_defers, fr00_get, fr00_defers, put_some, put_none ]) (by simp only [fd, get_set', selE_t, selE_f, Nat.reduceBEq, set_defers, fr00_get, fr00_defers, put_some, put_none ])
  · have hic : ¬ (i : Int) < (l.length : Int) := by omega
    obtain rfl : i = l.length := by omega
    simp +contextual -implicitDefEqProofs (maxSteps := 1000000) (maxDischargeDepth := 8) only [F_l10_play_l0, f1, f7, fd, hic, acs_len, zz0, zz1, zz2, zz3, zz4, zz5, zz6, zz7, zz8, zz9, argsF, reduceIte, reduceCtorEq, Nat.reduceEqDiff, Nat.reduceBEq, Nat.reduceAdd, Int.reduceLT, Int.reduceLE, Int.reduceEq, Int.reduceToNat, Int.reduceNeg, Nat.reduceLeDiff, Int.reducePow, implies_true, UInt8.reduceToNat, Int.reduceSub, Int.reduceAdd, Nat.reduceLT, Nat.reduceMul, Nat.reduceSub, Nat.reduceBNe] at hX
    subst hX
    rw [List.take_length] at *
    exact lw_exit ⟨_, _, o, rfl, ⟨L, P, ov, kv, hSc⟩, hx, by omega, by omega, by omega, hst, by simp only [f0, get_set', selE_t, selE_f, Nat.reduceBEq, set_defers, fr00_get, fr00_defers, put_some, put_none ], by simp only [fd, get_set', selE_t, selE_f, Nat.reduceBEq, set_defers, fr00_get, fr00_defers, put_some, put_none ]⟩
theorem play_run {l : List Ac} (hl : l.length ≤ 30) {nl : Bool} {t sb mb : Nat} {least : Int} (h1l : 1 ≤ least) {o0 : Nat → Part} {m0 : Mem} {x0 : Mo} (h0 : ScAt o0 m0 sb mb x0) (hx0 : x0.Ok) (hV0 : x0.V.length ≤ 100) (hK0 : x0.K.length ≤ 100) (hD0 : x0.D ≤ 100) :
    ∃ m' o', run U 8 [.ptr sb 0, row nl t 3 (acs l), .int .i64 least] m0 = some (.ret (.int .i64 (x0.pl l least).D) m') ∧ ScAt o' m' sb mb (x0.pl l least) ∧ (x0.pl l least).Ok ∧ (x0.pl l least).V.length ≤ x0.V.length + 30 ∧ (x0.pl l least).K.length ≤ x0.K.length + 30 ∧ (x0.pl l least).D ≤ x0.D + 30 ∧ Stp o0 m0 o' m' := by
  generalize hX : run U 8 [.ptr sb 0, row nl t 3 (acs l), .int .i64 least] m0 = X
  rw [run_p2 (by simp [F_l10_play])] at hX
  generalize hL : exec (UT B Ev.K) (ICode.loop F_l10_play_l0) = L0 at hX
  simp +contextual -implicitDefEqProofs (maxSteps := 1000000) (maxDischargeDepth := 8) only [F_l10_play, zz0, zz1, zz2, zz3, zz4, zz5, zz6, zz7, zz8, zz9, argsF, reduceIte, reduceCtorEq, Nat.reduceEqDiff, Nat.reduceBEq, Nat.reduceAdd, Int.reduceLT, Int.reduceLE, Int.reduceEq, Int.reduceToNat, Int.reduceNeg, Nat.reduceLeDiff, Int.reducePow, implies_true, UInt8.reduceToNat, Int.reduceSub, Int.reduceAdd, Nat.reduceLT, Nat.reduceMul, Nat.reduceSub, Nat.reduceBNe] at hX
  subst hL
  generalize hC : exec _ (.loop F_l10_play_l0) _ _ = C at hX
  obtain ⟨oo, rfl, fr', m', o', rfl, ⟨L, P, ov, kv, ht⟩, a1, a2, a3, a4, a5, f0, fd⟩ := looped hC (play_loop hl h1l h0 hx0 hV0 hK0 hD0 (nl := nl) (t := t) (by simp only [get_set', selE_t, selE_f, Nat.reduceBEq, set_defers, fr00_get, fr00_defers, put_some, put_none ]) (by simp only [get_set', selE_t, selE_f, Nat.reduceBEq, set_defers, fr00_get, fr00_defers, put_some, put_none ]) (by simp only [get_set', selE_t, selE_f, Nat.reduceBEq, set_defers, fr00_get, fr00_defers, put_some, put_none ]) (by simp only [get_set', selE_t, selE_f, Nat.reduceBEq, set_defers, fr00_get, fr00_defers, put_some, put_none ]) (by simp only [get_set', selE_t, selE_f, Nat.reduceBEq, set_defers, fr00_get, fr00_defers, put_some, put_none ]))
  have hdp := depth_ok ht
  simp +contextual -implicitDefEqProofs (maxSteps := 1000000) (maxDischargeDepth := 8) only [f0, fd, hdp, zz0, zz1, zz2, zz3, zz4, zz5, zz6, zz7, zz8, zz9, argsF, reduceIte, reduceCtorEq, Nat.reduceEqDiff, Nat.reduceBEq, Nat.reduceAdd, Int.reduceLT, Int.reduceLE, Int.reduceEq, Int.reduceToNat, Int.reduceNeg, Nat.reduceLeDiff, Int.reducePow, implies_true, UInt8.reduceToNat, Int.reduceSub, Int.reduceAdd, Nat.reduceLT, Nat.reduceMul, Nat.reduceSub, Nat.reduceBNe] at hX
  obtain ⟨t1, p1⟩ := ht.keep (m' := bump m' 0) le_nb (fun _ _ => rfl)
  exact ⟨_, o', hX.symm, ⟨L, P, ov, kv, t1⟩, a1, a2, a3, a4, a5.trans p1⟩
end Go.Proofs.Ytjegondbhejpcaa.Ev
end
section
namespace Go.Proofs.Ytjegondbhejpcaa.Ev
open Go
set_option linter.unusedSimpArgs false
set_option linter.unusedVariables false
set_option maxRecDepth 10000
set_option maxHeartbeats 4000000
/-- What was seen is seen still, beneath what is declared further in. -/
structure Abv (x1 : Mo) (D0 : Int) (x : Mo) : Prop where
  d : D0 ≤ x.D
  v : x.V.filter (fun u => decide (u.block < D0)) = x1.V
  k : ∃ r, x.K = x1.K ++ r
theorem Abv.start {x : Mo} (h : x.Ok) : Abv x (x.D + 1) x.open_ :=
  ⟨Int.le_refl _, List.filter_eq_self.2 fun u hu => by have := h.most u hu; simp; omega, [], (List.append_nil _).symm⟩
theorem Abv.close {x1 : Mo} {D0 : Int} {x : Mo} (h : Abv x1 D0 x) (hc : D0 < x.D) : Abv x1 D0 x.close := by
  refine ⟨by simp only [Mo.close]; omega, ?_, h.k⟩
  rw [← h.v]
  simp only [Mo.close]
  rw [List.filter_filter]
  congr 1
  funext u
  by_cases q : u.block < D0
  · have : u.block < x.D := by omega
    simp [q, this]
  · simp [q]
theorem Abv.actL {x1 : Mo} {D0 : Int} {x : Mo} (h : Abv x1 D0 x) (a : Ac) : Abv x1 D0 (x.actL D0 a) := by
  unfold Mo.actL
  split
  · exact ⟨by have := h.d; simp only [Mo.open_]; omega, h.v, h.k⟩
  split
  · split
    · rename_i q; exact h.close q
    · exact h
  split
  · split
    · exact h
    · refine ⟨h.d, ?_, ?_⟩
      · simp only [Mo.add]
        rw [List.filter_append, h.v]
        have : ¬ x.D < D0 := by have := h.d; omega
        simp [this]
      · obtain ⟨r, hr⟩ := h.k
        exact ⟨r ++ [a.k], by simp only [Mo.add]; rw [hr, List.append_assoc]⟩
  · exact h
theorem Abv.pl {x1 : Mo} {D0 : Int} : ∀ {l : List Ac} {x : Mo}, Abv x1 D0 x → Abv x1 D0 (x.pl l D0)
  | [], _, h => h
  | a :: l, x, h => Abv.pl (l := l) (h.actL a)
/-- What a name means, told by what is seen alone. -/
theorem find_any (V : List Pv) (s : Txt) (hV : V.length < 1000000) : ∃ (fa fb : Int) (fi : Bool), ∀ (o : Nat → Part) (m : Mem) (sb mb : Nat) (x : Mo) (L : List (Txt × EV)) (P : Txt → EV) (ov kv : EV), Sc o m sb mb x L P ov kv → x.V = V → 1 ≤ x.D → ∃ k, run U 9 [.ptr sb 0, .str s] m = some (.ret (.tuple [.int .i64 fa, .int .i64 fb, .bool fi]) (bump m k)) := by
  rcases find_last (s := s) V with ⟨h1, _⟩ | ⟨l, v, j, h1, _, _⟩
  · exact ⟨0, 0, false, fun o m sb mb x L P ov kv h hx hd => find_no h hd (by rw [hx]; exact h1)⟩
  · have : (ofN s V).length ≤ V.length := List.length_filter_le ..
    rw [h1, List.length_append, List.length_singleton] at this
    exact ⟨v.slot, v.kind, true, fun o m sb mb x L P ov kv h hx hd => find_yes h hd (by rw [hx]; exact h1) (by omega)⟩
theorem back_loop {x1 : Mo} {D0 : Int} (h1d : 2 ≤ D0) {sb mb : Nat} {o0 : Nat → Part} {m0 : Mem} {x0 : Mo} (h0 : ScAt o0 m0 sb mb x0) (hx0 : x0.Ok) (ha0 : Abv x1 D0 x0) (hV0 : x0.V.length ≤ 200) (hK0 : x0.K.length ≤ 200) (hD0 : x0.D ≤ 200)
    {fr : Fr} (f7 : fr.get 7 = .ptr sb 0) (f8 : fr.get 8 = .int .i64 (D0 - 1)) (fd : fr.defers = []) :
    ∃ oo, exec U (.loop F_l10_ScopeBack_l0) fr m0 = some oo ∧ ∃ fr' m' o' x, oo = .exit 0 fr' m' ∧ ScAt o' m' sb mb x ∧ x.Ok ∧ Abv x1 D0 x ∧ x.D = D0 ∧ x.V.length ≤ 200 ∧ x.K.length ≤ 200 ∧ Stp o0 m0 o' m' ∧ (∀ k, k < 15 → fr'.get k = fr.get k) ∧ fr'.defers = [] := by
  refine loop_w (σ := Mo) (fun x f m => x.Ok ∧ Abv x1 D0 x ∧ x.V.length ≤ 200 ∧ x.K.length ≤ 200 ∧ x.D ≤ 200 ∧ (∀ k, k < 15 → f.get k = fr.get k) ∧ f.defers = [] ∧ ∃ o, ScAt o m sb mb x ∧ Stp o0 m0 o m) (fun x => (x.D - D0).toNat) _ ?_ x0 fr m0
    ⟨hx0, ha0, hV0, hK0, hD0, fun _ _ => rfl, fd, o0, h0, .refl⟩
  rintro x f m ⟨hx, ha, hV, hK, hD, hf, fd, o, ⟨L, P, ov, kv, hSc⟩, hst⟩
  have f7 := (hf 7 (by decide)).trans f7
  have f8 := (hf 8 (by decide)).trans f8
  have hdp := depth_ok hSc
  have hw : IntKind.i64.wrap (D0 - 1 + 1) = D0 := by have := ha.d; rw [wrap_i64 (by omega) (by omega)]; omega
  generalize hX : exec U F_l10_ScopeBack_l0 f m = X
  obtain ⟨t0, p0⟩ := hSc.keep (m' := bump m 0) le_nb (fun _ _ => rfl)
  by_cases hc : D0 < x.D
  · obtain ⟨m1, L', P', ov', kv', e1, t1, p1⟩ := close_yes t0 hx (by omega) (by omega) (by omega)
    simp +contextual -implicitDefEqProofs (maxSteps := 1000000) (maxDischargeDepth := 8) only [F_l10_ScopeBack_l0, f7, f8, fd, hdp, hw, hc, e1, zz0, zz1, zz2, zz3, zz4, zz5, zz6, zz7, zz8, zz9, argsF, reduceIte, reduceCtorEq, Nat.reduceEqDiff, Nat.reduceBEq, Nat.reduceAdd, Int.reduceLT, Int.reduceLE, Int.reduceEq, Int.reduceToNat, Int.reduceNeg, Nat.reduceLeDiff, Int.reducePow, implies_true, UInt8.reduceToNat, Int.reduceSub, Int.reduceAdd, Nat.reduceLT, Nat.reduceMul, Nat.reduceSub, Nat.reduceBNe] at hX
    subst hX
    have hcl : x.close.V.length ≤ x.V.length := List.length_filter_le ..
    refine lw_norm x.close (by simp only [Mo.close]; omega) ⟨hx.close (by omega), ha.close hc, by omega, by simp only [Mo.close]; omega, by simp only [Mo.close]; omega, fun k hk => ?_, by simp only [fd, get_set', selE_t, selE_f, Nat.reduceBEq, set_defers, fr00_get, fr00_defers, put_some, put_none ], o, ⟨L', P', ov', kv', t1⟩, hst.trans (p0.trans p1)⟩
    have := hf k hk
    obtain rfl | rfl | rfl | rfl | rfl | rfl | rfl | rfl | rfl | rfl | rfl | rfl | rfl | rfl | rfl : k = 0 ∨ k = 1 ∨ k = 2 ∨ k = 3 ∨ k = 4 ∨ k = 5 ∨ k = 6 ∨ k = 7 ∨ k = 8 ∨ k = 9 ∨ k = 10 ∨ k = 11 ∨ k = 12 ∨ k = 13 ∨ k = 14 := by omega
    all_goals simp only [this, get_set', selE_t, selE_f, Nat.reduceBEq, set_defers, fr00_get, fr00_defers, put_some, put_none ]
  · simp +contextual -implicitDefEqProofs (maxSteps := 1000000) (maxDischargeDepth := 8) only [F_l10_ScopeBack_l0, f7, f8, fd, hdp, hw, hc, zz0, zz1, zz2, zz3, zz4, zz5, zz6, zz7, zz8, zz9, argsF, reduceIte, reduceCtorEq, Nat.reduceEqDiff, Nat.reduceBEq, Nat.reduceAdd, Int.reduceLT, Int.reduceLE, Int.reduceEq, Int.reduceToNat, Int.reduceNeg, Nat.reduceLeDiff, Int.reducePow, implies_true, UInt8.reduceToNat, Int.reduceSub, Int.reduceAdd, Nat.reduceLT, Nat.reduceMul, Nat.reduceSub, Nat.reduceBNe] at hX
    subst hX
    refine lw_exit ⟨_, _, o, x, rfl, ⟨L, P, ov, kv, t0⟩, hx, ha, by have := ha.d; omega, hV, hK, hst.trans p0, fun k hk => ?_, by simp only [fd, get_set', selE_t, selE_f, Nat.reduceBEq, set_defers, fr00_get, fr00_defers, put_some, put_none ]⟩
    have := hf k hk
    obtain rfl | rfl | rfl | rfl | rfl | rfl | rfl | rfl | rfl | rfl | rfl | rfl | rfl | rfl | rfl : k = 0 ∨ k = 1 ∨ k = 2 ∨ k = 3 ∨ k = 4 ∨ k = 5 ∨ k = 6 ∨ k = 7 ∨ k = 8 ∨ k = 9 ∨ k = 10 ∨ k = 11 ∨ k = 12 ∨ k = 13 ∨ k = 14 := by omega
    all_goals simp only [this, get_set', selE_t, selE_f, Nat.reduceBEq, set_defers, fr00_get, fr00_defers, put_some, put_none ]
/-- The first ones of a row. -/
theorem frz_cut {m : Mem} {b t k : Nat} {K' : List Int} {cap : Option Nat} (hb : m.get b = .cells (ints K') 1 t false) (hk : k ≤ K'.length) (hc : capOk cap k = true) : frzV m (.slice b 0 k cap) = some (.fz 0 1 (kcs (K'.take k))) := by
  have hl : (K'.take k).length = k := by rw [List.length_take]; omega
  have e : ((ints K').drop 0).take (k * 1) = (kcs (K'.take k)).flatten := by
    rw [kcs_flat, List.drop_zero, Nat.mul_one]; unfold ints; rw [List.map_take]
  simp only [frzV, frz, hb, hc, cond_true, Nat.ble_eq_true_of_le (show 0 + k * 1 ≤ (ints K').length by rw [ints_length]; omega)]
  rw [e]
  show (frzs (freezes 6 m) m (kcs (K'.take k)).flatten).map _ = _
  rw [frzs_plain (plains_flatten (kcs_plain _)), Option.map_some]
  congr 2
  have := chunk_flatten (kcs_els (K'.take k))
  rw [kcs_len, hl] at this
  exact this
end Go.Proofs.Ytjegondbhejpcaa.Ev
end
section
namespace Go.Proofs.Ytjegondbhejpcaa.Ev
open Go
set_option linter.unusedSimpArgs false
set_option linter.unusedVariables false
set_option maxRecDepth 10000
set_option maxHeartbeats 4000000
theorem cut_ok {m : Mem} {v : EV} {K' : List Int} {lo k : Nat} (own : Own m v (ints K') K'.length 1 lo) (hk : k ≤ K'.length) : ∃ vc nl, slslF 1 v none (some (.int .i64 (k : Int))) none m = some (.val vc m) ∧ frzV m vc = some (row nl 0 1 (kcs (K'.take k))) := by
  rcases own.is with ⟨rfl, h0, _⟩ | ⟨b, cap, t, rfl, _, _, hg, hcap⟩
  · have hk0 : k = 0 := by omega
    subst hk0
    exact ⟨.nilslice, true, rfl, rfl⟩
  · rcases hcap with rfl | rfl
    · refine ⟨.slice b 0 k none, false, ?_, frz_cut hg hk rfl⟩
      rw [slslF_none, hg]
      show ofEV m (evSlice 1 b 0 K'.length none none (some (.int .i64 (k : Int))) none) = _
      rw [cutE hk]; rfl
    · refine ⟨.slice b 0 k (some K'.length), false, ?_, frz_cut hg hk (by simp [capOk]; omega)⟩
      rw [slslF_some]
      have : evSlice 1 b 0 K'.length (some K'.length) none (some (.int .i64 (k : Int))) none = some (.slice b 0 k (some K'.length)) := by
        unfold evSlice
        simp only [bound_none, bound_cast hk]
        by_cases q : K'.length = 0
        · have : k = 0 := by omega
          subst this
          simp [q]
        · simp
      rw [this]; rfl
theorem own_lenK {m : Mem} {v : EV} {K' : List Int} {lo : Nat} (own : Own m v (ints K') K'.length 1 lo) : ∀ M : Mem, lenE v M = some (.val (.int .i64 (K'.length : Int)) M) := fun M => by
  rcases own.is with ⟨rfl, q, _⟩ | ⟨b', cap, t, rfl, _⟩
  · rw [q]; rfl
  · rfl
theorem back_law {l1 l2 : List Ac} {n1 n2 : Bool} {s : Txt} : pureR B Ev.K n_l10_ScopeBack [row n1 1 3 (acs l1), row n2 2 3 (acs l2), .str s] = some (.bool true) := by
  have hwk : ∀ M, run U 6 [] M = some (.ret (.bool true) M) := fun M => run_works6
  rw [pure_at (by simp [F_l10_ScopeBack])]
  generalize hX : frR _ = X
  generalize hL : exec (UT B Ev.K) (ICode.loop F_l10_ScopeBack_l0) = L0 at hX
  by_cases h30 : 30 < l1.length
  · have hc : (30 : Int) < (l1.length : Int) := by omega
    simp +contextual -implicitDefEqProofs (maxSteps := 1000000) (maxDischargeDepth := 8) only [F_l10_ScopeBack, hc, hwk, acs_len, zz0, zz1, zz2, zz3, zz4, zz5, zz6, zz7, zz8, zz9, argsF, reduceIte, reduceCtorEq, Nat.reduceEqDiff, Nat.reduceBEq, Nat.reduceAdd, Int.reduceLT, Int.reduceLE, Int.reduceEq, Int.reduceToNat, Int.reduceNeg, Nat.reduceLeDiff, Int.reducePow, implies_true, UInt8.reduceToNat, Int.reduceSub, Int.reduceAdd, Nat.reduceLT, Nat.reduceMul, Nat.reduceSub, Nat.reduceBNe] at hX
    exact hX.symm
  have hc1 : ¬ (30 : Int) < (l1.length : Int) := by omega
  by_cases h31 : 30 < l2.length
  · have hc : (30 : Int) < (l2.length : Int) := by omega
    simp +contextual -implicitDefEqProofs (maxSteps := 1000000) (maxDischargeDepth := 8) only [F_l10_ScopeBack, hc1, hc, hwk, acs_len, zz0, zz1, zz2, zz3, zz4, zz5, zz6, zz7, zz8, zz9, argsF, reduceIte, reduceCtorEq, Nat.reduceEqDiff, Nat.reduceBEq, Nat.reduceAdd, Int.reduceLT, Int.reduceLE, Int.reduceEq, Int.reduceToNat, Int.reduceNeg, Nat.reduceLeDiff, Int.reducePow, implies_true, UInt8.reduceToNat, Int.reduceSub, Int.reduceAdd, Nat.reduceLT, Nat.reduceMul, Nat.reduceSub, Nat.reduceBNe] at hX
    exact hX.symm
  have hc2 : ¬ (30 : Int) < (l2.length : Int) := by omega
  by_cases h40 : 40 < s.length
  · have hc : (40 : Int) < (s.length : Int) := by omega
    simp +contextual -implicitDefEqProofs (maxSteps := 1000000) (maxDischargeDepth := 8) only [F_l10_ScopeBack, hc1, hc2, hc, hwk, acs_len, zz0, zz1, zz2, zz3, zz4, zz5, zz6, zz7, zz8, zz9, argsF, reduceIte, reduceCtorEq, Nat.reduceEqDiff, Nat.reduceBEq, Nat.reduceAdd, Int.reduceLT, Int.reduceLE, Int.reduceEq, Int.reduceToNat, Int.reduceNeg, Nat.reduceLeDiff, Int.reducePow, implies_true, UInt8.reduceToNat, Int.reduceSub, Int.reduceAdd, Nat.reduceLT, Nat.reduceMul, Nat.reduceSub, Nat.reduceBNe] at hX
    exact hX.symm
  have hc3 : ¬ (40 : Int) < (s.length : Int) := by omega
  obtain ⟨m1, o1, sb, mb, L1, P1, ov1, kv1, e1, t1, _, _⟩ := new_ok mem00
  obtain ⟨m2, o2, e2, ⟨L2, P2, ov2, kv2, t2⟩, ok2, hV2, hK2, hD2, p2⟩ := play_run (l := l1) (by omega) (nl := n1) (t := 1) (least := 1) (Int.le_refl _) ⟨L1, P1, ov1, kv1, t1⟩ .new (by decide) (by decide) (by decide)
  have z1 : Mo.new.V.length = 0 := rfl
  have z2 : Mo.new.K.length = 0 := rfl
  have z3 : Mo.new.D = 1 := rfl
  generalize hx1 : Mo.new.pl l1 1 = x1 at *
  rw [z1] at hV2
  rw [z2] at hK2
  rw [z3] at hD2
  have hd1 := ok2.d
  obtain ⟨fa, fb, fi, hfind⟩ := find_any x1.V s (by omega)
  obtain ⟨k3, e3⟩ := hfind _ _ _ _ _ _ _ _ _ t2 rfl ok2.d
  obtain ⟨t3, p3⟩ := t2.keep (m' := bump m2 k3) le_nb (fun _ _ => rfl)
  obtain ⟨v1, m4, e4, own1, n4, k4⟩ := kinds_ok t3 ok2.d (by omega)
  obtain ⟨t4, p4⟩ := t3.keep n4 k4
  obtain ⟨m5, e5, t5, p5⟩ := open_ok t4 ⟨ok2.d, by omega⟩
  have e6 := depth_ok t5
  obtain ⟨t6, p6⟩ := t5.keep (m' := bump m5 0) le_nb (fun _ _ => rfl)
  have od : x1.open_.D = x1.D + 1 := rfl
  obtain ⟨m7, o7, e7, At7, ok7, hV7, hK7, hD7, p7⟩ := play_run (l := l2) (by omega) (nl := n2) (t := 2) (least := x1.D + 1) (by omega) ⟨_, _, _, _, t6⟩ ok2.open_ (by simp only [Mo.open_]; omega) (by simp only [Mo.open_]; omega) (by simp only [Mo.open_]; omega)
  have ha7 : Abv x1 (x1.D + 1) (x1.open_.pl l2 (x1.D + 1)) := (Abv.start ok2).pl
  have w1 : x1.open_.V.length = x1.V.length := rfl
  have w2 : x1.open_.K.length = x1.K.length := rfl
  rw [w1] at hV7
  rw [w2] at hK7
  rw [od] at hD7 e6
  generalize hx3 : x1.open_.pl l2 (x1.D + 1) = x3 at *
  simp +contextual -implicitDefEqProofs (maxSteps := 1000000) (maxDischargeDepth := 8) only [F_l10_ScopeBack, hc1, hc2, hc3, hwk, acs_len, e1, e2, e3, e4, e5, e6, e7, zz0, zz1, zz2, zz3, zz4, zz5, zz6, zz7, zz8, zz9, argsF, reduceIte, reduceCtorEq, Nat.reduceEqDiff, Nat.reduceBEq, Nat.reduceAdd, Int.reduceLT, Int.reduceLE, Int.reduceEq, Int.reduceToNat, Int.reduceNeg, Nat.reduceLeDiff, Int.reducePow, implies_true, UInt8.reduceToNat, Int.reduceSub, Int.reduceAdd, Nat.reduceLT, Nat.reduceMul, Nat.reduceSub, Nat.reduceBNe] at hX
  subst hL
  generalize hC : exec _ (.loop F_l10_ScopeBack_l0) _ _ = C at hX
  generalize hF : Fr.set _ 13 _ = fr1 at hC
  have hD1 : x1.D + 1 - 1 = x1.D := by omega
  obtain ⟨oo, rfl, fr', m8, o8, x4, rfl, ⟨L8, P8, ov8, kv8, t8⟩, ok8, ha8, hd8, hV8, hK8, p8, fk, fd⟩ := looped hC (back_loop (D0 := x1.D + 1) (x1 := x1) (by omega) At7 ok7 ha7 (by omega) (by omega) (by omega) (fr := fr1) (by subst hF; simp only [get_set', selE_t, selE_f, Nat.reduceBEq, set_defers, fr00_get, fr00_defers, put_some, put_none ]) (by rw [hD1]; subst hF; simp only [get_set', selE_t, selE_f, Nat.reduceBEq, set_defers, fr00_get, fr00_defers, put_some, put_none ]) (by subst hF; simp only [get_set', selE_t, selE_f, Nat.reduceBEq, set_defers, fr00_get, fr00_defers, put_some, put_none ]))
  obtain ⟨m9, L9, P9, ov9, kv9, e9, t9, p9⟩ := close_yes t8 ok8 (by omega) (by omega) (by omega)
  have hV9 : x4.close.V = x1.V := by have := ha8.v; simp only [Mo.close]; rw [hd8]; exact this
  have hD9 : x4.close.D = x1.D := by simp only [Mo.close]; omega
  obtain ⟨r, hr⟩ := ha8.k
  have hK9 : x4.close.K = x1.K ++ r := hr
  have e10 := depth_ok t9
  rw [hD9] at e10
  obtain ⟨t10, p10⟩ := t9.keep (m' := bump m9 0) le_nb (fun _ _ => rfl)
  obtain ⟨k11, e11⟩ := hfind _ _ _ _ _ _ _ _ _ t10 hV9 (by rw [hD9]; exact hd1)
  obtain ⟨t11, p11⟩ := t10.keep (m' := bump (bump m9 0) k11) le_nb (fun _ _ => rfl)
  obtain ⟨v2, m12, e12, own2, n12, k12⟩ := kinds_ok t11 (by rw [hD9]; exact hd1) (by simp only [Mo.close]; omega)
  obtain ⟨t12, p12⟩ := t11.keep n12 k12
  have hle : x1.K.length ≤ x4.close.K.length := by rw [hK9, List.length_append]; omega
  have hlei : (x1.K.length : Int) ≤ (x4.close.K.length : Int) := by omega
  have hlt : ¬ x3.D < x1.D + 1 := by have := ha7.d; omega
  have own1' : Own m12 v1 (ints x1.K) x1.K.length 1 0 := by
    have st := p5.trans (p6.trans (p7.trans (p8.trans (p9.trans (p10.trans (p11.trans p12))))))
    exact (own1.stay st.n fun c hc ho => st.k c hc (t3.new c (own1.below ho).1)).raise (Nat.zero_le _)
  rw [← kcs_flat] at own1'
  obtain ⟨nl1, hz1⟩ := own1'.frz kcs_len (kcs_els _) (kcs_plain _)
  obtain ⟨vc, nl2, hsl, hz2⟩ := cut_ok own2 hle
  have htk : x4.close.K.take x1.K.length = x1.K := by rw [hK9, List.take_left]
  rw [htk] at hz2
  have hl1 := own_lenK own1
  have hl2 := own_lenK own2
  have hsi := sameInts_eq (A := x1.K) (t := 1) (t' := 2) (nl := nl2) (nl' := nl1) (by omega)
  have f2 := fk 2 (by decide)
  have f7 := fk 7 (by decide)
  have f8 := fk 8 (by decide)
  have f9 := fk 9 (by decide)
  have f10 := fk 10 (by decide)
  have f11 := fk 11 (by decide)
  have f12 := fk 12 (by decide)
  have f13 := fk 13 (by decide)
  subst hF
  simp only [get_set', selE_t, selE_f, Nat.reduceBEq, set_defers, fr00_get, fr00_defers, put_some, put_none ] at f2 f7 f8 f9 f10 f11 f12 f13
  have hw : IntKind.i64.wrap (x1.D + 1) = x1.D + 1 := wrap_i64 (by omega) (by omega)
  cases fi
  · simp +contextual -implicitDefEqProofs (maxSteps := 1000000) (maxDischargeDepth := 8) only [f2, f7, f8, f9, f10, f11, f12, f13, fd, hw, hlt, e9, e10, e11, e12, hl1, hl2, hlei, hsl, hz1, hz2, hsi, hwk, zz0, zz1, zz2, zz3, zz4, zz5, zz6, zz7, zz8, zz9, argsF, reduceIte, reduceCtorEq, Nat.reduceEqDiff, Nat.reduceBEq, Nat.reduceAdd, Int.reduceLT, Int.reduceLE, Int.reduceEq, Int.reduceToNat, Int.reduceNeg, Nat.reduceLeDiff, Int.reducePow, implies_true, UInt8.reduceToNat, Int.reduceSub, Int.reduceAdd, Nat.reduceLT, Nat.reduceMul, Nat.reduceSub, Nat.reduceBNe] at hX
    exact hX.symm
  · simp +contextual -implicitDefEqProofs (maxSteps := 1000000) (maxDischargeDepth := 8) only [f2, f7, f8, f9, f10, f11, f12, f13, fd, hw, hlt, e9, e10, e11, e12, hl1, hl2, hlei, hsl, hz1, hz2, hsi, hwk, zz0, zz1, zz2, zz3, zz4, zz5, zz6, zz7, zz8, zz9, argsF, reduceIte, reduceCtorEq, Nat.reduceEqDiff, Nat.reduceBEq, Nat.reduceAdd, Int.reduceLT, Int.reduceLE, Int.reduceEq, Int.reduceToNat, Int.reduceNeg, Nat.reduceLeDiff, Int.reducePow, implies_true, UInt8.reduceToNat, Int.reduceSub, Int.reduceAdd, Nat.reduceLT, Nat.reduceMul, Nat.reduceSub, Nat.reduceBNe] at hX
    exact hX.symm
end Go.Proofs.Ytjegondbhejpcaa.Ev
end
section
namespace Go.Proofs.Ytjegondbhejpcaa.Ev
open Go
/-- What stands in memory stands below its end. -/
def Stands (m : Mem) : Prop := ∀ b cs e t ro, m.get b = .cells cs e t ro → b < m.next
theorem in_live {n0 : Nat} {bs : List InB} : Stands (inMem n0 bs) := by
  intro b cs e t ro h
  refine Classical.byContradiction fun q => ?_
  have : (inMem n0 bs).next = n0 + bs.length := rfl
  rw [inMem_dead (.inr (by omega))] at h
  cases h
end Go.Proofs.Ytjegondbhejpcaa.Ev
end
section
namespace Go.Proofs.Ytjegondbhejpcaa.Ev
open Go
theorem in_acs {e : EV} {d : Dt} (h : FzV (.slice 46 3 (.struct [.int .i64, .str, .int .i64])) e d) : e = .nilslice ∨ ∃ l : List Ac, e = .fz 0 3 (acs l) := by
  have h : Fz (.slice 46 3 (.struct [.int .i64, .str, .int .i64])) [e] d := h
  cases h with
  | nil => exact .inl rfl
  | slice _ hr =>
    obtain ⟨l, rfl, _⟩ := fz_acs _ _ _ hr
    exact .inr ⟨l, rfl⟩
theorem back_run {m : Mem} {es : List EV} {ds : List Dt} (hm : Stands m) (h : RepVs m [.slice 46 3 (.struct [.int .i64, .str, .int .i64]), .slice 46 3 (.struct [.int .i64, .str, .int .i64]), .str] es ds) : ∃ m', run T n_l10_ScopeBack es m = some (.ret (.bool true) m') := by
  obtain ⟨us, hu, hl⟩ := law_pure entB (f := n_l10_ScopeBack) (F := F_l10_ScopeBack) (HasF.has (T := B)) hm h rfl
  obtain ⟨e1, d1, es', ds', rfl, _, h1, hu⟩ := hu.one
  obtain ⟨e2, d2, es', ds', rfl, _, h2, hu⟩ := hu.one
  obtain ⟨e3, d3, es', ds', rfl, _, h3, hu⟩ := hu.one
  obtain rfl := hu.none
  obtain ⟨s, rfl, _⟩ := fz_str h3
  rcases in_acs h1 with rfl | ⟨l1, rfl⟩ <;> rcases in_acs h2 with rfl | ⟨l2, rfl⟩
  · exact hl (back_law (l1 := []) (n1 := true) (l2 := []) (n2 := true))
  · exact hl (back_law (l1 := []) (n1 := true) (l2 := l2) (n2 := false))
  · exact hl (back_law (l1 := l1) (n1 := false) (l2 := []) (n2 := true))
  · exact hl (back_law (l1 := l1) (n1 := false) (l2 := l2) (n2 := false))
end Go.Proofs.Ytjegondbhejpcaa.Ev
end
